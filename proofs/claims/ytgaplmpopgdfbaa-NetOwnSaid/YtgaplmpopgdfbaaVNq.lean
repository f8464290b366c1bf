/- Of layer 15: parts behind an abstract front; the answers of Clauses in one form. -/
import Derived.Test.YtgaplmpopgdfbaaHF
import Derived.Test.YtgaplmpopgdfbaaA6
import Derived.Test.YtgaplmpopgdfbaaVNp
namespace Go.Proofs.Ytgaplmpopgdfbaa.Hm.V
open Go
set_option linter.all false
set_option maxRecDepth 100000
attribute [local irreducible] X S R D W Call Upd Rds Rck Sees Res Cel CallP fnQ
theorem At.pre {o : Pt} {S g : List Pt} {f : Pt → List Pt} (h : At S o f g) : ∀ A : List Pt, At (A ++ S) o (fun y => A ++ f y) (A ++ g)
  | [] => h
  | _ :: A => .there (At.pre h A)
section
variable {A S : List Pt} {f : Pt → List Pt} {g : List Pt} {b e c : Nat} {v : Value} {cs : List Value} {xs : List (List Value)}
instance (priority := low) AtB.app [k : AtB S b cs f g] : AtB (A ++ S) b cs (fun y => A ++ f y) (A ++ g) := ⟨At.pre k.out A⟩
instance (priority := low) AtA.app [k : AtA S v e c xs f g] : AtA (A ++ S) v e c xs (fun y => A ++ f y) (A ++ g) := ⟨At.pre k.out A⟩
instance (priority := low) AtG.app [k : AtG S v e xs f g] : AtG (A ++ S) v e xs (fun y => A ++ f y) (A ++ g) := ⟨At.pre k.out A⟩
end
theorem Has.front : ∀ R S : List Pt, Has (R ++ S) R
  | [], _ => Has.nil
  | .box _ _ :: R, S => .box .here rfl (Has.front R S)
  | .arr _ _ _ _ :: R, S => .arr .here rfl (Has.front R S)
  | .gro _ _ _ :: R, S => .gro .here rfl (Has.front R S)
  | .map _ _ :: R, S => .map .here rfl (Has.front R S)
theorem clQ_one {Z : Vw} {n : Nt} {want : Int} {r : Value} (h : clQ Z n want r) : ∃ V vo e, r = .tuple ⟨[.agg ⟨[.int .i64 V, vo]⟩, .int .i64 e]⟩ ∧ clErr n want e ∧ (e = 0 → isNet n ∧ CfV Z (.agg ⟨[.int .i64 V, vo]⟩) ⟨tN n, clausesL n want⟩) := by
  rcases h with ⟨h1, rfl⟩ | ⟨h1, h2, rfl⟩ | ⟨h1, h2, h3, rfl⟩ | ⟨h1, h2, h3, v, rfl, hc⟩
  · exact ⟨0, _, 150, rfl, .inl ⟨h1, rfl⟩, fun h => absurd h (by decide)⟩
  · exact ⟨0, _, 1, rfl, .inr (.inl ⟨h1, h2, rfl⟩), fun h => absurd h (by decide)⟩
  · exact ⟨0, _, 2, rfl, .inr (.inr (.inl ⟨h1, h2, h3, rfl⟩)), fun h => absurd h (by decide)⟩
  · have hc0 := hc
    obtain ⟨vo, ws, rfl, _⟩ := hc
    exact ⟨_, vo, 0, rfl, .inr (.inr (.inr ⟨h1, h2, h3, rfl⟩)), fun _ => ⟨h1, hc0⟩⟩
theorem clErr_one {n : Nt} {want e f : Int} (h : clErr n want e) (k : clErr n want f) : e = f := by
  unfold clErr at h k
  by_cases h1 : isNet n
  · simp only [h1, not_true_eq_false, false_and, true_and, false_or] at h k
    omega
  · simp only [h1, not_false_eq_true, true_and, false_and, or_false] at h k
    omega
end Go.Proofs.Ytgaplmpopgdfbaa.Hm.V
