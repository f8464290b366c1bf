import Derived.Test.YtbjgnogcjglcoaaHF
import Derived.Test.YtbjgnogcjglcoaaA6
import Derived.Test.YtbjgnogcjglcoaaVG2
namespace Go.Proofs.Ytbjgnogcjglcoaa.Hm.V
open Go
set_option linter.all false
set_option maxRecDepth 100000
attribute [local irreducible] X S R D W Call Upd Rds Rck Sees Res Cel CallP fnQ
theorem fold_bit {c : Int} {m t : Nat} : ∀ (g : List Ed) (s : Nat), (g.foldl (fun s x => if x.l = c ∧ m.testBit x.f.toNat = true then s ||| 1 <<< x.t.toNat else s) s).testBit t = true ↔ s.testBit t = true ∨ ∃ x ∈ g, x.l = c ∧ m.testBit x.f.toNat = true ∧ x.t.toNat = t
  | [], s => by simp
  | y :: g, s => by
    rw [List.foldl_cons, fold_bit g]
    by_cases h : y.l = c ∧ m.testBit y.f.toNat = true
    · rw [if_pos h, Nat.testBit_or, Bool.or_eq_true, Nat.one_shiftLeft, Nat.testBit_two_pow, decide_eq_true_eq]
      constructor
      · rintro ((h1 | h1) | ⟨x, hx, h1⟩)
        · exact .inl h1
        · exact .inr ⟨y, by simp, h.1, h.2, h1⟩
        · exact .inr ⟨x, by simp [hx], h1⟩
      · rintro (h1 | ⟨x, hx, h1⟩)
        · exact .inl (.inl h1)
        · rcases List.mem_cons.1 hx with rfl | hx
          · exact .inl (.inr h1.2.2)
          · exact .inr ⟨x, hx, h1⟩
    · rw [if_neg h]
      constructor
      · rintro (h1 | ⟨x, hx, h1⟩)
        · exact .inl h1
        · exact .inr ⟨x, by simp [hx], h1⟩
      · rintro (h1 | ⟨x, hx, h1⟩)
        · exact .inl h1
        · rcases List.mem_cons.1 hx with rfl | hx
          · exact absurd ⟨h1.1, h1.2.1⟩ h
          · exact .inr ⟨x, hx, h1⟩
theorem stepTo_bit {g : List Ed} {m t : Nat} {c : Int} : (stepTo g m c).testBit t = true ↔ ∃ x ∈ g, x.l = c ∧ m.testBit x.f.toNat = true ∧ x.t.toNat = t := by
  unfold stepTo
  rw [fold_bit]
  simp
theorem setFold_bit {t : Nat} : ∀ (l : List Int) (s : Nat), (l.foldl (fun m n => m ||| 1 <<< n.toNat) s).testBit t = true ↔ s.testBit t = true ∨ ∃ x ∈ l, x.toNat = t
  | [], s => by simp
  | y :: l, s => by
    rw [List.foldl_cons, setFold_bit l, Nat.testBit_or, Bool.or_eq_true, Nat.one_shiftLeft, Nat.testBit_two_pow, decide_eq_true_eq]
    constructor
    · rintro ((h | h) | ⟨x, hx, h⟩)
      · exact .inl h
      · exact .inr ⟨y, by simp, h⟩
      · exact .inr ⟨x, by simp [hx], h⟩
    · rintro (h | ⟨x, hx, h⟩)
      · exact .inl (.inl h)
      · rcases List.mem_cons.1 hx with rfl | hx
        · exact .inl (.inr h)
        · exact .inr ⟨x, hx, h⟩
theorem setOf_bit {l : List Int} {t : Nat} : (setOf l).testBit t = true ↔ ∃ x ∈ l, x.toNat = t := by
  unfold setOf
  rw [setFold_bit]
  simp
theorem bit_ext {m n : Nat} (h : ∀ t, m.testBit t = true ↔ n.testBit t = true) : m = n := by
  apply Nat.eq_of_testBit_eq
  intro i
  have := h i
  cases hm : m.testBit i <;> cases hn : n.testBit i <;> simp_all
theorem getD_mem {α : Type} [Inhabited α] {l : List α} {k : Nat} (h : k < l.length) : l.getD k default ∈ l := by rw [getD_eq h]; exact List.getElem_mem _
theorem AuRZ.le {Z Z' : Vw} {r : AuR} (h : AuRZ Z r) (hz : Z.le Z') : AuRZ Z' r := ⟨h.s.le hz, h.e.le hz, h.g.le hz, h.q1, h.q2, h.q3, h.ok⟩
end Go.Proofs.Ytbjgnogcjglcoaa.Hm.V
