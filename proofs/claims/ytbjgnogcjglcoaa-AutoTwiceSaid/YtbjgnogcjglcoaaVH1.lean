import Derived.Test.YtbjgnogcjglcoaaHF
import Derived.Test.YtbjgnogcjglcoaaA6
import Derived.Test.YtbjgnogcjglcoaaVN2
namespace Go.Proofs.Ytbjgnogcjglcoaa.Hm.V
open Go
set_option linter.all false
set_option maxRecDepth 100000
attribute [local irreducible] X S R D W Call Upd Rds Rck Sees Res Cel CallP fnQ
inductive InC (a : Au) (c : Int) : Nat → Prop
  | en {x : Int} : x ∈ a.en → InC a c x.toNat
  | ed {x : Ed} : x ∈ a.ed → x.l = c → InC a c x.t.toNat → InC a c x.f.toNat
def flipE (x : Ed) : Ed := ⟨x.t, x.l, x.f⟩
theorem rising_len {l : List Int} {n : Int} (h : risingP l n) (h0 : 0 ≤ n) : (l.length : Int) ≤ n := by
  have key : ∀ i, i < l.length → (i : Int) ≤ l.getD i default := by
    intro i
    induction i with
    | zero => intro hi; exact (h 0 hi).1
    | succ i ih =>
      intro hi
      have h1 := ih (by omega)
      have h2 := (h (i + 1) hi).2.2 (by omega)
      rw [Nat.add_sub_cancel] at h2
      omega
  rcases Nat.eq_zero_or_pos l.length with h1 | h1
  · omega
  · have h2 := key (l.length - 1) (by omega)
    have h3 := (h (l.length - 1) (by omega)).2.1
    omega
end Go.Proofs.Ytbjgnogcjglcoaa.Hm.V
