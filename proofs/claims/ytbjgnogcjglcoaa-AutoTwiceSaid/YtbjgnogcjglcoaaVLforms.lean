import Derived.Test.YtbjgnogcjglcoaaHF
import Derived.Test.YtbjgnogcjglcoaaA6
import Derived.Test.YtbjgnogcjglcoaaVA2
namespace Go.Proofs.Ytbjgnogcjglcoaa.Hm.V
open Go
set_option linter.all false
set_option maxRecDepth 100000
attribute [local irreducible] X S R D W Call Upd Rds Rck Sees Res Cel CallP fnQ
set_option maxHeartbeats 4000000 in
theorem Is_ok (lo : Nat) {Z : Vw} {v : Value} {a : Au} (ha : AuV Z v a) :
    CallP F lo 18 [v] Z fun r _ => ∃ b, r = .bool b ∧ (b = true ↔ isAutoP a) := by
  have hA := ha
  obtain ⟨vs, ve, vg, rfl, hs, he, hg, q1, q2, q3⟩ := ha
  refine FnP (fn := c18) rfl rfl rfl ?_
  (refine W_seq ?_; (refine W_rgn ?_; ((refine Ra rfl (xBox rfl (fun b1 => ?_))) <;> (refine Ra rfl (X_mv rfl ?_)) <;> (refine R_nil ?_))) <;> ((refine thenQ_nrm ?_; (refine W_seq ?_; (refine W_rgn ?_; ((refine Ra rfl (X_load (lBA rfl rfl) ?_)) <;> (refine Ra rfl (xP (IsAuto_ok lo (by first | assumption | exact AuV.le (by assumption) ZC.le)) rfl (fun _ Z4 hz4 hq4 => ?_)); (obtain ⟨b4, rfl, hb4⟩ := hq4)) <;> (refine Ra rfl (X_mv rfl ?_)) <;> (refine R_nil ?_))) <;> ((refine thenQ_nrm ?_; (refine W_ret ?_)))))))
  <;> (refine fnP_ret (Res.tmp rfl Res.nil) ?_)
  exact ⟨_, rfl, hb4⟩
end Go.Proofs.Ytbjgnogcjglcoaa.Hm.V
