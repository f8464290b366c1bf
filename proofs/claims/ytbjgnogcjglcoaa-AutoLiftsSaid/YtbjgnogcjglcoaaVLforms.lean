/- AutoForms, run by H. -/
import Derived.Test.YtbjgnogcjglcoaaHF
import Derived.Test.YtbjgnogcjglcoaaA6
import Derived.Test.YtbjgnogcjglcoaaVA2
namespace Go.Proofs.Ytbjgnogcjglcoaa.Hm.V
open Go
set_option linter.all false
set_option maxRecDepth 100000
attribute [local irreducible] X S R D W Call Upd Rds Rck Sees Res Cel CallP fnQ
set_option maxHeartbeats 4000000 in
theorem Is_ok (lo : Nat) {Z : Vw} {v : Value} {a : Au} (ha : AuV Z v a) :
    CallP F lo 18 [v] Z fun r _ => ∃ b, r = .bool b ∧ (b = true ↔ isAutoP a) := by
  have hA := ha
  obtain ⟨vs, ve, vg, rfl, hs, he, hg, q1, q2, q3⟩ := ha
  refine FnP (fn := c18) rfl rfl rfl ?_
  (refine W_seq ?_; (refine W_rgn ?_; ((refine Ra rfl (xBox rfl (fun b1 => ?_))) <;> (refine Ra rfl (X_mv rfl ?_)) <;> (refine R_nil ?_))) <;> ((refine thenQ_nrm ?_; (refine W_seq ?_; (refine W_rgn ?_; ((refine Ra rfl (X_load (lBA rfl rfl) ?_)) <;> (refine Ra rfl (xP (IsAuto_ok lo (by first | assumption | exact AuV.le (by assumption) ZC.le)) rfl (fun _ Z4 hz4 hq4 => ?_)); (obtain ⟨b4, rfl, hb4⟩ := hq4)) <;> (refine Ra rfl (X_mv rfl ?_)) <;> (refine R_nil ?_))) <;> ((refine thenQ_nrm ?_; (refine W_ret ?_)))))))
  <;> (refine fnP_ret (Res.tmp rfl Res.nil) ?_)
  exact ⟨_, rfl, hb4⟩
set_option maxHeartbeats 4000000 in
theorem AutoForms_ok (lo : Nat) {Z : Vw} {v : Value} {a : Au} (ha : AuV Z v a) : CallP F lo 3 [v] Z fun r _ => r = .bool true := by
  have hA := ha
  obtain ⟨vs, ve, vg, rfl, hs, he, hg, q1, q2, q3⟩ := ha
  refine FnP (fn := c3) rfl rfl rfl ?_
  (refine W_seq ?_; (refine W_rgn ?_; ((refine Ra rfl (xBox rfl (fun b1 => ?_))) <;> (refine Ra rfl (X_mv rfl ?_)) <;> (refine R_nil ?_))) <;> ((refine thenQ_nrm ?_; (refine W_seq ?_; (refine W_rgn ?_; ((refine Ra rfl (X_mv rfl ?_)) <;> (refine R_nil ?_))) <;> ((refine thenQ_nrm ?_; (refine W_seq ?_; (refine W_seq ?_; (refine W_rgn ?_; ((refine Ra rfl (X_load (lBA rfl rfl) ?_)) <;> (refine Ra rfl (xP (Is_ok lo (by first | assumption | exact AuV.le (by assumption) ZC.le)) rfl (fun _ Z5 hz5 hq5 => ?_)); (obtain ⟨b5, rfl, hb5⟩ := hq5)) <;> (refine R_nil ?_))) <;> ((refine thenQ_nrm ?_; (refine W_cond rfl (fun ht => ?_) (fun ht => ?_) <;> (first | (refine W_rgn ?_; ((refine Ra rfl (X_mv rfl ?_)) <;> (refine R_nil ?_))) | (refine W_skip ?_)))))) <;> ((refine thenQ_nrm ?_; (refine W_seq ?_; (refine W_rgn ?_; ((refine Ra rfl (X_load (lBA rfl rfl) ?_)) <;> (refine Ra rfl (xP (Check_ok lo (by first | assumption | exact AuV.le (by assumption) ZC.le)) rfl (fun _ Z7 hz7 hq7 => ?_)); (obtain ⟨c7, rfl, hc7⟩ := hq7)) <;> (refine Ra rfl (X_mv rfl ?_)) <;> (refine Ra rfl (X_eql rfl rfl (fun _ => ?_) (fun _ => ?_))) <;> (refine Ra rfl (X_mv rfl ?_)) <;> (first | (refine Rb rfl rfl (xP (CallP_true (Q := fun v _ => v = .bool true) rfl rfl) rfl (fun _ Z11 hz11 hq => ?_)); (subst hq)) | (refine Rc rfl rfl ?_)) <;> (first | (refine Ra rfl (X_pickT rfl rfl ?_)) | (refine Ra rfl (X_pickF rfl rfl ?_))) <;> (refine Ra rfl (X_mv rfl ?_)) <;> (refine R_nil ?_))) <;> ((refine thenQ_nrm ?_; (refine W_ret ?_)))))))))))))
  <;> (refine fnP_ret (Res.tmp rfl Res.nil) ?_)
  all_goals first
    | rfl
    | (exfalso
       rcases hc7 with ⟨h1, h2⟩ | ⟨h1, h2⟩
       · first
           | omega
           | exact absurd (hb5.2 h2) (by rw [ht]; exact Bool.false_ne_true)
       · first
           | omega
           | exact h2 (hb5.1 ht))
end Go.Proofs.Ytbjgnogcjglcoaa.Hm.V
