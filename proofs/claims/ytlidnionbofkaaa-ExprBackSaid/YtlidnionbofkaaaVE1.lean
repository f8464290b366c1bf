import Derived.Test.YtlidnionbofkaaaHF
import Derived.Test.YtlidnionbofkaaaA6
import Derived.Test.YtlidnionbofkaaaVE0
import Derived.Test.YtlidnionbofkaaaVW1
namespace Go.Proofs.Ytlidnionbofkaaa.Hm.V
open Go
set_option linter.all false
set_option maxRecDepth 100000
attribute [local irreducible] X XG S R D W Call CallG Upd Rds Rck Sees Res Cel CallP fnQ fnG
set_option maxHeartbeats 4000000 in
theorem Left_ok (lo : Nat)  : ∀ (t : Et) {Z : Vw} (_ : Tr Z t) (most : Int) (_ : most < 9223372036854775808), CallP F lo 43 [.agg ⟨t.cs⟩, .int .i64 most] Z fun r _ => r = .int .i64 ((most.toNat - t.er.size : Nat) : Int) := by
  intro t
  induction t using Et.ind with
  | h op n c v ks ih =>
  intro Z ht most hm
  rw [Tr_mk] at ht
  obtain ⟨⟨hf, hlen⟩, hk⟩ := ht
  have hEl : (ks.map Et.er).length = ks.length := List.length_map _
  simp only [Et.cs]
  refine FnP (fn := c43) rfl rfl rfl ?_
  (refine W_seq ?_; (refine W_rgn ?_; ((refine Ra rfl (xBox rfl (fun b2 => ?_))) <;> (refine Ra rfl (X_mv rfl ?_)) <;> (refine R_nil ?_))) <;> ((refine thenQ_nrm ?_; (refine W_seq ?_; (refine W_seq ?_; (refine W_rgn ?_; ((refine Ra rfl (X_mv rfl ?_)) <;> (refine Ra rfl (X_lss rfl rfl (fun _ => ?_) (fun _ => ?_))) <;> (refine R_nil ?_))) <;> ((refine thenQ_nrm ?_; (refine W_cond rfl (fun ht => ?_) (fun ht => ?_) <;> (first | exact absurd ht (by decide) | (refine W_seq ?_; (refine W_rgn ?_; ((refine Ra rfl (X_mv rfl ?_)) <;> (refine R_nil ?_))) <;> ((refine thenQ_nrm ?_; (refine W_ret ?_)))) | (refine W_skip ?_)))))) <;> (first | refine thenQ_ret ?_ | (refine thenQ_nrm ?_; (refine W_seq ?_; (refine W_rgn ?_; ((refine Ra rfl (X_mv rfl ?_)) <;> (refine Ra rfl (X_subI rfl rfl (by omega) (by omega) ?_)) <;> (refine Ra rfl (X_mv rfl ?_)) <;> (refine R_nil ?_))) <;> ((refine thenQ_nrm ?_; (refine W_seq ?_; (refine W_seq ?_; (refine W_rgn ?_; ((refine Ra rfl (X_mv rfl ?_)) <;> (refine R_nil ?_))) <;> ((refine thenQ_nrm ?_; (refine W_block ?_; ((
      refine wLoop (fun i : Nat => [(6, .int .i64 i), (5, .int .i64 (((most - 1).toNat - Ex.sizeL ((ks.map Et.er).take i) : Nat) : Int))]) (fun _ => [.box b2 [.int .i64 op, .int .i64 n, .int .i64 c, v]]) (fun i _ => i ≤ ks.length) (fun i => ks.length - i) 0 ?_ (Upd.done ⟨Nat.zero_le _, hB rfl Has.nil⟩) ?_
      · rw [List.take_zero, Ex.sizeL, show (((most - 1).toNat - 0 : Nat) : Int) = most - 1 by omega]
        exact (by repeat' (first | exact trivial | exact rfl | constructor))
      intro i Z1 hz1 hi) <;> (refine W_seq ?_; (refine W_seq ?_; (refine W_rgn ?_; ((refine Ra rfl (X_mv rfl ?_)) <;> (refine Ra rfl (X_faddr rfl ?_)) <;> (refine Ra rfl (X_load (lB rfl rfl) ?_)) <;> (refine Ra rfl (xLen rfl ?_)) <;> (refine Ra rfl (X_lss rfl rfl (fun _ => ?_) (fun _ => ?_))) <;> (refine R_nil ?_))) <;> ((refine thenQ_nrm ?_; (refine W_cond rfl (fun ht => ?_) (fun ht => ?_) <;> (first | exact absurd ht (by decide) | (refine W_skip ?_) | (refine W_exit ?_)))))) <;> (first | refine thenQ_ext ?_ | (refine thenQ_nrm ?_; (refine W_seq ?_; (refine W_block ?_; (refine W_rgn ?_; ((refine Ra rfl (X_faddr rfl ?_)) <;> (refine Ra rfl (X_load (lB rfl rfl) ?_)) <;> (refine Ra rfl (X_mv rfl ?_)) <;> (refine Ra rfl (xIa rfl rfl (by omega) (by omega) ?_)) <;> (refine Ra rfl (X_load (lEA rfl (by omega)) ?_)) <;> (refine Ra rfl (X_mv rfl ?_)) <;> (refine Ra rfl (xP (ih _ (getD_in (by omega)) (Tr.le ZC.le (hk _ (getD_in (by omega)))) _ (by omega)) rfl (fun _ Z24 hz24 hq => ?_)); (subst hq)) <;> (refine Ra rfl (X_mv rfl ?_)) <;> (refine R_nil ?_))) <;> (refine blockQ_nrm ?_)) <;> ((refine thenQ_nrm ?_; (refine W_rgn ?_; ((refine Ra rfl (X_mv rfl ?_)) <;> (refine Ra rfl (X_addI rfl rfl (by omega) (by omega) ?_)) <;> (refine Ra rfl (X_mv rfl ?_)) <;> (refine R_nil ?_))))))))) <;> (first | refine thenQ_ext ?_ | (refine thenQ_nrm ?_; (
        refine Upd.done ⟨i + 1, by omega, by omega, ?_, hB rfl Has.nil⟩
        rw [Ex.sizeL_take (by rw [hEl]; omega), map_get (by omega), show (((((most - 1).toNat - Ex.sizeL ((ks.map Et.er).take i) : Nat) : Int).toNat - (ks.getD i default).er.size : Nat) : Int) = (((most - 1).toNat - (Ex.sizeL ((ks.map Et.er).take i) + (ks.getD i default).er.size) : Nat) : Int) by omega]
        exact (by repeat' (first | exact trivial | exact rfl | constructor)))))) <;> (refine blockQ_ext ?_))))) <;> ((refine thenQ_nrm ?_; (refine W_seq ?_; (refine W_rgn ?_; ((refine Ra rfl (X_mv rfl ?_)) <;> (refine Ra rfl (X_mv rfl ?_)) <;> (refine R_nil ?_))) <;> ((refine thenQ_nrm ?_; (refine W_ret ?_))))))))))))))))
  <;> (refine fnP_ret (Res.tmp rfl Res.nil) ?_)
  all_goals
    rw [Et.er_mk, Ex.size]
    first
      | (have hi2 : i = ks.length := by omega
         subst hi2
         refine congrArg (Value.int .i64) ?_
         rw [List.take_of_length_le (by rw [hEl]; exact Nat.le_refl _)]
         omega)
      | (refine congrArg (Value.int .i64) ?_
         omega)
set_option maxHeartbeats 4000000 in
theorem Fits_ok (lo : Nat) {Z : Vw} {t : Et} (ht : Tr Z t) (most : Int) (h0 : 0 ≤ most) (h1 : most < 1000000) : CallP F lo 13 [.agg ⟨t.cs⟩, .int .i64 most] Z fun r _ => ∃ b, r = .bool b ∧ (b = true ↔ (t.er.size : Int) ≤ most) := by
  refine FnP (fn := c13) rfl rfl rfl ?_
  (refine W_seq ?_; (refine W_rgn ?_; ((refine Ra rfl (xBox rfl (fun b2 => ?_))) <;> (refine Ra rfl (X_mv rfl ?_)) <;> (refine R_nil ?_))) <;> ((refine thenQ_nrm ?_; (refine W_seq ?_; (refine W_rgn ?_; ((refine Ra rfl (X_load (lBA rfl (Et.b4 _)) ?_)) <;> (refine Ra rfl (X_mv rfl ?_)) <;> (refine Ra rfl (X_addI rfl rfl (by omega) (by omega) ?_)) <;> (refine Ra rfl (xP (Left_ok lo _ (by first | assumption | exact Tr.le ZC.le (by assumption)) _ (by omega)) rfl (fun _ Z8 hz8 hq => ?_)); (subst hq)) <;> (refine Ra rfl (X_gtr rfl rfl (fun _ => ?_) (fun _ => ?_))) <;> (refine Ra rfl (X_mv rfl ?_)) <;> (refine R_nil ?_))) <;> ((refine thenQ_nrm ?_; (refine W_ret ?_)))))))
  <;> (refine fnP_ret (Res.tmp rfl Res.nil) ?_)
  all_goals
    refine ⟨_, rfl, ?_⟩
    simp only [true_iff, Bool.false_eq_true, false_iff]
    omega
end Go.Proofs.Ytlidnionbofkaaa.Hm.V
