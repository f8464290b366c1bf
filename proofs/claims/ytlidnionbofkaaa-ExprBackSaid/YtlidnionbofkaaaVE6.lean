import Derived.Test.YtlidnionbofkaaaHF
import Derived.Test.YtlidnionbofkaaaA6
import Derived.Test.YtlidnionbofkaaaVE1
import Derived.Test.YtlidnionbofkaaaVE2
import Derived.Test.YtlidnionbofkaaaVX1
namespace Go.Proofs.Ytlidnionbofkaaa.Hm.V
open Go
set_option linter.all false
set_option maxRecDepth 100000
attribute [local irreducible] X XG S R D W Call CallG Upd Rds Rck Sees Res Cel CallP fnQ fnG
theorem Ex.depth_le : ∀ t : Ex, t.depth ≤ t.size := by
  intro t
  induction t using Ex.ind with
  | h op n c ks ih =>
    rw [Ex.depth, Ex.size]
    have key : ∀ l : List Ex, (∀ a ∈ l, a ∈ ks) → Ex.depthL l ≤ Ex.sizeL l := by
      intro l
      induction l with
      | nil => intro _; simp [Ex.depthL, Ex.sizeL]
      | cons a l ihl =>
        intro h
        have h1 := ih a (h a (by simp))
        have h2 := ihl fun b hb => h b (by simp [hb])
        rw [Ex.depthL, Ex.sizeL]
        omega
    have := key ks fun a ha => ha
    omega
theorem nodeP_ne {w : Int} {vs : List Vr} {k op n c : Int} {m : Nat} (h : op ≠ 1) : nodeP w vs k op n c m ↔ c = 0 ∧ (m : Int) = argsN op ∧ (if op = 0 then widP w ∧ wrdP w n else n = 0) := by
  unfold nodeP; rw [if_neg h]
set_option maxHeartbeats 4000000 in
theorem args_ok (lo : Nat) {Z : Vw} (op : Int) : CallP F lo 101 [.int .i64 op] Z fun r _ => r = .int .i64 (argsN op) := by
  refine FnP (fn := c101) rfl rfl rfl ?_
  (refine W_seq ?_; (refine W_rgn ?_; ((refine Ra rfl (X_mv rfl ?_)) <;> (refine R_nil ?_))) <;> ((refine thenQ_nrm ?_; (refine W_seq ?_; (refine W_seq ?_; (refine W_rgn ?_; ((refine Ra rfl (X_mv rfl ?_)) <;> (refine R_nil ?_))) <;> ((refine thenQ_nrm ?_; (refine W_block ?_; (refine W_seq ?_; (refine W_rgn ?_; ((refine Ra rfl (X_eql rfl rfl (fun _ => ?_) (fun _ => ?_))) <;> (refine Ra rfl (X_mv rfl ?_)) <;> (refine R_nil ?_))) <;> ((refine thenQ_nrm ?_; (refine W_cond rfl (fun ht => ?_) (fun ht => ?_) <;> (first | exact absurd ht (by decide) | (refine W_seq ?_; (refine W_rgn ?_; ((refine Ra rfl (X_mv rfl ?_)) <;> (refine R_nil ?_))) <;> ((refine thenQ_nrm ?_; (refine W_ret ?_)))) | (refine W_seq ?_; (refine W_rgn ?_; ((refine Ra rfl (X_eql rfl rfl (fun _ => ?_) (fun _ => ?_))) <;> (refine Ra rfl (X_mv rfl ?_)) <;> (refine R_nil ?_))) <;> ((refine thenQ_nrm ?_; (refine W_cond rfl (fun ht => ?_) (fun ht => ?_) <;> (first | exact absurd ht (by decide) | (refine W_seq ?_; (refine W_rgn ?_; ((refine Ra rfl (X_mv rfl ?_)) <;> (refine R_nil ?_))) <;> ((refine thenQ_nrm ?_; (refine W_ret ?_)))) | (refine W_seq ?_; (refine W_rgn ?_; ((refine Ra rfl (X_eql rfl rfl (fun _ => ?_) (fun _ => ?_))) <;> (refine Ra rfl (X_mv rfl ?_)) <;> (refine R_nil ?_))) <;> ((refine thenQ_nrm ?_; (refine W_cond rfl (fun ht => ?_) (fun ht => ?_) <;> (first | exact absurd ht (by decide) | (refine W_seq ?_; (refine W_rgn ?_; ((refine Ra rfl (X_mv rfl ?_)) <;> (refine R_nil ?_))) <;> ((refine thenQ_nrm ?_; (refine W_ret ?_)))) | (refine W_skip ?_)))))))))))))))) <;> (first | refine blockQ_nrm ?_ | refine blockQ_ret ?_))))) <;> (first | refine thenQ_ret ?_ | (refine thenQ_nrm ?_; (refine W_seq ?_; (refine W_seq ?_; (refine W_rgn ?_; ((refine Ra rfl (X_mv rfl ?_)) <;> (refine Ra rfl (xP (Two_ok lo _) rfl (fun _ Z11 hz11 hb11 => ?_)); (obtain ⟨b11, rfl, hb11⟩ := hb11; cases b11 <;> simp only [Bool.false_eq_true, false_iff, true_iff] at hb11)) <;> (refine R_nil ?_))) <;> ((refine thenQ_nrm ?_; (refine W_cond rfl (fun ht => ?_) (fun ht => ?_) <;> (first | exact absurd ht (by decide) | (refine W_seq ?_; (refine W_rgn ?_; ((refine Ra rfl (X_mv rfl ?_)) <;> (refine R_nil ?_))) <;> ((refine thenQ_nrm ?_; (refine W_ret ?_)))) | (refine W_skip ?_)))))) <;> (first | refine thenQ_ret ?_ | (refine thenQ_nrm ?_; (refine W_seq ?_; (refine W_rgn ?_; ((refine Ra rfl (X_mv rfl ?_)) <;> (refine R_nil ?_))) <;> ((refine thenQ_nrm ?_; (refine W_ret ?_)))))))))))))
  <;> (refine fnP_ret (Res.tmp rfl Res.nil) ?_)
  all_goals
    refine congrArg (Value.int .i64) ?_
    unfold argsN
    (repeat' split) <;> first
      | rfl
      | (exfalso; omega)
      | (exfalso; unfold IsOp at *; omega)
      | contradiction
theorem OneT_ok (lo : Nat) {Z : Vw} : CallP F lo 37 [.bool true] Z fun r _ => r = .int .i64 1 := One_ok lo true
theorem OneF_ok (lo : Nat) {Z : Vw} : CallP F lo 37 [.bool false] Z fun r _ => r = .int .i64 0 := One_ok lo false
set_option maxHeartbeats 4000000 in
theorem node_ok (lo : Nat) {Z : Vw} {w k op n c : Int} {v : Value} {ks : List Et} {vv : Value} {vs : List Vr} (hvl : vs.length < 9223372036854775808) (hf : Fz Z 4 v (ks.map Et.cs)) (hlen : ks.length < 9223372036854775808) (hv : Vrs Z vv vs) : CallP F lo 89 [.int .i64 w, vv, .int .i64 k, .agg ⟨[.int .i64 op, .int .i64 n, .int .i64 c, v]⟩] Z fun r _ => ∃ b, r = .bool b ∧ (b = true ↔ nodeP w vs k op n c ks.length) := by
  refine FnP (fn := c89) rfl rfl rfl ?_
  (refine W_seq ?_; (refine W_rgn ?_; ((refine Ra rfl (xBox rfl (fun b7 => ?_))) <;> (refine Ra rfl (X_mv rfl ?_)) <;> (refine R_nil ?_))) <;> ((refine thenQ_nrm ?_; (refine W_seq ?_; (refine W_seq ?_; (refine W_rgn ?_; ((refine Ra rfl (X_faddr rfl ?_)) <;> (refine Ra rfl (X_load (lB rfl rfl) ?_)) <;> (refine Ra rfl (X_eql rfl rfl (fun _ => ?_) (fun _ => ?_))) <;> (refine R_nil ?_))) <;> ((refine thenQ_nrm ?_; (refine W_cond rfl (fun ht => ?_) (fun ht => ?_) <;> (first | exact absurd ht (by decide) | (refine W_seq ?_; (refine W_seq ?_; (refine W_rgn ?_; ((refine Ra rfl (X_faddr rfl ?_)) <;> (refine Ra rfl (X_load (lB rfl rfl) ?_)) <;> (refine Ra rfl (X_lss rfl rfl (fun _ => ?_) (fun _ => ?_))) <;> (refine Ra rfl (X_mv rfl ?_)) <;> (first | (refine Rb rfl rfl (X_faddr rfl ?_)) | (refine Rc rfl rfl ?_)) <;> (first | (refine Rb rfl rfl (X_load (lB rfl rfl) ?_)) | (refine Rc rfl rfl ?_)) <;> (first | (refine Rb rfl rfl (X_mv rfl ?_)) | (refine Rc rfl rfl ?_)) <;> (first | (refine Rb rfl rfl (xLen rfl ?_)) | (refine Rc rfl rfl ?_)) <;> (first | (refine Rb rfl rfl (X_geq rfl rfl (fun _ => ?_) (fun _ => ?_))) | (refine Rc rfl rfl ?_)) <;> (first | (refine Ra rfl (X_pickT rfl rfl ?_)) | (refine Ra rfl (X_pickF rfl rfl ?_))) <;> (refine Ra rfl (X_mv rfl ?_)) <;> (first | (refine Rb rfl rfl (X_faddr rfl ?_)) | (refine Rc rfl rfl ?_)) <;> (first | (refine Rb rfl rfl (X_load (lB rfl rfl) ?_)) | (refine Rc rfl rfl ?_)) <;> (first | (refine Rb rfl rfl (X_lss rfl rfl (fun _ => ?_) (fun _ => ?_))) | (refine Rc rfl rfl ?_)) <;> (first | (refine Ra rfl (X_pickT rfl rfl ?_)) | (refine Ra rfl (X_pickF rfl rfl ?_))) <;> (refine Ra rfl (X_mv rfl ?_)) <;> (first | (refine Rb rfl rfl (X_faddr rfl ?_)) | (refine Rc rfl rfl ?_)) <;> (first | (refine Rb rfl rfl (X_load (lB rfl rfl) ?_)) | (refine Rc rfl rfl ?_)) <;> (first | (refine Rb rfl rfl (X_mv rfl ?_)) | (refine Rc rfl rfl ?_)) <;> (first | (refine Rb rfl rfl (X_geq rfl rfl (fun _ => ?_) (fun _ => ?_))) | (refine Rc rfl rfl ?_)) <;> (first | (refine Ra rfl (X_pickT rfl rfl ?_)) | (refine Ra rfl (X_pickF rfl rfl ?_))) <;> (refine R_nil ?_))) <;> ((refine thenQ_nrm ?_; (refine W_cond rfl (fun ht => ?_) (fun ht => ?_) <;> (first | exact absurd ht (by decide) | (refine W_seq ?_; (refine W_rgn ?_; ((refine Ra rfl (X_mv rfl ?_)) <;> (refine R_nil ?_))) <;> ((refine thenQ_nrm ?_; (refine W_ret ?_)))) | (refine W_skip ?_)))))) <;> (first | refine thenQ_ret ?_ | (refine thenQ_nrm ?_; (refine W_seq ?_; (refine W_drw ?_; ((refine Da rfl rfl (X_faddr rfl ?_)) <;> (refine Da rfl rfl (X_load (lB rfl rfl) ?_)) <;> (refine Da rfl rfl (xLen rfl ?_)) <;> (refine Da rfl rfl (X_mv rfl ?_)) <;> (refine Da rfl rfl (X_faddr rfl ?_)) <;> (refine Da rfl rfl (X_load (lB rfl rfl) ?_)) <;> (refine Da rfl rfl (xIa rfl rfl (by omega) (by omega) ?_)) <;> (refine Da rfl rfl (X_faddr rfl ?_)) <;> (refine Da rfl rfl (X_load (lE rfl (by omega) rfl) ?_)) <;> (refine Da rfl rfl (X_gtr rfl rfl (fun _ => ?_) (fun _ => ?_))) <;> (first | (refine D_consR rfl (S_do rfl (xP (OneT_ok lo) rfl (fun _ Z43 hz43 hq => ⟨(by (refine rDo rfl rfl (lB rfl rfl) ?_); exact Rck_nil), ?_⟩))); (subst hq)) | (refine D_consR rfl (S_do rfl (xP (OneF_ok lo) rfl (fun _ Z43 hz43 hq => ⟨(by (refine rDo rfl rfl (lB rfl rfl) ?_); exact Rck_nil), ?_⟩))); (subst hq))) <;> (refine Da rfl rfl (X_eql rfl rfl (fun _ => ?_) (fun _ => ?_))) <;> (refine Da rfl rfl (X_mv rfl ?_)) <;> (refine D_nil ?_))) <;> ((refine thenQ_nrm ?_; (refine W_ret ?_))))))) | (refine W_skip ?_)))))) <;> (first | refine thenQ_ret ?_ | (refine thenQ_nrm ?_; (refine W_seq ?_; (refine W_seq ?_; (refine W_drw ?_; ((refine Da rfl rfl (X_faddr rfl ?_)) <;> (refine Da rfl rfl (X_load (lB rfl rfl) ?_)) <;> (refine Da rfl rfl (X_neq rfl rfl (fun _ => ?_) (fun _ => ?_))) <;> (refine Da rfl rfl (X_mv rfl ?_)) <;> (first | (refine Db rfl rfl rfl (X_faddr rfl ?_)) | (refine Dc rfl rfl rfl ?_)) <;> (first | (refine Db rfl rfl rfl (X_load (lB rfl rfl) ?_)) | (refine Dc rfl rfl rfl ?_)) <;> (first | (refine Db rfl rfl rfl (xLen rfl ?_)) | (refine Dc rfl rfl rfl ?_)) <;> (first | (refine Db rfl rfl rfl (X_faddr rfl ?_)) | (refine Dc rfl rfl rfl ?_)) <;> (first | (refine Db rfl rfl rfl (X_load (lB rfl rfl) ?_)) | (refine Dc rfl rfl rfl ?_)) <;> (first | (refine D_consR rfl (S_if rfl rfl (xP (args_ok lo _) rfl (fun _ Z54 hz54 hq => ⟨(by (first | refine rIf rfl rfl rfl (lB rfl rfl) ?_ | refine Rck_skip rfl rfl rfl ?_); exact Rck_nil), ?_⟩))); (subst hq)) | (refine D_consR rfl (S_no rfl rfl ⟨(by (first | refine rIf rfl rfl rfl (lB rfl rfl) ?_ | refine Rck_skip rfl rfl rfl ?_); exact Rck_nil), ?_⟩))) <;> (first | (refine Db rfl rfl rfl (X_neq rfl rfl (fun _ => ?_) (fun _ => ?_))) | (refine Dc rfl rfl rfl ?_)) <;> (first | (refine Da rfl rfl (X_pickT rfl rfl ?_)) | (refine Da rfl rfl (X_pickF rfl rfl ?_))) <;> (refine D_nil ?_))) <;> ((refine thenQ_nrm ?_; (refine W_cond rfl (fun ht => ?_) (fun ht => ?_) <;> (first | exact absurd ht (by decide) | (refine W_seq ?_; (refine W_rgn ?_; ((refine Ra rfl (X_mv rfl ?_)) <;> (refine R_nil ?_))) <;> ((refine thenQ_nrm ?_; (refine W_ret ?_)))) | (refine W_skip ?_)))))) <;> (first | refine thenQ_ret ?_ | (refine thenQ_nrm ?_; (refine W_seq ?_; (refine W_seq ?_; (refine W_rgn ?_; ((refine Ra rfl (X_faddr rfl ?_)) <;> (refine Ra rfl (X_load (lB rfl rfl) ?_)) <;> (refine Ra rfl (X_eql rfl rfl (fun _ => ?_) (fun _ => ?_))) <;> (refine R_nil ?_))) <;> ((refine thenQ_nrm ?_; (refine W_cond rfl (fun ht => ?_) (fun ht => ?_) <;> (first | exact absurd ht (by decide) | (refine W_seq ?_; (refine W_rgn ?_; ((refine Ra rfl (X_mv rfl ?_)) <;> (refine Ra rfl (X_faddr rfl ?_)) <;> (refine Ra rfl (X_load (lB rfl rfl) ?_)) <;> (refine Ra rfl (xP (Word_ok lo _ _) rfl (fun _ Z63 hz63 hb63 => ?_)); (obtain ⟨b63, rfl, hb63⟩ := hb63; cases b63 <;> simp only [Bool.false_eq_true, false_iff, true_iff] at hb63)) <;> (refine Ra rfl (X_mv rfl ?_)) <;> (refine R_nil ?_))) <;> ((refine thenQ_nrm ?_; (refine W_ret ?_)))) | (refine W_skip ?_)))))) <;> (first | refine thenQ_ret ?_ | (refine thenQ_nrm ?_; (refine W_seq ?_; (refine W_rgn ?_; ((refine Ra rfl (X_faddr rfl ?_)) <;> (refine Ra rfl (X_load (lB rfl rfl) ?_)) <;> (refine Ra rfl (X_eql rfl rfl (fun _ => ?_) (fun _ => ?_))) <;> (refine Ra rfl (X_mv rfl ?_)) <;> (refine R_nil ?_))) <;> ((refine thenQ_nrm ?_; (refine W_ret ?_))))))))))))))))
  <;> (refine fnP_ret (Res.tmp rfl Res.nil) ?_)
  all_goals
    refine ⟨_, rfl, ?_⟩
    first
      | (rw [nodeP_1 (by assumption)]
         simp only [Bool.false_eq_true, false_iff, true_iff]
         first
           | (rintro ⟨h1, h2, h3, h4, h5⟩
              first
                | omega
                | (split at h5 <;> omega))
           | (refine ⟨by omega, by omega, by omega, by omega, ?_⟩
              split <;> omega))
      | (rw [nodeP_ne (by assumption)]
         simp only [Bool.false_eq_true, false_iff, true_iff]
         first
           | (rintro ⟨h1, h2, h3⟩
              first
                | omega
                | (rw [if_pos (by assumption)] at h3; exact absurd h3 (by assumption))
                | (rw [if_neg (by assumption)] at h3; omega))
           | (refine ⟨by omega, by omega, ?_⟩
              first
                | (rw [if_pos (by assumption)]; assumption)
                | (rw [if_neg (by assumption)]; omega)))
set_option maxHeartbeats 4000000 in
theorem form_ok (lo : Nat) {w k : Int} {vv : Value} {vs : List Vr} (hvl : vs.length < 9223372036854775808) : ∀ (t : Et) {Z : Vw} (_ : Tr Z t) (_ : Vrs Z vv vs), CallP F lo 58 [.int .i64 w, vv, .int .i64 k, .agg ⟨t.cs⟩] Z fun r _ => ∃ b, r = .bool b ∧ (b = true ↔ formE w vs k t.er) := by
  intro t
  induction t using Et.ind with
  | h op n c v ks ih =>
  intro Z ht hv
  rw [Tr_mk] at ht
  obtain ⟨⟨hf, hlen⟩, hk⟩ := ht
  have hEl : (ks.map Et.er).length = ks.length := List.length_map _
  simp only [Et.cs]
  refine FnP (fn := c58) rfl rfl rfl ?_
  (refine W_seq ?_; (refine W_rgn ?_; ((refine Ra rfl (xBox rfl (fun b7 => ?_))) <;> (refine Ra rfl (X_mv rfl ?_)) <;> (refine R_nil ?_))) <;> ((refine thenQ_nrm ?_; (refine W_seq ?_; (refine W_seq ?_; (refine W_rgn ?_; ((refine Ra rfl (X_mv rfl ?_)) <;> (refine Ra rfl (X_mv rfl ?_)) <;> (refine Ra rfl (X_mv rfl ?_)) <;> (refine Ra rfl (X_load (lBA rfl rfl) ?_)) <;> (refine Ra rfl (xP (node_ok lo (by assumption) (Fz.le hf ZC.le) hlen (Fz.le hv ZC.le)) rfl (fun _ Z14 hz14 hb14 => ?_)); (obtain ⟨b14, rfl, hb14⟩ := hb14; cases b14 <;> simp only [Bool.false_eq_true, false_iff, true_iff] at hb14)) <;> (refine Ra rfl (X_not rfl ?_)) <;> (refine R_nil ?_))) <;> ((refine thenQ_nrm ?_; (refine W_cond rfl (fun ht => ?_) (fun ht => ?_) <;> (first | exact absurd ht (by decide) | (refine W_seq ?_; (refine W_rgn ?_; ((refine Ra rfl (X_mv rfl ?_)) <;> (refine R_nil ?_))) <;> ((refine thenQ_nrm ?_; (refine W_ret ?_)))) | (refine W_skip ?_)))))) <;> (first | refine thenQ_ret ?_ | (refine thenQ_nrm ?_; (refine W_seq ?_; (refine W_seq ?_; (refine W_rgn ?_; ((refine Ra rfl (X_mv rfl ?_)) <;> (refine R_nil ?_))) <;> ((refine thenQ_nrm ?_; (refine W_block ?_; ((
      refine wLoop (fun i : Nat => [(9, .int .i64 i)]) (fun _ => [.box b7 [.int .i64 op, .int .i64 n, .int .i64 c, v]]) (fun i _ => i ≤ ks.length ∧ ∀ j, j < i → formE w vs k (ks.getD j default).er) (fun i => ks.length - i) 0 (by repeat' (first | exact trivial | exact rfl | constructor)) (Upd.done ⟨⟨Nat.zero_le _, fun j hj => absurd hj (by omega)⟩, hB rfl Has.nil⟩) ?_
      intro i Z1 hz1 hp
      obtain ⟨hi, hp⟩ := hp) <;> (refine W_seq ?_; (refine W_seq ?_; (refine W_rgn ?_; ((refine Ra rfl (X_mv rfl ?_)) <;> (refine Ra rfl (X_faddr rfl ?_)) <;> (refine Ra rfl (X_load (lB rfl rfl) ?_)) <;> (refine Ra rfl (xLen rfl ?_)) <;> (refine Ra rfl (X_lss rfl rfl (fun _ => ?_) (fun _ => ?_))) <;> (refine R_nil ?_))) <;> ((refine thenQ_nrm ?_; (refine W_cond rfl (fun ht => ?_) (fun ht => ?_) <;> (first | exact absurd ht (by decide) | (refine W_skip ?_) | (refine W_exit ?_)))))) <;> (first | refine thenQ_ext ?_ | (refine thenQ_nrm ?_; (refine W_seq ?_; (refine W_block ?_; (refine W_seq ?_; (refine W_rgn ?_; ((refine Ra rfl (X_mv rfl ?_)) <;> (refine Ra rfl (X_mv rfl ?_)) <;> (refine Ra rfl (X_mv rfl ?_)) <;> (refine Ra rfl (X_faddr rfl ?_)) <;> (refine Ra rfl (X_load (lB rfl rfl) ?_)) <;> (refine Ra rfl (X_mv rfl ?_)) <;> (refine Ra rfl (xIa rfl rfl (by omega) (by omega) ?_)) <;> (refine Ra rfl (X_load (lEA rfl (by omega)) ?_)) <;> (refine Ra rfl (xP (ih _ (getD_in (by omega)) (Tr.le ZC.le (hk _ (getD_in (by omega)))) (Fz.le hv ZC.le)) rfl (fun _ Z31 hz31 hb31 => ?_)); (obtain ⟨b31, rfl, hb31⟩ := hb31; cases b31 <;> simp only [Bool.false_eq_true, false_iff, true_iff] at hb31)) <;> (refine Ra rfl (X_not rfl ?_)) <;> (refine R_nil ?_))) <;> ((refine thenQ_nrm ?_; (refine W_cond rfl (fun ht => ?_) (fun ht => ?_) <;> (first | exact absurd ht (by decide) | (refine W_seq ?_; (refine W_rgn ?_; ((refine Ra rfl (X_mv rfl ?_)) <;> (refine R_nil ?_))) <;> ((refine thenQ_nrm ?_; (refine W_ret ?_)))) | (refine W_skip ?_)))))) <;> (first | refine blockQ_nrm ?_ | refine blockQ_ret ?_)) <;> (first | refine thenQ_ret ?_ | (refine thenQ_nrm ?_; (refine W_rgn ?_; ((refine Ra rfl (X_mv rfl ?_)) <;> (refine Ra rfl (X_addI rfl rfl (by omega) (by omega) ?_)) <;> (refine Ra rfl (X_mv rfl ?_)) <;> (refine R_nil ?_))))))))) <;> (first | refine thenQ_ret ?_ | refine thenQ_ext ?_ | (refine thenQ_nrm ?_; (
        refine Upd.done ⟨i + 1, by omega, ⟨by omega, fun j hj => ?_⟩, (by repeat' (first | exact trivial | exact rfl | constructor)), hB rfl Has.nil⟩
        rcases Nat.lt_or_ge j i with h | h
        · exact hp j h
        · obtain rfl : j = i := by omega
          assumption)))) <;> (first | refine blockQ_ret ?_ | refine blockQ_ext ?_))))) <;> (first | refine thenQ_ret ?_ | (refine thenQ_nrm ?_; (refine W_seq ?_; (refine W_rgn ?_; ((refine Ra rfl (X_mv rfl ?_)) <;> (refine R_nil ?_))) <;> ((refine thenQ_nrm ?_; (refine W_ret ?_)))))))))))))
  <;> (refine fnP_ret (Res.tmp rfl Res.nil) ?_)
  all_goals
    refine ⟨_, rfl, ?_⟩
    rw [formT_mk]
    simp only [Bool.false_eq_true, false_iff, true_iff]
    first
      | (rintro ⟨h1, h2⟩
         first
           | exact absurd h1 (by assumption)
           | exact absurd (h2 i (by omega)) (by assumption))
      | exact ⟨by assumption, fun j hj => hp j (by omega)⟩
set_option maxHeartbeats 4000000 in
theorem Depth_ok (lo : Nat)  : ∀ (t : Et) {Z : Vw} (_ : Tr Z t) (_ : t.er.depth < 1000000), CallP F lo 57 [.agg ⟨t.cs⟩] Z fun r _ => r = .int .i64 (t.er.depth : Nat) := by
  intro t
  induction t using Et.ind with
  | h op n c v ks ih =>
  intro Z ht hd
  rw [Tr_mk] at ht
  obtain ⟨⟨hf, hlen⟩, hk⟩ := ht
  have hEl : (ks.map Et.er).length = ks.length := List.length_map _
  rw [depthT_mk] at hd
  simp only [Et.cs]
  refine FnP (fn := c57) rfl rfl rfl ?_
  (refine W_seq ?_; (refine W_rgn ?_; ((refine Ra rfl (xBox rfl (fun b1 => ?_))) <;> (refine Ra rfl (X_mv rfl ?_)) <;> (refine R_nil ?_))) <;> ((refine thenQ_nrm ?_; (refine W_seq ?_; (refine W_rgn ?_; ((refine Ra rfl (X_mv rfl ?_)) <;> (refine R_nil ?_))) <;> ((refine thenQ_nrm ?_; (refine W_seq ?_; (refine W_seq ?_; (refine W_rgn ?_; ((refine Ra rfl (X_mv rfl ?_)) <;> (refine R_nil ?_))) <;> ((refine thenQ_nrm ?_; (refine W_block ?_; ((
      refine wLoop (fun i : Nat => [(4, .int .i64 i), (3, .int .i64 (Ex.depthL ((ks.map Et.er).take i) : Nat))]) (fun _ => [.box b1 [.int .i64 op, .int .i64 n, .int .i64 c, v]]) (fun i _ => i ≤ ks.length) (fun i => ks.length - i) 0 ?_ (Upd.done ⟨Nat.zero_le _, hB rfl Has.nil⟩) ?_
      · rw [List.take_zero, Ex.depthL]
        exact (by repeat' (first | exact trivial | exact rfl | constructor))
      intro i Z1 hz1 hi
      have hdi : i < ks.length → (ks.getD i default).er.depth < 1000000 := fun h => (by have := depthT_get h; omega)
      have hdl := Ex.depthL_le (ks := ks.map Et.er) (i := i)
      have hdi2 : i < ks.length → (ks.getD i default).er.depth < 1000000 := hdi) <;> (refine W_seq ?_; (refine W_seq ?_; (refine W_rgn ?_; ((refine Ra rfl (X_mv rfl ?_)) <;> (refine Ra rfl (X_faddr rfl ?_)) <;> (refine Ra rfl (X_load (lB rfl rfl) ?_)) <;> (refine Ra rfl (xLen rfl ?_)) <;> (refine Ra rfl (X_lss rfl rfl (fun _ => ?_) (fun _ => ?_))) <;> (refine R_nil ?_))) <;> ((refine thenQ_nrm ?_; (refine W_cond rfl (fun ht => ?_) (fun ht => ?_) <;> (first | exact absurd ht (by decide) | (refine W_skip ?_) | (refine W_exit ?_)))))) <;> (first | refine thenQ_ext ?_ | (refine thenQ_nrm ?_; (refine W_seq ?_; (refine W_block ?_; (refine W_rgn ?_; ((refine Ra rfl (X_mv rfl ?_)) <;> (refine Ra rfl (X_faddr rfl ?_)) <;> (refine Ra rfl (X_load (lB rfl rfl) ?_)) <;> (refine Ra rfl (X_mv rfl ?_)) <;> (refine Ra rfl (xIa rfl rfl (by omega) (by omega) ?_)) <;> (refine Ra rfl (X_load (lEA rfl (by omega)) ?_)) <;> (refine Ra rfl (xP (ih _ (getD_in (by omega)) (Tr.le ZC.le (hk _ (getD_in (by omega)))) (by omega)) rfl (fun _ Z18 hz18 hq => ?_)); (subst hq)) <;> (refine Ra rfl (X_max rfl rfl ?_)) <;> (refine Ra rfl (X_mv rfl ?_)) <;> (refine R_nil ?_))) <;> (refine blockQ_nrm ?_)) <;> ((refine thenQ_nrm ?_; (refine W_rgn ?_; ((refine Ra rfl (X_mv rfl ?_)) <;> (refine Ra rfl (X_addI rfl rfl (by omega) (by omega) ?_)) <;> (refine Ra rfl (X_mv rfl ?_)) <;> (refine R_nil ?_))))))))) <;> (first | refine thenQ_ext ?_ | (refine thenQ_nrm ?_; (
        refine Upd.done ⟨i + 1, by omega, by omega, ?_, hB rfl Has.nil⟩
        rw [depthT_take (by omega)]
        have e9 : (((max (Ex.depthL ((ks.map Et.er).take i)) (ks.getD i default).er.depth : Nat)) : Int) = (if ((Ex.depthL ((ks.map Et.er).take i) : Nat) : Int) < (((ks.getD i default).er.depth : Nat) : Int) then (((ks.getD i default).er.depth : Nat) : Int) else ((Ex.depthL ((ks.map Et.er).take i) : Nat) : Int)) := by
          split <;> omega
        rw [e9]
        exact (by repeat' (first | exact trivial | exact rfl | constructor)))))) <;> (refine blockQ_ext ?_))))) <;> ((refine thenQ_nrm ?_; (refine W_seq ?_; (refine W_rgn ?_; ((refine Ra rfl (X_mv rfl ?_)) <;> (refine Ra rfl (X_addI rfl rfl (by omega) (by omega) ?_)) <;> (refine Ra rfl (X_mv rfl ?_)) <;> (refine R_nil ?_))) <;> ((refine thenQ_nrm ?_; (refine W_ret ?_)))))))))))))
  <;> (refine fnP_ret (Res.tmp rfl Res.nil) ?_)
  all_goals
    rw [depthT_mk]
    refine congrArg (Value.int .i64) ?_
    have hi2 : i = ks.length := by omega
    subst hi2
    rw [depthT_all]
    omega
set_option maxHeartbeats 4000000 in
theorem Is_ok (lo : Nat) {Z : Vw} {w k : Int} {vv : Value} {vs : List Vr} {t : Et} (hvl : vs.length < 9223372036854775808) (hv : Vrs Z vv vs) (ht : Tr Z t) : CallP F lo 26 [.int .i64 w, vv, .int .i64 k, .agg ⟨t.cs⟩] Z fun r _ => ∃ b, r = .bool b ∧ (b = true ↔ isE w vs k t.er) := by
  refine FnP (fn := c26) rfl rfl rfl ?_
  (refine W_seq ?_; (refine W_rgn ?_; ((refine Ra rfl (xBox rfl (fun b7 => ?_))) <;> (refine Ra rfl (X_mv rfl ?_)) <;> (refine R_nil ?_))) <;> ((refine thenQ_nrm ?_; (refine W_seq ?_; (refine W_rgn ?_; ((refine Ra rfl (X_load (lBA rfl (Et.b4 _)) ?_)) <;> (refine Ra rfl (xP (Fits_ok lo (by first | assumption | exact Tr.le ZC.le (by assumption)) _ (by omega) (by omega)) rfl (fun _ Z10 hz10 hq => ?_)); (obtain ⟨b10, rfl, hb10⟩ := hq; cases b10 <;> simp only [Bool.false_eq_true, false_iff, true_iff] at hb10)) <;> (refine Ra rfl (X_mv rfl ?_)) <;> (first | (refine Rb rfl rfl (X_load (lBA rfl (Et.b4 _)) ?_)) | (refine Rc rfl rfl ?_)) <;> (first | (refine Rb rfl rfl (xP (Depth_ok lo _ (by first | assumption | exact Tr.le ZC.le (by assumption)) (by have := Ex.depth_le t.er; omega)) rfl (fun _ Z13 hz13 hq => ?_)); (subst hq)) | (refine Rc rfl rfl ?_)) <;> (first | (refine Rb rfl rfl (X_leq rfl rfl (fun _ => ?_) (fun _ => ?_))) | (refine Rc rfl rfl ?_)) <;> (first | (refine Ra rfl (X_pickT rfl rfl ?_)) | (refine Ra rfl (X_pickF rfl rfl ?_))) <;> (refine Ra rfl (X_mv rfl ?_)) <;> (first | (refine Rb rfl rfl (X_mv rfl ?_)) | (refine Rc rfl rfl ?_)) <;> (first | (refine Rb rfl rfl (X_mv rfl ?_)) | (refine Rc rfl rfl ?_)) <;> (first | (refine Rb rfl rfl (X_mv rfl ?_)) | (refine Rc rfl rfl ?_)) <;> (first | (refine Rb rfl rfl (X_load (lBA rfl (Et.b4 _)) ?_)) | (refine Rc rfl rfl ?_)) <;> (first | (refine Rb rfl rfl (xP (form_ok lo (by assumption) _ (by first | assumption | exact Tr.le ZC.le (by assumption)) (Fz.le (by assumption) ZC.le)) rfl (fun _ Z21 hz21 hb21 => ?_)); (obtain ⟨b21, rfl, hb21⟩ := hb21; cases b21 <;> simp only [Bool.false_eq_true, false_iff, true_iff] at hb21)) | (refine Rc rfl rfl ?_)) <;> (first | (refine Ra rfl (X_pickT rfl rfl ?_)) | (refine Ra rfl (X_pickF rfl rfl ?_))) <;> (refine Ra rfl (X_mv rfl ?_)) <;> (refine R_nil ?_))) <;> ((refine thenQ_nrm ?_; (refine W_ret ?_)))))))
  <;> (refine fnP_ret (Res.tmp rfl Res.nil) ?_)
  all_goals
    refine ⟨_, rfl, ?_⟩
    unfold isE
    simp only [Bool.false_eq_true, false_iff, true_iff]
    first
      | exact ⟨by omega, by omega, by assumption⟩
      | (rintro ⟨h1, h2, h3⟩
         first
           | omega
           | exact absurd h3 (by assumption))
end Go.Proofs.Ytlidnionbofkaaa.Hm.V
