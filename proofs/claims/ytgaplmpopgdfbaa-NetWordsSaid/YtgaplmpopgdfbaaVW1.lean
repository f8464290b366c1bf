/- Words: the reference's functions. -/
import Derived.Test.YtgaplmpopgdfbaaHF
import Derived.Test.YtgaplmpopgdfbaaA6
import Derived.Test.YtgaplmpopgdfbaaVW0
namespace Go.Proofs.Ytgaplmpopgdfbaa.Hm.V
open Go
set_option linter.all false
set_option maxRecDepth 100000
attribute [local irreducible] X S R D W Call Upd Rds Rck Sees Res Cel CallP fnQ
set_option maxHeartbeats 4000000 in
theorem Pow_ok (lo : Nat) {Z : Vw} (n : Int) {m : Nat} [tn : TN n m] (h0 : 0 ≤ n) (h1 : n ≤ 61) : CallP F lo 90 [.int .i64 n] Z fun r _ => r = .int .i64 (2 ^ m) := by
  obtain rfl := tn.out
  have e61 : (2 : Int) ^ 61 = 2305843009213693952 := by decide
  refine FnP (fn := c90) rfl rfl rfl ?_
  (refine W_seq ?_; (refine W_rgn ?_; ((refine Ra rfl (X_mv rfl ?_)) <;> (refine R_nil ?_))) <;> (first | refine thenQ_ret ?_ | refine thenQ_ext ?_ | (refine thenQ_nrm ?_; (refine W_seq ?_; (refine W_rgn ?_; ((refine Ra rfl (X_mv rfl ?_)) <;> (refine R_nil ?_))) <;> (first | refine thenQ_ret ?_ | refine thenQ_ext ?_ | (refine thenQ_nrm ?_; (refine W_seq ?_; (refine W_seq ?_; (refine W_rgn ?_; ((refine Ra rfl (X_mv rfl ?_)) <;> (refine R_nil ?_))) <;> (first | refine thenQ_ret ?_ | refine thenQ_ext ?_ | (refine thenQ_nrm ?_; (refine W_block ?_; ((
      refine wLoop (fun i : Nat => [(4, .int .i64 i), (3, .int .i64 (2 ^ i))]) (fun i => []) (fun i Zi => i ≤ n.toNat) (fun i => n.toNat - i) 0 (by repeat' (first | exact trivial | exact rfl | constructor)) (Upd.done ⟨Nat.zero_le _, Has.nil⟩) ?_
      intro i Z1 hz1 hp
      have hb := pow_le_ (m := i) (n := 61) (by omega)
      have hb2 := pow_pos_ i) <;> (refine W_seq ?_; (refine W_seq ?_; (refine W_rgn ?_; ((refine Ra rfl (X_mv rfl ?_)) <;> (refine Ra rfl (X_mv rfl ?_)) <;> (refine Ra rfl (X_lss rfl rfl (fun _ => ?_) (fun _ => ?_))) <;> (refine R_nil ?_))) <;> (first | refine thenQ_ret ?_ | refine thenQ_ext ?_ | (refine thenQ_nrm ?_; (refine W_cond rfl (fun ht => ?_) (fun ht => ?_) <;> (first | exact absurd ht (by decide) | (refine W_skip ?_) | (refine W_exit ?_)))))) <;> (first | refine thenQ_ret ?_ | refine thenQ_ext ?_ | (refine thenQ_nrm ?_; (refine W_seq ?_; (refine W_block ?_; (refine W_rgn ?_; ((refine Ra rfl (X_mv rfl ?_)) <;> (first | (refine Ra rfl (X_mulI rfl rfl (by first | omega | assumption) (by first | omega | assumption) ?_)) | (refine Ra rfl (X_bin rfl rfl rfl ?_))) <;> (refine Ra rfl (X_mv rfl ?_)) <;> (refine R_nil ?_))) <;> (first | refine blockQ_nrm ?_ | refine blockQ_ret ?_ | refine blockQ_ext ?_ | refine blockQ_far rfl ?_)) <;> (first | refine thenQ_ret ?_ | refine thenQ_ext ?_ | (refine thenQ_nrm ?_; (refine W_rgn ?_; ((refine Ra rfl (X_mv rfl ?_)) <;> (first | (refine Ra rfl (X_addI rfl rfl (by omega) (by omega) ?_)) | (refine Ra rfl (X_bin rfl rfl rfl ?_))) <;> (refine Ra rfl (X_mv rfl ?_)) <;> (refine R_nil ?_))))))))) <;> (first | refine thenQ_ret ?_ | refine thenQ_ext ?_ | (refine thenQ_nrm ?_; (
        have e : (2 : Int) ^ (i + 1) = 2 * 2 ^ i := by rw [Int.pow_succ, Int.mul_comm]
        refine Upd.done ⟨i + 1, by omega, by omega, ?_, Has.nil⟩
        rw [e]
        exact (by repeat' (first | exact trivial | exact rfl | constructor)))))) <;> (first | refine blockQ_nrm ?_ | refine blockQ_ret ?_ | refine blockQ_ext ?_ | refine blockQ_far rfl ?_))))) <;> (first | refine thenQ_ret ?_ | refine thenQ_ext ?_ | (refine thenQ_nrm ?_; (refine W_seq ?_; (refine W_rgn ?_; ((refine Ra rfl (X_mv rfl ?_)) <;> (refine Ra rfl (X_mv rfl ?_)) <;> (refine R_nil ?_))) <;> (first | refine thenQ_ret ?_ | refine thenQ_ext ?_ | (refine thenQ_nrm ?_; (refine W_ret ?_)))))))))))))
  <;> (first | refine fnP_ret (Res.tmp rfl Res.nil) ?_ | refine fnP_nrm (Res.tmp rfl Res.nil) ?_)
  have hi : i = n.toNat := by omega
  subst hi
  rfl
set_option maxHeartbeats 4000000 in
theorem Width_ok (lo : Nat) {Z : Vw} (w : Int) : CallP F lo 48 [.int .i64 w] Z fun r _ => ∃ b, r = .bool b ∧ (b = true ↔ widP w) := by
  refine FnP (fn := c48) rfl rfl rfl ?_
  (refine W_seq ?_; (refine W_rgn ?_; ((refine Ra rfl (X_mv rfl ?_)) <;> (refine R_nil ?_))) <;> (first | refine thenQ_ret ?_ | refine thenQ_ext ?_ | (refine thenQ_nrm ?_; (refine W_seq ?_; (refine W_rgn ?_; ((refine Ra rfl (X_mv rfl ?_)) <;> (refine Ra rfl (X_geq rfl rfl (fun _ => ?_) (fun _ => ?_))) <;> (refine Ra rfl (X_mv rfl ?_)) <;> (first | (refine Rb rfl rfl (X_mv rfl ?_)) | (refine Rc rfl rfl ?_) | (refine Rd rfl rfl ?_)) <;> (first | (refine Rb rfl rfl (X_leq rfl rfl (fun _ => ?_) (fun _ => ?_))) | (refine Rc rfl rfl ?_) | (refine Rd rfl rfl ?_)) <;> (first | (refine Ra rfl (X_pickT rfl rfl ?_)) | (refine Ra rfl (X_pickF rfl rfl ?_)) | (refine Ra rfl (X_pick rfl rfl rfl ?_))) <;> (refine Ra rfl (X_mv rfl ?_)) <;> (refine R_nil ?_))) <;> (first | refine thenQ_ret ?_ | refine thenQ_ext ?_ | (refine thenQ_nrm ?_; (refine W_ret ?_)))))))
  <;> (first | refine fnP_ret (Res.tmp rfl Res.nil) ?_ | refine fnP_nrm (Res.tmp rfl Res.nil) ?_)
  all_goals
    refine ⟨_, rfl, ?_⟩
    unfold widP
    simp only [Bool.false_eq_true, false_iff, true_iff]
    omega
set_option maxHeartbeats 4000000 in
theorem Word_ok (lo : Nat) {Z : Vw} (w a : Int) : CallP F lo 82 [.int .i64 w, .int .i64 a] Z fun r _ => ∃ b, r = .bool b ∧ (b = true ↔ widP w ∧ wrdP w a) := by
  refine FnP (fn := c82) rfl rfl rfl ?_
  (refine W_seq ?_; (refine W_rgn ?_; ((refine Ra rfl (X_mv rfl ?_)) <;> (refine R_nil ?_))) <;> (first | refine thenQ_ret ?_ | refine thenQ_ext ?_ | (refine thenQ_nrm ?_; (refine W_seq ?_; (refine W_rgn ?_; ((refine Ra rfl (X_mv rfl ?_)) <;> (refine Ra rfl (xP (Width_ok lo _) rfl (fun _ Z6 hz6 hb6 => ?_)); (obtain ⟨b6, rfl, hb6⟩ := hb6; unfold widP at hb6; cases b6 <;> simp only [Bool.false_eq_true, false_iff, true_iff] at hb6)) <;> (refine Ra rfl (X_mv rfl ?_)) <;> (first | (refine Rb rfl rfl (X_mv rfl ?_)) | (refine Rc rfl rfl ?_) | (refine Rd rfl rfl ?_)) <;> (first | (refine Rb rfl rfl (X_geq rfl rfl (fun _ => ?_) (fun _ => ?_))) | (refine Rc rfl rfl ?_) | (refine Rd rfl rfl ?_)) <;> (first | (refine Ra rfl (X_pickT rfl rfl ?_)) | (refine Ra rfl (X_pickF rfl rfl ?_)) | (refine Ra rfl (X_pick rfl rfl rfl ?_))) <;> (refine Ra rfl (X_mv rfl ?_)) <;> (first | (refine Rb rfl rfl (X_mv rfl ?_)) | (refine Rc rfl rfl ?_) | (refine Rd rfl rfl ?_)) <;> (first | (refine Rb rfl rfl (X_mv rfl ?_)) | (refine Rc rfl rfl ?_) | (refine Rd rfl rfl ?_)) <;> (first | (refine Rb rfl rfl (xP (Pow_ok lo _ (by omega) (by omega)) rfl (fun _ Z14 hz14 hq => ?_)); (subst hq)) | (refine Rc rfl rfl ?_) | (refine Rd rfl rfl ?_)) <;> (first | (refine Rb rfl rfl (X_lss rfl rfl (fun _ => ?_) (fun _ => ?_))) | (refine Rc rfl rfl ?_) | (refine Rd rfl rfl ?_)) <;> (first | (refine Ra rfl (X_pickT rfl rfl ?_)) | (refine Ra rfl (X_pickF rfl rfl ?_)) | (refine Ra rfl (X_pick rfl rfl rfl ?_))) <;> (refine Ra rfl (X_mv rfl ?_)) <;> (refine R_nil ?_))) <;> (first | refine thenQ_ret ?_ | refine thenQ_ext ?_ | (refine thenQ_nrm ?_; (refine W_ret ?_)))))))
  <;> (first | refine fnP_ret (Res.tmp rfl Res.nil) ?_ | refine fnP_nrm (Res.tmp rfl Res.nil) ?_)
  all_goals
    refine ⟨_, rfl, ?_⟩
    unfold wrdP widP
    simp only [Bool.false_eq_true, false_iff, true_iff]
    omega
set_option maxHeartbeats 4000000 in
theorem One_ok (lo : Nat) {Z : Vw} (b : Bool) : CallP F lo 20 [.bool b] Z fun r _ => r = .int .i64 (if b = true then 1 else 0) := by
  refine FnP (fn := c20) rfl rfl rfl ?_
  (refine W_seq ?_; (refine W_rgn ?_; ((refine Ra rfl (X_mv rfl ?_)) <;> (refine R_nil ?_))) <;> (first | refine thenQ_ret ?_ | refine thenQ_ext ?_ | (refine thenQ_nrm ?_; (refine W_seq ?_; (refine W_seq ?_; (refine W_rgn ?_; ((refine Ra rfl (X_mv rfl ?_)) <;> (refine R_nil ?_))) <;> (first | refine thenQ_ret ?_ | refine thenQ_ext ?_ | (refine thenQ_nrm ?_; (refine W_cond rfl (fun ht => ?_) (fun ht => ?_) <;> (first | exact absurd ht (by decide) | (refine W_seq ?_; (refine W_rgn ?_; ((refine Ra rfl (X_mv rfl ?_)) <;> (refine R_nil ?_))) <;> (first | refine thenQ_ret ?_ | refine thenQ_ext ?_ | (refine thenQ_nrm ?_; (refine W_ret ?_)))) | (refine W_skip ?_)))))) <;> (first | refine thenQ_ret ?_ | refine thenQ_ext ?_ | (refine thenQ_nrm ?_; (refine W_seq ?_; (refine W_rgn ?_; ((refine Ra rfl (X_mv rfl ?_)) <;> (refine R_nil ?_))) <;> (first | refine thenQ_ret ?_ | refine thenQ_ext ?_ | (refine thenQ_nrm ?_; (refine W_ret ?_))))))))))
  <;> (first | refine fnP_ret (Res.tmp rfl Res.nil) ?_ | refine fnP_nrm (Res.tmp rfl Res.nil) ?_)
  all_goals (rw [ht]; rfl)
set_option maxHeartbeats 4000000 in
theorem Two_ok (lo : Nat) {Z : Vw} (op : Int) : CallP F lo 83 [.int .i64 op] Z fun r _ => ∃ b, r = .bool b ∧ (b = true ↔ IsOp op) := by
  refine FnP (fn := c83) rfl rfl rfl ?_
  (refine W_seq ?_; (refine W_rgn ?_; ((refine Ra rfl (X_mv rfl ?_)) <;> (refine R_nil ?_))) <;> (first | refine thenQ_ret ?_ | refine thenQ_ext ?_ | (refine thenQ_nrm ?_; (refine W_seq ?_; (refine W_rgn ?_; ((refine Ra rfl (X_mv rfl ?_)) <;> (refine Ra rfl (X_geq rfl rfl (fun _ => ?_) (fun _ => ?_))) <;> (refine Ra rfl (X_mv rfl ?_)) <;> (first | (refine Rb rfl rfl (X_mv rfl ?_)) | (refine Rc rfl rfl ?_) | (refine Rd rfl rfl ?_)) <;> (first | (refine Rb rfl rfl (X_leq rfl rfl (fun _ => ?_) (fun _ => ?_))) | (refine Rc rfl rfl ?_) | (refine Rd rfl rfl ?_)) <;> (first | (refine Ra rfl (X_pickT rfl rfl ?_)) | (refine Ra rfl (X_pickF rfl rfl ?_)) | (refine Ra rfl (X_pick rfl rfl rfl ?_))) <;> (refine Ra rfl (X_mv rfl ?_)) <;> (first | (refine Rb rfl rfl (X_mv rfl ?_)) | (refine Rc rfl rfl ?_) | (refine Rd rfl rfl ?_)) <;> (first | (refine Rb rfl rfl (X_bin (v := .bool true) rfl rfl rfl ?_)) | (refine Rb rfl rfl (X_bin (v := .bool false) rfl rfl rfl ?_)) | (refine Rb rfl rfl (X_eql rfl rfl (fun _ => ?_) (fun _ => ?_))) | (refine Rb rfl rfl (xEqL rfl rfl (fun _ => ?_) (fun _ => ?_))) | (refine Rb rfl rfl (X_bin rfl rfl rfl ?_)) | (refine Rc rfl rfl ?_) | (refine Rd rfl rfl ?_)) <;> (first | (refine Ra rfl (X_pickT rfl rfl ?_)) | (refine Ra rfl (X_pickF rfl rfl ?_)) | (refine Ra rfl (X_pick rfl rfl rfl ?_))) <;> (refine Ra rfl (X_mv rfl ?_)) <;> (first | (refine Rb rfl rfl (X_mv rfl ?_)) | (refine Rc rfl rfl ?_) | (refine Rd rfl rfl ?_)) <;> (first | (refine Rb rfl rfl (X_bin (v := .bool true) rfl rfl rfl ?_)) | (refine Rb rfl rfl (X_bin (v := .bool false) rfl rfl rfl ?_)) | (refine Rb rfl rfl (X_eql rfl rfl (fun _ => ?_) (fun _ => ?_))) | (refine Rb rfl rfl (xEqL rfl rfl (fun _ => ?_) (fun _ => ?_))) | (refine Rb rfl rfl (X_bin rfl rfl rfl ?_)) | (refine Rc rfl rfl ?_) | (refine Rd rfl rfl ?_)) <;> (first | (refine Ra rfl (X_pickT rfl rfl ?_)) | (refine Ra rfl (X_pickF rfl rfl ?_)) | (refine Ra rfl (X_pick rfl rfl rfl ?_))) <;> (refine Ra rfl (X_mv rfl ?_)) <;> (refine R_nil ?_))) <;> (first | refine thenQ_ret ?_ | refine thenQ_ext ?_ | (refine thenQ_nrm ?_; (refine W_ret ?_)))))))
  <;> (first | refine fnP_ret (Res.tmp rfl Res.nil) ?_ | refine fnP_nrm (Res.tmp rfl Res.nil) ?_)
  all_goals
    refine ⟨_, rfl, ?_⟩
    unfold IsOp
    simp only [Bool.false_eq_true, false_iff, true_iff]
    omega
def ofI (l : List Int) (n : Nat) : Int := (List.range n).foldl (fun s i => s + l.getD i default * 2 ^ i) 0
theorem ofI_succ (l : List Int) (n : Nat) : ofI l (n + 1) = ofI l n + l.getD n default * 2 ^ n := by unfold ofI; rw [List.range_succ, List.foldl_append]; rfl
theorem ofI_bd {l : List Int} : ∀ {n : Nat}, (∀ i, i < n → 0 ≤ l.getD i default ∧ l.getD i default ≤ 1) → 0 ≤ ofI l n ∧ ofI l n < 2 ^ n
  | 0, _ => by simp [ofI]
  | n + 1, h => by
    obtain ⟨h1, h2⟩ := ofI_bd (n := n) fun i hi => h i (by omega)
    have h3 := h n (by omega)
    have hp := pow_pos_ n
    rw [ofI_succ, Int.pow_succ]
    rcases (by omega : l.getD n default = 0 ∨ l.getD n default = 1) with e | e <;> rw [e] <;> omega
set_option maxHeartbeats 4000000 in
theorem ROf_ok (lo : Nat) {Z : Vw} {v : Value} {l : List Int} [hl : IntsL Z v l] (hlen : l.length ≤ 60) (h01 : ∀ i, i < l.length → 0 ≤ l.getD i default ∧ l.getD i default ≤ 1) : CallP F lo 65 [v] Z fun r _ => r = .int .i64 (ofI l l.length) := by
  have hl := hl.out
  have e61 : (2 : Int) ^ 61 = 2305843009213693952 := by decide
  refine FnP (fn := c65) rfl rfl rfl ?_
  (refine W_seq ?_; (refine W_rgn ?_; ((refine Ra rfl (X_mv rfl ?_)) <;> (refine R_nil ?_))) <;> (first | refine thenQ_ret ?_ | refine thenQ_ext ?_ | (refine thenQ_nrm ?_; (refine W_seq ?_; (refine W_rgn ?_; ((refine Ra rfl (X_mv rfl ?_)) <;> (refine R_nil ?_))) <;> (first | refine thenQ_ret ?_ | refine thenQ_ext ?_ | (refine thenQ_nrm ?_; (refine W_seq ?_; (refine W_seq ?_; (refine W_rgn ?_; ((refine Ra rfl (X_mv rfl ?_)) <;> (refine R_nil ?_))) <;> (first | refine thenQ_ret ?_ | refine thenQ_ext ?_ | (refine thenQ_nrm ?_; (refine W_block ?_; ((
      refine wLoop (fun i : Nat => [(4, .int .i64 i), (3, .int .i64 (ofI l i))]) (fun i => []) (fun i Zi => i ≤ l.length) (fun i => l.length - i) 0 (by repeat' (first | exact trivial | exact rfl | constructor)) (Upd.done ⟨Nat.zero_le _, Has.nil⟩) ?_
      intro i Z1 hz1 hp
      have hb := pow_le_ (m := i) (n := 61) (by omega)
      have hb2 := pow_pos_ i
      have hb3 := ofI_bd (l := l) (n := i) (fun j hj => h01 j (by omega))
      have hb4 : i < l.length → l.getD i default * 2 ^ i = 0 ∨ l.getD i default * 2 ^ i = 2 ^ i := fun h => by
        obtain ⟨x1, x2⟩ := h01 i h
        rcases (by omega : l.getD i default = 0 ∨ l.getD i default = 1) with e | e <;> rw [e] <;> simp) <;> (refine W_seq ?_; (refine W_seq ?_; (refine W_rgn ?_; ((refine Ra rfl (X_mv rfl ?_)) <;> (refine Ra rfl (X_mv rfl ?_)) <;> (first | (refine Ra rfl (X_len0 rfl ?_)) | (refine Ra rfl (xLen rfl ?_)) | (refine Ra rfl (xLenX rfl ?_))) <;> (refine Ra rfl (X_lss rfl rfl (fun _ => ?_) (fun _ => ?_))) <;> (refine R_nil ?_))) <;> (first | refine thenQ_ret ?_ | refine thenQ_ext ?_ | (refine thenQ_nrm ?_; (refine W_cond rfl (fun ht => ?_) (fun ht => ?_) <;> (first | exact absurd ht (by decide) | (refine W_skip ?_) | (refine W_exit ?_)))))) <;> (first | refine thenQ_ret ?_ | refine thenQ_ext ?_ | (refine thenQ_nrm ?_; (refine W_seq ?_; (refine W_block ?_; (refine W_drw ?_; ((refine Da rfl rfl (X_mv rfl ?_)) <;> (refine Da rfl rfl (X_mv rfl ?_)) <;> (refine Da rfl rfl (X_mv rfl ?_)) <;> (first | (refine Da rfl rfl (xIa rfl rfl (by omega) (by omega) ?_)) | (refine Da rfl rfl (xIaX rfl rfl (by omega) (by assumption) ?_))) <;> (first | (refine Da rfl rfl (X_load (lB rfl rfl) ?_)) | (refine Da rfl rfl (X_load (lB rfl (cS_at0 (by omega))) ?_)) | (refine Da rfl rfl (X_load (lE rfl (by omega) (cS_at1 (by omega))) ?_)) | (refine Da rfl rfl (X_load (lE0 rfl (by omega) rfl) ?_)) | (refine Da rfl rfl (X_load (lE rfl (by omega) rfl) ?_)) | (refine Da rfl rfl (X_load (lX0 rfl (by assumption) rfl) ?_)) | (refine Da rfl rfl (X_load (lX rfl (by assumption) rfl) ?_))) <;> (refine Da rfl rfl (X_mv rfl ?_)) <;> (refine D_consR rfl (S_do rfl (xP (Pow_ok lo _ (by omega) (by omega)) rfl (fun _ Z17 hz17 hq => ⟨(by (first | refine rDo rfl rfl (lB rfl rfl) ?_ | refine rDo rfl rfl (lB rfl (cS_at0 (by omega))) ?_ | refine rDo rfl rfl (lE rfl (by omega) (cS_at1 (by omega))) ?_ | refine rDo rfl rfl (lE0 rfl (by omega) rfl) ?_ | refine rDo rfl rfl (lE rfl (by omega) rfl) ?_ | refine rDo rfl rfl (lX0 rfl (by assumption) rfl) ?_ | refine rDo rfl rfl (lX rfl (by assumption) rfl) ?_); exact Rck_nil), ?_⟩))); (subst hq)) <;> (first | (refine Da rfl rfl (X_mulI rfl rfl (by first | omega | assumption) (by first | omega | assumption) ?_)) | (refine Da rfl rfl (X_bin rfl rfl rfl ?_))) <;> (first | (refine Da rfl rfl (X_addI rfl rfl (by omega) (by omega) ?_)) | (refine Da rfl rfl (X_bin rfl rfl rfl ?_))) <;> (refine Da rfl rfl (X_mv rfl ?_)) <;> (refine D_nil ?_))) <;> (first | refine blockQ_nrm ?_ | refine blockQ_ret ?_ | refine blockQ_ext ?_ | refine blockQ_far rfl ?_)) <;> (first | refine thenQ_ret ?_ | refine thenQ_ext ?_ | (refine thenQ_nrm ?_; (refine W_rgn ?_; ((refine Ra rfl (X_mv rfl ?_)) <;> (first | (refine Ra rfl (X_addI rfl rfl (by omega) (by omega) ?_)) | (refine Ra rfl (X_bin rfl rfl rfl ?_))) <;> (refine Ra rfl (X_mv rfl ?_)) <;> (refine R_nil ?_))))))))) <;> (first | refine thenQ_ret ?_ | refine thenQ_ext ?_ | (refine thenQ_nrm ?_; (
        refine Upd.done ⟨i + 1, by omega, by omega, ?_, Has.nil⟩
        rw [ofI_succ]
        exact (by repeat' (first | exact trivial | exact rfl | constructor)))))) <;> (first | refine blockQ_nrm ?_ | refine blockQ_ret ?_ | refine blockQ_ext ?_ | refine blockQ_far rfl ?_))))) <;> (first | refine thenQ_ret ?_ | refine thenQ_ext ?_ | (refine thenQ_nrm ?_; (refine W_seq ?_; (refine W_rgn ?_; ((refine Ra rfl (X_mv rfl ?_)) <;> (refine Ra rfl (X_mv rfl ?_)) <;> (refine R_nil ?_))) <;> (first | refine thenQ_ret ?_ | refine thenQ_ext ?_ | (refine thenQ_nrm ?_; (refine W_ret ?_)))))))))))))
  <;> (first | refine fnP_ret (Res.tmp rfl Res.nil) ?_ | refine fnP_nrm (Res.tmp rfl Res.nil) ?_)
  have hi : i = l.length := by omega
  subst hi
  rfl
end Go.Proofs.Ytgaplmpopgdfbaa.Hm.V
