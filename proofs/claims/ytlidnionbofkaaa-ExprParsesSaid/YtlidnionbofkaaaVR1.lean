import Derived.Test.YtlidnionbofkaaaHF
import Derived.Test.YtlidnionbofkaaaA6
import Derived.Test.YtlidnionbofkaaaVR0
import Derived.Test.YtlidnionbofkaaaVX0
namespace Go.Proofs.Ytlidnionbofkaaa.Hm.V
open Go
set_option linter.all false
set_option maxRecDepth 100000
attribute [local irreducible] X XG S R D W Call CallG Upd Rds Rck Sees Res Cel CallP fnQ fnG
set_option maxHeartbeats 4000000 in
theorem rrunT_ok (lo : Nat) {s : List UInt8} {a0 : Nat} (hs : s.length < 1000000) (ha : a0 ≤ s.length) {Z : Vw} : CallP F lo 91 [.string ⟨⟨s⟩⟩, .int .i64 a0, .bool true] Z fun r _ => r = .int .i64 ((a0 + spanB isNam (s.drop a0) : Nat) : Int) := by
  refine FnP (fn := c91) rfl rfl rfl ?_
  (refine W_seq ?_; (refine W_rgn ?_; ((refine Ra rfl (X_mv rfl ?_)) <;> (refine R_nil ?_))) <;> ((refine thenQ_nrm ?_; (refine W_seq ?_; (refine W_block ?_; ((
      refine wLoop (fun i : Nat => [(1, .int .i64 i)]) (fun _ => []) (fun i _ => a0 ≤ i ∧ i ≤ s.length ∧ spanB isNam (s.drop a0) = (i - a0) + spanB isNam (s.drop i)) (fun i => s.length - i) a0 (by repeat' (first | exact trivial | exact rfl | constructor)) (Upd.done ⟨⟨Nat.le_refl _, ha, by omega⟩, Has.nil⟩) ?_
      intro i Z1 hz1 hp
      obtain ⟨hi0, hi, hp⟩ := hp) <;> (refine W_seq ?_; (refine W_seq ?_; (refine W_rgn ?_; ((refine Ra rfl (X_mv rfl ?_)) <;> (refine Ra rfl (X_mv rfl ?_)) <;> (refine Ra rfl (xLenL rfl ?_)) <;> (refine Ra rfl (X_lss rfl rfl (fun _ => ?_) (fun _ => ?_))) <;> (refine Ra rfl (X_mv rfl ?_)) <;> (first | (refine Rb rfl rfl (X_mv rfl ?_)) | (refine Rc rfl rfl ?_)) <;> (first | (refine Rb rfl rfl (X_mv rfl ?_)) | (refine Rc rfl rfl ?_)) <;> (first | (refine Rb rfl rfl (xIdL rfl rfl (by omega) (by omega) ?_)) | (refine Rc rfl rfl ?_)) <;> (first | (refine Rb rfl rfl (xP (digit_ok lo _) rfl (fun _ Z15 hz15 hb15 => ?_)); (obtain ⟨b15, rfl, hb15⟩ := hb15; cases b15 <;> simp only [Bool.false_eq_true, false_iff, true_iff] at hb15)) | (refine Rc rfl rfl ?_)) <;> (first | (refine Rb rfl rfl (X_mv rfl ?_)) | (refine Rc rfl rfl ?_)) <;> (first | (refine Rb rfl rfl (X_mv rfl ?_)) | (refine Rc rfl rfl ?_) | (refine Rd rfl rfl ?_)) <;> (first | (refine Rb rfl rfl (X_mv rfl ?_)) | (refine Rc rfl rfl ?_) | (refine Rd rfl rfl ?_)) <;> (first | (refine Rb rfl rfl (X_mv rfl ?_)) | (refine Rd rfl rfl ?_)) <;> (first | (refine Rb rfl rfl (X_mv rfl ?_)) | (refine Rd rfl rfl ?_)) <;> (first | (refine Rb rfl rfl (xIdL rfl rfl (by omega) (by omega) ?_)) | (refine Rd rfl rfl ?_)) <;> (first | (refine Rb rfl rfl (xP (letter_ok lo _) rfl (fun _ Z22 hz22 hb22 => ?_)); (obtain ⟨b22, rfl, hb22⟩ := hb22; cases b22 <;> simp only [Bool.false_eq_true, false_iff, true_iff] at hb22)) | (refine Rd rfl rfl ?_)) <;> (first | (refine Rb rfl rfl (X_mv rfl ?_)) | (refine Rd rfl rfl ?_)) <;> (first | (refine Rb rfl rfl (X_mv rfl ?_)) | (refine Rc rfl rfl ?_) | (refine Rd rfl rfl ?_)) <;> (first | (refine Rb rfl rfl (X_mv rfl ?_)) | (refine Rc rfl rfl ?_) | (refine Rd rfl rfl ?_)) <;> (first | (refine Rb rfl rfl (xIdL rfl rfl (by omega) (by omega) ?_)) | (refine Rc rfl rfl ?_) | (refine Rd rfl rfl ?_)) <;> (first | (refine Rb rfl rfl (X_eql rfl rfl (fun _ => ?_) (fun _ => ?_))) | (refine Rc rfl rfl ?_) | (refine Rd rfl rfl ?_)) <;> (first | (refine Rb rfl rfl (X_pickT rfl rfl ?_)) | (refine Rb rfl rfl (X_pickF rfl rfl ?_)) | (refine Rd rfl rfl ?_)) <;> (first | (refine Rb rfl rfl (X_pickT rfl rfl ?_)) | (refine Rc rfl rfl ?_) | (refine Rd rfl rfl ?_)) <;> (first | (refine Rb rfl rfl (X_pickT rfl rfl ?_)) | (refine Rb rfl rfl (X_pickF rfl rfl ?_)) | (refine Rc rfl rfl ?_)) <;> (first | (refine Ra rfl (X_pickT rfl rfl ?_)) | (refine Ra rfl (X_pickF rfl rfl ?_))) <;> (refine R_nil ?_))) <;> ((refine thenQ_nrm ?_; (refine W_cond rfl (fun ht => ?_) (fun ht => ?_) <;> (first | exact absurd ht (by decide) | (refine W_skip ?_) | (refine W_exit ?_)))))) <;> (first | refine thenQ_ext ?_ | (refine thenQ_nrm ?_; (refine W_block ?_; (refine W_rgn ?_; ((refine Ra rfl (X_mv rfl ?_)) <;> (refine Ra rfl (X_addI rfl rfl (by omega) (by omega) ?_)) <;> (refine Ra rfl (X_mv rfl ?_)) <;> (refine R_nil ?_))) <;> (refine blockQ_nrm ?_))))) <;> (first | refine thenQ_ext ?_ | (refine thenQ_nrm ?_; (
        have hpc : isNam (s.getD i default) = true := by
          first
            | assumption
            | (simp only [isNam, Bool.or_eq_true, decide_eq_true_eq]; first | exact .inl (.inl (by assumption)) | exact .inl (.inr (by assumption)) | exact .inr (by omega))
        refine Upd.done ⟨i + 1, by omega, ⟨by omega, by omega, ?_⟩, (by repeat' (first | exact trivial | exact rfl | constructor)), Has.nil⟩
        rw [hp, spanA_step (by omega), if_pos hpc]
        omega)))) <;> (refine blockQ_ext ?_)) <;> ((refine thenQ_nrm ?_; (refine W_seq ?_; (refine W_rgn ?_; ((refine Ra rfl (X_mv rfl ?_)) <;> (refine Ra rfl (X_mv rfl ?_)) <;> (refine R_nil ?_))) <;> ((refine thenQ_nrm ?_; (refine W_ret ?_))))))))))
  <;> (refine fnP_ret (Res.tmp rfl Res.nil) ?_)
  all_goals
    refine congrArg (Value.int .i64) ?_
    rw [hp]
    first
      | (rw [spanA_end (by omega)]; omega)
      | (have hpc : ¬ isNam (s.getD i default) = true := by
           first
             | assumption
             | (simp only [isNam, Bool.or_eq_true, decide_eq_true_eq]
                rintro ((h | h) | h)
                · exact absurd h (by assumption)
                · exact absurd h (by assumption)
                · omega)
         rw [spanA_step (by omega), if_neg hpc]; omega)
set_option maxHeartbeats 4000000 in
theorem rrunF_ok (lo : Nat) {s : List UInt8} {a0 : Nat} (hs : s.length < 1000000) (ha : a0 ≤ s.length) {Z : Vw} : CallP F lo 91 [.string ⟨⟨s⟩⟩, .int .i64 a0, .bool false] Z fun r _ => r = .int .i64 ((a0 + spanB isDig (s.drop a0) : Nat) : Int) := by
  refine FnP (fn := c91) rfl rfl rfl ?_
  (refine W_seq ?_; (refine W_rgn ?_; ((refine Ra rfl (X_mv rfl ?_)) <;> (refine R_nil ?_))) <;> ((refine thenQ_nrm ?_; (refine W_seq ?_; (refine W_block ?_; ((
      refine wLoop (fun i : Nat => [(1, .int .i64 i)]) (fun _ => []) (fun i _ => a0 ≤ i ∧ i ≤ s.length ∧ spanB isDig (s.drop a0) = (i - a0) + spanB isDig (s.drop i)) (fun i => s.length - i) a0 (by repeat' (first | exact trivial | exact rfl | constructor)) (Upd.done ⟨⟨Nat.le_refl _, ha, by omega⟩, Has.nil⟩) ?_
      intro i Z1 hz1 hp
      obtain ⟨hi0, hi, hp⟩ := hp) <;> (refine W_seq ?_; (refine W_seq ?_; (refine W_rgn ?_; ((refine Ra rfl (X_mv rfl ?_)) <;> (refine Ra rfl (X_mv rfl ?_)) <;> (refine Ra rfl (xLenL rfl ?_)) <;> (refine Ra rfl (X_lss rfl rfl (fun _ => ?_) (fun _ => ?_))) <;> (refine Ra rfl (X_mv rfl ?_)) <;> (first | (refine Rb rfl rfl (X_mv rfl ?_)) | (refine Rc rfl rfl ?_)) <;> (first | (refine Rb rfl rfl (X_mv rfl ?_)) | (refine Rc rfl rfl ?_)) <;> (first | (refine Rb rfl rfl (xIdL rfl rfl (by omega) (by omega) ?_)) | (refine Rc rfl rfl ?_)) <;> (first | (refine Rb rfl rfl (xP (digit_ok lo _) rfl (fun _ Z15 hz15 hb15 => ?_)); (obtain ⟨b15, rfl, hb15⟩ := hb15; cases b15 <;> simp only [Bool.false_eq_true, false_iff, true_iff] at hb15)) | (refine Rc rfl rfl ?_)) <;> (first | (refine Rb rfl rfl (X_mv rfl ?_)) | (refine Rc rfl rfl ?_)) <;> (first | (refine Rb rfl rfl (X_mv rfl ?_)) | (refine Rc rfl rfl ?_) | (refine Rd rfl rfl ?_)) <;> (first | (refine Rb rfl rfl (X_mv rfl ?_)) | (refine Rc rfl rfl ?_) | (refine Rd rfl rfl ?_)) <;> (first | (refine Rc rfl rfl ?_) | (refine Rd rfl rfl ?_)) <;> (first | (refine Rc rfl rfl ?_) | (refine Rd rfl rfl ?_)) <;> (first | (refine Rc rfl rfl ?_) | (refine Rd rfl rfl ?_)) <;> (first | (refine Rc rfl rfl ?_) | (refine Rd rfl rfl ?_)) <;> (first | (refine Rc rfl rfl ?_) | (refine Rd rfl rfl ?_)) <;> (refine Rd rfl rfl ?_) <;> (refine Rd rfl rfl ?_) <;> (refine Rd rfl rfl ?_) <;> (refine Rd rfl rfl ?_) <;> (first | (refine Rc rfl rfl ?_) | (refine Rd rfl rfl ?_)) <;> (first | (refine Rb rfl rfl (X_pickF rfl rfl ?_)) | (refine Rc rfl rfl ?_) | (refine Rd rfl rfl ?_)) <;> (first | (refine Rb rfl rfl (X_pickT rfl rfl ?_)) | (refine Rb rfl rfl (X_pickF rfl rfl ?_)) | (refine Rc rfl rfl ?_)) <;> (first | (refine Ra rfl (X_pickT rfl rfl ?_)) | (refine Ra rfl (X_pickF rfl rfl ?_))) <;> (refine R_nil ?_))) <;> ((refine thenQ_nrm ?_; (refine W_cond rfl (fun ht => ?_) (fun ht => ?_) <;> (first | exact absurd ht (by decide) | (refine W_skip ?_) | (refine W_exit ?_)))))) <;> (first | refine thenQ_ext ?_ | (refine thenQ_nrm ?_; (refine W_block ?_; (refine W_rgn ?_; ((refine Ra rfl (X_mv rfl ?_)) <;> (refine Ra rfl (X_addI rfl rfl (by omega) (by omega) ?_)) <;> (refine Ra rfl (X_mv rfl ?_)) <;> (refine R_nil ?_))) <;> (refine blockQ_nrm ?_))))) <;> (first | refine thenQ_ext ?_ | (refine thenQ_nrm ?_; (
        have hpc : isDig (s.getD i default) = true := by
          first
            | assumption
            | (simp only [isNam, Bool.or_eq_true, decide_eq_true_eq]; first | exact .inl (.inl (by assumption)) | exact .inl (.inr (by assumption)) | exact .inr (by omega))
        refine Upd.done ⟨i + 1, by omega, ⟨by omega, by omega, ?_⟩, (by repeat' (first | exact trivial | exact rfl | constructor)), Has.nil⟩
        rw [hp, spanA_step (by omega), if_pos hpc]
        omega)))) <;> (refine blockQ_ext ?_)) <;> ((refine thenQ_nrm ?_; (refine W_seq ?_; (refine W_rgn ?_; ((refine Ra rfl (X_mv rfl ?_)) <;> (refine Ra rfl (X_mv rfl ?_)) <;> (refine R_nil ?_))) <;> ((refine thenQ_nrm ?_; (refine W_ret ?_))))))))))
  <;> (refine fnP_ret (Res.tmp rfl Res.nil) ?_)
  all_goals
    refine congrArg (Value.int .i64) ?_
    rw [hp]
    first
      | (rw [spanA_end (by omega)]; omega)
      | (have hpc : ¬ isDig (s.getD i default) = true := by
           first
             | assumption
             | (simp only [isNam, Bool.or_eq_true, decide_eq_true_eq]
                rintro ((h | h) | h)
                · exact absurd h (by assumption)
                · exact absurd h (by assumption)
                · omega)
         rw [spanA_step (by omega), if_neg hpc]; omega)
set_option maxHeartbeats 4000000 in
theorem rnext_ok (lo : Nat) {s : List UInt8} {i : Nat} {vm : Value} (hs : s.length < 1000000) (hi : i < s.length) {Z : Vw} (hmk : Fz Z 1 vm (marksL.map encS1)) : CallP F lo 60 [.string ⟨⟨s⟩⟩, .int .i64 i, vm] Z fun r _ => nxP s i r := by
  refine FnP (fn := c60) rfl rfl rfl ?_
  (refine W_seq ?_; (refine W_rgn ?_; ((refine Ra rfl (X_alloc (fun b6 => ?_))) <;> (refine Ra rfl (X_mv rfl ?_)) <;> (refine R_nil ?_))) <;> ((refine thenQ_nrm ?_; (refine W_seq ?_; (refine W_seq ?_; (refine W_rgn ?_; ((refine Ra rfl (X_mv rfl ?_)) <;> (refine Ra rfl (X_mv rfl ?_)) <;> (refine Ra rfl (xIdL rfl rfl (by omega) (by omega) ?_)) <;> (refine Ra rfl (X_eql rfl rfl (fun he12 => ?_) (fun he12 => ?_))) <;> (refine R_nil ?_))) <;> ((refine thenQ_nrm ?_; (refine W_cond rfl (fun ht => ?_) (fun ht => ?_) <;> (first | exact absurd ht (by decide) | (refine W_seq ?_; (refine W_rgn ?_; ((refine Ra rfl (X_buildC (pCons rfl (pCons rfl Parts.nil)) rfl ?_)) <;> (refine Rn (xSW rfl rfl rfl rfl ?_)) <;> (refine Ra rfl (X_mv rfl ?_)) <;> (refine R_nil ?_))) <;> ((refine thenQ_nrm ?_; (refine W_ret ?_)))) | (refine W_skip ?_)))))) <;> (first | refine thenQ_ret ?_ | (refine thenQ_nrm ?_; (refine W_seq ?_; (refine W_seq ?_; (refine W_rgn ?_; ((refine Ra rfl (X_mv rfl ?_)) <;> (refine Ra rfl (X_mv rfl ?_)) <;> (refine Ra rfl (xIdL rfl rfl (by omega) (by omega) ?_)) <;> (refine Ra rfl (xP (digit_ok lo _) rfl (fun _ Z17 hz17 hb17 => ?_)); (obtain ⟨b17, rfl, hb17⟩ := hb17; cases b17 <;> simp only [Bool.false_eq_true, false_iff, true_iff] at hb17)) <;> (refine R_nil ?_))) <;> ((refine thenQ_nrm ?_; (refine W_cond rfl (fun ht => ?_) (fun ht => ?_) <;> (first | exact absurd ht (by decide) | (refine W_seq ?_; (refine W_rgn ?_; ((refine Ra rfl (X_mv rfl ?_)) <;> (refine Ra rfl (X_mv rfl ?_)) <;> (refine Ra rfl (X_mv rfl ?_)) <;> (refine Ra rfl (X_mv rfl ?_)) <;> (refine Ra rfl (xP (rrunF_ok lo hs (by omega)) rfl (fun _ Z22 hz22 hq => ?_)); (subst hq; have hsb := spanB_le isDig (s.drop i); rw [List.length_drop] at hsb)) <;> (refine Ra rfl (xSlE (i + spanB isDig (s.drop i)) rfl rfl rfl (by omega) (by omega) (by omega) (by omega) ?_)) <;> (refine Ra rfl (X_buildC (pCons rfl (pCons rfl Parts.nil)) rfl ?_)) <;> (refine Rn (xSW rfl rfl rfl rfl ?_)) <;> (refine Ra rfl (X_mv rfl ?_)) <;> (refine R_nil ?_))) <;> ((refine thenQ_nrm ?_; (refine W_ret ?_)))) | (refine W_skip ?_)))))) <;> (first | refine thenQ_ret ?_ | (refine thenQ_nrm ?_; (refine W_seq ?_; (refine W_seq ?_; (refine W_rgn ?_; ((refine Ra rfl (X_mv rfl ?_)) <;> (refine Ra rfl (X_mv rfl ?_)) <;> (refine Ra rfl (xIdL rfl rfl (by omega) (by omega) ?_)) <;> (refine Ra rfl (xP (letter_ok lo _) rfl (fun _ Z28 hz28 hb28 => ?_)); (obtain ⟨b28, rfl, hb28⟩ := hb28; cases b28 <;> simp only [Bool.false_eq_true, false_iff, true_iff] at hb28)) <;> (refine R_nil ?_))) <;> ((refine thenQ_nrm ?_; (refine W_cond rfl (fun ht => ?_) (fun ht => ?_) <;> (first | exact absurd ht (by decide) | (refine W_seq ?_; (refine W_rgn ?_; ((refine Ra rfl (X_mv rfl ?_)) <;> (refine Ra rfl (X_mv rfl ?_)) <;> (refine Ra rfl (X_mv rfl ?_)) <;> (refine Ra rfl (X_mv rfl ?_)) <;> (refine Ra rfl (xP (rrunT_ok lo hs (by omega)) rfl (fun _ Z33 hz33 hq => ?_)); (subst hq; have hsb := spanB_le isNam (s.drop i); rw [List.length_drop] at hsb)) <;> (refine Ra rfl (xSlE (i + spanB isNam (s.drop i)) rfl rfl rfl (by omega) (by omega) (by omega) (by omega) ?_)) <;> (refine Ra rfl (X_buildC (pCons rfl (pCons rfl Parts.nil)) rfl ?_)) <;> (refine Rn (xSW rfl rfl rfl rfl ?_)) <;> (refine Ra rfl (X_mv rfl ?_)) <;> (refine R_nil ?_))) <;> ((refine thenQ_nrm ?_; (refine W_ret ?_)))) | (refine W_skip ?_)))))) <;> (first | refine thenQ_ret ?_ | (refine thenQ_nrm ?_; (refine W_seq ?_; (refine W_seq ?_; (refine W_rgn ?_; ((refine Ra rfl (X_mv rfl ?_)) <;> (refine R_nil ?_))) <;> ((refine thenQ_nrm ?_; (refine W_block ?_; ((
      have hml : marksL.length = 20 := rfl
      refine wLoop (fun j : Nat => [(8, .int .i64 j)]) (fun _ => [.box b6 [.int .i64 0, .string ⟨⟨[]⟩⟩]]) (fun j _ => j ≤ 20 ∧ ∀ k, k < j → ¬ preB (marksL.getD k default) (s.drop i) = true) (fun j => 20 - j) 0 (by repeat' (first | exact trivial | exact rfl | constructor)) (Upd.done ⟨⟨Nat.zero_le _, fun k hk => absurd hk (by omega)⟩, hB rfl Has.nil⟩) ?_
      intro j Z1 hz1 hp
      obtain ⟨hj, hp⟩ := hp
      have hmk1 : (marksL.map encS1).length = 20 := rfl
      have hpr := preA (m := marksL.getD j default) (s := s) (i := i) (by omega)) <;> (refine W_seq ?_; (refine W_seq ?_; (refine W_rgn ?_; ((refine Ra rfl (X_mv rfl ?_)) <;> (refine Ra rfl (X_mv rfl ?_)) <;> (refine Ra rfl (xLen rfl ?_)) <;> (refine Ra rfl (X_lss rfl rfl (fun _ => ?_) (fun _ => ?_))) <;> (refine R_nil ?_))) <;> ((refine thenQ_nrm ?_; (refine W_cond rfl (fun ht => ?_) (fun ht => ?_) <;> (first | exact absurd ht (by decide) | (refine W_skip ?_) | (refine W_exit ?_)))))) <;> (first | refine thenQ_ext ?_ | (refine thenQ_nrm ?_; (refine W_seq ?_; (refine W_block ?_; (refine W_seq ?_; (refine W_drw ?_; ((refine Da rfl rfl (X_mv rfl ?_)) <;> (refine Da rfl rfl (xLenL rfl ?_)) <;> (refine Da rfl rfl (X_mv rfl ?_)) <;> (refine Da rfl rfl (X_subI rfl rfl (by omega) (by omega) ?_)) <;> (refine Da rfl rfl (X_mv rfl ?_)) <;> (refine Da rfl rfl (X_mv rfl ?_)) <;> (refine Da rfl rfl (xIa rfl rfl (by omega) (by omega) ?_)) <;> (refine Da rfl rfl (X_load (lE0 rfl (by omega) rfl) ?_)) <;> (refine Da rfl rfl (xLenL rfl ?_)) <;> (refine Da rfl rfl (X_geq rfl rfl (fun he51 => ?_) (fun he51 => ?_))) <;> (refine Da rfl rfl (X_mv rfl ?_)) <;> (first | (refine Db rfl rfl rfl (X_mv rfl ?_)) | (refine Dc rfl rfl rfl ?_)) <;> (first | (refine Db rfl rfl rfl (X_mv rfl ?_)) | (refine Dc rfl rfl rfl ?_)) <;> (first | (refine Db rfl rfl rfl (X_mv rfl ?_)) | (refine Dc rfl rfl rfl ?_)) <;> (first | (refine Db rfl rfl rfl (X_mv rfl ?_)) | (refine Dc rfl rfl rfl ?_)) <;> (first | (refine Db rfl rfl rfl (X_mv rfl ?_)) | (refine Dc rfl rfl rfl ?_)) <;> (first | (refine Db rfl rfl rfl (xIa rfl rfl (by omega) (by omega) ?_)) | (refine Dc rfl rfl rfl ?_)) <;> (first | (refine Db rfl rfl rfl (X_load (lE0 rfl (by omega) rfl) ?_)) | (refine Dc rfl rfl rfl ?_)) <;> (first | (refine Db rfl rfl rfl (xLenL rfl ?_)) | (refine Dc rfl rfl rfl ?_)) <;> (first | (refine Db rfl rfl rfl (X_addI rfl rfl (by omega) (by omega) ?_)) | (refine Dc rfl rfl rfl ?_)) <;> (first | (refine Db rfl rfl rfl (xSlE (i + (marksL.getD j default).length) rfl rfl rfl (by omega) (by omega) (by omega) (by omega) ?_)) | (refine Dc rfl rfl rfl ?_)) <;> (first | (refine Db rfl rfl rfl (X_mv rfl ?_)) | (refine Dc rfl rfl rfl ?_)) <;> (first | (refine Db rfl rfl rfl (X_mv rfl ?_)) | (refine Dc rfl rfl rfl ?_)) <;> (first | (refine Db rfl rfl rfl (xIa rfl rfl (by omega) (by omega) ?_)) | (refine Dc rfl rfl rfl ?_)) <;> (first | (refine Db rfl rfl rfl (X_load (lE0 rfl (by omega) rfl) ?_)) | (refine Dc rfl rfl rfl ?_)) <;> (first | (refine Db rfl rfl rfl (xEqL rfl rfl (fun he67 => ?_) (fun he67 => ?_))) | (refine Dc rfl rfl rfl ?_)) <;> (first | (refine Da rfl rfl (X_pickT rfl rfl ?_)) | (refine Da rfl rfl (X_pickF rfl rfl ?_))) <;> (refine D_nil ?_))) <;> ((refine thenQ_nrm ?_; (refine W_cond rfl (fun ht => ?_) (fun ht => ?_) <;> (first | exact absurd ht (by decide) | (refine W_seq ?_; (refine W_rgn ?_; ((refine Ra rfl (X_mv rfl ?_)) <;> (refine Ra rfl (X_mv rfl ?_)) <;> (refine Ra rfl (xIa rfl rfl (by omega) (by omega) ?_)) <;> (refine Ra rfl (X_load (lE0 rfl (by omega) rfl) ?_)) <;> (refine Ra rfl (X_buildC (pCons rfl (pCons rfl Parts.nil)) rfl ?_)) <;> (refine Rn (xSW rfl rfl rfl rfl ?_)) <;> (refine Ra rfl (X_mv rfl ?_)) <;> (refine R_nil ?_))) <;> ((refine thenQ_nrm ?_; (refine W_ret ?_)))) | (refine W_skip ?_)))))) <;> (first | refine blockQ_nrm ?_ | refine blockQ_ret ?_)) <;> (first | refine thenQ_ret ?_ | (refine thenQ_nrm ?_; (refine W_rgn ?_; ((refine Ra rfl (X_mv rfl ?_)) <;> (refine Ra rfl (X_addI rfl rfl (by omega) (by omega) ?_)) <;> (refine Ra rfl (X_mv rfl ?_)) <;> (refine R_nil ?_))))))))) <;> (first | refine thenQ_ret ?_ | refine thenQ_ext ?_ | (refine thenQ_nrm ?_; (
        have hb : ¬ preB (marksL.getD j default) (s.drop i) = true := by
          intro h
          have := hpr.1 h
          first
            | omega
            | (rw [Nat.add_sub_cancel_left] at he67; exact he67 this.2)
        refine Upd.done ⟨j + 1, by omega, ⟨by omega, fun k hk => ?_⟩, (by repeat' (first | exact trivial | exact rfl | constructor)), hB rfl Has.nil⟩
        rcases Nat.lt_or_ge k j with h | h
        · exact hp k h
        · obtain rfl : k = j := by omega
          exact hb)))) <;> (first | refine blockQ_ret ?_ | refine blockQ_ext ?_))))) <;> (first | refine thenQ_ret ?_ | (refine thenQ_nrm ?_; (refine W_seq ?_; (refine W_rgn ?_; ((refine Ra rfl (X_buildC Parts.nil rfl ?_)) <;> (refine Rn (xSW rfl rfl rfl rfl ?_)) <;> (refine Ra rfl (X_mv rfl ?_)) <;> (refine R_nil ?_))) <;> ((refine thenQ_nrm ?_; (refine W_ret ?_)))))))))))))))))))
  <;> (refine fnP_ret (rA rfl rfl (Res.tmp rfl Res.nil)) ?_)
  all_goals
    first
      | exact nx_one hi (by omega)
      | exact nx_dig hi (by omega) (by assumption) (Nat.add_sub_cancel_left ..)
      | exact nx_let hi (by assumption) (by assumption) (Nat.add_sub_cancel_left ..)
      | (rw [Nat.add_sub_cancel_left] at he67
         exact nx_mark hi (by assumption) (by assumption) (by omega) (hpr.2 ⟨by omega, he67⟩) hp)
      | exact nx_no hi (by assumption) (by assumption) (fun k hk => hp k (by omega))
end Go.Proofs.Ytlidnionbofkaaa.Hm.V
