/- Of layer 27: ref27.Lift. -/
import Derived.Test.YtbjgnogcjglcoaaHF
import Derived.Test.YtbjgnogcjglcoaaA6
import Derived.Test.YtbjgnogcjglcoaaVT7
namespace Go.Proofs.Ytbjgnogcjglcoaa.Hm.V
open Go
set_option linter.all false
set_option maxRecDepth 100000
attribute [local irreducible] X S R D W Call Upd Rds Rck Sees Res Cel CallP fnQ
set_option maxHeartbeats 4000000 in
theorem LiftR_ok (lo : Nat) {Z : Vw} {v vt : Value} {a : Au} {fr : List Int} [ht : IntsL Z vt fr] (ha : AuV Z v a) (hA : isAutoP a) (hok : liftOk a fr) : CallP F lo 46 [v, vt] Z fun r Z' => AuV Z' r (liftAu a fr) := by
  have ht := ht.out
  obtain ⟨r1, r2, hlt⟩ := hok
  have hS0 := hA.1
  have hS1 := hA.2.1
  have hL0 := hA.2.2.1
  have hL1 := hA.2.2.2.1
  have hedl := hA.2.2.2.2.1
  have hrst := hA.2.2.2.2.2.1
  have hren := hA.2.2.2.2.2.2.1
  have hstl := rising_len hrst hS0
  have henl := rising_len hren hS0
  have hedi := edsIn.of hA
  have hV := ha
  obtain ⟨vs, ve, vg, rfl, hs, he, hg, q1, q2, q3⟩ := ha
  refine FnP (fn := c46) rfl rfl rfl ?_
  (refine W_seq ?_; (refine W_rgn ?_; ((refine Ra rfl (xBox rfl (fun b2 => ?_))) <;> (refine Ra rfl (X_alloc (fun b4 => ?_))) <;> (refine R_nil ?_))) <;> ((refine thenQ_nrm ?_; (refine W_seq ?_; (refine W_rgn ?_; ((refine Ra rfl (X_faddr rfl ?_)) <;> (refine Ra rfl (X_load (lB rfl rfl) ?_)) <;> (refine Ra rfl (X_mv rfl ?_)) <;> (refine Ra rfl (xLen rfl ?_)) <;> (refine Ra rfl (X_faddr rfl ?_)) <;> (refine Ra rfl (X_load (lB rfl rfl) ?_)) <;> (refine Ra rfl (X_faddr rfl ?_)) <;> (refine Ra rfl (X_load (lB rfl rfl) ?_)) <;> (refine Ra rfl (X_buildC (pCons rfl (pCons rfl (pCons rfl (pCons rfl Parts.nil)))) rfl ?_)) <;> (refine Ra rfl (X_alloc (fun b5 => ?_))) <;> (refine Rn (xSW rfl rfl rfl rfl ?_)) <;> (refine R_nil ?_))) <;> ((refine thenQ_nrm ?_; (refine W_seq ?_; (refine W_seq ?_; (refine W_rgn ?_; ((refine Ra rfl (X_mv rfl ?_)) <;> (refine R_nil ?_))) <;> ((refine thenQ_nrm ?_; (refine W_block ?_; ((
      refine wLoop (fun p : Nat × Value => match p with | (m, we) => [(6, .int .i64 (m : Nat))]) (fun p => match p with | (m, we) => [.box b5 [.int .i64 a.S, .int .i64 fr.length, vs, ve, we], .gro we 3 ((liftN a.ed fr m).map Ed.c), .box b4 [.int .i64 0, .int .i64 0, .slice none 0 0, .slice none 0 0, .slice none 0 0], .box b2 [.int .i64 a.S, .int .i64 a.L, vs, ve, vg]]) (fun p _ => match p with | (m, _) => m ≤ fr.length) (fun p => match p with | (m, _) => fr.length - m) (0, .slice none 0 0) (by repeat' (first | exact trivial | exact rfl | constructor))
        (Upd.gro0 (e := 3) (by decide) (Upd.done ⟨Nat.zero_le _, hB rfl (hG (by simp [liftN]) (hB rfl (hB rfl Has.nil)))⟩)) ?_
      rintro ⟨m, we⟩ Z3 hz3 hm2
      have hm2 : m ≤ fr.length := hm2
      have hfl := hlt m
      have hN := liftN_small fr hedl m) <;> (refine W_seq ?_; (refine W_seq ?_; (refine W_rgn ?_; ((refine Ra rfl (X_mv rfl ?_)) <;> (refine Ra rfl (X_mv rfl ?_)) <;> (refine Ra rfl (xLen rfl ?_)) <;> (refine Ra rfl (X_lss rfl rfl (fun _ => ?_) (fun _ => ?_))) <;> (refine R_nil ?_))) <;> ((refine thenQ_nrm ?_; (refine W_cond rfl (fun ht => ?_) (fun ht => ?_) <;> (first | exact absurd ht (by decide) | (refine W_skip ?_) | (refine W_exit ?_)))))) <;> (first | refine thenQ_ext ?_ | (refine thenQ_nrm ?_; (refine W_seq ?_; (refine W_block ?_; (refine W_seq ?_; (refine W_rgn ?_; ((refine Ra rfl (X_mv rfl ?_)) <;> (refine R_nil ?_))) <;> ((refine thenQ_nrm ?_; (refine W_block ?_; ((
      refine wLoop (fun p : Nat × Value => match p with | (i, we) => [(7, .int .i64 (i : Nat))]) (fun p => match p with | (i, we) => [.box b5 [.int .i64 a.S, .int .i64 fr.length, vs, ve, we], .gro we 3 ((liftN a.ed fr m ++ (byL (a.ed.take i) (fr.getD m default).toNat).map (liftE m)).map Ed.c), .box b4 [.int .i64 0, .int .i64 0, .slice none 0 0, .slice none 0 0, .slice none 0 0], .box b2 [.int .i64 a.S, .int .i64 a.L, vs, ve, vg]]) (fun p _ => match p with | (i, _) => i ≤ a.ed.length) (fun p => match p with | (i, _) => a.ed.length - i) (0, we) (by repeat' (first | exact trivial | exact rfl | constructor))
        (Upd.done ⟨Nat.zero_le _, hB rfl (hG (by simp [byL]) (hB rfl (hB rfl Has.nil)))⟩) ?_
      rintro ⟨i, we⟩ Z4 hz4 hi
      have hi : i ≤ a.ed.length := hi
      have hel := fun h : i < a.ed.length => hedi _ (getD_mem h)
      have hM := byL_le (a.ed.take i) (fr.getD m default).toNat
      rw [List.length_take] at hM
      have htl : (liftN a.ed fr m ++ (byL (a.ed.take i) (fr.getD m default).toNat).map (liftE m)).length = (liftN a.ed fr m).length + (byL (a.ed.take i) (fr.getD m default).toNat).length := by rw [List.length_append, List.length_map]) <;> (refine W_seq ?_; (refine W_seq ?_; (refine W_rgn ?_; ((refine Ra rfl (X_mv rfl ?_)) <;> (refine Ra rfl (X_faddr rfl ?_)) <;> (refine Ra rfl (X_load (lB rfl rfl) ?_)) <;> (refine Ra rfl (xLen rfl ?_)) <;> (refine Ra rfl (X_lss rfl rfl (fun _ => ?_) (fun _ => ?_))) <;> (refine R_nil ?_))) <;> ((refine thenQ_nrm ?_; (refine W_cond rfl (fun ht => ?_) (fun ht => ?_) <;> (first | exact absurd ht (by decide) | (refine W_skip ?_) | (refine W_exit ?_)))))) <;> (first | refine thenQ_ext ?_ | (refine thenQ_nrm ?_; (refine W_seq ?_; (refine W_block ?_; (refine W_seq ?_; (refine W_drw ?_; ((refine Da rfl rfl (X_faddr rfl ?_)) <;> (refine Da rfl rfl (X_load (lB rfl rfl) ?_)) <;> (refine Da rfl rfl (X_mv rfl ?_)) <;> (refine Da rfl rfl (xIa rfl rfl (by omega) (by omega) ?_)) <;> (refine Da rfl rfl (X_faddr rfl ?_)) <;> (refine Da rfl rfl (X_load (lE rfl (by omega) rfl) ?_)) <;> (refine Da rfl rfl (X_mv rfl ?_)) <;> (refine Da rfl rfl (X_mv rfl ?_)) <;> (refine Da rfl rfl (xIa rfl rfl (by omega) (by omega) ?_)) <;> (refine Da rfl rfl (X_load (lE0 rfl (by omega) rfl) ?_)) <;> (refine Da rfl rfl (X_eql rfl rfl (fun _ => ?_) (fun _ => ?_))) <;> (refine D_nil ?_))) <;> ((refine thenQ_nrm ?_; (refine W_cond rfl (fun ht => ?_) (fun ht => ?_) <;> (first | exact absurd ht (by decide) | (refine W_drw ?_; ((refine Da rfl rfl (X_faddr rfl ?_)) <;> (refine Da rfl rfl (X_load (lB rfl rfl) ?_)) <;> (refine Da rfl rfl (X_faddr rfl ?_)) <;> (refine Da rfl rfl (X_load (lB rfl rfl) ?_)) <;> (refine Da rfl rfl (X_mv rfl ?_)) <;> (refine Da rfl rfl (xIa rfl rfl (by omega) (by omega) ?_)) <;> (refine Da rfl rfl (X_faddr rfl ?_)) <;> (refine Da rfl rfl (X_load (lE0 rfl (by omega) rfl) ?_)) <;> (refine Da rfl rfl (X_mv rfl ?_)) <;> (refine Da rfl rfl (X_faddr rfl ?_)) <;> (refine Da rfl rfl (X_load (lB rfl rfl) ?_)) <;> (refine Da rfl rfl (X_mv rfl ?_)) <;> (refine Da rfl rfl (xIa rfl rfl (by omega) (by omega) ?_)) <;> (refine Da rfl rfl (X_faddr rfl ?_)) <;> (refine Da rfl rfl (X_load (lE rfl (by omega) rfl) ?_)) <;> (refine Da rfl rfl (X_buildC (pCons rfl (pCons rfl (pCons rfl Parts.nil))) rfl ?_)) <;> (refine Da rfl rfl (X_bsliceC (pCons rfl Parts.nil) rfl rfl rfl (fun v57 => ?_))) <;> (refine Da rfl rfl (xApGm (fe := Ed.c) (liftE m (a.ed.getD i default)) rfl rfl rfl (by omega) (fun v58 => ?_))) <;> (refine Da rfl rfl (X_faddr rfl ?_)) <;> (refine Dn rfl (xSB rfl rfl rfl rfl rfl ?_)) <;> (refine D_nil ?_))) | (refine W_skip ?_)))))) <;> (refine blockQ_nrm ?_)) <;> ((refine thenQ_nrm ?_; (refine W_rgn ?_; ((refine Ra rfl (X_mv rfl ?_)) <;> (refine Ra rfl (X_addI rfl rfl (by omega) (by omega) ?_)) <;> (refine Ra rfl (X_mv rfl ?_)) <;> (refine R_nil ?_))))))))) <;> (first | refine thenQ_ext ?_ | (refine thenQ_nrm ?_; (
        refine Upd.done ⟨(i + 1, _), ?_, ?_, (by repeat' (first | exact trivial | exact rfl | constructor)), (hB rfl (hG ?_ (hB rfl (hB rfl Has.nil))))⟩
        · show a.ed.length - (i + 1) < a.ed.length - i
          omega
        · show i + 1 ≤ a.ed.length
          omega
        · rw [byL_take (by omega)]
          first
            | (rw [if_pos (by omega)]; simp only [List.map_append, List.map_cons, List.map_nil, List.append_assoc])
            | rw [if_neg (by omega)])))) <;> (refine blockQ_ext ?_))))) <;> (refine blockQ_nrm ?_)) <;> ((refine thenQ_nrm ?_; (refine W_rgn ?_; ((refine Ra rfl (X_mv rfl ?_)) <;> (refine Ra rfl (X_addI rfl rfl (by omega) (by omega) ?_)) <;> (refine Ra rfl (X_mv rfl ?_)) <;> (refine R_nil ?_))))))))) <;> (first | refine thenQ_ext ?_ | (refine thenQ_nrm ?_; (
        obtain rfl : i = a.ed.length := by omega
        refine Upd.done ⟨(m + 1, _), ?_, ?_, (by repeat' (first | exact trivial | exact rfl | constructor)), (hB rfl (hG ?_ (hB rfl (hB rfl Has.nil))))⟩
        · show fr.length - (m + 1) < fr.length - m
          omega
        · show m + 1 ≤ fr.length
          omega
        · rw [List.take_length]; rfl)))) <;> (refine blockQ_ext ?_))))) <;> ((refine thenQ_nrm ?_; (refine W_seq ?_; (refine W_rgn ?_; ((refine Ra rfl (X_load (lBA rfl rfl) ?_)) <;> (refine Rn (xSW rfl rfl rfl rfl ?_)) <;> (refine R_nil ?_))) <;> ((refine thenQ_nrm ?_; (refine W_ret ?_)))))))))))))
  <;> (refine fn_ret (rA rfl rfl Res.nil) ?_)
  obtain rfl : m = fr.length := by omega
  exact uG we fun Z9 hz9 f3 => Upd.nil ⟨rfl, vs, ve, we, rfl, hs.le ZC.le, he.le ZC.le, f3, q1, q2, (by show (liftN a.ed fr fr.length).length < _; omega)⟩
end Go.Proofs.Ytbjgnogcjglcoaa.Hm.V
