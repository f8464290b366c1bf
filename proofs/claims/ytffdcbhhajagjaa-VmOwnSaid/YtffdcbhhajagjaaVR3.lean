/- The reference's machine of registers: a whole run; the errors. -/
import Derived.Test.YtffdcbhhajagjaaHF
import Derived.Test.YtffdcbhhajagjaaA6
import Derived.Test.YtffdcbhhajagjaaVR2
namespace Go.Proofs.Ytffdcbhhajagjaa.Hm.V
open Go
set_option linter.all false
set_option maxRecDepth 100000
attribute [local irreducible] X S R D W Call Upd Rds Rck Sees Res Cel CallP fnQ
theorem do_end {c : Cd} {pk : List Int} {x : In} {s s' : Cf} {e : Int} (hd : doP c pk x s = (s', some e)) : s' = s := by
  unfold doP at hd
  cases hm : mvP c x s with
  | some s2 => rw [hm] at hd; cases hd
  | none =>
    rw [hm] at hd
    dsimp only at hd
    repeat' split at hd
    all_goals first | (cases hd; rfl) | cases hd
set_option maxHeartbeats 4000000 in
theorem Begin_ok (lo : Nat) {Z : Vw} {v : Value} {st pk : List Int} (hs : StV Z v st pk) (fu : Int) (hst : st.length ≤ 1000) : Call F lo 27 [.int .i64 fu, v] Z [] fun r _ O => ∃ vst vrg, O = [.gro vst 1 ((begC st).st.map cI), .gro (.slice none 0 0) 2 ((begC st).ou.map Ou.c), .gro (.slice none 0 0) 3 ((begC st).tr.map Ev.c), .arr vrg 1 64 ((begC st).rg.map cI), .gro (.slice none 0 0) 1 ((begC st).tl.map cI)] ∧ r = .agg ⟨[.int .i64 (0), vst, .slice none 0 0, .slice none 0 0, .int .i64 (0), .int .i64 ((begC st).us : Nat), .int .i64 (0), vrg, .slice none 0 0, .int .i64 ((begC st).pc), .int .i64 (fu), .bool (false)]⟩ := by
  have hS0 := hs
  obtain ⟨va, vp, rfl, hva, hvp, l3, l4⟩ := hs
  refine Fn (fn := c27) rfl rfl rfl ?_
  (refine W_seq ?_; (refine W_rgn ?_; ((refine Ra rfl (xBox rfl (fun b3 => ?_))) <;> (refine Ra rfl (X_alloc (fun b4 => ?_))) <;> (refine R_nil ?_))) <;> ((refine thenQ_nrm ?_; (refine W_seq ?_; (refine W_drw ?_; ((refine Da rfl rfl (X_faddr rfl ?_)) <;> (refine Da rfl rfl (X_load (lB rfl rfl) ?_)) <;> (refine Da rfl rfl (xMk rfl rfl (by omega) (by omega) (by omega) rfl (fun v9 => ?_))) <;> (refine Da rfl rfl (X_mv rfl ?_)) <;> (refine Da rfl rfl (xCg (Copy_ok lo (by omega)) rfl (fun v7 Z7 hz7 => ?_))) <;> (refine Da rfl rfl (X_buildC (pCons rfl Parts.nil) rfl ?_)) <;> (refine Da rfl rfl (X_buildC (pCons rfl (pCons rfl (pCons rfl Parts.nil))) rfl ?_)) <;> (refine Dn rfl (xSW rfl rfl rfl rfl ?_)) <;> (refine D_nil ?_))) <;> ((refine thenQ_nrm ?_; (refine W_ret ?_)))))))
  <;> (refine fn_ret (rA rfl rfl Res.nil) ?_)
  all_goals
    refine Upd.gro0 (e := 1) (by decide) (Upd.gro0 (e := 3) (by decide) (Upd.gro0 (e := 2) (by decide) ?_))
    refine Upd.has (L := [.gro v7 1 ((begC st).st.map cI), .gro (.slice none 0 0) 2 ((begC st).ou.map Ou.c), .gro (.slice none 0 0) 3 ((begC st).tr.map Ev.c), .arr v9 1 64 ((begC st).rg.map cI), .gro (.slice none 0 0) 1 ((begC st).tl.map cI)]) (hG rfl (hG rfl (hG rfl (hR rfl (hG rfl Has.nil))))) ?_
    exact ⟨_, _, rfl, rfl⟩
set_option maxHeartbeats 4000000 in
theorem Start_ok (lo : Nat) {Z : Vw} {v v2 : Value} {c : Cd} {st pk : List Int} (hv : CdV Z v c) (hs : StV Z v2 st pk) (hh : headP c.w c.vs) : CallP F lo 25 [v, v2] Z fun r _ => ∃ b, r = .bool b ∧ (b = true ↔ startP c st pk) := by
  have hV := hv
  obtain ⟨vv, vi, rfl, hvs, his, l1, l2, hnm⟩ := hv
  have hS0 := hs
  obtain ⟨va, vp, rfl, hva, hvp, l3, l4⟩ := hs
  refine FnP (fn := c25) rfl rfl rfl ?_
  (refine W_seq ?_; (refine W_rgn ?_; ((refine Ra rfl (xBox rfl (fun b2 => ?_))) <;> (refine Ra rfl (xBox rfl (fun b3 => ?_))) <;> (refine Ra rfl (X_mv rfl ?_)) <;> (refine R_nil ?_))) <;> ((refine thenQ_nrm ?_; (refine W_seq ?_; (refine W_rgn ?_; ((refine Ra rfl (X_faddr rfl ?_)) <;> (refine Ra rfl (X_load (lB rfl rfl) ?_)) <;> (refine Ra rfl (X_faddr rfl ?_)) <;> (refine Ra rfl (X_load (lB rfl rfl) ?_)) <;> (refine Ra rfl (X_faddr rfl ?_)) <;> (refine Ra rfl (X_load (lB rfl rfl) ?_)) <;> (refine Ra rfl (xP (Store_ok lo _ hh (by first | assumption | omega)) rfl (fun _ Z11 hz11 hb11 => ?_)); (obtain ⟨b11, rfl, hb11⟩ := hb11; cases b11 <;> simp only [Bool.false_eq_true, false_iff, true_iff] at hb11)) <;> (refine Ra rfl (X_mv rfl ?_)) <;> (first | (refine Rb rfl rfl (X_faddr rfl ?_)) | (refine Rc rfl rfl ?_)) <;> (first | (refine Rb rfl rfl (X_load (lB rfl rfl) ?_)) | (refine Rc rfl rfl ?_)) <;> (first | (refine Rb rfl rfl (xLen rfl ?_)) | (refine Rc rfl rfl ?_)) <;> (first | (refine Rb rfl rfl (X_leq rfl rfl (fun _ => ?_) (fun _ => ?_))) | (refine Rc rfl rfl ?_)) <;> (first | (refine Ra rfl (X_pickT rfl rfl ?_)) | (refine Ra rfl (X_pickF rfl rfl ?_))) <;> (refine Ra rfl (X_mv rfl ?_)) <;> (first | (refine Rb rfl rfl (X_faddr rfl ?_)) | (refine Rc rfl rfl ?_)) <;> (first | (refine Rb rfl rfl (X_load (lB rfl rfl) ?_)) | (refine Rc rfl rfl ?_)) <;> (first | (refine Rb rfl rfl (X_faddr rfl ?_)) | (refine Rc rfl rfl ?_)) <;> (first | (refine Rb rfl rfl (X_load (lB rfl rfl) ?_)) | (refine Rc rfl rfl ?_)) <;> (first | (refine Rb rfl rfl (xP (Words_ok lo _ (by first | assumption | omega)) rfl (fun _ Z23 hz23 hb23 => ?_)); (obtain ⟨b23, rfl, hb23⟩ := hb23; cases b23 <;> simp only [Bool.false_eq_true, false_iff, true_iff] at hb23)) | (refine Rc rfl rfl ?_)) <;> (first | (refine Ra rfl (X_pickT rfl rfl ?_)) | (refine Ra rfl (X_pickF rfl rfl ?_))) <;> (refine Ra rfl (X_mv rfl ?_)) <;> (refine R_nil ?_))) <;> ((refine thenQ_nrm ?_; (refine W_ret ?_)))))))
  <;> (refine fnP_ret (Res.tmp rfl Res.nil) ?_)
  all_goals first
    | exact ⟨_, rfl, fun hh => (by cases hh), fun h => absurd h.1 hb11⟩
    | exact ⟨_, rfl, fun hh => (by cases hh), fun h => absurd h.2.1 (by omega)⟩
    | exact ⟨_, rfl, fun _ => ⟨hb11, by omega, fun i hi => (hb23 i hi).2⟩, fun _ => rfl⟩
    | exact ⟨_, rfl, fun h2 => (by cases h2), fun h => absurd (fun i hi => ⟨hh.1, h.2.2 i hi⟩) hb23⟩
set_option maxHeartbeats 4000000 in
theorem RCheck_ok (lo : Nat) {Z : Vw} {v v2 : Value} {c : Cd} {st pk : List Int} (hv : CdV Z v c) (hs : StV Z v2 st pk) (fu : Int) : CallP F lo 12 [v, .int .i64 fu, v2] Z fun r _ => ∃ e, r = .int .i64 e ∧ ErrV c fu st pk e := by
  have hV := hv
  obtain ⟨vv, vi, rfl, hvs, his, l1, l2, hnm⟩ := hv
  have hS0 := hs
  obtain ⟨va, vp, rfl, hva, hvp, l3, l4⟩ := hs
  refine FnP (fn := c12) rfl rfl rfl ?_
  (refine W_seq ?_; (refine W_rgn ?_; ((refine Ra rfl (xBox rfl (fun b3 => ?_))) <;> (refine Ra rfl (xBox rfl (fun b5 => ?_))) <;> (refine Ra rfl (X_mv rfl ?_)) <;> (refine R_nil ?_))) <;> ((refine thenQ_nrm ?_; (refine W_seq ?_; (refine W_seq ?_; (refine W_rgn ?_; ((refine Ra rfl (X_load (lBA rfl rfl) ?_)) <;> (refine Ra rfl (xP (Is_ok lo (by first | assumption | exact CdV.le (by assumption) ZC.le)) rfl (fun _ Z8 hz8 hb8 => ?_)); (obtain ⟨b8, rfl, hC⟩ := hb8; cases b8 <;> simp only [Bool.false_eq_true, false_iff, true_iff] at hC)) <;> (refine Ra rfl (X_not rfl ?_)) <;> (refine R_nil ?_))) <;> ((refine thenQ_nrm ?_; (refine W_cond rfl (fun ht => ?_) (fun ht => ?_) <;> (first | exact absurd ht (by decide) | (refine W_seq ?_; (refine W_rgn ?_; ((refine Ra rfl (X_mv rfl ?_)) <;> (refine R_nil ?_))) <;> ((refine thenQ_nrm ?_; (refine W_ret ?_)))) | (refine W_skip ?_)))))) <;> (first | refine thenQ_ret ?_ | (refine thenQ_nrm ?_; (refine W_seq ?_; (refine W_seq ?_; (refine W_rgn ?_; ((refine Ra rfl (X_mv rfl ?_)) <;> (refine Ra rfl (X_lss rfl rfl (fun _ => ?_) (fun _ => ?_))) <;> (refine Ra rfl (X_mv rfl ?_)) <;> (first | (refine Rb rfl rfl (X_mv rfl ?_)) | (refine Rc rfl rfl ?_)) <;> (first | (refine Rb rfl rfl (X_gtr rfl rfl (fun _ => ?_) (fun _ => ?_))) | (refine Rc rfl rfl ?_)) <;> (first | (refine Ra rfl (X_pickT rfl rfl ?_)) | (refine Ra rfl (X_pickF rfl rfl ?_))) <;> (refine R_nil ?_))) <;> ((refine thenQ_nrm ?_; (refine W_cond rfl (fun ht => ?_) (fun ht => ?_) <;> (first | exact absurd ht (by decide) | (refine W_seq ?_; (refine W_rgn ?_; ((refine Ra rfl (X_mv rfl ?_)) <;> (refine R_nil ?_))) <;> ((refine thenQ_nrm ?_; (refine W_ret ?_)))) | (refine W_skip ?_)))))) <;> (first | refine thenQ_ret ?_ | (refine thenQ_nrm ?_; (refine W_seq ?_; (refine W_seq ?_; (refine W_rgn ?_; ((refine Ra rfl (X_load (lBA rfl rfl) ?_)) <;> (refine Ra rfl (X_load (lBA rfl rfl) ?_)) <;> (refine Ra rfl (xP (Start_ok lo (by first | assumption | exact CdV.le (by assumption) ZC.le) (by first | assumption | exact StV.le (by assumption) ZC.le) hC.1) rfl (fun _ Z18 hz18 hb18 => ?_)); (obtain ⟨b18, rfl, hb18⟩ := hb18; cases b18 <;> simp only [Bool.false_eq_true, false_iff, true_iff] at hb18)) <;> (refine Ra rfl (X_not rfl ?_)) <;> (refine R_nil ?_))) <;> ((refine thenQ_nrm ?_; (refine W_cond rfl (fun ht => ?_) (fun ht => ?_) <;> (first | exact absurd ht (by decide) | (refine W_seq ?_; (refine W_rgn ?_; ((refine Ra rfl (X_mv rfl ?_)) <;> (refine R_nil ?_))) <;> ((refine thenQ_nrm ?_; (refine W_ret ?_)))) | (refine W_skip ?_)))))) <;> (first | refine thenQ_ret ?_ | (refine thenQ_nrm ?_; (refine W_seq ?_; (refine W_rgn ?_; ((refine Ra rfl (X_mv rfl ?_)) <;> (refine R_nil ?_))) <;> ((refine thenQ_nrm ?_; (refine W_ret ?_))))))))))))))))
  <;> (refine fnP_ret (Res.tmp rfl Res.nil) ?_)
  all_goals first
    | exact ⟨_, rfl, .code hC⟩
    | exact ⟨_, rfl, .arg hC (by omega)⟩
    | exact ⟨_, rfl, .start hC (by omega) hb18⟩
    | exact ⟨_, rfl, .ok hC (by omega) hb18⟩
def zcf : List Value := [.int .i64 0, .slice none 0 0, .slice none 0 0, .slice none 0 0, .int .i64 0, .int .i64 0, .int .i64 0, .slice none 0 0, .slice none 0 0, .int .i64 0, .int .i64 0, .bool false]
set_option maxHeartbeats 4000000 in
theorem RRun_ok (lo : Nat) {Z : Vw} {v v2 : Value} {c : Cd} {st pk : List Int} (hv : CdV Z v c) (hs : StV Z v2 st pk) (fu : Int) (hC : codeP c) (hf : 0 ≤ fu ∧ fu ≤ 4194304) (hS : startP c st pk) : Call F lo 14 [v, .int .i64 fu, v2] Z [] fun r _ O => ∃ vst vou vtr vrg vtl fu', O = [.gro vst 1 (((runV c st pk fu).1).st.map cI), .gro vou 2 (((runV c st pk fu).1).ou.map Ou.c), .gro vtr 3 (((runV c st pk fu).1).tr.map Ev.c), .arr vrg 1 64 (((runV c st pk fu).1).rg.map cI), .gro vtl 1 (((runV c st pk fu).1).tl.map cI)] ∧ r = .agg ⟨[.int .i64 ((runV c st pk fu).2), vst, vou, vtr, .int .i64 (((runV c st pk fu).1.tl.length : Nat)), .int .i64 (((runV c st pk fu).1).us : Nat), .int .i64 (whP (runV c st pk fu).2 (runV c st pk fu).1.pc), vrg, vtl, .int .i64 (((runV c st pk fu).1).pc), .int .i64 (fu'), .bool (true)]⟩ := by
  have hV := hv
  obtain ⟨vv, vi, rfl, hvs, his, l1, l2, hnm⟩ := hv
  have hS0 := hs
  obtain ⟨va, vp, rfl, hva, hvp, l3, l4⟩ := hs
  have hh := hC.1
  have hl18 := hh.2.2.1
  have hf48 := hh.2.2.2.2
  have hsl := hS.1.1
  refine Fn (fn := c14) rfl rfl rfl ?_
  (refine W_seq ?_; (refine W_rgn ?_; ((refine Ra rfl (xBox rfl (fun b3 => ?_))) <;> (refine Ra rfl (xBox rfl (fun b5 => ?_))) <;> (refine Ra rfl (X_alloc (fun b6 => ?_))) <;> (refine R_nil ?_))) <;> ((refine thenQ_nrm ?_; (refine W_seq ?_; (refine W_rgn ?_; ((refine Ra rfl (X_mv rfl ?_)) <;> (refine Ra rfl (X_load (lBA rfl rfl) ?_)) <;> (refine Ra rfl (xN (Begin_ok lo (by first | assumption | exact StV.le (by assumption) ZC.le) _ (by omega)) rfl .nil (fun _ Z10 o10 hz10 ho O2 hO => ?_)); (obtain ⟨vst, vrg, ho, hv9⟩ := ho; subst ho; simp only [List.cons_append, List.nil_append] at hO; subst hO; subst hv9)) <;> (refine Ra rfl (X_alloc (fun b7 => ?_))) <;> (refine Rn (xSW rfl rfl rfl rfl ?_)) <;> (refine R_nil ?_))) <;> ((refine thenQ_nrm ?_; (refine W_seq ?_; (refine W_block ?_; ((
      refine wLoop (fun (p : Nat × Cf × Option Int × Value × Value × Value) => []) (fun p => match p with | (n, s, o, vou, vtr, vtl) => [.box b7 [.int .i64 ((o).getD 0), vst, vou, vtr, .int .i64 (((s).tl.length : Nat)), .int .i64 ((s).us : Nat), .int .i64 (whP ((o).getD 0) (s).pc), vrg, vtl, .int .i64 ((s).pc), .int .i64 ((n : Nat)), .bool ((o).isSome)], .gro vst 1 ((s).st.map cI), .gro vou 2 ((s).ou.map Ou.c), .gro vtr 3 ((s).tr.map Ev.c), .arr vrg 1 64 ((s).rg.map cI), .gro vtl 1 ((s).tl.map cI), .box b3 [.int .i64 c.w, vv, vi], .box b5 [va, vp], .box b6 zcf]) (fun p _ => match p with | (n, s, o, vou, vtr, vtl) => (o = none → Gd c pk s ∧ s.tl.length + n ≤ 4200000 ∧ runP c pk n s = runV c st pk fu) ∧ ∀ e, o = some e → (s, e) = runV c st pk fu) (fun p => match p with | (n, s, o, _) => if o.isSome = true then 0 else n + 1) (fu.toNat, begC st, none, .slice none 0 0, .slice none 0 0, .slice none 0 0) (by repeat' (first | exact trivial | exact rfl | constructor)) (Upd.done ⟨⟨fun _ => ⟨beg_good hC hS, (by show 0 + fu.toNat ≤ _; omega), rfl⟩, fun e h => (by cases h)⟩, hB (by rw [show ((fu.toNat : Nat) : Int) = fu by omega]; exact rfl) (hG rfl (hG rfl (hG rfl (hR rfl (hG rfl (hB rfl (hB rfl (hB rfl Has.nil))))))))⟩) ?_
      rintro ⟨n, s, o, vou, vtr, vtl⟩ Z1 hz1 hp
      obtain ⟨hp1, hp2⟩ : (o = none → Gd c pk s ∧ s.tl.length + n ≤ 4200000 ∧ runP c pk n s = runV c st pk fu) ∧ ∀ e, o = some e → (s, e) = runV c st pk fu := hp
      have hgg : o = none → Gd c pk s := fun h => (hp1 h).1
      rcases o with _ | e
      all_goals try (obtain ⟨hg, hn, hrun⟩ := hp1 rfl)
      all_goals try (have hpc := hg.pc; have hx : rightP c (c.ins.getD s.pc.toNat default) := hg.ins_ok hC; have hgt := hg.tick; have htk : s.tick.tl.length = s.tl.length + 1 := (by simp [Cf.tick]))) <;> (refine W_seq ?_; (refine W_seq ?_; (refine W_rgn ?_; ((refine Ra rfl (X_faddr rfl ?_)) <;> (refine Ra rfl (X_load (lB rfl rfl) ?_)) <;> (first | (refine Ra rfl (X_not (b := true) rfl ?_)) | (refine Ra rfl (X_not (b := false) rfl ?_))) <;> (refine R_nil ?_))) <;> ((refine thenQ_nrm ?_; (refine W_cond rfl (fun ht => ?_) (fun ht => ?_) <;> (first | exact absurd ht (by decide) | (refine W_skip ?_) | (refine W_exit ?_)))))) <;> (first | refine thenQ_ext ?_ | (refine thenQ_nrm ?_; (refine W_block ?_; (refine W_seq ?_; (refine W_seq ?_; (refine W_rgn ?_; ((refine Ra rfl (X_faddr rfl ?_)) <;> (refine Ra rfl (X_load (lB rfl rfl) ?_)) <;> (refine Ra rfl (X_eql rfl rfl (fun _ => ?_) (fun _ => ?_))) <;> (refine R_nil ?_))) <;> ((refine thenQ_nrm ?_; (refine W_cond rfl (fun ht => ?_) (fun ht => ?_) <;> (first | exact absurd ht (by decide) | (refine W_seq ?_; (refine W_rgn ?_; ((refine Ra rfl (X_load (lBA rfl rfl) ?_)) <;> (refine Ra rfl (xP (stop_ok lo (s := s) _) rfl (fun _ Z18 hz18 hq => ?_)); (subst hq)) <;> (refine Rn (xSW rfl rfl rfl rfl ?_)) <;> (refine R_nil ?_))) <;> ((refine thenQ_nrm ?_; (refine W_ret ?_)))) | (refine W_skip ?_)))))) <;> (first | refine thenQ_ret ?_ | (refine thenQ_nrm ?_; (refine W_seq ?_; (refine W_rgn ?_; ((refine Ra rfl (X_faddr rfl ?_)) <;> (refine Ra rfl (X_load (lB rfl rfl) ?_)) <;> (refine Ra rfl (X_subI rfl rfl (by omega) (by omega) ?_)) <;> (refine Ra rfl (X_faddr rfl ?_)) <;> (refine Rn (xSB rfl rfl rfl rfl rfl ?_)) <;> (refine R_nil ?_))) <;> ((refine thenQ_nrm ?_; (refine W_seq ?_; (refine W_rgn ?_; ((refine Ra rfl (X_faddr rfl ?_)) <;> (refine Ra rfl (X_faddr rfl ?_)) <;> (refine Ra rfl (X_load (lB rfl rfl) ?_)) <;> (refine Ra rfl (X_addI rfl rfl (by omega) (by omega) ?_)) <;> (refine Ra rfl (X_faddr rfl ?_)) <;> (refine Ra rfl (X_faddr rfl ?_)) <;> (refine Rn (xSB rfl rfl rfl rfl rfl ?_)) <;> (refine R_nil ?_))) <;> ((refine thenQ_nrm ?_; (refine W_seq ?_; (refine W_rgn ?_; ((refine Ra rfl (X_faddr rfl ?_)) <;> (refine Ra rfl (X_load (lB rfl rfl) ?_)) <;> (refine Ra rfl (X_faddr rfl ?_)) <;> (refine Ra rfl (X_load (lB rfl rfl) ?_)) <;> (refine Ra rfl (X_bsliceC (pCons rfl Parts.nil) rfl rfl rfl (fun v33 => ?_))) <;> (refine Ra rfl (xApGm (fe := cI) s.pc rfl rfl rfl (by omega) (fun v34 => ?_))) <;> (refine Ra rfl (X_faddr rfl ?_)) <;> (refine Rn (xSB rfl rfl rfl rfl rfl ?_)) <;> (refine R_nil ?_))) <;> ((refine thenQ_nrm ?_; (refine W_drw ?_; ((refine Da rfl rfl (X_load (lBA rfl rfl) ?_)) <;> (refine Da rfl rfl (X_faddr rfl ?_)) <;> (refine Da rfl rfl (X_load (lB rfl rfl) ?_)) <;> (refine Da rfl rfl (X_load (lBA rfl rfl) ?_)) <;> (refine Da rfl rfl (X_faddr rfl ?_)) <;> (refine Da rfl rfl (X_load (lB rfl rfl) ?_)) <;> (refine Da rfl rfl (X_faddr rfl ?_)) <;> (refine Da rfl rfl (X_load (lB rfl rfl) ?_)) <;> (refine Da rfl rfl (xIa rfl rfl (by omega) (by omega) ?_)) <;> (refine Da rfl rfl (X_load (lEA rfl (by omega)) ?_)) <;> (refine Da rfl rfl (xN (do_ok lo (by first | assumption | exact CdV.le (by assumption) ZC.le) (s := s.tick) (pk := pk) (c.ins.getD s.pc.toNat default) (hvp.le ZC.le) hh hS.2.1 hgt hx (by omega) hC.2.2.1) rfl (pG rfl (pG rfl (pG rfl (pA rfl (pG rfl .nil))))) (fun _ Z46 o46 hz46 ho O2 hO => ?_)); (obtain ⟨vou2, vtr2, ho, hv9⟩ := ho; subst ho; simp only [List.cons_append, List.nil_append] at hO; subst hO; subst hv9)) <;> (refine Dn rfl (xSW rfl rfl rfl rfl ?_)) <;> (refine D_nil ?_))))))))))))))) <;> (first | refine blockQ_nrm ?_ | refine blockQ_ret ?_))))) <;> (first | refine thenQ_ret ?_ | refine thenQ_ext ?_ | (refine thenQ_nrm ?_; (
        rcases hd : doP c pk (c.ins.getD s.pc.toNat default) s.tick with ⟨s', _ | e⟩
        · obtain ⟨g1, g2⟩ := Gd.step hC hS.2.2 hg hd
          refine Upd.done ⟨(n - 1, s', none, vou2, vtr2, v34), ?_, ⟨fun _ => ⟨g1, ?_, ?_⟩, fun e h => (by cases h)⟩, trivial, hB ?_ (hG rfl (hG rfl (hG rfl (hR rfl (hG ?_ (hB rfl (hB rfl (hB rfl Has.nil))))))))⟩
          · show n - 1 + 1 < n + 1
            omega
          · rw [g2, List.length_append, List.length_singleton]; omega
          · rw [← run_go hd (by omega)]; exact hrun
          · rw [g2, List.length_append, show ((n - 1 : Nat) : Int) = (n : Int) - 1 by omega]; rfl
          · first | (rw [g2, List.map_append]; done) | (rw [g2, List.map_append]; rfl)
        · obtain rfl := do_end hd
          refine Upd.done ⟨(n - 1, s.tick, some e, vou2, vtr2, v34), ?_, ⟨fun h => (by cases h), fun e2 h => ?_⟩, trivial, hB ?_ (hG rfl (hG rfl (hG rfl (hR rfl (hG ?_ (hB rfl (hB rfl (hB rfl Has.nil))))))))⟩
          · show 0 < n + 1
            omega
          · cases h
            rw [← hrun]; exact (run_end hd (by omega)).symm
          · rw [htk, show ((n - 1 : Nat) : Int) = (n : Int) - 1 by omega]; rfl
          · first | rfl | (show _ = List.map cI (s.tl ++ [s.pc]); rw [List.map_append]))))) <;> (first | refine blockQ_ret ?_ | refine blockQ_ext ?_)) <;> (first | refine thenQ_ret ?_ | (refine thenQ_nrm ?_; (refine W_seq ?_; (refine W_rgn ?_; ((refine Ra rfl (X_load (lBA rfl rfl) ?_)) <;> (refine Rn (xSW rfl rfl rfl rfl ?_)) <;> (refine R_nil ?_))) <;> ((refine thenQ_nrm ?_; (refine W_ret ?_)))))))))))))
  <;> (refine fn_ret (rA rfl rfl Res.nil) ?_)
  all_goals first
    | (have h0 : n = 0 := by omega
       subst h0
       rw [run_0] at hrun
       rw [← hrun]
       refine Upd.has (L := [.gro vst 1 ((s).st.map cI), .gro vou 2 ((s).ou.map Ou.c), .gro vtr 3 ((s).tr.map Ev.c), .arr vrg 1 64 ((s).rg.map cI), .gro vtl 1 ((s).tl.map cI)]) (hG rfl (hG rfl (hG rfl (hR rfl (hG rfl Has.nil))))) ?_
       exact ⟨_, _, _, _, _, _, rfl, rfl⟩)
    | (rw [← hp2 e rfl]
       refine Upd.has (L := [.gro vst 1 ((s).st.map cI), .gro vou 2 ((s).ou.map Ou.c), .gro vtr 3 ((s).tr.map Ev.c), .arr vrg 1 64 ((s).rg.map cI), .gro vtl 1 ((s).tl.map cI)]) (hG rfl (hG rfl (hG rfl (hR rfl (hG rfl Has.nil))))) ?_
       exact ⟨_, _, _, _, _, _, rfl, rfl⟩)
end Go.Proofs.Ytffdcbhhajagjaa.Hm.V
