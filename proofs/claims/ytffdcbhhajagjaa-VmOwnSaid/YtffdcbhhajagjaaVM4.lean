/- The program's machine of registers: goes. -/
import Derived.Test.YtffdcbhhajagjaaHF
import Derived.Test.YtffdcbhhajagjaaA6
import Derived.Test.YtffdcbhhajagjaaVM3
namespace Go.Proofs.Ytffdcbhhajagjaa.Hm.V
open Go
set_option linter.all false
set_option maxRecDepth 100000
attribute [local irreducible] X S R D W Call Upd Rds Rck Sees Res Cel CallP fnQ
theorem Gd.tick {c : Cd} {pk : List Int} {s : Cf} (h : Gd c pk s) : Gd c pk s.tick := by
  have h1 := h.ol
  have h2 := h.tl
  have h3 : s.tick.tl.length = s.tl.length + 1 := by simp [Cf.tick]
  exact ⟨h.rl, h.rw', h.pc, h.sl, h.sw, h.us, by rw [h3]; show s.ou.length ≤ _; omega, by rw [h3]; show s.tr.length ≤ _; omega⟩
theorem mv_keep {c : Cd} {x : In} {s s' : Cf} (h : mvP c x s = some s') : s'.pc = s.pc ∧ s'.us = s.us ∧ s'.tl = s.tl := by
  unfold mvP at h
  repeat' split at h
  all_goals first
    | (cases h; exact ⟨rfl, rfl, rfl⟩)
    | cases h
theorem mv_none {c : Cd} {x : In} {s : Cf} (h : mvP c x s = none) : x.o ≠ 0 ∧ x.o ≠ 1 ∧ x.o ≠ 2 ∧ x.o ≠ 3 ∧ x.o ≠ 4 ∧ x.o ≠ 7 := by
  unfold mvP at h
  by_cases h0 : x.o = 0
  · rw [if_pos h0] at h; cases h
  by_cases h1 : x.o = 1
  · rw [if_neg h0, if_pos h1] at h; cases h
  by_cases h2 : x.o = 2
  · rw [if_neg h0, if_neg h1, if_pos h2] at h; cases h
  by_cases h3 : x.o = 3
  · rw [if_neg h0, if_neg h1, if_neg h2, if_pos h3] at h; cases h
  by_cases h4 : x.o = 4
  · rw [if_neg h0, if_neg h1, if_neg h2, if_neg h3, if_pos h4] at h; cases h
  by_cases h7 : x.o = 7
  · rw [if_neg h0, if_neg h1, if_neg h2, if_neg h3, if_neg h4, if_pos h7] at h; cases h
  exact ⟨h0, h1, h2, h3, h4, h7⟩
theorem no_op {c : Cd} {x : In} {s : Cf} (hx : rightP c x) (h : mvP c x s = none) (h5 : x.o ≠ 5) (h6 : x.o ≠ 6) (h8 : x.o ≠ 8) (h9 : x.o ≠ 9) (h10 : x.o ≠ 10) (h11 : x.o ≠ 11) : False := by
  obtain ⟨q0, q1, q2, q3, q4, q7⟩ := mv_none h
  rw [right_e q0 q1 q2 q3 q4 h5 h6 q7 h8 h9 h10] at hx
  rw [hx] at h11
  exact h11 rfl
section
variable {c : Cd} {pk : List Int} {x : In} {s s' : Cf}
theorem do_mv (h : mvP c x s = some s') : doP c pk x s = ({ s' with pc := s.pc + 1 }, none) := by unfold doP; rw [h]
theorem do_5 (h : mvP c x s = none) (ho : x.o = 5) : doP c pk x s = ({ s with pc := x.a }, none) := by unfold doP; rw [h]; simp [ho]
theorem do_6z (h : mvP c x s = none) (ho : x.o = 6) (hz : s.r x.a = 0) : doP c pk x s = ({ s with tr := s.tr ++ [⟨0, s.pc, 1⟩], pc := x.b }, none) := by unfold doP; rw [h]; simp [ho, hz]
theorem do_6n (h : mvP c x s = none) (ho : x.o = 6) (hz : s.r x.a ≠ 0) : doP c pk x s = ({ s with tr := s.tr ++ [⟨0, s.pc, 0⟩], pc := s.pc + 1 }, none) := by unfold doP; rw [h]; simp [ho, hz]
theorem do_8e (h : mvP c x s = none) (ho : x.o = 8) (hz : pk.length ≤ s.us) : doP c pk x s = (s, some 4) := by unfold doP; rw [h]; simp [ho, hz]
theorem do_8 (h : mvP c x s = none) (ho : x.o = 8) (hz : s.us < pk.length) : doP c pk x s = ({ s with rg := s.rg.set x.a.toNat (pk.getD s.us default), us := s.us + 1, pc := s.pc + 1 }, none) := by unfold doP; rw [h]; simp [ho, Nat.not_le.2 hz]
theorem do_9z (h : mvP c x s = none) (ho : x.o = 9) (hz : s.r x.a = 0) : doP c pk x s = (s, some 1) := by unfold doP; rw [h]; simp [ho, hz]
theorem do_9n (h : mvP c x s = none) (ho : x.o = 9) (hz : s.r x.a ≠ 0) : doP c pk x s = ({ s with pc := s.pc + 1 }, none) := by unfold doP; rw [h]; simp [ho, hz]
theorem do_10z (h : mvP c x s = none) (ho : x.o = 10) (hz : s.r x.a = 0) : doP c pk x s = (s, some 2) := by unfold doP; rw [h]; simp [ho, hz]
theorem do_10n (h : mvP c x s = none) (ho : x.o = 10) (hz : s.r x.a ≠ 0) : doP c pk x s = ({ s with pc := s.pc + 1 }, none) := by unfold doP; rw [h]; simp [ho, hz]
theorem do_11 (h : mvP c x s = none) (ho : x.o = 11) : doP c pk x s = (s, some 0) := by unfold doP; rw [h]; simp [ho]
theorem run_go {n : Nat} (h : doP c pk (s.ins c) s.tick = (s', none)) (hn : 0 < n) : runP c pk n s = runP c pk (n - 1) s' := by
  obtain ⟨m, rfl⟩ : ∃ m, n = m + 1 := ⟨n - 1, by omega⟩
  rw [runP, h]; rfl
theorem run_end {n : Nat} {e : Int} (h : doP c pk (s.ins c) s.tick = (s', some e)) (hn : 0 < n) : runP c pk n s = (s', e) := by
  obtain ⟨m, rfl⟩ : ∃ m, n = m + 1 := ⟨n - 1, by omega⟩
  rw [runP, h]
theorem run_0 : runP c pk 0 s = (s, 3) := rfl
end
def whP (e p : Int) : Int := if e = 0 then 0 else p
def zst : List Value := stC (List.replicate 64 0) [.int .i64 0, .int .i64 0, .slice none 0 0, .slice none 0 0, .slice none 0 0, .int .i64 0, .int .i64 0, .int .i64 0]
set_option maxHeartbeats 4000000 in
theorem end_ok (lo : Nat) {Z : Vw} {bs : Nat} {rg : List Int} {pc co us : Int} {en wh vst vou vtr : Value} (e : Int) (hrl : rg.length = 64) : Call F lo 45 [.int .i64 e, .pointer (some ⟨bs, 0, none⟩)] Z [.box bs (stC rg [.int .i64 pc, en, vst, vou, vtr, .int .i64 co, .int .i64 us, wh])] fun r _ O => O = [] ∧ r = .agg ⟨stC rg [.int .i64 pc, .int .i64 e, vst, vou, vtr, .int .i64 co, .int .i64 us, .int .i64 (whP e pc)]⟩ := by
  refine Fn (fn := c45) rfl rfl rfl ?_
  (refine W_seq ?_; (refine W_rgn ?_; ((refine Ra rfl (X_alloc (fun b3 => ?_))) <;> (refine R_nil ?_))) <;> ((refine thenQ_nrm ?_; (refine W_seq ?_; (refine W_rgn ?_; ((refine Ra rfl (X_mv rfl ?_)) <;> (refine Ra rfl (X_faddr rfl ?_)) <;> (refine Ra rfl (X_load (lB rfl (by exact st_at 0 (by first | exact hrl | (rw [List.length_set]; exact hrl)) rfl)) ?_)) <;> (refine Ra rfl (X_faddr rfl ?_)) <;> (refine Ra rfl (X_faddr rfl ?_)) <;> (refine Rn (xSB rfl rfl rfl (by exact st_ble (by first | exact hrl | (rw [List.length_set]; exact hrl)) rfl (by omega)) (by exact st_put 1 (by first | exact hrl | (rw [List.length_set]; exact hrl)) rfl rfl) ?_)) <;> (refine Ra rfl (X_faddr rfl ?_)) <;> (refine Ra rfl (X_faddr rfl ?_)) <;> (refine Rn (xSB rfl rfl rfl (by exact st_ble (by first | exact hrl | (rw [List.length_set]; exact hrl)) rfl (by omega)) (by exact st_put 7 (by first | exact hrl | (rw [List.length_set]; exact hrl)) rfl rfl) ?_)) <;> (refine R_nil ?_))) <;> ((refine thenQ_nrm ?_; (refine W_seq ?_; (refine W_seq ?_; (refine W_rgn ?_; ((refine Ra rfl (X_mv rfl ?_)) <;> (refine Ra rfl (X_eql rfl rfl (fun _ => ?_) (fun _ => ?_))) <;> (refine R_nil ?_))) <;> ((refine thenQ_nrm ?_; (refine W_cond rfl (fun ht => ?_) (fun ht => ?_) <;> (first | exact absurd ht (by decide) | (refine W_rgn ?_; ((refine Ra rfl (X_faddr rfl ?_)) <;> (refine Ra rfl (X_faddr rfl ?_)) <;> (refine Rn (xSB rfl rfl rfl (by exact st_ble (by first | exact hrl | (rw [List.length_set]; exact hrl)) rfl (by omega)) (by exact st_put 7 (by first | exact hrl | (rw [List.length_set]; exact hrl)) rfl rfl) ?_)) <;> (refine R_nil ?_))) | (refine W_skip ?_)))))) <;> ((refine thenQ_nrm ?_; (refine W_seq ?_; (refine W_rgn ?_; ((refine Ra rfl (X_load (lBA rfl (by exact st_beq (by first | exact hrl | (rw [List.length_set]; exact hrl)) rfl)) ?_)) <;> (refine Rn (xSW rfl rfl (by exact st_beq (by assumption) rfl) rfl ?_)) <;> (refine R_nil ?_))) <;> ((refine thenQ_nrm ?_; (refine W_ret ?_)))))))))))))
  <;> (refine fn_ret (rA rfl (by exact st_beq hrl rfl) Res.nil) ?_)
  all_goals
    refine Upd.nil ⟨rfl, ?_⟩
    unfold whP
    first
      | (rw [if_pos (by assumption)]; rfl)
      | (rw [if_neg (by assumption)]; rfl)
theorem mv_len {c : Cd} {x : In} {s s' : Cf} (h : mvP c x s = some s') (hl : s.rg.length = 64) : s'.rg.length = 64 := by
  unfold mvP at h
  repeat' split at h
  all_goals first
    | (cases h; first | exact hl | (show (s.rg.set _ _).length = 64; rw [List.length_set]; exact hl))
    | cases h
set_option maxHeartbeats 4000000 in
theorem goes_ok (lo : Nat) {Z : Vw} {c : Cd} {vv vi vf vp vt vst vou vtr : Value} {fs pk : List Int} (hvs : Vrs Z vv c.vs) (his : Ins Z vi c.ins) (hfs : Ints Z vf fs) (hfl : fs.length = c.vs.length) (hfe : ∀ i, i < fs.length → fs.getD i default = firstV c.vs i) (hvp : Ints Z vp pk) (hC : codeP c) (hk : wdsP c.w pk) (hpl : pk.length ≤ 16) {bm n0 : Nat} {s0 : Cf} (hg : Gd c pk s0) (hn0 : s0.tl.length + n0 ≤ 4200000) : Call F lo 31 [.pointer (some ⟨bm, 0, none⟩), .agg ⟨stC s0.rg [.int .i64 s0.pc, .int .i64 0, vst, vou, vtr, .int .i64 (s0.tl.length : Nat), .int .i64 (s0.us : Nat), .int .i64 0]⟩, .int .i64 (n0 : Nat)] Z [.box bm [.int .i64 c.w, vv, vi, vf, vp, vt], .gro vst 1 ((s0).st.map cI), .gro vou 2 ((s0).ou.map Ou.c), .gro vtr 3 ((s0).tr.map Ev.c), .gro vt 1 ((s0).tl.map cI)] fun r _ O => ∃ vou' vtr' vt', O = [.box bm [.int .i64 c.w, vv, vi, vf, vp, vt'], .gro vst 1 (((runP c pk n0 s0).1).st.map cI), .gro vou' 2 (((runP c pk n0 s0).1).ou.map Ou.c), .gro vtr' 3 (((runP c pk n0 s0).1).tr.map Ev.c), .gro vt' 1 (((runP c pk n0 s0).1).tl.map cI)] ∧ r = .agg ⟨stC ((runP c pk n0 s0).1).rg [.int .i64 ((runP c pk n0 s0).1).pc, .int .i64 ((runP c pk n0 s0).2), vst, vou', vtr', .int .i64 (((runP c pk n0 s0).1).tl.length : Nat), .int .i64 (((runP c pk n0 s0).1).us : Nat), .int .i64 (whP ((runP c pk n0 s0).2) ((runP c pk n0 s0).1).pc)]⟩ := by
  have hh := hC.1
  have hrl := hg.rl
  refine Fn (fn := c31) rfl rfl rfl ?_
  (refine W_seq ?_; (refine W_rgn ?_; ((refine Ra rfl (xBox rfl (fun b4 => ?_))) <;> (refine Ra rfl (X_alloc (fun b6 => ?_))) <;> (refine R_nil ?_))) <;> ((refine thenQ_nrm ?_; (refine W_seq ?_; (refine W_rgn ?_; ((refine Ra rfl (X_mkfunc rfl rfl ?_)) <;> (refine Ra rfl (X_mv rfl ?_)) <;> (refine R_nil ?_))) <;> ((refine thenQ_nrm ?_; (refine W_seq ?_; (refine W_skip ?_) <;> ((refine thenQ_nrm ?_; (refine W_seq ?_; (refine W_block ?_; ((
      refine wLoop (fun (p : Nat × Cf × Value × Value × Value) => match p with | (n, s, vou, vtr, vt) => [(2, .int .i64 (n : Nat))]) (fun p => match p with | (n, s, vou, vtr, vt) => [.box b4 (stC (s).rg [.int .i64 (s).pc, .int .i64 0, vst, vou, vtr, .int .i64 (s.tl.length : Nat), .int .i64 ((s).us : Nat), .int .i64 0]), .box b6 zst, .box bm [.int .i64 c.w, vv, vi, vf, vp, vt], .gro vst 1 ((s).st.map cI), .gro vou 2 ((s).ou.map Ou.c), .gro vtr 3 ((s).tr.map Ev.c), .gro vt 1 ((s).tl.map cI)]) (fun p _ => match p with | (n, s, vou, vtr, vt) => Gd c pk s ∧ s.tl.length + n ≤ 4200000 ∧ runP c pk n s = runP c pk n0 s0) (fun p => match p with | (n, _) => n) (n0, s0, vou, vtr, vt) (by repeat' (first | exact trivial | exact rfl | constructor)) (Upd.done ⟨⟨hg, hn0, rfl⟩, hB rfl (hB rfl (hB rfl (hG rfl (hG rfl (hG rfl (hG rfl Has.nil))))))⟩) ?_
      rintro ⟨n, s, vou, vtr, vt⟩ Z1 hz1 hp
      obtain ⟨hg, hn, hrun⟩ : Gd c pk s ∧ s.tl.length + n ≤ 4200000 ∧ runP c pk n s = runP c pk n0 s0 := hp
      have hrl := hg.rl
      have hrl' : s.tick.rg.length = 64 := hg.rl
      have hpc := hg.pc
      have hx : rightP c (c.ins.getD s.pc.toNat default) := hg.ins_ok hC
      have hgt := hg.tick
      have hus := hg.us
      have htr := hg.tl
      have htk : s.tick.tl.length = s.tl.length + 1 := by simp [Cf.tick]
      have hln := hC.2.2.1
      have htr2 : s.tick.tr.length ≤ s.tl.length := hg.tl
      have hus2 : s.tick.us ≤ pk.length := hg.us
      have hpc2 : 0 ≤ s.tick.pc ∧ s.tick.pc < c.ins.length := hg.pc) <;> (refine W_block ?_; (refine W_seq ?_; (refine W_seq ?_; (refine W_rgn ?_; ((refine Ra rfl (X_mv rfl ?_)) <;> (refine Ra rfl (X_eql rfl rfl (fun _ => ?_) (fun _ => ?_))) <;> (refine R_nil ?_))) <;> ((refine thenQ_nrm ?_; (refine W_cond rfl (fun ht => ?_) (fun ht => ?_) <;> (first | exact absurd ht (by decide) | (refine W_seq ?_; (refine W_rgn ?_; ((refine Ra rfl (X_mv rfl ?_)) <;> (refine Ra rfl (xD rfl rfl (end_ok lo _ (by assumption)) (pB rfl .nil) (fun r15 Z15 o15 hz15 ho O2 hO => ?_)); (obtain ⟨ho, hr⟩ := ho; subst ho; subst hr; simp only [List.nil_append] at hO; subst hO)) <;> (refine Rn (xSW rfl rfl (by exact st_beq (by assumption) rfl) rfl ?_)) <;> (refine R_nil ?_))) <;> ((refine thenQ_nrm ?_; (refine W_ret ?_)))) | (refine W_skip ?_)))))) <;> (first | refine thenQ_ret ?_ | (refine thenQ_nrm ?_; (refine W_seq ?_; (refine W_rgn ?_; ((refine Ra rfl (X_mv rfl ?_)) <;> (refine Ra rfl (X_subI rfl rfl (by omega) (by omega) ?_)) <;> (refine Ra rfl (X_mv rfl ?_)) <;> (refine R_nil ?_))) <;> ((refine thenQ_nrm ?_; (refine W_seq ?_; (refine W_rgn ?_; ((refine Ra rfl (X_faddr rfl ?_)) <;> (refine Ra rfl (X_faddr rfl ?_)) <;> (refine Ra rfl (X_load (lB rfl (by exact st_at 5 (by first | exact hrl | (rw [List.length_set]; exact hrl)) rfl)) ?_)) <;> (refine Ra rfl (X_addI rfl rfl (by omega) (by omega) ?_)) <;> (refine Ra rfl (X_faddr rfl ?_)) <;> (refine Ra rfl (X_faddr rfl ?_)) <;> (refine Rn (xSB rfl rfl rfl (by exact st_ble (by first | exact hrl | (rw [List.length_set]; exact hrl)) rfl (by omega)) (by exact st_put 5 (by first | exact hrl | (rw [List.length_set]; exact hrl)) rfl rfl) ?_)) <;> (refine R_nil ?_))) <;> ((refine thenQ_nrm ?_; (refine W_seq ?_; (refine W_drw ?_; ((refine Da rfl rfl (X_mv rfl ?_)) <;> (refine Da rfl rfl (X_mv rfl ?_)) <;> (refine Da rfl rfl (X_nilchk rfl ?_)) <;> (refine Da rfl rfl (X_faddr rfl ?_)) <;> (refine Da rfl rfl (X_load (lB rfl rfl) ?_)) <;> (refine Da rfl rfl (X_faddr rfl ?_)) <;> (refine Da rfl rfl (X_load (lB rfl (by exact st_at 0 (by first | exact hrl | (rw [List.length_set]; exact hrl)) rfl)) ?_)) <;> (refine Da rfl rfl (X_bsliceC (pCons rfl Parts.nil) rfl rfl rfl (fun v31 => ?_))) <;> (refine Da rfl rfl (xApGm (fe := cI) s.pc rfl rfl rfl (by omega) (fun v32 => ?_))) <;> (refine Da rfl rfl (X_nilchk rfl ?_)) <;> (refine Da rfl rfl (X_faddr rfl ?_)) <;> (refine Dn rfl (xSB rfl rfl rfl rfl rfl ?_)) <;> (refine D_nil ?_))) <;> ((refine thenQ_nrm ?_; (refine W_seq ?_; (refine W_drw ?_; ((refine Da rfl rfl (X_mv rfl ?_)) <;> (refine Da rfl rfl (X_nilchk rfl ?_)) <;> (refine Da rfl rfl (X_faddr rfl ?_)) <;> (refine Da rfl rfl (X_faddr rfl ?_)) <;> (refine Da rfl rfl (X_load (lB rfl rfl) ?_)) <;> (refine Da rfl rfl (X_faddr rfl ?_)) <;> (refine Da rfl rfl (X_load (lB rfl (by exact st_at 0 (by first | exact hrl | (rw [List.length_set]; exact hrl)) rfl)) ?_)) <;> (refine Da rfl rfl (xIa rfl rfl (by omega) (by omega) ?_)) <;> (refine Da rfl rfl (X_load (lEA rfl (by omega)) ?_)) <;> (refine Da rfl rfl (X_alloc (fun b8 => ?_))) <;> (refine Dn rfl (xSW rfl rfl rfl rfl ?_)) <;> (refine D_nil ?_))) <;> ((refine thenQ_nrm ?_; (refine W_seq ?_; (refine W_block ?_; (refine W_seq ?_; (refine W_rgn ?_; ((refine Ra rfl (X_mv rfl ?_)) <;> (refine Ra rfl (X_load (lBA rfl rfl) ?_)) <;> (refine Ra rfl (xN (moves_ok lo (s := s.tick) (pk := pk) (Fz.le (by assumption) ZC.le) (Fz.le (by assumption) ZC.le) (Fz.le (by assumption) ZC.le) hfl hfe hh (c.ins.getD s.pc.toNat default) hx hgt (by omega)) rfl (pB rfl (pB rfl (pG rfl (pG rfl (pG rfl .nil))))) (fun r Z47 o47 hz47 ho O2 hO => ?_)); (rcases ho with ⟨rfl, s', hmv, vou', vtr', ho⟩ | ⟨rfl, hmv, ho⟩ <;> (subst ho; simp only [List.cons_append, List.nil_append] at hO; subst hO) <;> (try (obtain ⟨m1, m2, m3⟩ := mv_keep hmv; replace hrl : s'.rg.length = 64 := mv_len hmv hrl')))) <;> (refine Ra rfl (X_mv rfl ?_)) <;> (refine R_nil ?_))) <;> ((refine thenQ_nrm ?_; (refine W_cond rfl (fun ht => ?_) (fun ht => ?_) <;> (first | exact absurd ht (by decide) | (refine W_skip ?_) | (refine W_seq ?_; (refine W_rgn ?_; ((refine Ra rfl (X_faddr rfl ?_)) <;> (refine Ra rfl (X_load (lB rfl rfl) ?_)) <;> (refine Ra rfl (X_eql rfl rfl (fun _ => ?_) (fun _ => ?_)); (skip)) <;> (refine Ra rfl (X_mv rfl ?_)) <;> (refine R_nil ?_))) <;> ((refine thenQ_nrm ?_; (refine W_cond rfl (fun ht => ?_) (fun ht => ?_) <;> (first | exact absurd ht (by decide) | (refine W_seq ?_; (refine W_rgn ?_; ((refine Ra rfl (X_faddr rfl ?_)) <;> (refine Ra rfl (X_load (lB rfl rfl) ?_)) <;> (refine Ra rfl (X_faddr rfl ?_)) <;> (refine Rn (xSB rfl rfl rfl (by exact st_ble (by first | exact hrl | (rw [List.length_set]; exact hrl)) rfl (by omega)) (by exact st_put 0 (by first | exact hrl | (rw [List.length_set]; exact hrl)) rfl rfl) ?_)) <;> (refine R_nil ?_))) <;> ((refine thenQ_nrm ?_; (refine W_exit ?_)))) | (refine W_seq ?_; (refine W_rgn ?_; ((refine Ra rfl (X_faddr rfl ?_)) <;> (refine Ra rfl (X_load (lB rfl rfl) ?_)) <;> (refine Ra rfl (X_eql rfl rfl (fun _ => ?_) (fun _ => ?_)); (obtain ⟨⟨a0, a1⟩, _⟩ := (right_6 (by assumption)).1 hx)) <;> (refine Ra rfl (X_mv rfl ?_)) <;> (refine R_nil ?_))) <;> ((refine thenQ_nrm ?_; (refine W_cond rfl (fun ht => ?_) (fun ht => ?_) <;> (first | exact absurd ht (by decide) | (refine W_seq ?_; (refine W_rgn ?_; ((refine Ra rfl (X_faddr rfl ?_)) <;> (refine Ra rfl (X_load (lB rfl rfl) ?_)) <;> (refine Ra rfl (X_faddr rfl ?_)) <;> (refine Ra rfl (xIaa rfl rfl (by omega) (by omega) ?_)) <;> (refine Ra rfl (X_load (lB rfl (by exact st_reg (by first | exact hrl | (rw [List.length_set]; exact hrl)) (by omega))) ?_)) <;> (refine Ra rfl (X_eql rfl rfl (fun _ => ?_) (fun _ => ?_))) <;> (refine Ra rfl (X_mv rfl ?_)) <;> (refine R_nil ?_))) <;> ((refine thenQ_nrm ?_; (refine W_seq ?_; (refine W_rgn ?_; ((refine Ra rfl (X_mv rfl ?_)) <;> (refine R_nil ?_))) <;> ((refine thenQ_nrm ?_; (refine W_seq ?_; (refine W_seq ?_; (refine W_rgn ?_; ((refine Ra rfl (X_mv rfl ?_)) <;> (refine R_nil ?_))) <;> ((refine thenQ_nrm ?_; (refine W_cond rfl (fun ht => ?_) (fun ht => ?_) <;> (first | exact absurd ht (by decide) | (refine W_rgn ?_; ((refine Ra rfl (X_mv rfl ?_)) <;> (refine R_nil ?_))) | (refine W_skip ?_)))))) <;> ((refine thenQ_nrm ?_; (refine W_seq ?_; (refine W_rgn ?_; ((refine Ra rfl (X_faddr rfl ?_)) <;> (refine Ra rfl (X_faddr rfl ?_)) <;> (refine Ra rfl (X_load (lB rfl (by exact st_at 4 (by first | exact hrl | (rw [List.length_set]; exact hrl)) rfl)) ?_)) <;> (refine Ra rfl (X_faddr rfl ?_)) <;> (refine Ra rfl (X_load (lB rfl (by exact st_at 0 (by first | exact hrl | (rw [List.length_set]; exact hrl)) rfl)) ?_)) <;> (refine Ra rfl (X_mv rfl ?_)) <;> (refine Ra rfl (X_buildC (pCons rfl (pCons rfl (pCons rfl Parts.nil))) rfl ?_)) <;> (refine Ra rfl (X_bsliceC (pCons rfl Parts.nil) rfl rfl rfl (fun v73 => ?_))) <;> (first | (refine Ra rfl (xApGm (⟨0, s.pc, 1⟩ : Ev) rfl rfl rfl (by omega) (fun v74 => ?_))) | (refine Ra rfl (xApGm (⟨0, s.pc, 0⟩ : Ev) rfl rfl rfl (by omega) (fun v74 => ?_)))) <;> (refine Ra rfl (X_faddr rfl ?_)) <;> (refine Ra rfl (X_faddr rfl ?_)) <;> (refine Rn (xSB rfl rfl rfl (by exact st_ble (by first | exact hrl | (rw [List.length_set]; exact hrl)) rfl (by omega)) (by exact st_put 4 (by first | exact hrl | (rw [List.length_set]; exact hrl)) rfl rfl) ?_)) <;> (refine R_nil ?_))) <;> ((refine thenQ_nrm ?_; (refine W_seq ?_; (refine W_rgn ?_; ((refine Ra rfl (X_mv rfl ?_)) <;> (refine R_nil ?_))) <;> ((refine thenQ_nrm ?_; (refine W_cond rfl (fun ht => ?_) (fun ht => ?_) <;> (first | exact absurd ht (by decide) | (refine W_seq ?_; (refine W_rgn ?_; ((refine Ra rfl (X_faddr rfl ?_)) <;> (refine Ra rfl (X_load (lB rfl rfl) ?_)) <;> (refine Ra rfl (X_faddr rfl ?_)) <;> (refine Rn (xSB rfl rfl rfl (by exact st_ble (by first | exact hrl | (rw [List.length_set]; exact hrl)) rfl (by omega)) (by exact st_put 0 (by first | exact hrl | (rw [List.length_set]; exact hrl)) rfl rfl) ?_)) <;> (refine R_nil ?_))) <;> ((refine thenQ_nrm ?_; (refine W_exit ?_)))) | (refine W_skip ?_)))))))))))))))))) | (refine W_seq ?_; (refine W_rgn ?_; ((refine Ra rfl (X_faddr rfl ?_)) <;> (refine Ra rfl (X_load (lB rfl rfl) ?_)) <;> (refine Ra rfl (X_eql rfl rfl (fun _ => ?_) (fun _ => ?_)); (obtain ⟨⟨a0, a1⟩, _⟩ := (right_8 (.inl (by assumption))).1 hx)) <;> (refine Ra rfl (X_mv rfl ?_)) <;> (refine R_nil ?_))) <;> ((refine thenQ_nrm ?_; (refine W_cond rfl (fun ht => ?_) (fun ht => ?_) <;> (first | exact absurd ht (by decide) | (refine W_seq ?_; (refine W_seq ?_; (refine W_drw ?_; ((refine Da rfl rfl (X_faddr rfl ?_)) <;> (refine Da rfl rfl (X_faddr rfl ?_)) <;> (refine Da rfl rfl (X_load (lB rfl (by exact st_at 6 (by first | exact hrl | (rw [List.length_set]; exact hrl)) rfl)) ?_)) <;> (refine Da rfl rfl (X_mv rfl ?_)) <;> (refine Da rfl rfl (X_nilchk rfl ?_)) <;> (refine Da rfl rfl (X_faddr rfl ?_)) <;> (refine Da rfl rfl (X_load (lB rfl rfl) ?_)) <;> (refine Da rfl rfl (xLen rfl ?_)) <;> (refine Da rfl rfl (X_eql rfl rfl (fun _ => ?_) (fun _ => ?_))) <;> (refine D_nil ?_))) <;> ((refine thenQ_nrm ?_; (refine W_cond rfl (fun ht => ?_) (fun ht => ?_) <;> (first | exact absurd ht (by decide) | (refine W_seq ?_; (refine W_rgn ?_; ((refine Ra rfl (X_mv rfl ?_)) <;> (refine Ra rfl (xD rfl rfl (end_ok lo _ (by assumption)) (pB rfl .nil) (fun r95 Z95 o95 hz95 ho O2 hO => ?_)); (obtain ⟨ho, hr⟩ := ho; subst ho; subst hr; simp only [List.nil_append] at hO; subst hO)) <;> (refine Rn (xSW rfl rfl (by exact st_beq (by assumption) rfl) rfl ?_)) <;> (refine R_nil ?_))) <;> ((refine thenQ_nrm ?_; (refine W_ret ?_)))) | (refine W_skip ?_)))))) <;> (first | refine thenQ_ret ?_ | (refine thenQ_nrm ?_; (refine W_seq ?_; (refine W_drw ?_; ((refine Da rfl rfl (X_faddr rfl ?_)) <;> (refine Da rfl rfl (X_load (lB rfl rfl) ?_)) <;> (refine Da rfl rfl (X_mv rfl ?_)) <;> (refine Da rfl rfl (X_nilchk rfl ?_)) <;> (refine Da rfl rfl (X_faddr rfl ?_)) <;> (refine Da rfl rfl (X_load (lB rfl rfl) ?_)) <;> (refine Da rfl rfl (X_faddr rfl ?_)) <;> (refine Da rfl rfl (X_faddr rfl ?_)) <;> (refine Da rfl rfl (X_load (lB rfl (by exact st_at 6 (by first | exact hrl | (rw [List.length_set]; exact hrl)) rfl)) ?_)) <;> (refine Da rfl rfl (xIa rfl rfl (by omega) (by omega) ?_)) <;> (refine Da rfl rfl (X_load (lE0 rfl (by omega) rfl) ?_)) <;> (refine Da rfl rfl (X_faddr rfl ?_)) <;> (refine Da rfl rfl (xIaa rfl rfl (by omega) (by omega) ?_)) <;> (refine Dn rfl (xSB rfl rfl rfl (by exact st_ble (by first | exact hrl | (rw [List.length_set]; exact hrl)) rfl (by omega)) (by exact st_setreg (by first | exact hrl | (rw [List.length_set]; exact hrl)) (by omega)) ?_)) <;> (refine D_nil ?_))) <;> ((refine thenQ_nrm ?_; (refine W_rgn ?_; ((refine Ra rfl (X_faddr rfl ?_)) <;> (refine Ra rfl (X_faddr rfl ?_)) <;> (refine Ra rfl (X_load (lB rfl (by exact st_at 6 (by first | exact hrl | (rw [List.length_set]; exact hrl)) rfl)) ?_)) <;> (refine Ra rfl (X_addI rfl rfl (by omega) (by omega) ?_)) <;> (refine Ra rfl (X_faddr rfl ?_)) <;> (refine Ra rfl (X_faddr rfl ?_)) <;> (refine Rn (xSB rfl rfl rfl (by exact st_ble (by first | exact hrl | (rw [List.length_set]; exact hrl)) rfl (by omega)) (by exact st_put 6 (by first | exact hrl | (rw [List.length_set]; exact hrl)) rfl rfl) ?_)) <;> (refine R_nil ?_))))))))) | (refine W_seq ?_; (refine W_rgn ?_; ((refine Ra rfl (X_faddr rfl ?_)) <;> (refine Ra rfl (X_load (lB rfl rfl) ?_)) <;> (refine Ra rfl (X_eql rfl rfl (fun _ => ?_) (fun _ => ?_)); (obtain ⟨⟨a0, a1⟩, _⟩ := (right_8 (.inr (.inl (by assumption)))).1 hx)) <;> (refine Ra rfl (X_mv rfl ?_)) <;> (first | (refine Rb rfl rfl (X_faddr rfl ?_)) | (refine Rc rfl rfl ?_)) <;> (first | (refine Rb rfl rfl (X_load (lB rfl rfl) ?_)) | (refine Rc rfl rfl ?_)) <;> (first | (refine Rb rfl rfl (X_faddr rfl ?_)) | (refine Rc rfl rfl ?_)) <;> (first | (refine Rb rfl rfl (xIaa rfl rfl (by omega) (by omega) ?_)) | (refine Rc rfl rfl ?_)) <;> (first | (refine Rb rfl rfl (X_load (lB rfl (by exact st_reg (by first | exact hrl | (rw [List.length_set]; exact hrl)) (by omega))) ?_)) | (refine Rc rfl rfl ?_)) <;> (first | (refine Rb rfl rfl (X_eql rfl rfl (fun _ => ?_) (fun _ => ?_))) | (refine Rc rfl rfl ?_)) <;> (first | (refine Ra rfl (X_pickT rfl rfl ?_)) | (refine Ra rfl (X_pickF rfl rfl ?_))) <;> (refine Ra rfl (X_mv rfl ?_)) <;> (refine R_nil ?_))) <;> ((refine thenQ_nrm ?_; (refine W_cond rfl (fun ht => ?_) (fun ht => ?_) <;> (first | exact absurd ht (by decide) | (refine W_seq ?_; (refine W_rgn ?_; ((refine Ra rfl (X_mv rfl ?_)) <;> (refine Ra rfl (xD rfl rfl (end_ok lo _ (by assumption)) (pB rfl .nil) (fun r128 Z128 o128 hz128 ho O2 hO => ?_)); (obtain ⟨ho, hr⟩ := ho; subst ho; subst hr; simp only [List.nil_append] at hO; subst hO)) <;> (refine Rn (xSW rfl rfl (by exact st_beq (by assumption) rfl) rfl ?_)) <;> (refine R_nil ?_))) <;> ((refine thenQ_nrm ?_; (refine W_ret ?_)))) | (refine W_seq ?_; (refine W_rgn ?_; ((refine Ra rfl (X_faddr rfl ?_)) <;> (refine Ra rfl (X_load (lB rfl rfl) ?_)) <;> (refine Ra rfl (X_eql rfl rfl (fun _ => ?_) (fun _ => ?_)); (obtain ⟨⟨a0, a1⟩, _⟩ := (right_8 (.inr (.inr (by assumption)))).1 hx)) <;> (refine Ra rfl (X_mv rfl ?_)) <;> (first | (refine Rb rfl rfl (X_faddr rfl ?_)) | (refine Rc rfl rfl ?_)) <;> (first | (refine Rb rfl rfl (X_load (lB rfl rfl) ?_)) | (refine Rc rfl rfl ?_)) <;> (first | (refine Rb rfl rfl (X_faddr rfl ?_)) | (refine Rc rfl rfl ?_)) <;> (first | (refine Rb rfl rfl (xIaa rfl rfl (by omega) (by omega) ?_)) | (refine Rc rfl rfl ?_)) <;> (first | (refine Rb rfl rfl (X_load (lB rfl (by exact st_reg (by first | exact hrl | (rw [List.length_set]; exact hrl)) (by omega))) ?_)) | (refine Rc rfl rfl ?_)) <;> (first | (refine Rb rfl rfl (X_eql rfl rfl (fun _ => ?_) (fun _ => ?_))) | (refine Rc rfl rfl ?_)) <;> (first | (refine Ra rfl (X_pickT rfl rfl ?_)) | (refine Ra rfl (X_pickF rfl rfl ?_))) <;> (refine Ra rfl (X_mv rfl ?_)) <;> (refine R_nil ?_))) <;> ((refine thenQ_nrm ?_; (refine W_cond rfl (fun ht => ?_) (fun ht => ?_) <;> (first | exact absurd ht (by decide) | (refine W_seq ?_; (refine W_rgn ?_; ((refine Ra rfl (X_mv rfl ?_)) <;> (refine Ra rfl (xD rfl rfl (end_ok lo _ (by assumption)) (pB rfl .nil) (fun r142 Z142 o142 hz142 ho O2 hO => ?_)); (obtain ⟨ho, hr⟩ := ho; subst ho; subst hr; simp only [List.nil_append] at hO; subst hO)) <;> (refine Rn (xSW rfl rfl (by exact st_beq (by assumption) rfl) rfl ?_)) <;> (refine R_nil ?_))) <;> ((refine thenQ_nrm ?_; (refine W_ret ?_)))) | (refine W_seq ?_; (refine W_rgn ?_; ((refine Ra rfl (X_faddr rfl ?_)) <;> (refine Ra rfl (X_load (lB rfl rfl) ?_)) <;> (refine Ra rfl (X_eql rfl rfl (fun _ => ?_) (fun _ => ?_)); (skip)) <;> (refine Ra rfl (X_mv rfl ?_)) <;> (refine R_nil ?_))) <;> ((refine thenQ_nrm ?_; (refine W_cond rfl (fun ht => ?_) (fun ht => ?_) <;> (first | exact absurd ht (by decide) | (refine W_exit ?_) | (refine W_skip ?_)))))))))))))))))))))))))))))))))))) <;> (first | refine blockQ_nrm ?_ | refine blockQ_ret ?_ | refine blockQ_far rfl ?_)) <;> (first | refine thenQ_ret ?_ | refine thenQ_ext ?_ | (refine thenQ_nrm ?_; (refine W_rgn ?_; ((refine Ra rfl (X_faddr rfl ?_)) <;> (refine Ra rfl (X_load (lB rfl (by exact st_at 0 (by first | exact hrl | (rw [List.length_set]; exact hrl)) rfl)) ?_)) <;> (refine Ra rfl (X_addI rfl rfl (by omega) (by omega) ?_)) <;> (refine Ra rfl (X_faddr rfl ?_)) <;> (refine Rn (xSB rfl rfl rfl (by exact st_ble (by first | exact hrl | (rw [List.length_set]; exact hrl)) rfl (by omega)) (by exact st_put 0 (by first | exact hrl | (rw [List.length_set]; exact hrl)) rfl rfl) ?_)) <;> (refine R_nil ?_))))))))))))))))))))) <;> (first | refine blockQ_nrm ?_ | refine blockQ_ret ?_ | refine blockQ_ext ?_ | refine blockQ_far rfl ?_)) <;> (first | refine thenQ_ret ?_ | refine thenQ_ext ?_ | (refine thenQ_nrm ?_; (
        first
          | (exfalso; omega)
          | (exfalso; exact no_op hx hmv (by assumption) (by assumption) (by assumption) (by assumption) (by assumption) (by assumption))
          | (have hd : doP c pk (s.ins c) s.tick = ({ s' with pc := s.tick.pc + 1 }, none) := do_mv hmv
             obtain ⟨g1, g2⟩ := Gd.step hC hk hg hd
             refine Upd.done ⟨(n - 1, { s' with pc := s.tick.pc + 1 }, vou', vtr', v32), ?_, ⟨g1, ?_, ?_⟩, ?_, hB (by rw [g2, m1, List.length_append]; rfl) (hB rfl (hB rfl (hG rfl (hG rfl (hG rfl (hG ?_ Has.nil))))))⟩
             · show n - 1 < n
               omega
             · rw [g2, List.length_append, List.length_singleton]; omega
             · rw [← run_go hd (by omega)]; exact hrun
             · show SubT [(2, .int .i64 ((n - 1 : Nat) : Int))] _
               rw [show ((n - 1 : Nat) : Int) = (n : Int) - 1 by omega]
               exact (by repeat' (first | exact trivial | exact rfl | constructor))
             · rw [g2, List.map_append]; try rfl)
          | (have hd : doP c pk (s.ins c) s.tick = ({ s.tick with pc := (s.ins c).a }, none) := do_5 hmv (by assumption)
             obtain ⟨g1, g2⟩ := Gd.step hC hk hg hd
             refine Upd.done ⟨(n - 1, { s.tick with pc := (s.ins c).a }, vou, vtr, v32), ?_, ⟨g1, ?_, ?_⟩, ?_, hB (by rw [g2, List.length_append]; rfl) (hB rfl (hB rfl (hG rfl (hG rfl (hG rfl (hG ?_ Has.nil))))))⟩
             · show n - 1 < n
               omega
             · rw [g2, List.length_append, List.length_singleton]; omega
             · rw [← run_go hd (by omega)]; exact hrun
             · show SubT [(2, .int .i64 ((n - 1 : Nat) : Int))] _
               rw [show ((n - 1 : Nat) : Int) = (n : Int) - 1 by omega]
               exact (by repeat' (first | exact trivial | exact rfl | constructor))
             · rw [g2, List.map_append]; try rfl)
          | (have hd : doP c pk (s.ins c) s.tick = ({ s.tick with tr := s.tick.tr ++ [⟨0, s.tick.pc, 1⟩], pc := (s.ins c).b }, none) := do_6z hmv (by assumption) (by assumption)
             obtain ⟨g1, g2⟩ := Gd.step hC hk hg hd
             refine Upd.done ⟨(n - 1, { s.tick with tr := s.tick.tr ++ [⟨0, s.tick.pc, 1⟩], pc := (s.ins c).b }, vou, v74, v32), ?_, ⟨g1, ?_, ?_⟩, ?_, hB (by rw [g2, List.length_append]; rfl) (hB rfl (hB rfl (hG rfl (hG rfl (hG rfl (hG ?_ Has.nil))))))⟩
             · show n - 1 < n
               omega
             · rw [g2, List.length_append, List.length_singleton]; omega
             · rw [← run_go hd (by omega)]; exact hrun
             · show SubT [(2, .int .i64 ((n - 1 : Nat) : Int))] _
               rw [show ((n - 1 : Nat) : Int) = (n : Int) - 1 by omega]
               exact (by repeat' (first | exact trivial | exact rfl | constructor))
             · rw [g2, List.map_append]; try rfl)
          | (have hd : doP c pk (s.ins c) s.tick = ({ s.tick with tr := s.tick.tr ++ [⟨0, s.tick.pc, 0⟩], pc := s.tick.pc + 1 }, none) := do_6n hmv (by assumption) (by assumption)
             obtain ⟨g1, g2⟩ := Gd.step hC hk hg hd
             refine Upd.done ⟨(n - 1, { s.tick with tr := s.tick.tr ++ [⟨0, s.tick.pc, 0⟩], pc := s.tick.pc + 1 }, vou, v74, v32), ?_, ⟨g1, ?_, ?_⟩, ?_, hB (by rw [g2, List.length_append]; rfl) (hB rfl (hB rfl (hG rfl (hG rfl (hG rfl (hG ?_ Has.nil))))))⟩
             · show n - 1 < n
               omega
             · rw [g2, List.length_append, List.length_singleton]; omega
             · rw [← run_go hd (by omega)]; exact hrun
             · show SubT [(2, .int .i64 ((n - 1 : Nat) : Int))] _
               rw [show ((n - 1 : Nat) : Int) = (n : Int) - 1 by omega]
               exact (by repeat' (first | exact trivial | exact rfl | constructor))
             · rw [g2, List.map_append]; try rfl)
          | (have hd : doP c pk (s.ins c) s.tick = ({ s.tick with rg := s.tick.rg.set (s.ins c).a.toNat (pk.getD s.tick.us default), us := s.tick.us + 1, pc := s.tick.pc + 1 }, none) := do_8 hmv (by assumption) (by show s.tick.us < pk.length; omega)
             obtain ⟨g1, g2⟩ := Gd.step hC hk hg hd
             refine Upd.done ⟨(n - 1, { s.tick with rg := s.tick.rg.set (s.ins c).a.toNat (pk.getD s.tick.us default), us := s.tick.us + 1, pc := s.tick.pc + 1 }, vou, vtr, v32), ?_, ⟨g1, ?_, ?_⟩, ?_, hB (by rw [g2, List.length_append]; rfl) (hB rfl (hB rfl (hG rfl (hG rfl (hG rfl (hG ?_ Has.nil))))))⟩
             · show n - 1 < n
               omega
             · rw [g2, List.length_append, List.length_singleton]; omega
             · rw [← run_go hd (by omega)]; exact hrun
             · show SubT [(2, .int .i64 ((n - 1 : Nat) : Int))] _
               rw [show ((n - 1 : Nat) : Int) = (n : Int) - 1 by omega]
               exact (by repeat' (first | exact trivial | exact rfl | constructor))
             · rw [g2, List.map_append]; try rfl)
          | (have hd : doP c pk (s.ins c) s.tick = ({ s.tick with pc := s.tick.pc + 1 }, none) := do_9n hmv (by assumption) (by assumption)
             obtain ⟨g1, g2⟩ := Gd.step hC hk hg hd
             refine Upd.done ⟨(n - 1, { s.tick with pc := s.tick.pc + 1 }, vou, vtr, v32), ?_, ⟨g1, ?_, ?_⟩, ?_, hB (by rw [g2, List.length_append]; rfl) (hB rfl (hB rfl (hG rfl (hG rfl (hG rfl (hG ?_ Has.nil))))))⟩
             · show n - 1 < n
               omega
             · rw [g2, List.length_append, List.length_singleton]; omega
             · rw [← run_go hd (by omega)]; exact hrun
             · show SubT [(2, .int .i64 ((n - 1 : Nat) : Int))] _
               rw [show ((n - 1 : Nat) : Int) = (n : Int) - 1 by omega]
               exact (by repeat' (first | exact trivial | exact rfl | constructor))
             · rw [g2, List.map_append]; try rfl)
          | (have hd : doP c pk (s.ins c) s.tick = ({ s.tick with pc := s.tick.pc + 1 }, none) := do_10n hmv (by assumption) (by assumption)
             obtain ⟨g1, g2⟩ := Gd.step hC hk hg hd
             refine Upd.done ⟨(n - 1, { s.tick with pc := s.tick.pc + 1 }, vou, vtr, v32), ?_, ⟨g1, ?_, ?_⟩, ?_, hB (by rw [g2, List.length_append]; rfl) (hB rfl (hB rfl (hG rfl (hG rfl (hG rfl (hG ?_ Has.nil))))))⟩
             · show n - 1 < n
               omega
             · rw [g2, List.length_append, List.length_singleton]; omega
             · rw [← run_go hd (by omega)]; exact hrun
             · show SubT [(2, .int .i64 ((n - 1 : Nat) : Int))] _
               rw [show ((n - 1 : Nat) : Int) = (n : Int) - 1 by omega]
               exact (by repeat' (first | exact trivial | exact rfl | constructor))
             · rw [g2, List.map_append]; try rfl))))) <;> (first | refine blockQ_ret ?_ | refine blockQ_ext ?_)) <;> (first | refine thenQ_ret ?_ | (refine thenQ_nrm ?_; (refine W_seq ?_; (refine W_rgn ?_; ((refine Ra rfl (X_mv rfl ?_)) <;> (refine Ra rfl (xD rfl rfl (end_ok lo _ (by assumption)) (pB rfl .nil) (fun r152 Z152 o152 hz152 ho O2 hO => ?_)); (obtain ⟨ho, hr⟩ := ho; subst ho; subst hr; simp only [List.nil_append] at hO; subst hO)) <;> (refine Rn (xSW rfl rfl (by exact st_beq (by assumption) rfl) rfl ?_)) <;> (refine R_nil ?_))) <;> ((refine thenQ_nrm ?_; (refine W_ret ?_))))))))))))))))
  <;> (refine fn_ret (rA rfl (by exact st_beq (by assumption) rfl) Res.nil) ?_)
  all_goals first
    | (exfalso; omega)
    | (have h0 : n = 0 := by omega
       subst h0
       rw [run_0] at hrun
       rw [← hrun]
       refine Upd.has (L := [.box bm [.int .i64 c.w, vv, vi, vf, vp, vt], .gro vst 1 ((s).st.map cI), .gro vou 2 ((s).ou.map Ou.c), .gro vtr 3 ((s).tr.map Ev.c), .gro vt 1 ((s).tl.map cI)]) (hB rfl (hG rfl (hG rfl (hG rfl (hG rfl Has.nil))))) ?_
       exact ⟨_, _, _, rfl, rfl⟩)
    | (have hd : doP c pk (s.ins c) s.tick = (s.tick, some 0) := do_11 hmv (by assumption)
       rw [run_end hd (by omega)] at hrun
       rw [← hrun]
       refine Upd.has (L := [.box bm [.int .i64 c.w, vv, vi, vf, vp, v32], .gro vst 1 ((s.tick).st.map cI), .gro vou 2 ((s.tick).ou.map Ou.c), .gro vtr 3 ((s.tick).tr.map Ev.c), .gro v32 1 ((s.tick).tl.map cI)]) (hB rfl (hG rfl (hG rfl (hG rfl (hG ?_ Has.nil))))) ?_
       · simp [Cf.tick]
       · refine ⟨vou, vtr, v32, rfl, ?_⟩
         have e1 : ((s.tick.tl.length : Nat) : Int) = (s.tl.length : Int) + 1 := by rw [htk]; rfl
         simp only [tupled]
         rw [e1]
         try rfl)
    | (have hd : doP c pk (s.ins c) s.tick = (s.tick, some 4) := do_8e hmv (by assumption) (by show pk.length ≤ s.tick.us; omega)
       rw [run_end hd (by omega)] at hrun
       rw [← hrun]
       refine Upd.has (L := [.box bm [.int .i64 c.w, vv, vi, vf, vp, v32], .gro vst 1 ((s.tick).st.map cI), .gro vou 2 ((s.tick).ou.map Ou.c), .gro vtr 3 ((s.tick).tr.map Ev.c), .gro v32 1 ((s.tick).tl.map cI)]) (hB rfl (hG rfl (hG rfl (hG rfl (hG ?_ Has.nil))))) ?_
       · simp [Cf.tick]
       · refine ⟨vou, vtr, v32, rfl, ?_⟩
         have e1 : ((s.tick.tl.length : Nat) : Int) = (s.tl.length : Int) + 1 := by rw [htk]; rfl
         simp only [tupled]
         rw [e1]
         try rfl)
    | (have hd : doP c pk (s.ins c) s.tick = (s.tick, some 1) := do_9z hmv (by assumption) (by assumption)
       rw [run_end hd (by omega)] at hrun
       rw [← hrun]
       refine Upd.has (L := [.box bm [.int .i64 c.w, vv, vi, vf, vp, v32], .gro vst 1 ((s.tick).st.map cI), .gro vou 2 ((s.tick).ou.map Ou.c), .gro vtr 3 ((s.tick).tr.map Ev.c), .gro v32 1 ((s.tick).tl.map cI)]) (hB rfl (hG rfl (hG rfl (hG rfl (hG ?_ Has.nil))))) ?_
       · simp [Cf.tick]
       · refine ⟨vou, vtr, v32, rfl, ?_⟩
         have e1 : ((s.tick.tl.length : Nat) : Int) = (s.tl.length : Int) + 1 := by rw [htk]; rfl
         simp only [tupled]
         rw [e1]
         try rfl)
    | (have hd : doP c pk (s.ins c) s.tick = (s.tick, some 2) := do_10z hmv (by assumption) (by assumption)
       rw [run_end hd (by omega)] at hrun
       rw [← hrun]
       refine Upd.has (L := [.box bm [.int .i64 c.w, vv, vi, vf, vp, v32], .gro vst 1 ((s.tick).st.map cI), .gro vou 2 ((s.tick).ou.map Ou.c), .gro vtr 3 ((s.tick).tr.map Ev.c), .gro v32 1 ((s.tick).tl.map cI)]) (hB rfl (hG rfl (hG rfl (hG rfl (hG ?_ Has.nil))))) ?_
       · simp [Cf.tick]
       · refine ⟨vou, vtr, v32, rfl, ?_⟩
         have e1 : ((s.tick.tl.length : Nat) : Int) = (s.tl.length : Int) + 1 := by rw [htk]; rfl
         simp only [tupled]
         rw [e1]
         try rfl)
end Go.Proofs.Ytffdcbhhajagjaa.Hm.V
