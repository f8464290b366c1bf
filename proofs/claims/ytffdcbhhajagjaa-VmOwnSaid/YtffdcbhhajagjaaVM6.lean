/- The program's machine of registers: Run, Trail, Regs. -/
import Derived.Test.YtffdcbhhajagjaaHF
import Derived.Test.YtffdcbhhajagjaaA6
import Derived.Test.YtffdcbhhajagjaaVM5
namespace Go.Proofs.Ytffdcbhhajagjaa.Hm.V
open Go
set_option linter.all false
set_option maxRecDepth 100000
attribute [local irreducible] X S R D W Call Upd Rds Rck Sees Res Cel CallP fnQ
theorem run_rl {c : Cd} {fu : Int} {st pk : List Int} (h : ErrV c fu st pk 0) : (runV c st pk fu).1.rg.length = 64 := by
  cases h with
  | ok h h2 h3 => exact (Gd.run h h3.2.2 (n := fu.toNat) (beg_good h h3)).rl
theorem st_take {rg : List Int} {rest : List Value} (h : rg.length = 64) : (stC rg rest).take (64 * 1) = (rg.map cI).flatten := by
  have hm : (rg.map I64).length = 64 := by rw [List.length_map]; exact h
  unfold stC
  rw [List.take_append_of_le_length (by omega), List.take_of_length_le (by omega)]
  clear h hm
  induction rg with
  | nil => rfl
  | cons x l ih => simp only [List.map_cons, List.flatten_cons, cI, List.singleton_append, ih]
def runC (e : Int) (s : Cf) (vst vou vtr : Value) : List Value := [.int .i64 e, vst, vou, vtr, .int .i64 (s.tl.length : Nat), .int .i64 (s.us : Nat), .int .i64 (whP e s.pc)]
def zrun : List Value := [.int .i64 0, .slice none 0 0, .slice none 0 0, .slice none 0 0, .int .i64 0, .int .i64 0, .int .i64 0]
set_option maxHeartbeats 4000000 in
theorem Run_ok (lo : Nat) {Z : Vw} {v v2 : Value} {c : Cd} {st pk : List Int} (hv : CdV Z v c) (hs : StV Z v2 st pk) (fu : Int) : Call F lo 9 [v, .int .i64 fu, v2] Z [] fun r _ O => (∃ e, e ≠ 0 ∧ ErrV c fu st pk e ∧ r = .tuple ⟨[.agg ⟨zrun⟩, .int .i64 e]⟩ ∧ O = []) ∨ (ErrV c fu st pk 0 ∧ ∃ vst vou vtr, r = .tuple ⟨[.agg ⟨runC (runV c st pk fu).2 (runV c st pk fu).1 vst vou vtr⟩, .int .i64 0]⟩ ∧ O = [.gro vst 1 ((runV c st pk fu).1.st.map cI), .gro vou 2 ((runV c st pk fu).1.ou.map Ou.c), .gro vtr 3 ((runV c st pk fu).1.tr.map Ev.c)]) := by
  have hV := hv
  have hS0 := hs
  obtain ⟨vv, vi, rfl, hvs, his, l1, l2, hnm⟩ := hv
  obtain ⟨va, vp, rfl, hva, hvp, l3, l4⟩ := hs
  refine Fn (fn := c9) rfl rfl rfl ?_
  (refine W_seq ?_; (refine W_rgn ?_; ((refine Ra rfl (xBox rfl (fun b3 => ?_))) <;> (refine Ra rfl (xBox rfl (fun b5 => ?_))) <;> (refine Ra rfl (X_alloc (fun b6 => ?_))) <;> (refine Ra rfl (X_mv rfl ?_)) <;> (refine R_nil ?_))) <;> ((refine thenQ_nrm ?_; (refine W_seq ?_; (refine W_rgn ?_; ((refine Ra rfl (X_load (lBA rfl rfl) ?_)) <;> (refine Ra rfl (X_mv rfl ?_)) <;> (refine Ra rfl (X_load (lBA rfl rfl) ?_)) <;> (refine Ra rfl (xN (ran_ok lo (by first | assumption | exact CdV.le (by assumption) ZC.le) (by first | assumption | exact StV.le (by assumption) ZC.le) fu) rfl .nil (fun r Z15 o15 hz15 ho O2 hO => ?_)); (rcases ho with ⟨e, he, hE, hr, ho⟩ | ⟨hE, vst, vou, vtr, vt, hr, ho⟩ <;> subst hr <;> (subst ho; simp only [List.cons_append, List.nil_append] at hO; subst hO) <;> (try have hrl : (runV c st pk fu).1.rg.length = 64 := run_rl hE))) <;> (refine Ra rfl (X_mv rfl ?_)) <;> (refine Ra rfl (X_extract rfl rfl ?_)) <;> (refine Ra rfl (X_extract rfl rfl ?_)) <;> (refine Ra rfl (X_extract rfl rfl ?_)) <;> (refine Ra rfl (X_alloc (fun b8 => ?_))) <;> (first | (refine Rn (xSW rfl rfl rfl rfl ?_)) | (refine Rn (xSW rfl rfl (by exact st_beq hrl rfl) rfl ?_))) <;> (refine Ra rfl (X_mv rfl ?_)) <;> (refine Ra rfl (X_mv rfl ?_)) <;> (refine R_nil ?_))) <;> ((refine thenQ_nrm ?_; (refine W_seq ?_; (refine W_rgn ?_; ((refine Ra rfl (X_faddr rfl ?_)) <;> (first | (refine Ra rfl (X_load (lBP rfl rfl) ?_)) | (refine Ra rfl (X_load (lBP rfl (by exact st_ble hrl rfl (by omega))) ?_); (rw [st_run hrl rfl]))) <;> (refine Ra rfl (X_mv rfl ?_)) <;> (refine Rn (xSW rfl rfl rfl rfl ?_)) <;> (refine Ra rfl (X_mv rfl ?_)) <;> (refine R_nil ?_))) <;> ((refine thenQ_nrm ?_; (refine W_ret ?_))))))))))
  <;> (refine fn_ret (rA rfl rfl (Res.tmp rfl Res.nil)) ?_)
  all_goals first
    | exact Upd.nil (.inl ⟨_, by assumption, by assumption, rfl, rfl⟩)
    | exact absurd rfl (by assumption)
    | exact Upd.has (hG rfl (hG rfl (hG rfl Has.nil))) (.inr ⟨hE, _, _, _, rfl, rfl⟩)
set_option maxHeartbeats 4000000 in
theorem Trail_ok (lo : Nat) {Z : Vw} {v v2 : Value} {c : Cd} {st pk : List Int} (hv : CdV Z v c) (hs : StV Z v2 st pk) (fu : Int) : Call F lo 10 [v, .int .i64 fu, v2] Z [] fun r _ O => (∃ e, e ≠ 0 ∧ ErrV c fu st pk e ∧ r = .tuple ⟨[.slice none 0 0, .int .i64 e]⟩ ∧ O = []) ∨ (ErrV c fu st pk 0 ∧ ∃ vt, r = .tuple ⟨[vt, .int .i64 0]⟩ ∧ O = [.gro vt 1 ((runV c st pk fu).1.tl.map cI)]) := by
  have hV := hv
  have hS0 := hs
  obtain ⟨vv, vi, rfl, hvs, his, l1, l2, hnm⟩ := hv
  obtain ⟨va, vp, rfl, hva, hvp, l3, l4⟩ := hs
  refine Fn (fn := c10) rfl rfl rfl ?_
  (refine W_seq ?_; (refine W_rgn ?_; ((refine Ra rfl (xBox rfl (fun b3 => ?_))) <;> (refine Ra rfl (xBox rfl (fun b5 => ?_))) <;> (refine Ra rfl (X_mv rfl ?_)) <;> (refine Ra rfl (X_mv rfl ?_)) <;> (refine R_nil ?_))) <;> ((refine thenQ_nrm ?_; (refine W_seq ?_; (refine W_rgn ?_; ((refine Ra rfl (X_load (lBA rfl rfl) ?_)) <;> (refine Ra rfl (X_mv rfl ?_)) <;> (refine Ra rfl (X_load (lBA rfl rfl) ?_)) <;> (refine Ra rfl (xN (ran_ok lo (by first | assumption | exact CdV.le (by assumption) ZC.le) (by first | assumption | exact StV.le (by assumption) ZC.le) fu) rfl .nil (fun r Z15 o15 hz15 ho O2 hO => ?_)); (rcases ho with ⟨e, he, hE, hr, ho⟩ | ⟨hE, vst, vou, vtr, vt, hr, ho⟩ <;> subst hr <;> (subst ho; simp only [List.cons_append, List.nil_append] at hO; subst hO) <;> (try have hrl : (runV c st pk fu).1.rg.length = 64 := run_rl hE))) <;> (refine Ra rfl (X_mv rfl ?_)) <;> (refine Ra rfl (X_extract rfl rfl ?_)) <;> (refine Ra rfl (X_extract rfl rfl ?_)) <;> (refine Ra rfl (X_extract rfl rfl ?_)) <;> (refine Ra rfl (X_alloc (fun b8 => ?_))) <;> (first | (refine Rn (xSW rfl rfl rfl rfl ?_)) | (refine Rn (xSW rfl rfl (by exact st_beq hrl rfl) rfl ?_))) <;> (refine Ra rfl (X_mv rfl ?_)) <;> (refine Ra rfl (X_mv rfl ?_)) <;> (refine R_nil ?_))) <;> ((refine thenQ_nrm ?_; (refine W_seq ?_; (refine W_rgn ?_; ((refine Ra rfl (X_mv rfl ?_)) <;> (refine Ra rfl (X_mv rfl ?_)) <;> (refine Ra rfl (X_mv rfl ?_)) <;> (refine Ra rfl (X_mv rfl ?_)) <;> (refine R_nil ?_))) <;> ((refine thenQ_nrm ?_; (refine W_ret ?_))))))))))
  <;> (refine fn_ret (Res.tmp rfl (Res.tmp rfl Res.nil)) ?_)
  all_goals first
    | exact Upd.nil (.inl ⟨_, by assumption, by assumption, rfl, rfl⟩)
    | exact absurd rfl (by assumption)
    | exact Upd.has (hG rfl Has.nil) (.inr ⟨hE, _, rfl, rfl⟩)
set_option maxHeartbeats 4000000 in
theorem Regs_ok (lo : Nat) {Z : Vw} {v v2 : Value} {c : Cd} {st pk : List Int} (hv : CdV Z v c) (hs : StV Z v2 st pk) (fu : Int) : Call F lo 11 [v, .int .i64 fu, v2] Z [] fun r _ O => (∃ e, e ≠ 0 ∧ ErrV c fu st pk e ∧ r = .tuple ⟨[.slice none 0 0, .int .i64 e]⟩ ∧ O = []) ∨ (ErrV c fu st pk 0 ∧ ∃ vr, r = .tuple ⟨[vr, .int .i64 0]⟩ ∧ O = [.gro vr 1 ((runV c st pk fu).1.rg.map cI)]) := by
  have hV := hv
  have hS0 := hs
  obtain ⟨vv, vi, rfl, hvs, his, l1, l2, hnm⟩ := hv
  obtain ⟨va, vp, rfl, hva, hvp, l3, l4⟩ := hs
  refine Fn (fn := c11) rfl rfl rfl ?_
  (refine W_seq ?_; (refine W_rgn ?_; ((refine Ra rfl (xBox rfl (fun b3 => ?_))) <;> (refine Ra rfl (xBox rfl (fun b5 => ?_))) <;> (refine Ra rfl (X_mv rfl ?_)) <;> (refine Ra rfl (X_mv rfl ?_)) <;> (refine R_nil ?_))) <;> ((refine thenQ_nrm ?_; (refine W_seq ?_; (refine W_rgn ?_; ((refine Ra rfl (X_load (lBA rfl rfl) ?_)) <;> (refine Ra rfl (X_mv rfl ?_)) <;> (refine Ra rfl (X_load (lBA rfl rfl) ?_)) <;> (refine Ra rfl (xN (ran_ok lo (by first | assumption | exact CdV.le (by assumption) ZC.le) (by first | assumption | exact StV.le (by assumption) ZC.le) fu) rfl .nil (fun r Z15 o15 hz15 ho O2 hO => ?_)); (rcases ho with ⟨e, he, hE, hr, ho⟩ | ⟨hE, vst, vou, vtr, vt, hr, ho⟩ <;> subst hr <;> (subst ho; simp only [List.cons_append, List.nil_append] at hO; subst hO) <;> (try have hrl : (runV c st pk fu).1.rg.length = 64 := run_rl hE))) <;> (refine Ra rfl (X_mv rfl ?_)) <;> (refine Ra rfl (X_extract rfl rfl ?_)) <;> (refine Ra rfl (X_extract rfl rfl ?_)) <;> (refine Ra rfl (X_extract rfl rfl ?_)) <;> (refine Ra rfl (X_alloc (fun b8 => ?_))) <;> (first | (refine Rn (xSW rfl rfl rfl rfl ?_)) | (refine Rn (xSW rfl rfl (by exact st_beq hrl rfl) rfl ?_))) <;> (refine Ra rfl (X_mv rfl ?_)) <;> (refine Ra rfl (X_mv rfl ?_)) <;> (refine R_nil ?_))) <;> ((refine thenQ_nrm ?_; (refine W_seq ?_; (refine W_seq ?_; (refine W_rgn ?_; ((refine Ra rfl (X_mv rfl ?_)) <;> (first | (refine Ra rfl (X_bin (v := .bool false) rfl rfl rfl ?_)) | (refine Ra rfl (X_neq rfl rfl (fun hh => absurd hh he) (fun _ => ?_)))) <;> (refine R_nil ?_))) <;> ((refine thenQ_nrm ?_; (refine W_cond rfl (fun ht => ?_) (fun ht => ?_) <;> (first | exact absurd ht (by decide) | (refine W_seq ?_; (refine W_rgn ?_; ((refine Ra rfl (X_mv rfl ?_)) <;> (refine Ra rfl (X_mv rfl ?_)) <;> (refine Ra rfl (X_mv rfl ?_)) <;> (refine R_nil ?_))) <;> ((refine thenQ_nrm ?_; (refine W_ret ?_)))) | (refine W_skip ?_)))))) <;> (first | refine thenQ_ret ?_ | (refine thenQ_nrm ?_; (refine W_seq ?_; (refine W_rgn ?_; ((refine Ra rfl (X_faddr rfl ?_)) <;> (refine Ra rfl (xSlBox (xs := (runV c st pk fu).1.rg.map cI) rfl (fun z hz => by obtain ⟨x, _, rfl⟩ := List.mem_map.1 hz; rfl) (by rw [List.length_map]; exact hrl) (by rw [st_len hrl]; exact Nat.le_add_right _ _) (st_take hrl) (fun v23 Z23 hz23 hf23 => ?_))) <;> (refine Ra rfl (xCg (CloneI_ok lo (l := (runV c st pk fu).1.rg) (hl := ⟨hf23⟩) (by omega)) rfl (fun v24 Z24 hz24 => ?_))) <;> (refine Ra rfl (X_mv rfl ?_)) <;> (refine Ra rfl (X_mv rfl ?_)) <;> (refine R_nil ?_))) <;> ((refine thenQ_nrm ?_; (refine W_ret ?_)))))))))))))
  <;> (refine fn_ret (Res.tmp rfl (Res.tmp rfl Res.nil)) ?_)
  all_goals first
    | exact Upd.nil (.inl ⟨_, by assumption, by assumption, rfl, rfl⟩)
    | exact absurd rfl (by assumption)
    | exact Upd.has (hG rfl Has.nil) (.inr ⟨hE, _, rfl, rfl⟩)
end Go.Proofs.Ytffdcbhhajagjaa.Hm.V
