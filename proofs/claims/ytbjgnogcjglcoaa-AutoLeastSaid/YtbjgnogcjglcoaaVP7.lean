/- Of layer 27: after. -/
import Derived.Test.YtbjgnogcjglcoaaHF
import Derived.Test.YtbjgnogcjglcoaaA6
import Derived.Test.YtbjgnogcjglcoaaVP6
namespace Go.Proofs.Ytbjgnogcjglcoaa.Hm.V
open Go
set_option linter.all false
set_option maxRecDepth 100000
attribute [local irreducible] X S R D W Call Upd Rds Rck Sees Res Cel CallP fnQ
/-- The sets of after, the first so many. -/
def aftL (a : Au) (n : Nat) : List Nat := (List.range n).map (aftN a)
theorem aftL_len (a : Au) (n : Nat) : (aftL a n).length = n := by simp [aftL]
theorem aftL_succ (a : Au) (n : Nat) : aftL a (n + 1) = aftL a n ++ [aftN a n] := by unfold aftL; rw [List.range_succ, List.map_append]; rfl
theorem aftL_at {a : Au} {n i : Nat} (h : i < n) : (aftL a n).getD i default = aftN a i := by
  rw [getD_eq (by rw [aftL_len]; exact h)]
  simp only [aftL, List.getElem_map, List.getElem_range]
set_option maxHeartbeats 4000000 in
theorem after_ok (lo : Nat) {Z : Vw} {v : Value} {a : Au} (ha : AuV Z v a) (hA : isAutoP a) : CallP F lo 62 [v, .int .i64 a.S] Z fun r Z' => Fz Z' 4 r ((aftL a (a.S.toNat + 1)).map cS) := by
  have hinE := isAuto_en hA
  have hinD := isAuto_ed hA
  have hS0 := hA.1
  have hS1 := hA.2.1
  have hel9 := hA.2.2.2.2.1
  have hV := ha
  obtain ⟨vs, ve, vg, rfl, hs, he, hg, q1, q2, q3⟩ := ha
  refine FnP (fn := c62) rfl rfl rfl ?_
  (refine W_seq ?_; (refine W_rgn ?_; ((refine Ra rfl (xBox rfl (fun b2 => ?_))) <;> (refine Ra rfl (X_mv rfl ?_)) <;> (refine R_nil ?_))) <;> ((refine thenQ_nrm ?_; (refine W_seq ?_; (refine W_rgn ?_; ((refine Ra rfl (X_faddr rfl ?_)) <;> (refine Ra rfl (X_load (lB rfl rfl) ?_)) <;> (refine Ra rfl (xP (Of_ok lo (by assumption) (by assumption)) rfl (fun _ Z11 hz11 hq => ?_)); (subst hq)) <;> (refine Ra rfl (X_bsliceC (pCons rfl Parts.nil) rfl rfl rfl (fun v12 => ?_))) <;> (refine Ra rfl (X_mv rfl ?_)) <;> (refine R_nil ?_))) <;> ((refine thenQ_nrm ?_; (refine W_seq ?_; (refine W_seq ?_; (refine W_rgn ?_; ((refine Ra rfl (X_mv rfl ?_)) <;> (refine R_nil ?_))) <;> ((refine thenQ_nrm ?_; (refine W_block ?_; ((
      refine wLoop (fun p : Nat × Value => match p with | (i, vl) => [(6, .int .i64 (i : Nat)), (5, vl)]) (fun p => match p with | (i, vl) => [.gro vl 4 ((aftL a (i + 1)).map cS), .box b2 [.int .i64 a.S, .int .i64 a.L, vs, ve, vg]]) (fun p _ => match p with | (i, _) => i ≤ a.S.toNat) (fun p => match p with | (i, _) => a.S.toNat - i) (0, v12) (by repeat' (first | exact trivial | exact rfl | constructor))
        (Upd.done ⟨Nat.zero_le _, hAG rfl rfl rfl (hB rfl Has.nil)⟩) ?_
      rintro ⟨i, vl⟩ Z1 hz1 hi
      have hi : i ≤ a.S.toNat := hi
      have hal := aftL_len a (i + 1)
      have hgi : (aftL a (i + 1)).getD i default = aftN a i := aftL_at (by omega)) <;> (refine W_seq ?_; (refine W_seq ?_; (refine W_rgn ?_; ((refine Ra rfl (X_mv rfl ?_)) <;> (refine Ra rfl (X_mv rfl ?_)) <;> (refine Ra rfl (X_lss rfl rfl (fun _ => ?_) (fun _ => ?_))) <;> (refine R_nil ?_))) <;> ((refine thenQ_nrm ?_; (refine W_cond rfl (fun ht => ?_) (fun ht => ?_) <;> (first | exact absurd ht (by decide) | (refine W_skip ?_) | (refine W_exit ?_)))))) <;> (first | refine thenQ_ext ?_ | (refine thenQ_nrm ?_; (refine W_seq ?_; (refine W_block ?_; (refine W_seq ?_; (refine W_rgn ?_; ((refine Ra rfl (X_alloc (fun b7 => ?_))) <;> (refine R_nil ?_))) <;> ((refine thenQ_nrm ?_; (refine W_seq ?_; (refine W_seq ?_; (refine W_rgn ?_; ((refine Ra rfl (X_mv rfl ?_)) <;> (refine R_nil ?_))) <;> ((refine thenQ_nrm ?_; (refine W_block ?_; ((
      refine wLoop (fun j : Nat => [(8, .int .i64 (j : Nat))]) (fun j => [.box b7 (cS (backAny (a.ed.take j) (aftN a i))), .gro vl 4 ((aftL a (i + 1)).map cS), .box b2 [.int .i64 a.S, .int .i64 a.L, vs, ve, vg]]) (fun j _ => j ≤ a.ed.length) (fun j => a.ed.length - j) 0 (by repeat' (first | exact trivial | exact rfl | constructor))
        (Upd.done ⟨Nat.zero_le _, hB (by simp [backAny, cS_zero]) (hG rfl (hB rfl Has.nil))⟩) ?_
      intro j Z2 hz2 hj
      have hel := hinD j) <;> (refine W_seq ?_; (refine W_seq ?_; (refine W_rgn ?_; ((refine Ra rfl (X_mv rfl ?_)) <;> (refine Ra rfl (X_faddr rfl ?_)) <;> (refine Ra rfl (X_load (lB rfl rfl) ?_)) <;> (refine Ra rfl (xLen rfl ?_)) <;> (refine Ra rfl (X_lss rfl rfl (fun _ => ?_) (fun _ => ?_))) <;> (refine R_nil ?_))) <;> ((refine thenQ_nrm ?_; (refine W_cond rfl (fun ht => ?_) (fun ht => ?_) <;> (first | exact absurd ht (by decide) | (refine W_skip ?_) | (refine W_exit ?_)))))) <;> (first | refine thenQ_ext ?_ | (refine thenQ_nrm ?_; (refine W_seq ?_; (refine W_block ?_; (refine W_seq ?_; (refine W_drw ?_; ((refine Da rfl rfl (X_mv rfl ?_)) <;> (refine Da rfl rfl (X_mv rfl ?_)) <;> (refine Da rfl rfl (xIa rfl rfl (by omega) (by omega) ?_)) <;> (refine Da rfl rfl (X_load (lEA rfl (by omega)) ?_)) <;> (refine Da rfl rfl (X_faddr rfl ?_)) <;> (refine Da rfl rfl (X_load (lB rfl rfl) ?_)) <;> (refine Da rfl rfl (X_mv rfl ?_)) <;> (refine Da rfl rfl (xIa rfl rfl (by omega) (by omega) ?_)) <;> (refine Da rfl rfl (X_faddr rfl ?_)) <;> (refine Da rfl rfl (X_load (lE rfl (by omega) rfl) ?_)) <;> (refine Da rfl rfl (xP (Has_ok lo (by omega) (by omega)) rfl (fun _ Z35 hz35 hb35 => ?_)); (obtain ⟨b35, rfl, hb35⟩ := hb35; rw [hgi] at hb35; cases b35)) <;> (refine D_nil ?_))) <;> ((refine thenQ_nrm ?_; (refine W_cond rfl (fun ht => ?_) (fun ht => ?_) <;> (first | exact absurd ht (by decide) | (refine W_drw ?_; ((refine Da rfl rfl (X_load (lBA rfl rfl) ?_)) <;> (refine Da rfl rfl (X_faddr rfl ?_)) <;> (refine Da rfl rfl (X_load (lB rfl rfl) ?_)) <;> (refine Da rfl rfl (X_mv rfl ?_)) <;> (refine Da rfl rfl (xIa rfl rfl (by omega) (by omega) ?_)) <;> (refine Da rfl rfl (X_faddr rfl ?_)) <;> (refine Da rfl rfl (X_load (lE0 rfl (by omega) rfl) ?_)) <;> (refine Da rfl rfl (xP (With_ok lo (by omega) (by omega)) rfl (fun _ Z43 hz43 hq => ?_)); (subst hq)) <;> (refine Dn rfl (xSW rfl rfl rfl rfl ?_)) <;> (refine D_nil ?_))) | (refine W_skip ?_)))))) <;> (refine blockQ_nrm ?_)) <;> ((refine thenQ_nrm ?_; (refine W_rgn ?_; ((refine Ra rfl (X_mv rfl ?_)) <;> (refine Ra rfl (X_addI rfl rfl (by omega) (by omega) ?_)) <;> (refine Ra rfl (X_mv rfl ?_)) <;> (refine R_nil ?_))))))))) <;> (first | refine thenQ_ext ?_ | (refine thenQ_nrm ?_; (
        refine Upd.done ⟨j + 1, by omega, by omega, (by repeat' (first | exact trivial | exact rfl | constructor)), hB ?_ (hG rfl (hB rfl Has.nil))⟩
        rw [backAny_take (by omega)]
        first
          | rw [if_pos hb35.symm]
          | rw [if_neg (fun hc => absurd (hb35.trans hc) Bool.false_ne_true)])))) <;> (refine blockQ_ext ?_))))) <;> ((refine thenQ_nrm ?_; (refine W_rgn ?_; ((refine Ra rfl (X_mv rfl ?_)) <;> (refine Ra rfl (X_load (lBA rfl rfl) ?_)) <;> (refine Ra rfl (X_bsliceC (pCons rfl Parts.nil) rfl rfl rfl (fun v46 => ?_))) <;> (refine Ra rfl (xApGm (backAny (a.ed.take j) (aftN a i)) rfl rfl rfl (by omega) (fun v47 => ?_))) <;> (refine Ra rfl (X_mv rfl ?_)) <;> (refine R_nil ?_))))))))) <;> (refine blockQ_nrm ?_)) <;> ((refine thenQ_nrm ?_; (refine W_rgn ?_; ((refine Ra rfl (X_mv rfl ?_)) <;> (refine Ra rfl (X_addI rfl rfl (by omega) (by omega) ?_)) <;> (refine Ra rfl (X_mv rfl ?_)) <;> (refine R_nil ?_))))))))) <;> (first | refine thenQ_ext ?_ | (refine thenQ_nrm ?_; (
        refine Upd.done ⟨(i + 1, _), ?_, ?_, (by repeat' (first | exact trivial | exact rfl | constructor)), hG ?_ (hB rfl Has.nil)⟩
        · show a.S.toNat - (i + 1) < a.S.toNat - i
          omega
        · show i + 1 ≤ a.S.toNat
          omega
        · rw [aftL_succ a (i + 1), show a.ed.take j = a.ed from List.take_of_length_le (by omega)]
          rfl)))) <;> (refine blockQ_ext ?_))))) <;> ((refine thenQ_nrm ?_; (refine W_seq ?_; (refine W_rgn ?_; ((refine Ra rfl (X_mv rfl ?_)) <;> (refine Ra rfl (X_mv rfl ?_)) <;> (refine R_nil ?_))) <;> ((refine thenQ_nrm ?_; (refine W_ret ?_)))))))))))))
  <;> (refine fn_ret (Res.tmp rfl Res.nil) ?_)
  all_goals
    obtain rfl : i = a.S.toNat := by omega
    exact uG vl fun Z9 hz9 f3 => Upd.nil ⟨rfl, f3⟩
end Go.Proofs.Ytbjgnogcjglcoaa.Hm.V
