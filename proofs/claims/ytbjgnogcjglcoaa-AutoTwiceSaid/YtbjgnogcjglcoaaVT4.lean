import Derived.Test.YtbjgnogcjglcoaaHF
import Derived.Test.YtbjgnogcjglcoaaA6
import Derived.Test.YtbjgnogcjglcoaaVT3
namespace Go.Proofs.Ytbjgnogcjglcoaa.Hm.V
open Go
set_option linter.all false
set_option maxRecDepth 100000
attribute [local irreducible] X S R D W Call Upd Rds Rck Sees Res Cel CallP fnQ
def doneAu (x : Au) : Au := ⟨x.S, x.L, x.st, x.en, doneE x.ed⟩
def turnAu (a : Au) : Au := ⟨a.S, a.L, a.en, a.st, a.ed.map flipE⟩
theorem flip_in {S L : Int} {g : List Ed} (h : edsIn S L g) : edsIn S L (g.map flipE) := fun x hx => by
  obtain ⟨y, hy, rfl⟩ := List.mem_map.1 hx
  obtain ⟨h1, h2, h3, h4, h5, h6⟩ := h y hy
  exact ⟨h3, h4, h1, h2, h5, h6⟩
structure rawAu (x : Au) : Prop where
  h0 : 0 ≤ x.S
  h1 : x.S ≤ 256
  h2 : 1 ≤ x.L
  h3 : x.L ≤ 1024
  st : risingP x.st x.S
  en : risingP x.en x.S
  ed : edsIn x.S x.L x.ed
theorem rawAu.okL {x : Au} (h : rawAu x) : okL x := okL_un h.h0 h.h1 h.h2 h.h3 h.st h.en h.ed
theorem rawAu.fine {x : Au} (h : rawAu x) : fines x.ed := h.ed.fine h.h1 h.h3
theorem rawAu.auto {x : Au} (h : rawAu x) (hn : (x.ed.length : Int) ≤ 200000) : isAutoP (doneAu x) := isAuto_done h.h0 h.h1 h.h2 h.h3 hn h.st h.en h.ed
theorem turn_raw {a : Au} (h : isAutoP a) : rawAu (turnAu a) := ⟨h.1, h.2.1, h.2.2.1, h.2.2.2.1, h.2.2.2.2.2.2.1, h.2.2.2.2.2.1, flip_in (edsIn.of h)⟩
def turnQ (a : Au) (r : Value) (Z : Vw) : Prop := (¬ isAutoP a ∧ r = .tuple ⟨[noAuV, .int .i64 270]⟩) ∨ (isAutoP a ∧ ∃ v, r = .tuple ⟨[v, .int .i64 0]⟩ ∧ AuV Z v (doneAu (turnAu a)))
set_option maxHeartbeats 4000000 in
theorem TurnA_ok (lo : Nat) {Z : Vw} {v : Value} {a : Au} (ha : AuV Z v a) : CallP F lo 41 [v] Z fun r Z' => turnQ a r Z' := by
  have hV := ha
  obtain ⟨vs, ve, vg, rfl, hs, he, hg, q1, q2, q3⟩ := ha
  refine FnP (fn := c41) rfl rfl rfl ?_
  (refine W_seq ?_; (refine W_rgn ?_; ((refine Ra rfl (xBox rfl (fun b1 => ?_))) <;> (refine Ra rfl (X_alloc (fun b2 => ?_))) <;> (refine Ra rfl (X_mv rfl ?_)) <;> (refine R_nil ?_))) <;> ((refine thenQ_nrm ?_; (refine W_seq ?_; (refine W_seq ?_; (refine W_rgn ?_; ((refine Ra rfl (X_load (lBA rfl rfl) ?_)) <;> (refine Ra rfl (xP (Check_ok lo (by first | assumption | exact AuV.le (by assumption) ZC.le)) rfl (fun _ Z9 hz9 hq => ?_)); (obtain ⟨cc, rfl, hc⟩ := hq; rcases hc with ⟨rfl, hA⟩ | ⟨rfl, hA⟩ <;> try (have hS0 := hA.1; have hS1 := hA.2.1; have hL0 := hA.2.2.1; have hL1 := hA.2.2.2.1; have hedl := hA.2.2.2.2.1; have hrst := hA.2.2.2.2.2.1; have hren := hA.2.2.2.2.2.2.1; have hstl := rising_len hrst hS0; have henl := rising_len hren hS0; have hedi := edsIn.of hA))) <;> (refine Ra rfl (X_mv rfl ?_)) <;> (refine R_nil ?_))) <;> ((refine thenQ_nrm ?_; (refine W_seq ?_; (refine W_rgn ?_; ((refine Ra rfl (X_mv rfl ?_)) <;> (first | (refine Ra rfl (X_bin (v := .bool true) rfl rfl rfl ?_)) | (refine Ra rfl (X_bin (v := .bool false) rfl rfl rfl ?_))) <;> (refine R_nil ?_))) <;> ((refine thenQ_nrm ?_; (refine W_cond rfl (fun ht => ?_) (fun ht => ?_) <;> (first | exact absurd ht (by decide) | (refine W_seq ?_; (refine W_rgn ?_; ((refine Ra rfl (X_buildC Parts.nil rfl ?_)) <;> (refine Ra rfl (X_mv rfl ?_)) <;> (refine Rn (xSW rfl rfl rfl rfl ?_)) <;> (refine Ra rfl (X_mv rfl ?_)) <;> (refine R_nil ?_))) <;> ((refine thenQ_nrm ?_; (refine W_ret ?_)))) | (refine W_skip ?_))))))))) <;> (first | refine thenQ_ret ?_ | (refine thenQ_nrm ?_; (refine W_seq ?_; (refine W_drw ?_; ((refine Da rfl rfl (X_faddr rfl ?_)) <;> (refine Da rfl rfl (X_load (lB rfl rfl) ?_)) <;> (refine Da rfl rfl (X_faddr rfl ?_)) <;> (refine Da rfl rfl (X_load (lB rfl rfl) ?_)) <;> (refine Da rfl rfl (X_faddr rfl ?_)) <;> (refine Da rfl rfl (X_load (lB rfl rfl) ?_)) <;> (refine Da rfl rfl (X_faddr rfl ?_)) <;> (refine Da rfl rfl (X_load (lB rfl rfl) ?_)) <;> (refine Da rfl rfl (X_alloc (fun b5 => ?_))) <;> (refine D_consR rfl (S_do rfl (xCg (CloneG1_ok lo (by omega)) rfl (fun w20 Z20 hz20 => ⟨(by (refine rDo rfl rfl (lB rfl rfl) ?_); (refine rDo rfl rfl (lB rfl rfl) ?_); (refine rDo rfl rfl (lB rfl rfl) ?_); exact Rck_nil), ?_⟩)))) <;> (refine D_consR rfl (S_do rfl (xCg (CloneG1_ok lo (by omega)) rfl (fun w23 Z23 hz23 => ⟨(by (refine rDo rfl rfl (lB rfl rfl) ?_); (refine rDo rfl rfl (lB rfl rfl) ?_); exact Rck_nil), ?_⟩)))) <;> (refine Da rfl rfl (X_buildC (pCons rfl (pCons rfl (pCons rfl (pCons rfl Parts.nil)))) rfl ?_)) <;> (refine Da rfl rfl (X_buildC (pCons rfl Parts.nil) rfl ?_)) <;> (refine Dn rfl (xSW rfl rfl rfl rfl ?_)) <;> (refine D_nil ?_))) <;> ((refine thenQ_nrm ?_; (refine W_seq ?_; (refine W_seq ?_; (refine W_rgn ?_; ((refine Ra rfl (X_faddr rfl ?_)) <;> (refine Ra rfl (X_load (lB rfl rfl) ?_)) <;> (refine Ra rfl (xLen rfl ?_)) <;> (refine Ra rfl (X_mv rfl ?_)) <;> (refine R_nil ?_))) <;> ((refine thenQ_nrm ?_; (refine W_block ?_; ((
      refine wLoop (fun p : Nat × Value => match p with | (i, we) => [(29, .int .i64 (i : Nat))]) (fun p => match p with | (i, we) => [.box b5 [.int .i64 a.S, .int .i64 a.L, w20, w23, we], .gro w20 1 (a.en.map cI), .gro w23 1 (a.st.map cI), .gro we 3 (((a.ed.take i).map flipE).map Ed.c), .box b2 [.int .i64 0, .int .i64 0, .slice none 0 0, .slice none 0 0, .slice none 0 0], .box b1 [.int .i64 a.S, .int .i64 a.L, vs, ve, vg]]) (fun p _ => match p with | (i, _) => i ≤ a.ed.length) (fun p => match p with | (i, _) => a.ed.length - i) (0, .slice none 0 0) (by repeat' (first | exact trivial | exact rfl | constructor))
        (Upd.gro0 (e := 3) (by decide) (Upd.done ⟨Nat.zero_le _, hB rfl (hG rfl (hG rfl (hG (by simp) (hB rfl (hB rfl Has.nil)))))⟩)) ?_
      rintro ⟨i, we⟩ Z2 hz2 hi
      have hi : i ≤ a.ed.length := hi
      have htl : ((a.ed.take i).map flipE).length = i := by rw [List.length_map, List.length_take]; omega) <;> (refine W_seq ?_; (refine W_rgn ?_; ((refine Ra rfl (X_lss rfl rfl (fun _ => ?_) (fun _ => ?_))) <;> (refine R_nil ?_))) <;> ((refine thenQ_nrm ?_; (refine W_seq ?_; (refine W_cond rfl (fun ht => ?_) (fun ht => ?_) <;> (first | exact absurd ht (by decide) | (refine W_skip ?_) | (refine W_exit ?_))) <;> (first | refine thenQ_ext ?_ | (refine thenQ_nrm ?_; (refine W_seq ?_; (refine W_block ?_; (refine W_seq ?_; (refine W_rgn ?_; ((refine Ra rfl (xIa rfl rfl (by omega) (by omega) ?_)) <;> (refine Ra rfl (X_load (lEA rfl (by omega)) ?_)) <;> (refine Ra rfl (X_alloc (fun b7 => ?_))) <;> (refine Rn (xSW rfl rfl rfl rfl ?_)) <;> (refine R_nil ?_))) <;> ((refine thenQ_nrm ?_; (refine W_rgn ?_; ((refine Ra rfl (X_faddr rfl ?_)) <;> (refine Ra rfl (X_faddr rfl ?_)) <;> (refine Ra rfl (X_load (lB rfl rfl) ?_)) <;> (refine Ra rfl (X_faddr rfl ?_)) <;> (refine Ra rfl (X_load (lB rfl rfl) ?_)) <;> (refine Ra rfl (X_faddr rfl ?_)) <;> (refine Ra rfl (X_load (lB rfl rfl) ?_)) <;> (refine Ra rfl (X_faddr rfl ?_)) <;> (refine Ra rfl (X_load (lB rfl rfl) ?_)) <;> (refine Ra rfl (X_buildC (pCons rfl (pCons rfl (pCons rfl Parts.nil))) rfl ?_)) <;> (refine Ra rfl (X_bsliceC (pCons rfl Parts.nil) rfl rfl rfl (fun v43 => ?_))) <;> (refine Ra rfl (xApGm (fe := Ed.c) (flipE (a.ed.getD i default)) rfl rfl rfl (by omega) (fun v44 => ?_))) <;> (refine Ra rfl (X_faddr rfl ?_)) <;> (refine Ra rfl (X_faddr rfl ?_)) <;> (refine Rn (xSB rfl rfl rfl rfl rfl ?_)) <;> (refine R_nil ?_)))))) <;> (refine blockQ_nrm ?_)) <;> ((refine thenQ_nrm ?_; (refine W_rgn ?_; ((refine Ra rfl (X_addI rfl rfl (by omega) (by omega) ?_)) <;> (refine Ra rfl (X_mv rfl ?_)) <;> (refine R_nil ?_)))))))))))) <;> (first | refine thenQ_ext ?_ | (refine thenQ_nrm ?_; (
        refine Upd.done ⟨(i + 1, _), ?_, ?_, (by repeat' (first | exact trivial | exact rfl | constructor)), (hB rfl (hG rfl (hG rfl (hG ?_ (hB rfl (hB rfl Has.nil))))))⟩
        · show a.ed.length - (i + 1) < a.ed.length - i
          omega
        · show i + 1 ≤ a.ed.length
          omega
        · rw [take_succ_at (by omega)]; simp only [List.map_append, List.map_cons, List.map_nil])))) <;> (refine blockQ_ext ?_))))) <;> ((refine thenQ_nrm ?_; (refine W_seq ?_; (refine W_rgn ?_; ((refine Ra rfl (X_upd ?_); (obtain rfl : i = a.ed.length := (by omega); refine Upd.done ?_; refine xNe (L' := []) (done_ok lo hren hrst ((flip_in hedi).fine hS1 hL1) (by omega) (by omega) (by simp only [List.length_map]; omega)) rfl (pB rfl (pG rfl (pG rfl (pG (by rw [List.take_length]) Pick.nil)))) (fun v48 Z48 hz48 hv48 => ?_); obtain ⟨xs, xe, xg, rfl, ys, ye, yg, z1, z2, z3⟩ := hv48)) <;> (refine Rn (xSW rfl rfl rfl rfl ?_)) <;> (refine Ra rfl (X_mv rfl ?_)) <;> (refine R_nil ?_))) <;> ((refine thenQ_nrm ?_; (refine W_ret ?_))))))))))))))))
  <;> (refine fn_ret (rA rfl rfl (Res.tmp rfl Res.nil)) ?_)
  all_goals first
    | exact Upd.nil ⟨rfl, .inl ⟨hA, rfl⟩⟩
    | exact Upd.nil ⟨rfl, .inr ⟨hA, _, rfl, xs, xe, xg, rfl, ys.le ZC.le, ye.le ZC.le, yg.le ZC.le, z1, z2, z3⟩⟩
end Go.Proofs.Ytbjgnogcjglcoaa.Hm.V
