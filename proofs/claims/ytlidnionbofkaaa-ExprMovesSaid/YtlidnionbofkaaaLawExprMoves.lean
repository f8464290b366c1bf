/- For every heading, tree and copy ExprMoves returns true: Move returns the expression with that copy in each read, or the error. No conditions. -/
import Derived.Test.YtlidnionbofkaaaVE9
import Derived.Test.YtlidnionbofkaaaHG
import Derived.Test.YtlidnionbofkaaaVEa
import Derived.Test.YtlidnionbofkaaaRows
namespace Go.Proofs.Ytlidnionbofkaaa.Hm.V
open Go Go.RowKit Go.ChangeShapes Go.WideShapes Go.Proofs.Ytlidnionbofkaaa.Hm
set_option linter.all false
theorem exprMoves_own : ownKnob Try.prog.godebug = none := by kernel_rfl
theorem exprMoves_laid : laidOutB Try.prog = true := by kernel_rfl
theorem exprMoves_ip : Try.prog.inPlace 7 = Rows.exprMovesRow.inPlace := by kernel_rfl
theorem exprMoves_uf : Try.prog.unfollowed 7 = Rows.exprMovesRow.unfollowed := by kernel_rfl
theorem exprMoves_re : Try.prog.recurses 7 = Rows.exprMovesRow.recurses := by kernel_rfl
theorem exprMoves_vn : Try.prog.varsNamed 7 = Rows.exprMovesRow.named := by kernel_rfl
theorem exprMoves_facts : joinedFacts Try.prog 7 Try.f7 Rows.exprMovesSpec Rows.exprMovesRow = true := by
  unfold joinedFacts
  rw [exprMoves_ip, exprMoves_uf, exprMoves_re, exprMoves_vn]
  kernel_rfl
set_option maxRecDepth 100000 in
theorem exprMoves_lifted (os : Os) (started : os.Started) (D : Type) (enc : TypeId × Value → D) :
    ReturnsInHanded {} Try.checked os 7 .any (Rows.exprMovesSpec.pre6 enc Try.prog Try.f7 Rows.exprMovesRow.domain false) (Rows.exprMovesSpec.post enc Try.prog Try.f7 false true false false) :=
  law_lifted (C := Try.checked) (F := F) (ts := [3, 9, 22, 24, 26, 53]) exprMoves_own started (by kernel_rfl) Try.func7
    (ChangeSpec.witness6 (enc := enc) (C := Try.checked) false ⟨#[], #[.int .i64 0, .slice none 0 0, .agg #[.int .i64 0, .int .i64 0, .int .i64 0, .slice none 0 0], .int .i64 0], []⟩ 8 (by kernel_rfl) (by kernel_rfl) (by kernel_rfl) (by kernel_rfl))
    rfl rfl Try.underlying4 (fun ds hl => by
      match ds, hl with
      | [_, _, _, _], _ => rfl)
    exprMoves_laid (by kernel_rfl) fok mixed (by decide +kernel) (by decide +kernel)
    (fun ds h vs hp hm kk hwt => callP_run hp hm (by
      obtain ⟨v0, vs', d0, ds', rfl, rfl, k0, kk⟩ := TAs_cons kk
      obtain ⟨v1, vs', d1, ds', rfl, rfl, k1, kk⟩ := TAs_cons kk
      obtain ⟨v2, vs', d2, ds', rfl, rfl, k2, kk⟩ := TAs_cons kk
      obtain ⟨v3, vs', d3, ds', rfl, rfl, k3, kk⟩ := TAs_cons kk
      obtain rfl := TAs_nil kk
      obtain ⟨w, e0, _⟩ := TR_int (TA_one k0 (by kernel_rfl)) Try.underlying3
      cases e0
      obtain ⟨vs, hv1, hvl, hnm⟩ := Vrs_of k1
      obtain ⟨t, rfl, htr⟩ := Et_of k2
      obtain ⟨cp, e3, _⟩ := TR_int (TA_one k3 (by kernel_rfl)) Try.underlying3
      cases e3
      exact ExprMoves_ok h.n hvl hnm hv1 htr))
theorem exprMoves_over : Rows.exprMovesRow.holds Try.pinned (OpenSpec.ofChange Rows.exprMovesSpec) :=
  OpenClaim.holds_of_wide 7 Try.f7 rfl rfl rfl rfl rfl rfl rfl ⟨rfl, rfl, rfl, rfl, rfl⟩ rfl rfl rfl rfl rfl (by kernel_rfl) Try.func7 exprMoves_facts
    (of_decide_eq_true (by kernel_rfl)) (by unfold Func.isWrapper; first | (rw [if_pos (by decide +kernel)]; kernel_rfl) | (rw [if_neg (by decide +kernel)]; exact ⟨rfl, rfl⟩))
    (fun os started H enc _ => exprMoves_lifted os started H enc)
#print axioms exprMoves_over
end Go.Proofs.Ytlidnionbofkaaa.Hm.V
namespace Go.Proofs.Ytlidnionbofkaaa
/-- The row, under a short name, for the claim. -/
theorem exprMoves_holds : Rows.ExprMovesSaid := Hm.V.exprMoves_over
end Go.Proofs.Ytlidnionbofkaaa
