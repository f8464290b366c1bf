/- For every heading, list of stores, tree and copy ExprCopies returns true: the value of the moved expression is that of the plain expression on the copy's store. No conditions. -/
import Derived.Test.YtlidnionbofkaaaVE14
import Derived.Test.YtlidnionbofkaaaHG
import Derived.Test.YtlidnionbofkaaaVEa
import Derived.Test.YtlidnionbofkaaaRows
namespace Go.Proofs.Ytlidnionbofkaaa.Hm.V
open Go Go.RowKit Go.ChangeShapes Go.WideShapes Go.Proofs.Ytlidnionbofkaaa.Hm
set_option linter.all false
theorem exprCopies_own : ownKnob Try.prog.godebug = none := by kernel_rfl
theorem exprCopies_laid : laidOutB Try.prog = true := by kernel_rfl
theorem exprCopies_ip : Try.prog.inPlace 8 = Rows.exprCopiesRow.inPlace := by kernel_rfl
theorem exprCopies_uf : Try.prog.unfollowed 8 = Rows.exprCopiesRow.unfollowed := by kernel_rfl
theorem exprCopies_re : Try.prog.recurses 8 = Rows.exprCopiesRow.recurses := by kernel_rfl
theorem exprCopies_vn : Try.prog.varsNamed 8 = Rows.exprCopiesRow.named := by kernel_rfl
theorem exprCopies_facts : joinedFacts Try.prog 8 Try.f8 Rows.exprCopiesSpec Rows.exprCopiesRow = true := by
  unfold joinedFacts
  rw [exprCopies_ip, exprCopies_uf, exprCopies_re, exprCopies_vn]
  kernel_rfl
set_option maxRecDepth 100000 in
theorem exprCopies_lifted (os : Os) (started : os.Started) (D : Type) (enc : TypeId × Value → D) :
    ReturnsInHanded {} Try.checked os 8 .any (Rows.exprCopiesSpec.pre6 enc Try.prog Try.f8 Rows.exprCopiesRow.domain false) (Rows.exprCopiesSpec.post enc Try.prog Try.f8 false true false false) :=
  law_lifted (C := Try.checked) (F := F) (ts := [3, 9, 22, 24, 26, 37, 42, 53]) exprCopies_own started (by kernel_rfl) Try.func8
    (ChangeSpec.witness6 (enc := enc) (C := Try.checked) false ⟨#[], #[.int .i64 0, .slice none 0 0, .slice none 0 0, .agg #[.int .i64 0, .int .i64 0, .int .i64 0, .slice none 0 0], .int .i64 0], []⟩ 8 (by kernel_rfl) (by kernel_rfl) (by kernel_rfl) (by kernel_rfl))
    rfl rfl Try.underlying4 (fun ds hl => by
      match ds, hl with
      | [_, _, _, _, _], _ => rfl)
    exprCopies_laid (by kernel_rfl) fok mixed (by decide +kernel) (by decide +kernel)
    (fun ds h vs hp hm kk hwt => callP_run hp hm (by
      obtain ⟨v0, vs', d0, ds', rfl, rfl, k0, kk⟩ := TAs_cons kk
      obtain ⟨v1, vs', d1, ds', rfl, rfl, k1, kk⟩ := TAs_cons kk
      obtain ⟨v2, vs', d2, ds', rfl, rfl, k2, kk⟩ := TAs_cons kk
      obtain ⟨v3, vs', d3, ds', rfl, rfl, k3, kk⟩ := TAs_cons kk
      obtain ⟨v4, vs', d4, ds', rfl, rfl, k4, kk⟩ := TAs_cons kk
      obtain rfl := TAs_nil kk
      obtain ⟨w, e0, _⟩ := TR_int (TA_one k0 (by kernel_rfl)) Try.underlying3
      cases e0
      obtain ⟨vs, hv1, hvl, hnm⟩ := Vrs_of k1
      obtain ⟨rs, hr2, hrk2, hrl2⟩ := Rw_of k2
      obtain ⟨t, rfl, htr⟩ := Et_of k3
      obtain ⟨cp, e4, _⟩ := TR_int (TA_one k4 (by kernel_rfl)) Try.underlying3
      cases e4
      exact ExprCopies_ok h.n hvl hnm hv1 hr2 hrk2 hrl2 htr))
theorem exprCopies_over : Rows.exprCopiesRow.holds Try.pinned (OpenSpec.ofChange Rows.exprCopiesSpec) :=
  OpenClaim.holds_of_wide 8 Try.f8 rfl rfl rfl rfl rfl rfl rfl ⟨rfl, rfl, rfl, rfl, rfl⟩ rfl rfl rfl rfl rfl (by kernel_rfl) Try.func8 exprCopies_facts
    (of_decide_eq_true (by kernel_rfl)) (by unfold Func.isWrapper; first | (rw [if_pos (by decide +kernel)]; kernel_rfl) | (rw [if_neg (by decide +kernel)]; exact ⟨rfl, rfl⟩))
    (fun os started H enc _ => exprCopies_lifted os started H enc)
#print axioms exprCopies_over
end Go.Proofs.Ytlidnionbofkaaa.Hm.V
namespace Go.Proofs.Ytlidnionbofkaaa
/-- The row, under a short name, for the claim. -/
theorem exprCopies_holds : Rows.ExprCopiesSaid := Hm.V.exprCopies_over
end Go.Proofs.Ytlidnionbofkaaa
