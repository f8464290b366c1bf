/- For every heading, list of stores and tree ExprValues returns true: Value is the defined value, Look the value and the events on the first store, or the error. No conditions. -/
import Derived.Test.YtlidnionbofkaaaVE18
import Derived.Test.YtlidnionbofkaaaHG
import Derived.Test.YtlidnionbofkaaaVEa
import Derived.Test.YtlidnionbofkaaaRows
namespace Go.Proofs.Ytlidnionbofkaaa.Hm.V
open Go Go.RowKit Go.ChangeShapes Go.WideShapes Go.Proofs.Ytlidnionbofkaaa.Hm
set_option linter.all false
theorem exprValues_own : ownKnob Try.prog.godebug = none := by kernel_rfl
theorem exprValues_laid : laidOutB Try.prog = true := by kernel_rfl
theorem exprValues_ip : Try.prog.inPlace 5 = Rows.exprValuesRow.inPlace := by kernel_rfl
theorem exprValues_uf : Try.prog.unfollowed 5 = Rows.exprValuesRow.unfollowed := by kernel_rfl
theorem exprValues_re : Try.prog.recurses 5 = Rows.exprValuesRow.recurses := by kernel_rfl
theorem exprValues_vn : Try.prog.varsNamed 5 = Rows.exprValuesRow.named := by kernel_rfl
theorem exprValues_facts : joinedFacts Try.prog 5 Try.f5 Rows.exprValuesSpec Rows.exprValuesRow = true := by
  unfold joinedFacts
  rw [exprValues_ip, exprValues_uf, exprValues_re, exprValues_vn]
  kernel_rfl
set_option maxRecDepth 100000 in
theorem exprValues_lifted (os : Os) (started : os.Started) (D : Type) (enc : TypeId × Value → D) :
    ReturnsInHanded {} Try.checked os 5 .any (Rows.exprValuesSpec.pre6 enc Try.prog Try.f5 Rows.exprValuesRow.domain false) (Rows.exprValuesSpec.post enc Try.prog Try.f5 false true false false) :=
  law_lifted (C := Try.checked) (F := F) (ts := [3, 9, 22, 24, 26, 37, 42, 53]) exprValues_own started (by kernel_rfl) Try.func5
    (ChangeSpec.witness6 (enc := enc) (C := Try.checked) false ⟨#[], #[.int .i64 0, .slice none 0 0, .slice none 0 0, .agg #[.int .i64 0, .int .i64 0, .int .i64 0, .slice none 0 0]], []⟩ 8 (by kernel_rfl) (by kernel_rfl) (by kernel_rfl) (by kernel_rfl))
    rfl rfl Try.underlying4 (fun ds hl => by
      match ds, hl with
      | [_, _, _, _], _ => rfl)
    exprValues_laid (by kernel_rfl) fok mixed (by decide +kernel) (by decide +kernel)
    (fun ds h vs hp hm kk hwt => callP_run hp hm (by
      obtain ⟨v0, vs', d0, ds', rfl, rfl, k0, kk⟩ := TAs_cons kk
      obtain ⟨v1, vs', d1, ds', rfl, rfl, k1, kk⟩ := TAs_cons kk
      obtain ⟨v2, vs', d2, ds', rfl, rfl, k2, kk⟩ := TAs_cons kk
      obtain ⟨v3, vs', d3, ds', rfl, rfl, k3, kk⟩ := TAs_cons kk
      obtain rfl := TAs_nil kk
      obtain ⟨w, e0, _⟩ := TR_int (TA_one k0 (by kernel_rfl)) Try.underlying3
      cases e0
      obtain ⟨vs, hv1, hvl, hnm⟩ := Vrs_of k1
      obtain ⟨rs, hr2, hrk2, hrl2⟩ := Rw_of k2
      obtain ⟨t, rfl, htr⟩ := Et_of k3
      exact ExprValues_ok h.n hvl hnm hv1 hr2 hrk2 hrl2 htr))
theorem exprValues_over : Rows.exprValuesRow.holds Try.pinned (OpenSpec.ofChange Rows.exprValuesSpec) :=
  OpenClaim.holds_of_wide 5 Try.f5 rfl rfl rfl rfl rfl rfl rfl ⟨rfl, rfl, rfl, rfl, rfl⟩ rfl rfl rfl rfl rfl (by kernel_rfl) Try.func5 exprValues_facts
    (of_decide_eq_true (by kernel_rfl)) (by unfold Func.isWrapper; first | (rw [if_pos (by decide +kernel)]; kernel_rfl) | (rw [if_neg (by decide +kernel)]; exact ⟨rfl, rfl⟩))
    (fun os started H enc _ => exprValues_lifted os started H enc)
#print axioms exprValues_over
end Go.Proofs.Ytlidnionbofkaaa.Hm.V
namespace Go.Proofs.Ytlidnionbofkaaa
/-- The row, under a short name, for the claim. -/
theorem exprValues_holds : Rows.ExprValuesSaid := Hm.V.exprValues_over
end Go.Proofs.Ytlidnionbofkaaa
