import Derived.Test.YtlidnionbofkaaaVLback
import Derived.Test.YtlidnionbofkaaaHG
import Derived.Test.YtlidnionbofkaaaVEa
import Derived.Test.YtlidnionbofkaaaRows
namespace Go.Proofs.Ytlidnionbofkaaa.Hm.V
open Go Go.RowKit Go.ChangeShapes Go.WideShapes Go.Proofs.Ytlidnionbofkaaa.Hm
set_option linter.all false
theorem exprBack_own : ownKnob Try.prog.godebug = none := by kernel_rfl
theorem exprBack_laid : laidOutB Try.prog = true := by kernel_rfl
theorem exprBack_ip : Try.prog.inPlace 4 = Rows.exprBackRow.inPlace := by kernel_rfl
theorem exprBack_uf : Try.prog.unfollowed 4 = Rows.exprBackRow.unfollowed := by kernel_rfl
theorem exprBack_re : Try.prog.recurses 4 = Rows.exprBackRow.recurses := by kernel_rfl
theorem exprBack_vn : Try.prog.varsNamed 4 = Rows.exprBackRow.named := by kernel_rfl
theorem exprBack_facts : joinedFacts Try.prog 4 Try.f4 Rows.exprBackSpec Rows.exprBackRow = true := by
  unfold joinedFacts
  rw [exprBack_ip, exprBack_uf, exprBack_re, exprBack_vn]
  kernel_rfl
set_option maxRecDepth 100000 in
theorem exprBack_lifted (os : Os) (started : os.Started) (D : Type) (enc : TypeId × Value → D) :
    ReturnsInHanded {} Try.checked os 4 .any (Rows.exprBackSpec.pre6 enc Try.prog Try.f4 Rows.exprBackRow.domain false) (Rows.exprBackSpec.post enc Try.prog Try.f4 false true false false) :=
  law_lifted (C := Try.checked) (F := F) (ts := [3, 9, 22, 24, 26, 53]) exprBack_own started (by kernel_rfl) Try.func4
    (ChangeSpec.witness6 (enc := enc) (C := Try.checked) false ⟨#[], #[.int .i64 0, .slice none 0 0, .int .i64 0, .agg #[.int .i64 0, .int .i64 0, .int .i64 0, .slice none 0 0]], []⟩ 8 (by kernel_rfl) (by kernel_rfl) (by kernel_rfl) (by kernel_rfl))
    rfl rfl Try.underlying4 (fun ds hl => by
      match ds, hl with
      | [_, _, _, _], _ => rfl)
    exprBack_laid (by kernel_rfl) fok mixed (by decide +kernel) (by decide +kernel)
    (fun ds h vs hp hm kk hwt => callP_run hp hm (by
      obtain ⟨v0, vs', d0, ds', rfl, rfl, k0, kk⟩ := TAs_cons kk
      obtain ⟨v1, vs', d1, ds', rfl, rfl, k1, kk⟩ := TAs_cons kk
      obtain ⟨v2, vs', d2, ds', rfl, rfl, k2, kk⟩ := TAs_cons kk
      obtain ⟨v3, vs', d3, ds', rfl, rfl, k3, kk⟩ := TAs_cons kk
      obtain rfl := TAs_nil kk
      obtain ⟨w, e0, _⟩ := TR_int (TA_one k0 (by kernel_rfl)) Try.underlying3
      cases e0
      obtain ⟨vs, hv1, hvl, hnm⟩ := Vrs_of k1
      obtain ⟨k, e2, _⟩ := TR_int (TA_one k2 (by kernel_rfl)) Try.underlying3
      cases e2
      obtain ⟨t, rfl, htr⟩ := Et_of k3
      exact ExprBack_ok h.n hvl hnm hv1 htr))
theorem exprBack_over : Rows.exprBackRow.holds Try.pinned (OpenSpec.ofChange Rows.exprBackSpec) :=
  OpenClaim.holds_of_wide 4 Try.f4 rfl rfl rfl rfl rfl rfl rfl ⟨rfl, rfl, rfl, rfl, rfl⟩ rfl rfl rfl rfl rfl (by kernel_rfl) Try.func4 exprBack_facts
    (of_decide_eq_true (by kernel_rfl)) (by unfold Func.isWrapper; first | (rw [if_pos (by decide +kernel)]; kernel_rfl) | (rw [if_neg (by decide +kernel)]; exact ⟨rfl, rfl⟩))
    (fun os started H enc _ => exprBack_lifted os started H enc)
#print axioms exprBack_over
end Go.Proofs.Ytlidnionbofkaaa.Hm.V
namespace Go.Proofs.Ytlidnionbofkaaa
theorem exprBack_holds : Rows.ExprBackSaid := Hm.V.exprBack_over
end Go.Proofs.Ytlidnionbofkaaa
