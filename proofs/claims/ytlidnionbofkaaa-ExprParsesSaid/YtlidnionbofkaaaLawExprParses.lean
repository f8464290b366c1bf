import Derived.Test.YtlidnionbofkaaaVLparses
import Derived.Test.YtlidnionbofkaaaHG
import Derived.Test.YtlidnionbofkaaaVEa
import Derived.Test.YtlidnionbofkaaaRows
namespace Go.Proofs.Ytlidnionbofkaaa.Hm.V
open Go Go.RowKit Go.ChangeShapes Go.WideShapes Go.Proofs.Ytlidnionbofkaaa.Hm
set_option linter.all false
theorem exprParses_own : ownKnob Try.prog.godebug = none := by kernel_rfl
theorem exprParses_laid : laidOutB Try.prog = true := by kernel_rfl
theorem exprParses_ip : Try.prog.inPlace 3 = Rows.exprParsesRow.inPlace := by kernel_rfl
theorem exprParses_uf : Try.prog.unfollowed 3 = Rows.exprParsesRow.unfollowed := by kernel_rfl
theorem exprParses_re : Try.prog.recurses 3 = Rows.exprParsesRow.recurses := by kernel_rfl
theorem exprParses_vn : Try.prog.varsNamed 3 = Rows.exprParsesRow.named := by kernel_rfl
theorem exprParses_facts : joinedFacts Try.prog 3 Try.f3 Rows.exprParsesSpec Rows.exprParsesRow = true := by
  unfold joinedFacts
  rw [exprParses_ip, exprParses_uf, exprParses_re, exprParses_vn]
  kernel_rfl
set_option maxRecDepth 100000 in
theorem exprParses_lifted (os : Os) (started : os.Started) (D : Type) (enc : TypeId × Value → D) :
    ReturnsInHanded {} Try.checked os 3 .any (Rows.exprParsesSpec.pre6 enc Try.prog Try.f3 Rows.exprParsesRow.domain false) (Rows.exprParsesSpec.post enc Try.prog Try.f3 false true false false) :=
  law_lifted (C := Try.checked) (F := F) (ts := [3, 4, 9, 22, 53]) exprParses_own started (by kernel_rfl) Try.func3
    (ChangeSpec.witness6 (enc := enc) (C := Try.checked) false ⟨#[], #[.int .i64 0, .slice none 0 0, .int .i64 0, .string ⟨#[]⟩, .bool false], []⟩ 8 (by kernel_rfl) (by kernel_rfl) (by kernel_rfl) (by kernel_rfl))
    rfl rfl Try.underlying4 (fun ds hl => by
      match ds, hl with
      | [_, _, _, _, _], _ => rfl)
    exprParses_laid (by kernel_rfl) fok mixed (by decide +kernel) (by decide +kernel)
    (fun ds h vs hp hm kk hwt => callP_run hp hm (by
      obtain ⟨v0, vs', d0, ds', rfl, rfl, k0, kk⟩ := TAs_cons kk
      obtain ⟨v1, vs', d1, ds', rfl, rfl, k1, kk⟩ := TAs_cons kk
      obtain ⟨v2, vs', d2, ds', rfl, rfl, k2, kk⟩ := TAs_cons kk
      obtain ⟨v3, vs', d3, ds', rfl, rfl, k3, kk⟩ := TAs_cons kk
      obtain ⟨v4, vs', d4, ds', rfl, rfl, k4, kk⟩ := TAs_cons kk
      obtain rfl := TAs_nil kk
      obtain ⟨w, e0, _⟩ := TR_int (TA_one k0 (by kernel_rfl)) Try.underlying3
      cases e0
      obtain ⟨vs, hv1, hvl, hnm⟩ := Vrs_of k1
      obtain ⟨k, e2, _⟩ := TR_int (TA_one k2 (by kernel_rfl)) Try.underlying3
      cases e2
      obtain ⟨⟨⟨s⟩⟩, e3, hs3⟩ := TR_str (TA_one k3 (by kernel_rfl)) Try.underlying9
      cases e3
      have hs3 : s.length < 9223372036854775808 := Nat.lt_of_le_of_lt hs3 (by decide)
      obtain ⟨lg, e4⟩ := TR_bool (TA_one k4 (by kernel_rfl)) Try.underlying4
      cases e4
      exact ExprParses_ok h.n hvl hnm hs3 hv1))
theorem exprParses_over : Rows.exprParsesRow.holds Try.pinned (OpenSpec.ofChange Rows.exprParsesSpec) :=
  OpenClaim.holds_of_wide 3 Try.f3 rfl rfl rfl rfl rfl rfl rfl ⟨rfl, rfl, rfl, rfl, rfl⟩ rfl rfl rfl rfl rfl (by kernel_rfl) Try.func3 exprParses_facts
    (of_decide_eq_true (by kernel_rfl)) (by unfold Func.isWrapper; first | (rw [if_pos (by decide +kernel)]; kernel_rfl) | (rw [if_neg (by decide +kernel)]; exact ⟨rfl, rfl⟩))
    (fun os started H enc _ => exprParses_lifted os started H enc)
#print axioms exprParses_over
end Go.Proofs.Ytlidnionbofkaaa.Hm.V
namespace Go.Proofs.Ytlidnionbofkaaa
theorem exprParses_holds : Rows.ExprParsesSaid := Hm.V.exprParses_over
end Go.Proofs.Ytlidnionbofkaaa
