/- For every heading, store and tree ExprOwn returns true: no function changes what it is given, and what Move returns is its own. No conditions. -/
import Derived.Test.YtlidnionbofkaaaVE22
import Derived.Test.YtlidnionbofkaaaHG
import Derived.Test.YtlidnionbofkaaaVEa
import Derived.Test.YtlidnionbofkaaaRows
namespace Go.Proofs.Ytlidnionbofkaaa.Hm.V
open Go Go.RowKit Go.ChangeShapes Go.WideShapes Go.Proofs.Ytlidnionbofkaaa.Hm
set_option linter.all false
theorem exprOwn_own : ownKnob Try.prog.godebug = none := by kernel_rfl
theorem exprOwn_laid : laidOutB Try.prog = true := by kernel_rfl
theorem exprOwn_ip : Try.prog.inPlace 9 = Rows.exprOwnRow.inPlace := by kernel_rfl
theorem exprOwn_uf : Try.prog.unfollowed 9 = Rows.exprOwnRow.unfollowed := by kernel_rfl
theorem exprOwn_re : Try.prog.recurses 9 = Rows.exprOwnRow.recurses := by kernel_rfl
theorem exprOwn_vn : Try.prog.varsNamed 9 = Rows.exprOwnRow.named := by kernel_rfl
theorem exprOwn_facts : joinedFacts Try.prog 9 Try.f9 Rows.exprOwnSpec Rows.exprOwnRow = true := by
  unfold joinedFacts
  rw [exprOwn_ip, exprOwn_uf, exprOwn_re, exprOwn_vn]
  kernel_rfl
set_option maxRecDepth 100000 in
theorem exprOwn_lifted (os : Os) (started : os.Started) (D : Type) (enc : TypeId × Value → D) :
    ReturnsInHanded {} Try.checked os 9 .any (Rows.exprOwnSpec.pre6 enc Try.prog Try.f9 Rows.exprOwnRow.domain false) (Rows.exprOwnSpec.post enc Try.prog Try.f9 false true false false) :=
  law_lifted (C := Try.checked) (F := F) (ts := [3, 9, 22, 24, 26, 42, 53]) exprOwn_own started (by kernel_rfl) Try.func9
    (ChangeSpec.witness6 (enc := enc) (C := Try.checked) false ⟨#[], #[.int .i64 0, .slice none 0 0, .slice none 0 0, .agg #[.int .i64 0, .int .i64 0, .int .i64 0, .slice none 0 0]], []⟩ 8 (by kernel_rfl) (by kernel_rfl) (by kernel_rfl) (by kernel_rfl))
    rfl rfl Try.underlying4 (fun ds hl => by
      match ds, hl with
      | [_, _, _, _], _ => rfl)
    exprOwn_laid (by kernel_rfl) fok mixed (by decide +kernel) (by decide +kernel)
    (fun ds h vs hp hm kk hwt => callP_run hp hm (by
      obtain ⟨v0, vs', d0, ds', rfl, rfl, k0, kk⟩ := TAs_cons kk
      obtain ⟨v1, vs', d1, ds', rfl, rfl, k1, kk⟩ := TAs_cons kk
      obtain ⟨v2, vs', d2, ds', rfl, rfl, k2, kk⟩ := TAs_cons kk
      obtain ⟨v3, vs', d3, ds', rfl, rfl, k3, kk⟩ := TAs_cons kk
      obtain rfl := TAs_nil kk
      obtain ⟨w, e0, _⟩ := TR_int (TA_one k0 (by kernel_rfl)) Try.underlying3
      cases e0
      obtain ⟨vs, hv1, hvl, hnm⟩ := Vrs_of k1
      obtain ⟨w2, l, e2, hl2, hm2, _⟩ := TR_ints (TA_one k2 (by kernel_rfl)) Try.underlying42 Try.underlying3 (by kernel_rfl)
      cases e2
      have hm2 : l.length < 9223372036854775808 := Nat.lt_of_le_of_lt hm2 (by decide)
      obtain ⟨t, rfl, htr⟩ := Et_of k3
      exact ExprOwn_ok h.n hvl hnm hv1 hl2 hm2 htr))
theorem exprOwn_over : Rows.exprOwnRow.holds Try.pinned (OpenSpec.ofChange Rows.exprOwnSpec) :=
  OpenClaim.holds_of_wide 9 Try.f9 rfl rfl rfl rfl rfl rfl rfl ⟨rfl, rfl, rfl, rfl, rfl⟩ rfl rfl rfl rfl rfl (by kernel_rfl) Try.func9 exprOwn_facts
    (of_decide_eq_true (by kernel_rfl)) (by unfold Func.isWrapper; first | (rw [if_pos (by decide +kernel)]; kernel_rfl) | (rw [if_neg (by decide +kernel)]; exact ⟨rfl, rfl⟩))
    (fun os started H enc _ => exprOwn_lifted os started H enc)
#print axioms exprOwn_over
end Go.Proofs.Ytlidnionbofkaaa.Hm.V
namespace Go.Proofs.Ytlidnionbofkaaa
/-- The row, under a short name, for the claim. -/
theorem exprOwn_holds : Rows.ExprOwnSaid := Hm.V.exprOwn_over
end Go.Proofs.Ytlidnionbofkaaa
