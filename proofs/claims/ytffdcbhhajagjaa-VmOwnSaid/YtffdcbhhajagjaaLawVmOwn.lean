/- For all code, fuel and starts VmOwn returns true: no call modifies its arguments, and results are newly allocated. No conditions. -/
import Derived.Test.YtffdcbhhajagjaaVLown
import Derived.Test.YtffdcbhhajagjaaHG
import Derived.Test.YtffdcbhhajagjaaVLa
import Derived.Test.YtffdcbhhajagjaaRows
namespace Go.Proofs.Ytffdcbhhajagjaa.Hm.V
open Go Go.RowKit Go.ChangeShapes Go.WideShapes Go.Proofs.Ytffdcbhhajagjaa.Hm
set_option linter.all false
theorem vmOwn_own : ownKnob Try.prog.godebug = none := by kernel_rfl
theorem vmOwn_laid : laidOutB Try.prog = true := by kernel_rfl
set_option maxRecDepth 100000 in
theorem vmOwn_lifted (os : Os) (started : os.Started) (D : Type) (enc : TypeId × Value → D) :
    ReturnsInHanded {} Try.checked os 7 .any (Rows.vmOwnSpec.pre6 enc Try.prog Try.f7 Rows.vmOwnRow.domain false) (Rows.vmOwnSpec.post enc Try.prog Try.f7 false true false false) :=
  law_lifted (C := Try.checked) (F := F) (ts := [3, 9, 22, 23, 25, 26, 28, 54, 56]) vmOwn_own started (by kernel_rfl) Try.func7
    (ChangeSpec.witness6 (enc := enc) (C := Try.checked) false ⟨#[], #[.agg #[.int .i64 0, .slice none 0 0, .slice none 0 0], .int .i64 0, .agg #[.slice none 0 0, .slice none 0 0]], []⟩ 8 (by kernel_rfl) (by kernel_rfl) (by kernel_rfl) (by kernel_rfl))
    rfl rfl Try.underlying4 (fun ds hl => by
      match ds, hl with
      | [_, _, _], _ => rfl)
    vmOwn_laid (by kernel_rfl) fok mixed (by decide +kernel) (by decide +kernel)
    (fun ds h vs hp hm kk => callP_run hp hm (by
      obtain ⟨v0, vs', d0, ds', rfl, rfl, k0, kk⟩ := TAs_cons kk
      obtain ⟨v1, vs', d1, ds', rfl, rfl, k1, kk⟩ := TAs_cons kk
      obtain ⟨v2, vs', d2, ds', rfl, rfl, k2, kk⟩ := TAs_cons kk
      obtain rfl := TAs_nil kk
      obtain ⟨c, hc⟩ := CdV_of k0
      obtain ⟨fu, e1, _⟩ := TR_int (TA_one k1 (by kernel_rfl)) Try.underlying3
      cases e1
      obtain ⟨st, pk, hs⟩ := StV_of k2
      exact VmOwn_ok h.n hc hs fu))
theorem vmOwn_over : Rows.vmOwnRow.holds Try.pinned (OpenSpec.ofChange Rows.vmOwnSpec) :=
  OpenClaim.holds_of_wide 7 Try.f7 rfl rfl rfl rfl rfl rfl rfl ⟨rfl, rfl, rfl, rfl, rfl⟩ rfl rfl rfl rfl rfl (by kernel_rfl) Try.func7 (by kernel_rfl)
    (of_decide_eq_true (by kernel_rfl)) (by unfold Func.isWrapper; first | (rw [if_pos (by decide +kernel)]; kernel_rfl) | (rw [if_neg (by decide +kernel)]; exact ⟨rfl, rfl⟩))
    (fun os started H enc _ => vmOwn_lifted os started H enc)
#print axioms vmOwn_over
end Go.Proofs.Ytffdcbhhajagjaa.Hm.V
namespace Go.Proofs.Ytffdcbhhajagjaa
/-- The row, under a short name, for the claim. -/
theorem vmOwn_holds : Rows.VmOwnSaid := Hm.V.vmOwn_over
end Go.Proofs.Ytffdcbhhajagjaa
