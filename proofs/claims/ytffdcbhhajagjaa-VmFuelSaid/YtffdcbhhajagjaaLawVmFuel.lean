/- For all code, fuel and starts VmFuel returns true: with more fuel, a run that is not Spent is unchanged, and a run that is Spent is extended. No conditions. -/
import Derived.Test.YtffdcbhhajagjaaVLfuel
import Derived.Test.YtffdcbhhajagjaaHG
import Derived.Test.YtffdcbhhajagjaaVLa
import Derived.Test.YtffdcbhhajagjaaRows
namespace Go.Proofs.Ytffdcbhhajagjaa.Hm.V
open Go Go.RowKit Go.ChangeShapes Go.WideShapes Go.Proofs.Ytffdcbhhajagjaa.Hm
set_option linter.all false
theorem vmFuel_own : ownKnob Try.prog.godebug = none := by kernel_rfl
theorem vmFuel_laid : laidOutB Try.prog = true := by kernel_rfl
set_option maxRecDepth 100000 in
theorem vmFuel_lifted (os : Os) (started : os.Started) (D : Type) (enc : TypeId × Value → D) :
    ReturnsInHanded {} Try.checked os 5 .any (Rows.vmFuelSpec.pre6 enc Try.prog Try.f5 Rows.vmFuelRow.domain false) (Rows.vmFuelSpec.post enc Try.prog Try.f5 false true false false) :=
  law_lifted (C := Try.checked) (F := F) (ts := [3, 9, 22, 23, 25, 26, 28, 54, 56]) vmFuel_own started (by kernel_rfl) Try.func5
    (ChangeSpec.witness6 (enc := enc) (C := Try.checked) false ⟨#[], #[.agg #[.int .i64 0, .slice none 0 0, .slice none 0 0], .int .i64 0, .int .i64 0, .agg #[.slice none 0 0, .slice none 0 0]], []⟩ 8 (by kernel_rfl) (by kernel_rfl) (by kernel_rfl) (by kernel_rfl))
    rfl rfl Try.underlying4 (fun ds hl => by
      match ds, hl with
      | [_, _, _, _], _ => rfl)
    vmFuel_laid (by kernel_rfl) fok mixed (by decide +kernel) (by decide +kernel)
    (fun ds h vs hp hm kk => callP_run hp hm (by
      obtain ⟨v0, vs', d0, ds', rfl, rfl, k0, kk⟩ := TAs_cons kk
      obtain ⟨v1, vs', d1, ds', rfl, rfl, k1, kk⟩ := TAs_cons kk
      obtain ⟨v2, vs', d2, ds', rfl, rfl, k2, kk⟩ := TAs_cons kk
      obtain ⟨v3, vs', d3, ds', rfl, rfl, k3, kk⟩ := TAs_cons kk
      obtain rfl := TAs_nil kk
      obtain ⟨c, hc⟩ := CdV_of k0
      obtain ⟨fu, e1, _⟩ := TR_int (TA_one k1 (by kernel_rfl)) Try.underlying3
      cases e1
      obtain ⟨mo, e2, _⟩ := TR_int (TA_one k2 (by kernel_rfl)) Try.underlying3
      cases e2
      obtain ⟨st, pk, hs⟩ := StV_of k3
      exact VmFuel_ok h.n hc hs fu mo))
theorem vmFuel_over : Rows.vmFuelRow.holds Try.pinned (OpenSpec.ofChange Rows.vmFuelSpec) :=
  OpenClaim.holds_of_wide 5 Try.f5 rfl rfl rfl rfl rfl rfl rfl ⟨rfl, rfl, rfl, rfl, rfl⟩ rfl rfl rfl rfl rfl (by kernel_rfl) Try.func5 (by kernel_rfl)
    (of_decide_eq_true (by kernel_rfl)) (by unfold Func.isWrapper; first | (rw [if_pos (by decide +kernel)]; kernel_rfl) | (rw [if_neg (by decide +kernel)]; exact ⟨rfl, rfl⟩))
    (fun os started H enc _ => vmFuel_lifted os started H enc)
#print axioms vmFuel_over
end Go.Proofs.Ytffdcbhhajagjaa.Hm.V
namespace Go.Proofs.Ytffdcbhhajagjaa
/-- The row, under a short name, for the claim. -/
theorem vmFuel_holds : Rows.VmFuelSaid := Hm.V.vmFuel_over
end Go.Proofs.Ytffdcbhhajagjaa
