/- For every automaton AutoNots returns true: Not returns an automaton for the complement, or the required error. No conditions. -/
import Derived.Test.YtbjgnogcjglcoaaVLnots
import Derived.Test.YtbjgnogcjglcoaaHG
import Derived.Test.YtbjgnogcjglcoaaVAu
import Derived.Test.YtbjgnogcjglcoaaRows
namespace Go.Proofs.Ytbjgnogcjglcoaa.Hm.V
open Go Go.RowKit Go.ChangeShapes Go.WideShapes Go.Proofs.Ytbjgnogcjglcoaa.Hm
set_option linter.all false
theorem autoNots_own : ownKnob Try.prog.godebug = none := by kernel_rfl
theorem autoNots_laid : laidOutB Try.prog = true := by kernel_rfl
set_option maxRecDepth 100000 in
theorem autoNots_lifted (os : Os) (started : os.Started) (D : Type) (enc : TypeId × Value → D) :
    ReturnsInHanded {} Try.checked os 7 .any (Rows.autoNotsSpec.pre6 enc Try.prog Try.f7 Rows.autoNotsRow.domain false) (Rows.autoNotsSpec.post enc Try.prog Try.f7 false true false false) :=
  law_lifted (C := Try.checked) (F := F) (ts := [3, 22, 23, 25, 65]) autoNots_own started (by kernel_rfl) Try.func7
    (ChangeSpec.witness6 (enc := enc) (C := Try.checked) false ⟨#[], #[.agg #[.int .i64 0, .int .i64 0, .slice none 0 0, .slice none 0 0, .slice none 0 0]], []⟩ 8 (by kernel_rfl) (by kernel_rfl) (by kernel_rfl) (by kernel_rfl))
    rfl rfl Try.underlying4 (fun ds hl => by
      match ds, hl with
      | [_], _ => rfl)
    autoNots_laid (by kernel_rfl) fok mixed (by decide +kernel) (by decide +kernel)
    (fun ds h vs hp hm kk => callP_run hp hm (by
      obtain ⟨v0, vs', d0, ds', rfl, rfl, k0, kk⟩ := TAs_cons kk
      obtain rfl := TAs_nil kk
      obtain ⟨a, ha⟩ := AuV_of k0
      exact AutoNots_ok h.n ha))
theorem autoNots_over : Rows.autoNotsRow.holds Try.pinned (OpenSpec.ofChange Rows.autoNotsSpec) :=
  OpenClaim.holds_of_wide 7 Try.f7 rfl rfl rfl rfl rfl rfl rfl ⟨rfl, rfl, rfl, rfl, rfl⟩ rfl rfl rfl rfl rfl (by kernel_rfl) Try.func7 (by kernel_rfl)
    (of_decide_eq_true (by kernel_rfl)) (by unfold Func.isWrapper; first | (rw [if_pos (by decide +kernel)]; kernel_rfl) | (rw [if_neg (by decide +kernel)]; exact ⟨rfl, rfl⟩))
    (fun os started H enc _ => autoNots_lifted os started H enc)
#print axioms autoNots_over
end Go.Proofs.Ytbjgnogcjglcoaa.Hm.V
namespace Go.Proofs.Ytbjgnogcjglcoaa
/-- The row, under a short name, for the claim. -/
theorem autoNots_holds : Rows.AutoNotsSaid := Hm.V.autoNots_over
end Go.Proofs.Ytbjgnogcjglcoaa
