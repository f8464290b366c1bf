/- For every automaton AutoTurns returns true: Turn returns an automaton for the reversed language, or the required error. No conditions. -/
import Derived.Test.YtbjgnogcjglcoaaVLturns
import Derived.Test.YtbjgnogcjglcoaaHG
import Derived.Test.YtbjgnogcjglcoaaVAu
import Derived.Test.YtbjgnogcjglcoaaRows
namespace Go.Proofs.Ytbjgnogcjglcoaa.Hm.V
open Go Go.RowKit Go.ChangeShapes Go.WideShapes Go.Proofs.Ytbjgnogcjglcoaa.Hm
set_option linter.all false
theorem autoTurns_own : ownKnob Try.prog.godebug = none := by kernel_rfl
theorem autoTurns_laid : laidOutB Try.prog = true := by kernel_rfl
theorem autoTurns_ip : Try.prog.inPlace 12 = Rows.autoTurnsRow.inPlace := by kernel_rfl
theorem autoTurns_uf : Try.prog.unfollowed 12 = Rows.autoTurnsRow.unfollowed := by kernel_rfl
theorem autoTurns_re : Try.prog.recurses 12 = Rows.autoTurnsRow.recurses := by kernel_rfl
theorem autoTurns_vn : Try.prog.varsNamed 12 = Rows.autoTurnsRow.named := by kernel_rfl
theorem autoTurns_facts : joinedFacts Try.prog 12 Try.f12 Rows.autoTurnsSpec Rows.autoTurnsRow = true := by
  unfold joinedFacts
  rw [autoTurns_ip, autoTurns_uf, autoTurns_re, autoTurns_vn]
  kernel_rfl
set_option maxRecDepth 100000 in
theorem autoTurns_lifted (os : Os) (started : os.Started) (D : Type) (enc : TypeId × Value → D) :
    ReturnsInHanded {} Try.checked os 12 .any (Rows.autoTurnsSpec.pre6 enc Try.prog Try.f12 Rows.autoTurnsRow.domain false) (Rows.autoTurnsSpec.post enc Try.prog Try.f12 false true false false) :=
  law_lifted (C := Try.checked) (F := F) (ts := [3, 22, 23, 25, 65]) autoTurns_own started (by kernel_rfl) Try.func12
    (ChangeSpec.witness6 (enc := enc) (C := Try.checked) false ⟨#[], #[.agg #[.int .i64 0, .int .i64 0, .slice none 0 0, .slice none 0 0, .slice none 0 0]], []⟩ 8 (by kernel_rfl) (by kernel_rfl) (by kernel_rfl) (by kernel_rfl))
    rfl rfl Try.underlying4 (fun ds hl => by
      match ds, hl with
      | [_], _ => rfl)
    autoTurns_laid (by kernel_rfl) fok mixed (by decide +kernel) (by decide +kernel)
    (fun ds h vs hp hm kk => callP_run hp hm (by
      obtain ⟨v0, vs', d0, ds', rfl, rfl, k0, kk⟩ := TAs_cons kk
      obtain rfl := TAs_nil kk
      obtain ⟨a, ha⟩ := AuV_of k0
      exact AutoTurns_ok h.n ha))
theorem autoTurns_over : Rows.autoTurnsRow.holds Try.pinned (OpenSpec.ofChange Rows.autoTurnsSpec) :=
  OpenClaim.holds_of_wide 12 Try.f12 rfl rfl rfl rfl rfl rfl rfl ⟨rfl, rfl, rfl, rfl, rfl⟩ rfl rfl rfl rfl rfl (by kernel_rfl) Try.func12 autoTurns_facts
    (of_decide_eq_true (by kernel_rfl)) (by unfold Func.isWrapper; first | (rw [if_pos (by decide +kernel)]; kernel_rfl) | (rw [if_neg (by decide +kernel)]; exact ⟨rfl, rfl⟩))
    (fun os started H enc _ => autoTurns_lifted os started H enc)
#print axioms autoTurns_over
end Go.Proofs.Ytbjgnogcjglcoaa.Hm.V
namespace Go.Proofs.Ytbjgnogcjglcoaa
/-- The row, under a short name, for the claim. -/
theorem autoTurns_holds : Rows.AutoTurnsSaid := Hm.V.autoTurns_over
end Go.Proofs.Ytbjgnogcjglcoaa
