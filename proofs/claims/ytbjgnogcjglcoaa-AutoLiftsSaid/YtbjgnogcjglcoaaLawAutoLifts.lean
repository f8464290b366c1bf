/- For every automaton and list of letters AutoLifts returns true: Lift returns an automaton for the inverse image of the language under the letter map, or the required error. No conditions. -/
import Derived.Test.YtbjgnogcjglcoaaVLlifts
import Derived.Test.YtbjgnogcjglcoaaHG
import Derived.Test.YtbjgnogcjglcoaaVAu
import Derived.Test.YtbjgnogcjglcoaaRows
namespace Go.Proofs.Ytbjgnogcjglcoaa.Hm.V
open Go Go.RowKit Go.ChangeShapes Go.WideShapes Go.Proofs.Ytbjgnogcjglcoaa.Hm
set_option linter.all false
theorem autoLifts_own : ownKnob Try.prog.godebug = none := by kernel_rfl
theorem autoLifts_laid : laidOutB Try.prog = true := by kernel_rfl
theorem autoLifts_ip : Try.prog.inPlace 14 = Rows.autoLiftsRow.inPlace := by kernel_rfl
theorem autoLifts_uf : Try.prog.unfollowed 14 = Rows.autoLiftsRow.unfollowed := by kernel_rfl
theorem autoLifts_re : Try.prog.recurses 14 = Rows.autoLiftsRow.recurses := by kernel_rfl
theorem autoLifts_vn : Try.prog.varsNamed 14 = Rows.autoLiftsRow.named := by kernel_rfl
theorem autoLifts_facts : joinedFacts Try.prog 14 Try.f14 Rows.autoLiftsSpec Rows.autoLiftsRow = true := by
  unfold joinedFacts
  rw [autoLifts_ip, autoLifts_uf, autoLifts_re, autoLifts_vn]
  kernel_rfl
set_option maxRecDepth 100000 in
theorem autoLifts_lifted (os : Os) (started : os.Started) (D : Type) (enc : TypeId × Value → D) :
    ReturnsInHanded {} Try.checked os 14 .any (Rows.autoLiftsSpec.pre6 enc Try.prog Try.f14 Rows.autoLiftsRow.domain false) (Rows.autoLiftsSpec.post enc Try.prog Try.f14 false true false false) :=
  law_lifted (C := Try.checked) (F := F) (ts := [3, 22, 23, 25, 65]) autoLifts_own started (by kernel_rfl) Try.func14
    (ChangeSpec.witness6 (enc := enc) (C := Try.checked) false ⟨#[], #[.agg #[.int .i64 0, .int .i64 0, .slice none 0 0, .slice none 0 0, .slice none 0 0], .slice none 0 0], []⟩ 8 (by kernel_rfl) (by kernel_rfl) (by kernel_rfl) (by kernel_rfl))
    rfl rfl Try.underlying4 (fun ds hl => by
      match ds, hl with
      | [_, _], _ => rfl)
    autoLifts_laid (by kernel_rfl) fok mixed (by decide +kernel) (by decide +kernel)
    (fun ds h vs hp hm kk hwt => callP_run hp hm (by
      obtain ⟨v0, vs', d0, ds', rfl, rfl, k0, kk⟩ := TAs_cons kk
      obtain ⟨v1, vs', d1, ds', rfl, rfl, k1, kk⟩ := TAs_cons kk
      obtain rfl := TAs_nil kk
      obtain ⟨a, ha⟩ := AuV_of k0
      obtain ⟨w, l, e1, hl, hm, _⟩ := TR_ints (TA_one k1 (by kernel_rfl)) Try.underlying22 Try.underlying3 (by kernel_rfl)
      cases e1
      haveI hl : Ints (viewOf h) v1 l := hl
      have hm : l.length < 9223372036854775808 := Nat.lt_of_le_of_lt hm (by decide)
      exact AutoLifts_ok h.n ha hm))
theorem autoLifts_over : Rows.autoLiftsRow.holds Try.pinned (OpenSpec.ofChange Rows.autoLiftsSpec) :=
  OpenClaim.holds_of_wide 14 Try.f14 rfl rfl rfl rfl rfl rfl rfl ⟨rfl, rfl, rfl, rfl, rfl⟩ rfl rfl rfl rfl rfl (by kernel_rfl) Try.func14 autoLifts_facts
    (of_decide_eq_true (by kernel_rfl)) (by unfold Func.isWrapper; first | (rw [if_pos (by decide +kernel)]; kernel_rfl) | (rw [if_neg (by decide +kernel)]; exact ⟨rfl, rfl⟩))
    (fun os started H enc _ => autoLifts_lifted os started H enc)
#print axioms autoLifts_over
end Go.Proofs.Ytbjgnogcjglcoaa.Hm.V
namespace Go.Proofs.Ytbjgnogcjglcoaa
/-- The row, under a short name, for the claim. -/
theorem autoLifts_holds : Rows.AutoLiftsSaid := Hm.V.autoLifts_over
end Go.Proofs.Ytbjgnogcjglcoaa
