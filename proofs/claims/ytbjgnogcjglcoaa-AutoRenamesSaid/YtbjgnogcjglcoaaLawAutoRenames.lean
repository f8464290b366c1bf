/- For every automaton, number of letters and list of letters AutoRenames returns true: Rename returns an automaton for the image of the language under the letter map, or the required error. No conditions. -/
import Derived.Test.YtbjgnogcjglcoaaVLrenames
import Derived.Test.YtbjgnogcjglcoaaHG
import Derived.Test.YtbjgnogcjglcoaaVAu
import Derived.Test.YtbjgnogcjglcoaaRows
namespace Go.Proofs.Ytbjgnogcjglcoaa.Hm.V
open Go Go.RowKit Go.ChangeShapes Go.WideShapes Go.Proofs.Ytbjgnogcjglcoaa.Hm
set_option linter.all false
theorem autoRenames_own : ownKnob Try.prog.godebug = none := by kernel_rfl
theorem autoRenames_laid : laidOutB Try.prog = true := by kernel_rfl
theorem autoRenames_ip : Try.prog.inPlace 13 = Rows.autoRenamesRow.inPlace := by kernel_rfl
theorem autoRenames_uf : Try.prog.unfollowed 13 = Rows.autoRenamesRow.unfollowed := by kernel_rfl
theorem autoRenames_re : Try.prog.recurses 13 = Rows.autoRenamesRow.recurses := by kernel_rfl
theorem autoRenames_vn : Try.prog.varsNamed 13 = Rows.autoRenamesRow.named := by kernel_rfl
theorem autoRenames_facts : joinedFacts Try.prog 13 Try.f13 Rows.autoRenamesSpec Rows.autoRenamesRow = true := by
  unfold joinedFacts
  rw [autoRenames_ip, autoRenames_uf, autoRenames_re, autoRenames_vn]
  kernel_rfl
set_option maxRecDepth 100000 in
theorem autoRenames_lifted (os : Os) (started : os.Started) (D : Type) (enc : TypeId × Value → D) :
    ReturnsInHanded {} Try.checked os 13 .any (Rows.autoRenamesSpec.pre6 enc Try.prog Try.f13 Rows.autoRenamesRow.domain false) (Rows.autoRenamesSpec.post enc Try.prog Try.f13 false true false false) :=
  law_lifted (C := Try.checked) (F := F) (ts := [3, 22, 23, 25, 65]) autoRenames_own started (by kernel_rfl) Try.func13
    (ChangeSpec.witness6 (enc := enc) (C := Try.checked) false ⟨#[], #[.agg #[.int .i64 0, .int .i64 0, .slice none 0 0, .slice none 0 0, .slice none 0 0], .int .i64 0, .slice none 0 0], []⟩ 8 (by kernel_rfl) (by kernel_rfl) (by kernel_rfl) (by kernel_rfl))
    rfl rfl Try.underlying4 (fun ds hl => by
      match ds, hl with
      | [_, _, _], _ => rfl)
    autoRenames_laid (by kernel_rfl) fok mixed (by decide +kernel) (by decide +kernel)
    (fun ds h vs hp hm kk => callP_run hp hm (by
      obtain ⟨v0, vs', d0, ds', rfl, rfl, k0, kk⟩ := TAs_cons kk
      obtain ⟨v1, vs', d1, ds', rfl, rfl, k1, kk⟩ := TAs_cons kk
      obtain ⟨v2, vs', d2, ds', rfl, rfl, k2, kk⟩ := TAs_cons kk
      obtain rfl := TAs_nil kk
      obtain ⟨a, ha⟩ := AuV_of k0
      obtain ⟨n, e1, _⟩ := TR_int (TA_one k1 (by kernel_rfl)) Try.underlying3
      cases e1
      obtain ⟨w2, l, e2, hl, hm, _⟩ := TR_ints (TA_one k2 (by kernel_rfl)) Try.underlying22 Try.underlying3 (by kernel_rfl)
      cases e2
      haveI hl : Ints (viewOf h) v2 l := hl
      have hm : l.length < 9223372036854775808 := Nat.lt_of_le_of_lt hm (by decide)
      exact AutoRenames_ok h.n ha hm))
theorem autoRenames_over : Rows.autoRenamesRow.holds Try.pinned (OpenSpec.ofChange Rows.autoRenamesSpec) :=
  OpenClaim.holds_of_wide 13 Try.f13 rfl rfl rfl rfl rfl rfl rfl ⟨rfl, rfl, rfl, rfl, rfl⟩ rfl rfl rfl rfl rfl (by kernel_rfl) Try.func13 autoRenames_facts
    (of_decide_eq_true (by kernel_rfl)) (by unfold Func.isWrapper; first | (rw [if_pos (by decide +kernel)]; kernel_rfl) | (rw [if_neg (by decide +kernel)]; exact ⟨rfl, rfl⟩))
    (fun os started H enc _ => autoRenames_lifted os started H enc)
#print axioms autoRenames_over
end Go.Proofs.Ytbjgnogcjglcoaa.Hm.V
namespace Go.Proofs.Ytbjgnogcjglcoaa
/-- The row, under a short name, for the claim. -/
theorem autoRenames_holds : Rows.AutoRenamesSaid := Hm.V.autoRenames_over
end Go.Proofs.Ytbjgnogcjglcoaa
