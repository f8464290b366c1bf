import Derived.Test.YtbjgnogcjglcoaaVLpairs
import Derived.Test.YtbjgnogcjglcoaaHG
import Derived.Test.YtbjgnogcjglcoaaVAu
import Derived.Test.YtbjgnogcjglcoaaRows
namespace Go.Proofs.Ytbjgnogcjglcoaa.Hm.V
open Go Go.RowKit Go.ChangeShapes Go.WideShapes Go.Proofs.Ytbjgnogcjglcoaa.Hm
set_option linter.all false
theorem autoPairs_own : ownKnob Try.prog.godebug = none := by kernel_rfl
theorem autoPairs_laid : laidOutB Try.prog = true := by kernel_rfl
theorem autoPairs_ip : Try.prog.inPlace 15 = Rows.autoPairsRow.inPlace := by kernel_rfl
theorem autoPairs_uf : Try.prog.unfollowed 15 = Rows.autoPairsRow.unfollowed := by kernel_rfl
theorem autoPairs_re : Try.prog.recurses 15 = Rows.autoPairsRow.recurses := by kernel_rfl
theorem autoPairs_vn : Try.prog.varsNamed 15 = Rows.autoPairsRow.named := by kernel_rfl
theorem autoPairs_facts : joinedFacts Try.prog 15 Try.f15 Rows.autoPairsSpec Rows.autoPairsRow = true := by
  unfold joinedFacts
  rw [autoPairs_ip, autoPairs_uf, autoPairs_re, autoPairs_vn]
  kernel_rfl
set_option maxRecDepth 100000 in
theorem autoPairs_lifted (os : Os) (started : os.Started) (D : Type) (enc : TypeId × Value → D) :
    ReturnsInHanded {} Try.checked os 15 .any (Rows.autoPairsSpec.pre6 enc Try.prog Try.f15 Rows.autoPairsRow.domain false) (Rows.autoPairsSpec.post enc Try.prog Try.f15 false true false false) :=
  law_lifted (C := Try.checked) (F := F) (ts := [3, 22, 23, 25, 65]) autoPairs_own started (by kernel_rfl) Try.func15
    (ChangeSpec.witness6 (enc := enc) (C := Try.checked) false ⟨#[], #[.agg #[.int .i64 0, .int .i64 0, .slice none 0 0, .slice none 0 0, .slice none 0 0], .agg #[.int .i64 0, .int .i64 0, .slice none 0 0, .slice none 0 0, .slice none 0 0]], []⟩ 8 (by kernel_rfl) (by kernel_rfl) (by kernel_rfl) (by kernel_rfl))
    rfl rfl Try.underlying4 (fun ds hl => by
      match ds, hl with
      | [_, _], _ => rfl)
    autoPairs_laid (by kernel_rfl) fok mixed (by decide +kernel) (by decide +kernel)
    (fun ds h vs hp hm kk hwt => callP_run hp hm (by
      obtain ⟨v0, vs', d0, ds', rfl, rfl, k0, kk⟩ := TAs_cons kk
      obtain ⟨v1, vs', d1, ds', rfl, rfl, k1, kk⟩ := TAs_cons kk
      obtain rfl := TAs_nil kk
      obtain ⟨a, ha⟩ := AuV_of k0
      obtain ⟨b, hb⟩ := AuV_of k1
      exact AutoPairs_ok h.n ha hb))
theorem autoPairs_over : Rows.autoPairsRow.holds Try.pinned (OpenSpec.ofChange Rows.autoPairsSpec) :=
  OpenClaim.holds_of_wide 15 Try.f15 rfl rfl rfl rfl rfl rfl rfl ⟨rfl, rfl, rfl, rfl, rfl⟩ rfl rfl rfl rfl rfl (by kernel_rfl) Try.func15 autoPairs_facts
    (of_decide_eq_true (by kernel_rfl)) (by unfold Func.isWrapper; first | (rw [if_pos (by decide +kernel)]; kernel_rfl) | (rw [if_neg (by decide +kernel)]; exact ⟨rfl, rfl⟩))
    (fun os started H enc _ => autoPairs_lifted os started H enc)
#print axioms autoPairs_over
end Go.Proofs.Ytbjgnogcjglcoaa.Hm.V
namespace Go.Proofs.Ytbjgnogcjglcoaa
theorem autoPairs_holds : Rows.AutoPairsSaid := Hm.V.autoPairs_over
end Go.Proofs.Ytbjgnogcjglcoaa
