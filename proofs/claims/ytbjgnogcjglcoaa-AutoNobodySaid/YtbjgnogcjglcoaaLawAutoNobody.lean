import Derived.Test.YtbjgnogcjglcoaaVLnobody
import Derived.Test.YtbjgnogcjglcoaaHG
import Derived.Test.YtbjgnogcjglcoaaVAu
import Derived.Test.YtbjgnogcjglcoaaRows
namespace Go.Proofs.Ytbjgnogcjglcoaa.Hm.V
open Go Go.RowKit Go.ChangeShapes Go.WideShapes Go.Proofs.Ytbjgnogcjglcoaa.Hm
set_option linter.all false
theorem autoNobody_own : ownKnob Try.prog.godebug = none := by kernel_rfl
theorem autoNobody_laid : laidOutB Try.prog = true := by kernel_rfl
theorem autoNobody_ip : Try.prog.inPlace 17 = Rows.autoNobodyRow.inPlace := by kernel_rfl
theorem autoNobody_uf : Try.prog.unfollowed 17 = Rows.autoNobodyRow.unfollowed := by kernel_rfl
theorem autoNobody_re : Try.prog.recurses 17 = Rows.autoNobodyRow.recurses := by kernel_rfl
theorem autoNobody_vn : Try.prog.varsNamed 17 = Rows.autoNobodyRow.named := by kernel_rfl
theorem autoNobody_facts : joinedFacts Try.prog 17 Try.f17 Rows.autoNobodySpec Rows.autoNobodyRow = true := by
  unfold joinedFacts
  rw [autoNobody_ip, autoNobody_uf, autoNobody_re, autoNobody_vn]
  kernel_rfl
set_option maxRecDepth 100000 in
theorem autoNobody_lifted (os : Os) (started : os.Started) (D : Type) (enc : TypeId × Value → D) :
    ReturnsInHanded {} Try.checked os 17 .any (Rows.autoNobodySpec.pre6 enc Try.prog Try.f17 Rows.autoNobodyRow.domain false) (Rows.autoNobodySpec.post enc Try.prog Try.f17 false true false false) :=
  law_lifted (C := Try.checked) (F := F) (ts := [3, 22, 23, 25, 65]) autoNobody_own started (by kernel_rfl) Try.func17
    (ChangeSpec.witness6 (enc := enc) (C := Try.checked) false ⟨#[], #[.agg #[.int .i64 0, .int .i64 0, .slice none 0 0, .slice none 0 0, .slice none 0 0], .agg #[.int .i64 0, .int .i64 0, .slice none 0 0, .slice none 0 0, .slice none 0 0], .slice none 0 0], []⟩ 8 (by kernel_rfl) (by kernel_rfl) (by kernel_rfl) (by kernel_rfl))
    rfl rfl Try.underlying4 (fun ds hl => by
      match ds, hl with
      | [_, _, _], _ => rfl)
    autoNobody_laid (by kernel_rfl) fok mixed (by decide +kernel) (by decide +kernel)
    (fun ds h vs hp hm kk hwt => callP_run hp hm (by
      obtain ⟨v0, vs', d0, ds', rfl, rfl, k0, kk⟩ := TAs_cons kk
      obtain ⟨v1, vs', d1, ds', rfl, rfl, k1, kk⟩ := TAs_cons kk
      obtain ⟨v2, vs', d2, ds', rfl, rfl, k2, kk⟩ := TAs_cons kk
      obtain rfl := TAs_nil kk
      obtain ⟨a, ha⟩ := AuV_of k0
      obtain ⟨b, hb⟩ := AuV_of k1
      obtain ⟨w2, l, e2, hl, hm, _⟩ := TR_ints (TA_one k2 (by kernel_rfl)) Try.underlying22 Try.underlying3 (by kernel_rfl)
      cases e2
      haveI hl : Ints (viewOf h) v2 l := hl
      have hm : l.length < 9223372036854775808 := Nat.lt_of_le_of_lt hm (by decide)
      exact AutoNobody_ok h.n ha hb hm))
theorem autoNobody_over : Rows.autoNobodyRow.holds Try.pinned (OpenSpec.ofChange Rows.autoNobodySpec) :=
  OpenClaim.holds_of_wide 17 Try.f17 rfl rfl rfl rfl rfl rfl rfl ⟨rfl, rfl, rfl, rfl, rfl⟩ rfl rfl rfl rfl rfl (by kernel_rfl) Try.func17 autoNobody_facts
    (of_decide_eq_true (by kernel_rfl)) (by unfold Func.isWrapper; first | (rw [if_pos (by decide +kernel)]; kernel_rfl) | (rw [if_neg (by decide +kernel)]; exact ⟨rfl, rfl⟩))
    (fun os started H enc _ => autoNobody_lifted os started H enc)
#print axioms autoNobody_over
end Go.Proofs.Ytbjgnogcjglcoaa.Hm.V
namespace Go.Proofs.Ytbjgnogcjglcoaa
theorem autoNobody_holds : Rows.AutoNobodySaid := Hm.V.autoNobody_over
end Go.Proofs.Ytbjgnogcjglcoaa
