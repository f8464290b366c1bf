/- For every goal and assignment NetWords returns true: Words returns the words of the cells, or the error. No conditions. -/
import Derived.Test.YtgaplmpopgdfbaaVLwords
import Derived.Test.YtgaplmpopgdfbaaHG
import Derived.Test.YtgaplmpopgdfbaaVEa
import Derived.Test.YtgaplmpopgdfbaaRows
namespace Go.Proofs.Ytgaplmpopgdfbaa.Hm.V
open Go Go.RowKit Go.ChangeShapes Go.WideShapes Go.Proofs.Ytgaplmpopgdfbaa.Hm
set_option linter.all false
theorem netWords_own : ownKnob Try.prog.godebug = none := by kernel_rfl
theorem netWords_laid : laidOutB Try.prog = true := by kernel_rfl
theorem netWords_ip : Try.prog.inPlace 6 = Rows.netWordsRow.inPlace := by kernel_rfl
theorem netWords_uf : Try.prog.unfollowed 6 = Rows.netWordsRow.unfollowed := by kernel_rfl
theorem netWords_re : Try.prog.recurses 6 = Rows.netWordsRow.recurses := by kernel_rfl
theorem netWords_vn : Try.prog.varsNamed 6 = Rows.netWordsRow.named := by kernel_rfl
theorem netWords_facts : joinedFacts Try.prog 6 Try.f6 Rows.netWordsSpec Rows.netWordsRow = true := by
  unfold joinedFacts
  rw [netWords_ip, netWords_uf, netWords_re, netWords_vn]
  kernel_rfl
set_option maxRecDepth 100000 in
theorem netWords_lifted (os : Os) (started : os.Started) (D : Type) (enc : TypeId × Value → D) :
    ReturnsInHanded {} Try.checked os 6 .any (Rows.netWordsSpec.pre6 enc Try.prog Try.f6 Rows.netWordsRow.domain false) (Rows.netWordsSpec.post enc Try.prog Try.f6 false true false false) :=
  law_lifted (C := Try.checked) (F := F) (ts := [3, 9, 22, 23, 25, 27, 42, 78]) netWords_own started (by kernel_rfl) Try.func6
    (ChangeSpec.witness6 (enc := enc) (C := Try.checked) false ⟨#[], #[.agg #[.int .i64 0, .slice none 0 0, .int .i64 0, .int .i64 0, .int .i64 0, .slice none 0 0], .slice none 0 0], []⟩ 8 (by kernel_rfl) (by kernel_rfl) (by kernel_rfl) (by kernel_rfl))
    rfl rfl Try.underlying4 (fun ds hl => by
      match ds, hl with
      | [_, _], _ => rfl)
    netWords_laid (by kernel_rfl) fok mixed (by decide +kernel) (by decide +kernel)
    (fun ds h vs hp hm kk hwt => callP_run hp hm (by
      obtain ⟨v0, vs', d0, ds', rfl, rfl, k0, kk⟩ := TAs_cons kk
      obtain ⟨v1, vs', d1, ds', rfl, rfl, k1, kk⟩ := TAs_cons kk
      obtain rfl := TAs_nil kk
      obtain ⟨g, hg⟩ := GlV_of k0
      obtain ⟨w1, m, e1, hl1, hm1, _, hwl1⟩ := TR_intsW (TA_one k1 (by kernel_rfl)) Try.underlying42 Try.underlying3 (by kernel_rfl)
      cases e1
      haveI hl1 : Ints (viewOf h) v1 m := hl1
      have hm1 : m.length < 9223372036854775808 := Nat.lt_of_le_of_lt hm1 (by decide)
      exact NetWords_ok h.n hg hm1))
theorem netWords_over : Rows.netWordsRow.holds Try.pinned (OpenSpec.ofChange Rows.netWordsSpec) :=
  OpenClaim.holds_of_wide 6 Try.f6 rfl rfl rfl rfl rfl rfl rfl ⟨rfl, rfl, rfl, rfl, rfl⟩ rfl rfl rfl rfl rfl (by kernel_rfl) Try.func6 netWords_facts
    (of_decide_eq_true (by kernel_rfl)) (by unfold Func.isWrapper; first | (rw [if_pos (by decide +kernel)]; kernel_rfl) | (rw [if_neg (by decide +kernel)]; exact ⟨rfl, rfl⟩))
    (fun os started H enc _ => netWords_lifted os started H enc)
#print axioms netWords_over
end Go.Proofs.Ytgaplmpopgdfbaa.Hm.V
namespace Go.Proofs.Ytgaplmpopgdfbaa
/-- The row, under a short name, for the claim. -/
theorem netWords_holds : Rows.NetWordsSaid := Hm.V.netWords_over
end Go.Proofs.Ytgaplmpopgdfbaa
