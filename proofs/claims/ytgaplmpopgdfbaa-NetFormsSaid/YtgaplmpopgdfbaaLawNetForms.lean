/- For every net, number, inputs and value NetForms returns true: Check, Eval and Clauses return the defined result, or the error. No conditions. -/
import Derived.Test.YtgaplmpopgdfbaaVLforms
import Derived.Test.YtgaplmpopgdfbaaHG
import Derived.Test.YtgaplmpopgdfbaaVNa
import Derived.Test.YtgaplmpopgdfbaaRows
namespace Go.Proofs.Ytgaplmpopgdfbaa.Hm.V
open Go Go.RowKit Go.ChangeShapes Go.WideShapes Go.Proofs.Ytgaplmpopgdfbaa.Hm
set_option linter.all false
theorem netForms_own : ownKnob Try.prog.godebug = none := by kernel_rfl
theorem netForms_laid : laidOutB Try.prog = true := by kernel_rfl
theorem netForms_ip : Try.prog.inPlace 4 = Rows.netFormsRow.inPlace := by kernel_rfl
theorem netForms_uf : Try.prog.unfollowed 4 = Rows.netFormsRow.unfollowed := by kernel_rfl
theorem netForms_re : Try.prog.recurses 4 = Rows.netFormsRow.recurses := by kernel_rfl
theorem netForms_vn : Try.prog.varsNamed 4 = Rows.netFormsRow.named := by kernel_rfl
theorem netForms_facts : joinedFacts Try.prog 4 Try.f4 Rows.netFormsSpec Rows.netFormsRow = true := by
  unfold joinedFacts
  rw [netForms_ip, netForms_uf, netForms_re, netForms_vn]
  kernel_rfl
set_option maxRecDepth 100000 in
theorem netForms_lifted (os : Os) (started : os.Started) (D : Type) (enc : TypeId × Value → D) :
    ReturnsInHanded {} Try.checked os 4 .any (Rows.netFormsSpec.pre6 enc Try.prog Try.f4 Rows.netFormsRow.domain false) (Rows.netFormsSpec.post enc Try.prog Try.f4 false true false false) :=
  law_lifted (C := Try.checked) (F := F) (ts := [3, 31, 33, 42, 74]) netForms_own started (by kernel_rfl) Try.func4
    (ChangeSpec.witness6 (enc := enc) (C := Try.checked) false ⟨#[], #[.agg #[.int .i64 0, .slice none 0 0, .int .i64 0], .int .i64 0, .slice none 0 0, .int .i64 0], []⟩ 8 (by kernel_rfl) (by kernel_rfl) (by kernel_rfl) (by kernel_rfl))
    rfl rfl Try.underlying4 (fun ds hl => by
      match ds, hl with
      | [_, _, _, _], _ => rfl)
    netForms_laid (by kernel_rfl) fok mixed (by decide +kernel) (by decide +kernel)
    (fun ds h vs hp hm kk hwt => callP_run hp hm (by
      obtain ⟨v0, vs', d0, ds', rfl, rfl, k0, kk⟩ := TAs_cons kk
      obtain ⟨v1, vs', d1, ds', rfl, rfl, k1, kk⟩ := TAs_cons kk
      obtain ⟨v2, vs', d2, ds', rfl, rfl, k2, kk⟩ := TAs_cons kk
      obtain ⟨v3, vs', d3, ds', rfl, rfl, k3, kk⟩ := TAs_cons kk
      obtain rfl := TAs_nil kk
      obtain ⟨n, hn⟩ := NtV_of k0
      obtain ⟨g, e1, _⟩ := TR_int (TA_one k1 (by kernel_rfl)) Try.underlying3
      cases e1
      obtain ⟨w2, inp, e2, hl2, hm2, _, hwl2⟩ := TR_intsW (TA_one k2 (by kernel_rfl)) Try.underlying42 Try.underlying3 (by kernel_rfl)
      cases e2
      haveI hl2 : Ints (viewOf h) v2 inp := hl2
      have hm2 : inp.length < 9223372036854775808 := Nat.lt_of_le_of_lt hm2 (by decide)
      obtain ⟨want, e3, _⟩ := TR_int (TA_one k3 (by kernel_rfl)) Try.underlying3
      cases e3
      exact NetForms_ok h.n hn hm2))
theorem netForms_over : Rows.netFormsRow.holds Try.pinned (OpenSpec.ofChange Rows.netFormsSpec) :=
  OpenClaim.holds_of_wide 4 Try.f4 rfl rfl rfl rfl rfl rfl rfl ⟨rfl, rfl, rfl, rfl, rfl⟩ rfl rfl rfl rfl rfl (by kernel_rfl) Try.func4 netForms_facts
    (of_decide_eq_true (by kernel_rfl)) (by unfold Func.isWrapper; first | (rw [if_pos (by decide +kernel)]; kernel_rfl) | (rw [if_neg (by decide +kernel)]; exact ⟨rfl, rfl⟩))
    (fun os started H enc _ => netForms_lifted os started H enc)
#print axioms netForms_over
end Go.Proofs.Ytgaplmpopgdfbaa.Hm.V
namespace Go.Proofs.Ytgaplmpopgdfbaa
/-- The row, under a short name, for the claim. -/
theorem netForms_holds : Rows.NetFormsSaid := Hm.V.netForms_over
end Go.Proofs.Ytgaplmpopgdfbaa
