/- For every net, inputs, rest and value NetModels returns true: the clauses of a net have a model that extends given inputs exactly if Eval returns the wanted value, and that model is unique. No conditions. -/
import Derived.Test.YtgaplmpopgdfbaaVLmodels
import Derived.Test.YtgaplmpopgdfbaaHG
import Derived.Test.YtgaplmpopgdfbaaVNa
import Derived.Test.YtgaplmpopgdfbaaRows
namespace Go.Proofs.Ytgaplmpopgdfbaa.Hm.V
open Go Go.RowKit Go.ChangeShapes Go.WideShapes Go.Proofs.Ytgaplmpopgdfbaa.Hm
set_option linter.all false
theorem netModels_own : ownKnob Try.prog.godebug = none := by kernel_rfl
theorem netModels_laid : laidOutB Try.prog = true := by kernel_rfl
theorem netModels_ip : Try.prog.inPlace 7 = Rows.netModelsRow.inPlace := by kernel_rfl
theorem netModels_uf : Try.prog.unfollowed 7 = Rows.netModelsRow.unfollowed := by kernel_rfl
theorem netModels_re : Try.prog.recurses 7 = Rows.netModelsRow.recurses := by kernel_rfl
theorem netModels_vn : Try.prog.varsNamed 7 = Rows.netModelsRow.named := by kernel_rfl
theorem netModels_facts : joinedFacts Try.prog 7 Try.f7 Rows.netModelsSpec Rows.netModelsRow = true := by
  unfold joinedFacts
  rw [netModels_ip, netModels_uf, netModels_re, netModels_vn]
  kernel_rfl
set_option maxRecDepth 100000 in
theorem netModels_lifted (os : Os) (started : os.Started) (D : Type) (enc : TypeId × Value → D) :
    ReturnsInHanded {} Try.checked os 7 .any (Rows.netModelsSpec.pre6 enc Try.prog Try.f7 Rows.netModelsRow.domain false) (Rows.netModelsSpec.post enc Try.prog Try.f7 false true false false) :=
  law_lifted (C := Try.checked) (F := F) (ts := [3, 31, 33, 42, 74]) netModels_own started (by kernel_rfl) Try.func7
    (ChangeSpec.witness6 (enc := enc) (C := Try.checked) false ⟨#[], #[.agg #[.int .i64 0, .slice none 0 0, .int .i64 0], .slice none 0 0, .slice none 0 0, .int .i64 0], []⟩ 8 (by kernel_rfl) (by kernel_rfl) (by kernel_rfl) (by kernel_rfl))
    rfl rfl Try.underlying4 (fun ds hl => by
      match ds, hl with
      | [_, _, _, _], _ => rfl)
    netModels_laid (by kernel_rfl) fok mixed (by decide +kernel) (by decide +kernel)
    (fun ds h vs hp hm kk hwt => callP_run hp hm (by
      obtain ⟨v0, vs', d0, ds', rfl, rfl, k0, kk⟩ := TAs_cons kk
      obtain ⟨v1, vs', d1, ds', rfl, rfl, k1, kk⟩ := TAs_cons kk
      obtain ⟨v2, vs', d2, ds', rfl, rfl, k2, kk⟩ := TAs_cons kk
      obtain ⟨v3, vs', d3, ds', rfl, rfl, k3, kk⟩ := TAs_cons kk
      obtain rfl := TAs_nil kk
      obtain ⟨n, hn⟩ := NtV_of k0
      obtain ⟨w1, inp, e1, hl1, hm1, _, hwl1⟩ := TR_intsW (TA_one k1 (by kernel_rfl)) Try.underlying42 Try.underlying3 (by kernel_rfl)
      cases e1
      haveI hl1 : Ints (viewOf h) v1 inp := hl1
      have hm1 : inp.length < 9223372036854775808 := Nat.lt_of_le_of_lt hm1 (by decide)
      obtain ⟨w2, rest, e2, hl2, hm2, _, hwl2⟩ := TR_intsW (TA_one k2 (by kernel_rfl)) Try.underlying42 Try.underlying3 (by kernel_rfl)
      cases e2
      haveI hl2 : Ints (viewOf h) v2 rest := hl2
      have hm2 : rest.length < 9223372036854775808 := Nat.lt_of_le_of_lt hm2 (by decide)
      obtain ⟨want, e3, _⟩ := TR_int (TA_one k3 (by kernel_rfl)) Try.underlying3
      cases e3
      exact NetModels_ok h.n hn hm1 hm2))
theorem netModels_over : Rows.netModelsRow.holds Try.pinned (OpenSpec.ofChange Rows.netModelsSpec) :=
  OpenClaim.holds_of_wide 7 Try.f7 rfl rfl rfl rfl rfl rfl rfl ⟨rfl, rfl, rfl, rfl, rfl⟩ rfl rfl rfl rfl rfl (by kernel_rfl) Try.func7 netModels_facts
    (of_decide_eq_true (by kernel_rfl)) (by unfold Func.isWrapper; first | (rw [if_pos (by decide +kernel)]; kernel_rfl) | (rw [if_neg (by decide +kernel)]; exact ⟨rfl, rfl⟩))
    (fun os started H enc _ => netModels_lifted os started H enc)
#print axioms netModels_over
end Go.Proofs.Ytgaplmpopgdfbaa.Hm.V
namespace Go.Proofs.Ytgaplmpopgdfbaa
/-- The row, under a short name, for the claim. -/
theorem netModels_holds : Rows.NetModelsSaid := Hm.V.netModels_over
end Go.Proofs.Ytgaplmpopgdfbaa
