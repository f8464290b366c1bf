/- For clauses and assignments of bulk at most 1048576 NetTruth returns true: CheckCnf and True return the defined result, or the error. No other condition. -/
import Derived.Test.YtgaplmpopgdfbaaVLtruth
import Derived.Test.YtgaplmpopgdfbaaVNu
import Derived.Test.YtgaplmpopgdfbaaHFU
import Derived.Test.YtgaplmpopgdfbaaHG
import Derived.Test.YtgaplmpopgdfbaaVNa
import Derived.Test.YtgaplmpopgdfbaaRows
namespace Go.Proofs.Ytgaplmpopgdfbaa.Hm.V
open Go Go.RowKit Go.ChangeShapes Go.WideShapes Go.Proofs.Ytgaplmpopgdfbaa.Hm
set_option linter.all false
theorem netTruth_own : ownKnob Try.prog.godebug = none := by kernel_rfl
theorem netTruth_laid : laidOutB Try.prog = true := by kernel_rfl
theorem netTruth_ip : Try.prog.inPlace 5 = Rows.netTruthUptoRow.inPlace := by kernel_rfl
theorem netTruth_uf : Try.prog.unfollowed 5 = Rows.netTruthUptoRow.unfollowed := by kernel_rfl
theorem netTruth_re : Try.prog.recurses 5 = Rows.netTruthUptoRow.recurses := by kernel_rfl
theorem netTruth_vn : Try.prog.varsNamed 5 = Rows.netTruthUptoRow.named := by kernel_rfl
theorem netTruth_facts : joinedFacts Try.prog 5 Try.f5 (Rows.OpenSpec.upto Rows.netTruthSpec).bare Rows.netTruthUptoRow = true := by
  unfold joinedFacts
  rw [netTruth_ip, netTruth_uf, netTruth_re, netTruth_vn]
  kernel_rfl
set_option maxRecDepth 100000 in
theorem netTruth_lifted (os : Os) (started : os.Started) (D : Type) (enc : TypeId × Value → D) (G : Stop.Interp) :
    ReturnsInHanded {} Try.checked os 5 .any ((Rows.OpenSpec.upto Rows.netTruthSpec).pre6 enc Try.prog Try.f5 Rows.netTruthUptoRow.domain false) (((Rows.OpenSpec.upto Rows.netTruthSpec).at G).post enc Try.prog Try.f5 false true false false) :=
  law_liftedU (C := Try.checked) (F := F) (s := Rows.netTruthSpec) (so := (Rows.OpenSpec.upto Rows.netTruthSpec)) (kb := Rows.uptoSmall) (ts := [3, 4, 28, 42, 52]) rfl netTruth_own started (by kernel_rfl) Try.func5
    (OpenSpec.witness (enc := enc) (C := Try.checked) (s := (Rows.OpenSpec.upto Rows.netTruthSpec)) (k := Rows.uptoSmall) rfl false ⟨#[], #[.agg #[.int .i64 0, .slice none 0 0], .slice none 0 0, .bool false], []⟩ 8 (by kernel_rfl) (by kernel_rfl) (by kernel_rfl) (x := ([.agg [.lit (.int .i64 0), .nil], .nil, .lit (.bool false)], [], [])) (by kernel_rfl) rfl (by kernel_rfl))
    rfl rfl Try.underlying4 (fun ds hl => by
      match ds, hl with
      | [_, _, _], _ => rfl)
    netTruth_laid (by kernel_rfl) fok mixed (by decide +kernel) (by decide +kernel)
    (fun ds h vs hp hm kk hwt hk => callP_run hp hm (by
      obtain ⟨v0, vs', d0, ds', rfl, rfl, k0, kk⟩ := TAs_cons kk
      obtain ⟨v1, vs', d1, ds', rfl, rfl, k1, kk⟩ := TAs_cons kk
      obtain ⟨v2, vs', d2, ds', rfl, rfl, k2, kk⟩ := TAs_cons kk
      obtain rfl := TAs_nil kk
      have hbk : Rows.uptoBulkAll (d0 :: d1 :: d2 :: ds') ≤ 1048576 := of_decide_eq_true hk
      simp only [Rows.uptoBulkAll] at hbk
      obtain ⟨c, hc, hs1, hs2⟩ := CfV_of k0 (by omega)
      obtain ⟨w1, m, e1, hl1, hm1, _, hwl1⟩ := TR_intsW (TA_one k1 (by kernel_rfl)) Try.underlying42 Try.underlying3 (by kernel_rfl)
      cases e1
      haveI hl1 : Ints (viewOf h) v1 m := hl1
      have hm1 : m.length < 9223372036854775808 := Nat.lt_of_le_of_lt hm1 (by decide)
      obtain ⟨long, e2⟩ := TR_bool (TA_one k2 (by kernel_rfl)) Try.underlying4
      cases e2
      exact NetTruth_ok h.n hc hm1 hs1 hs2))
theorem netTruth_over : Rows.netTruthUptoRow.holds Try.pinned (Rows.OpenSpec.upto Rows.netTruthSpec) :=
  OpenClaim.holds_of_cond 5 Try.f5 rfl rfl rfl rfl rfl rfl rfl ⟨rfl, rfl, rfl, rfl, rfl⟩ rfl rfl rfl rfl rfl (by kernel_rfl) Try.func5 netTruth_facts
    (of_decide_eq_true (by kernel_rfl)) (by unfold Func.isWrapper; first | (rw [if_pos (by decide +kernel)]; kernel_rfl) | (rw [if_neg (by decide +kernel)]; exact ⟨rfl, rfl⟩))
    (fun os started H enc _ G => netTruth_lifted os started H enc G)
#print axioms netTruth_over
end Go.Proofs.Ytgaplmpopgdfbaa.Hm.V
namespace Go.Proofs.Ytgaplmpopgdfbaa
/-- The row, under a short name, for the claim. -/
theorem netTruthUpto_holds : Rows.NetTruthUptoSaid := Hm.V.netTruth_over
end Go.Proofs.Ytgaplmpopgdfbaa
