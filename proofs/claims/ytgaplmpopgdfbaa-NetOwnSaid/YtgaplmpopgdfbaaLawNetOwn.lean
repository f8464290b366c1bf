/- For every net, inputs and value NetOwn returns true: no call modifies its arguments, and results are newly allocated. No conditions. -/
import Derived.Test.YtgaplmpopgdfbaaVLown
import Derived.Test.YtgaplmpopgdfbaaHG
import Derived.Test.YtgaplmpopgdfbaaVNa
import Derived.Test.YtgaplmpopgdfbaaRows
namespace Go.Proofs.Ytgaplmpopgdfbaa.Hm.V
open Go Go.RowKit Go.ChangeShapes Go.WideShapes Go.Proofs.Ytgaplmpopgdfbaa.Hm
set_option linter.all false
theorem netOwn_own : ownKnob Try.prog.godebug = none := by kernel_rfl
theorem netOwn_laid : laidOutB Try.prog = true := by kernel_rfl
theorem netOwn_ip : Try.prog.inPlace 9 = Rows.netOwnRow.inPlace := by kernel_rfl
theorem netOwn_uf : Try.prog.unfollowed 9 = Rows.netOwnRow.unfollowed := by kernel_rfl
theorem netOwn_re : Try.prog.recurses 9 = Rows.netOwnRow.recurses := by kernel_rfl
theorem netOwn_vn : Try.prog.varsNamed 9 = Rows.netOwnRow.named := by kernel_rfl
theorem netOwn_facts : joinedFacts Try.prog 9 Try.f9 Rows.netOwnSpec Rows.netOwnRow = true := by
  unfold joinedFacts
  rw [netOwn_ip, netOwn_uf, netOwn_re, netOwn_vn]
  kernel_rfl
set_option maxRecDepth 100000 in
theorem netOwn_lifted (os : Os) (started : os.Started) (D : Type) (enc : TypeId × Value → D) :
    ReturnsInHanded {} Try.checked os 9 .any (Rows.netOwnSpec.pre6 enc Try.prog Try.f9 Rows.netOwnRow.domain false) (Rows.netOwnSpec.post enc Try.prog Try.f9 false true false false) :=
  law_lifted (C := Try.checked) (F := F) (ts := [3, 31, 33, 42, 74]) netOwn_own started (by kernel_rfl) Try.func9
    (ChangeSpec.witness6 (enc := enc) (C := Try.checked) false ⟨#[], #[.agg #[.int .i64 0, .slice none 0 0, .int .i64 0], .slice none 0 0, .int .i64 0], []⟩ 8 (by kernel_rfl) (by kernel_rfl) (by kernel_rfl) (by kernel_rfl))
    rfl rfl Try.underlying4 (fun ds hl => by
      match ds, hl with
      | [_, _, _], _ => rfl)
    netOwn_laid (by kernel_rfl) fok mixed (by decide +kernel) (by decide +kernel)
    (fun ds h vs hp hm kk hwt => callP_run hp hm (by
      obtain ⟨v0, vs', d0, ds', rfl, rfl, k0, kk⟩ := TAs_cons kk
      obtain ⟨v1, vs', d1, ds', rfl, rfl, k1, kk⟩ := TAs_cons kk
      obtain ⟨v2, vs', d2, ds', rfl, rfl, k2, kk⟩ := TAs_cons kk
      obtain rfl := TAs_nil kk
      obtain ⟨n, hn⟩ := NtV_of k0
      obtain ⟨w1, inp, e1, hl1, hm1, _, hwl1⟩ := TR_intsW (TA_one k1 (by kernel_rfl)) Try.underlying42 Try.underlying3 (by kernel_rfl)
      cases e1
      haveI hl1 : Ints (viewOf h) v1 inp := hl1
      have hm1 : inp.length < 9223372036854775808 := Nat.lt_of_le_of_lt hm1 (by decide)
      obtain ⟨want, e2, _⟩ := TR_int (TA_one k2 (by kernel_rfl)) Try.underlying3
      cases e2
      have hw9 : inp.length * Try.prog.bytesOf 3 ≤ reachBytes := hwl1 (weightsEach_get (i := 1) (t := 42) rfl rfl hwt)
      have e8 : Try.prog.bytesOf 3 = 8 := by kernel_rfl
      rw [e8] at hw9
      exact NetOwn_ok h.n hn hm1 (Nat.le_trans hw9 (by decide))))
theorem netOwn_over : Rows.netOwnRow.holds Try.pinned (OpenSpec.ofChange Rows.netOwnSpec) :=
  OpenClaim.holds_of_wide 9 Try.f9 rfl rfl rfl rfl rfl rfl rfl ⟨rfl, rfl, rfl, rfl, rfl⟩ rfl rfl rfl rfl rfl (by kernel_rfl) Try.func9 netOwn_facts
    (of_decide_eq_true (by kernel_rfl)) (by unfold Func.isWrapper; first | (rw [if_pos (by decide +kernel)]; kernel_rfl) | (rw [if_neg (by decide +kernel)]; exact ⟨rfl, rfl⟩))
    (fun os started H enc _ => netOwn_lifted os started H enc)
#print axioms netOwn_over
end Go.Proofs.Ytgaplmpopgdfbaa.Hm.V
namespace Go.Proofs.Ytgaplmpopgdfbaa
/-- The row, under a short name, for the claim. -/
theorem netOwn_holds : Rows.NetOwnSaid := Hm.V.netOwn_over
end Go.Proofs.Ytgaplmpopgdfbaa
