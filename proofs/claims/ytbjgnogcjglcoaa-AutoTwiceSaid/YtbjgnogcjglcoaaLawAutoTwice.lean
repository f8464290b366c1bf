import Derived.Test.YtbjgnogcjglcoaaVLtwice
import Derived.Test.YtbjgnogcjglcoaaHG
import Derived.Test.YtbjgnogcjglcoaaVAu
import Derived.Test.YtbjgnogcjglcoaaRows
namespace Go.Proofs.Ytbjgnogcjglcoaa.Hm.V
open Go Go.RowKit Go.ChangeShapes Go.WideShapes Go.Proofs.Ytbjgnogcjglcoaa.Hm
set_option linter.all false
theorem autoTwice_own : ownKnob Try.prog.godebug = none := by kernel_rfl
theorem autoTwice_laid : laidOutB Try.prog = true := by kernel_rfl
theorem autoTwice_ip : Try.prog.inPlace 16 = Rows.autoTwiceRow.inPlace := by kernel_rfl
theorem autoTwice_uf : Try.prog.unfollowed 16 = Rows.autoTwiceRow.unfollowed := by kernel_rfl
theorem autoTwice_re : Try.prog.recurses 16 = Rows.autoTwiceRow.recurses := by kernel_rfl
theorem autoTwice_vn : Try.prog.varsNamed 16 = Rows.autoTwiceRow.named := by kernel_rfl
theorem autoTwice_facts : joinedFacts Try.prog 16 Try.f16 Rows.autoTwiceSpec Rows.autoTwiceRow = true := by
  unfold joinedFacts
  rw [autoTwice_ip, autoTwice_uf, autoTwice_re, autoTwice_vn]
  kernel_rfl
set_option maxRecDepth 100000 in
theorem autoTwice_lifted (os : Os) (started : os.Started) (D : Type) (enc : TypeId × Value → D) :
    ReturnsInHanded {} Try.checked os 16 .any (Rows.autoTwiceSpec.pre6 enc Try.prog Try.f16 Rows.autoTwiceRow.domain false) (Rows.autoTwiceSpec.post enc Try.prog Try.f16 false true false false) :=
  law_lifted (C := Try.checked) (F := F) (ts := [3, 22, 23, 25, 65]) autoTwice_own started (by kernel_rfl) Try.func16
    (ChangeSpec.witness6 (enc := enc) (C := Try.checked) false ⟨#[], #[.agg #[.int .i64 0, .int .i64 0, .slice none 0 0, .slice none 0 0, .slice none 0 0], .slice none 0 0], []⟩ 8 (by kernel_rfl) (by kernel_rfl) (by kernel_rfl) (by kernel_rfl))
    rfl rfl Try.underlying4 (fun ds hl => by
      match ds, hl with
      | [_, _], _ => rfl)
    autoTwice_laid (by kernel_rfl) fok mixed (by decide +kernel) (by decide +kernel)
    (fun ds h vs hp hm kk hwt => callP_run hp hm (by
      obtain ⟨v0, vs', d0, ds', rfl, rfl, k0, kk⟩ := TAs_cons kk
      obtain ⟨v1, vs', d1, ds', rfl, rfl, k1, kk⟩ := TAs_cons kk
      obtain rfl := TAs_nil kk
      obtain ⟨a, ha⟩ := AuV_of k0
      obtain ⟨w, l, e1, hl, hm, _, hwl⟩ := TR_intsW (TA_one k1 (by kernel_rfl)) Try.underlying22 Try.underlying3 (by kernel_rfl)
      cases e1
      haveI hl : Ints (viewOf h) v1 l := hl
      have hm : l.length < 9223372036854775808 := Nat.lt_of_le_of_lt hm (by decide)
      have hw9 : l.length * Try.prog.bytesOf 3 ≤ reachBytes := hwl (weightsEach_get (i := 1) (t := 22) rfl rfl hwt)
      have e8 : Try.prog.bytesOf 3 = 8 := by kernel_rfl
      rw [e8] at hw9
      exact AutoTwice_ok h.n ha hm (Nat.le_trans hw9 (by decide))))
theorem autoTwice_over : Rows.autoTwiceRow.holds Try.pinned (OpenSpec.ofChange Rows.autoTwiceSpec) :=
  OpenClaim.holds_of_wide 16 Try.f16 rfl rfl rfl rfl rfl rfl rfl ⟨rfl, rfl, rfl, rfl, rfl⟩ rfl rfl rfl rfl rfl (by kernel_rfl) Try.func16 autoTwice_facts
    (of_decide_eq_true (by kernel_rfl)) (by unfold Func.isWrapper; first | (rw [if_pos (by decide +kernel)]; kernel_rfl) | (rw [if_neg (by decide +kernel)]; exact ⟨rfl, rfl⟩))
    (fun os started H enc _ => autoTwice_lifted os started H enc)
#print axioms autoTwice_over
end Go.Proofs.Ytbjgnogcjglcoaa.Hm.V
namespace Go.Proofs.Ytbjgnogcjglcoaa
theorem autoTwice_holds : Rows.AutoTwiceSaid := Hm.V.autoTwice_over
end Go.Proofs.Ytbjgnogcjglcoaa
