/- For every automaton and word AutoAccepts returns true: Accepts reports whether the automaton accepts the word, or returns the required error. No conditions. -/
import Derived.Test.YtbjgnogcjglcoaaVLaccepts
import Derived.Test.YtbjgnogcjglcoaaHVf
import Derived.Test.YtbjgnogcjglcoaaHG
import Derived.Test.YtbjgnogcjglcoaaVAu
import Derived.Test.YtbjgnogcjglcoaaRows
namespace Go.Proofs.Ytbjgnogcjglcoaa.Hm.V
open Go Go.RowKit Go.ChangeShapes Go.WideShapes Go.Proofs.Ytbjgnogcjglcoaa.Hm
set_option linter.all false
theorem autoAccepts_own : ownKnob Try.prog.godebug = none := by kernel_rfl
theorem autoAccepts_laid : laidOutB Try.prog = true := by kernel_rfl
set_option maxRecDepth 100000 in
theorem autoAccepts_lifted (os : Os) (started : os.Started) (D : Type) (enc : TypeId × Value → D) :
    ReturnsInHanded {} Try.checked os 4 .any (Rows.autoAcceptsSpec.pre6 enc Try.prog Try.f4 Rows.autoAcceptsRow.domain false) (Rows.autoAcceptsSpec.post enc Try.prog Try.f4 false true false false) :=
  law_lifted (C := Try.checked) (F := F) (ts := [3, 22, 23, 25, 65]) autoAccepts_own started (by kernel_rfl) Try.func4
    (ChangeSpec.witness6 (enc := enc) (C := Try.checked) false ⟨#[], #[.agg #[.int .i64 0, .int .i64 0, .slice none 0 0, .slice none 0 0, .slice none 0 0], .slice none 0 0], []⟩ 8 (by kernel_rfl) (by kernel_rfl) (by kernel_rfl) (by kernel_rfl))
    rfl rfl Try.underlying4 (fun ds hl => by
      match ds, hl with
      | [_, _], _ => rfl)
    autoAccepts_laid (by kernel_rfl) fok mixed (by decide +kernel) (by decide +kernel)
    (fun ds h vs hp hm kk => callP_run hp hm (by
      obtain ⟨v0, vs', d0, ds', rfl, rfl, k0, kk⟩ := TAs_cons kk
      obtain ⟨v1, vs', d1, ds', rfl, rfl, k1, kk⟩ := TAs_cons kk
      obtain rfl := TAs_nil kk
      obtain ⟨a, ha⟩ := AuV_of k0
      obtain ⟨w, l, e1, hl, hm, _⟩ := TR_ints (TA_one k1 (by kernel_rfl)) Try.underlying22 Try.underlying3 (by kernel_rfl)
      cases e1
      haveI hl : Ints (viewOf h) v1 l := hl
      have hm : l.length < 9223372036854775808 := Nat.lt_of_le_of_lt hm (by decide)
      exact AutoAccepts_ok h.n ha hm))
theorem autoAccepts_over : Rows.autoAcceptsRow.holds Try.pinned (OpenSpec.ofChange Rows.autoAcceptsSpec) :=
  OpenClaim.holds_of_wide 4 Try.f4 rfl rfl rfl rfl rfl rfl rfl ⟨rfl, rfl, rfl, rfl, rfl⟩ rfl rfl rfl rfl rfl (by kernel_rfl) Try.func4 (by kernel_rfl)
    (of_decide_eq_true (by kernel_rfl)) (by unfold Func.isWrapper; first | (rw [if_pos (by decide +kernel)]; kernel_rfl) | (rw [if_neg (by decide +kernel)]; exact ⟨rfl, rfl⟩))
    (fun os started H enc _ => autoAccepts_lifted os started H enc)
#print axioms autoAccepts_over
end Go.Proofs.Ytbjgnogcjglcoaa.Hm.V
namespace Go.Proofs.Ytbjgnogcjglcoaa
/-- The row, under a short name, for the claim. -/
theorem autoAccepts_holds : Rows.AutoAcceptsSaid := Hm.V.autoAccepts_over
end Go.Proofs.Ytbjgnogcjglcoaa
