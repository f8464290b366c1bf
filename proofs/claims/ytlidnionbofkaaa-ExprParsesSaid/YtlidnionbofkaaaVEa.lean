import Derived.Test.YtlidnionbofkaaaHF
import Derived.Test.YtlidnionbofkaaaA6
import Derived.Test.YtlidnionbofkaaaVE2
import Derived.Test.YtlidnionbofkaaaHG
namespace Go.Proofs.Ytlidnionbofkaaa.Hm.V
open Go
set_option linter.all false
set_option maxRecDepth 100000
attribute [local irreducible] X XG S R D W Call CallG Upd Rds Rck Sees Res Cel CallP fnQ fnG
theorem TR_Vr {D : Type} {h : Heap} {cs : List Value} {d : DataW D} (kk : TR Try.prog h 53 cs d) : ∃ a : Vr, cs = a.c ∧ (a.nm).length < 9223372036854775808 := by
  obtain ⟨ql, qf⟩ := TR_struct kk Try.underlying53
  have z : Try.prog.cellsOf 53 = 3 := by kernel_rfl
  have z3 : Try.prog.cellsOf 3 = 1 := by kernel_rfl
  have z9 : Try.prog.cellsOf 9 = 1 := by kernel_rfl
  rw [z] at ql
  match cs, ql with
  | [y0, y1, y2], _ =>
    obtain ⟨_, p0⟩ := qf 0 _ rfl
    replace p0 : TR Try.prog h 9 (([y0, y1, y2].drop 0).take (Try.prog.cellsOf 9)) _ := p0
    rw [z9] at p0
    obtain ⟨n0, r0, hs0⟩ := TR_str p0 Try.underlying9
    obtain ⟨_, p1⟩ := qf 1 _ rfl
    replace p1 : TR Try.prog h 3 (([y0, y1, y2].drop 1).take (Try.prog.cellsOf 3)) _ := p1
    rw [z3] at p1
    obtain ⟨n1, r1, _⟩ := TR_int p1 Try.underlying3
    obtain ⟨_, p2⟩ := qf 2 _ rfl
    replace p2 : TR Try.prog h 3 (([y0, y1, y2].drop 2).take (Try.prog.cellsOf 3)) _ := p2
    rw [z3] at p2
    obtain ⟨n2, r2, _⟩ := TR_int p2 Try.underlying3
    simp at r0 r1 r2
    exact ⟨⟨bs n0, n1, n2⟩, by rw [r0, r1, r2]; rfl, (by rw [bs_len]; exact Nat.lt_of_le_of_lt hs0 (by decide))⟩
theorem Vrs_of {D : Type} {h : Heap} {v : Value} {d : DataW D} (kk : TA Try.prog h 22 v d) : ∃ vs, Vrs (viewOf h) v vs ∧ vs.length < 9223372036854775808 ∧ ∀ i, i < vs.length → (vs.getD i default).nm.length < 9223372036854775808 := by
  have zr : Try.prog.cellsOf 53 = 3 := by kernel_rfl
  obtain ⟨v1, xs, e1, f1, m1, h1⟩ := TR_slice (TA_one kk (by kernel_rfl)) Try.underlying22
  rw [zr] at f1
  cases e1
  obtain ⟨l1, rfl, q⟩ := map_ofP (f := Vr.c) (p := fun a => a.nm.length < 9223372036854775808) fun x hx => let ⟨d', q⟩ := h1 x hx; TR_Vr q
  rw [List.length_map] at m1
  exact ⟨l1, f1, Nat.lt_of_le_of_lt m1 (by decide), fun i hi => q _ (getD_in hi)⟩
end Go.Proofs.Ytlidnionbofkaaa.Hm.V
