/- Layer 15's laws: how their arguments are read. -/
import Derived.Test.YtgaplmpopgdfbaaHF
import Derived.Test.YtgaplmpopgdfbaaA6
import Derived.Test.YtgaplmpopgdfbaaVN0
import Derived.Test.YtgaplmpopgdfbaaHG
namespace Go.Proofs.Ytgaplmpopgdfbaa.Hm.V
open Go
set_option linter.all false
set_option maxRecDepth 100000
attribute [local irreducible] X S R D W Call Upd Rds Rck Sees Res Cel CallP fnQ
theorem TR_Gt {D : Type} {h : Heap} {cs : List Value} {d : DataW D} (kk : TR Try.prog h 74 cs d) : ∃ a : Gt, cs = a.c := by
  obtain ⟨ql, qf⟩ := TR_struct kk Try.underlying74
  have z : Try.prog.cellsOf 74 = 2 := by kernel_rfl
  have z3 : Try.prog.cellsOf 3 = 1 := by kernel_rfl
  rw [z] at ql
  match cs, ql with
  | [y0, y1], _ =>
    obtain ⟨_, p0⟩ := qf 0 _ rfl
    replace p0 : TR Try.prog h 3 (([y0, y1].drop 0).take (Try.prog.cellsOf 3)) _ := p0
    rw [z3] at p0
    obtain ⟨n0, r0, _⟩ := TR_int p0 Try.underlying3
    obtain ⟨_, p1⟩ := qf 1 _ rfl
    replace p1 : TR Try.prog h 3 (([y0, y1].drop 1).take (Try.prog.cellsOf 3)) _ := p1
    rw [z3] at p1
    obtain ⟨n1, r1, _⟩ := TR_int p1 Try.underlying3
    simp at r0 r1
    exact ⟨⟨n0, n1⟩, by rw [r0, r1]; rfl⟩
theorem NtV_of {D : Type} {h : Heap} {v : Value} {d : DataW D} (kk : TA Try.prog h 33 v d) : ∃ n, NtV (viewOf h) v n := by
  obtain ⟨cs, rfl, k⟩ := TA_agg kk (by kernel_rfl)
  obtain ⟨hl, hf⟩ := TR_struct k Try.underlying33
  have z : Try.prog.cellsOf 33 = 3 := by kernel_rfl
  have z3 : Try.prog.cellsOf 3 = 1 := by kernel_rfl
  have z31 : Try.prog.cellsOf 31 = 1 := by kernel_rfl
  have z74 : Try.prog.cellsOf 74 = 2 := by kernel_rfl
  rw [z] at hl
  match cs, hl with
  | [x0, x1, x2], _ =>
    have hml : maxLen < 9223372036854775808 := by decide
    obtain ⟨_, k0⟩ := hf 0 _ rfl
    replace k0 : TR Try.prog h 3 (([x0, x1, x2].drop 0).take (Try.prog.cellsOf 3)) _ := k0
    rw [z3] at k0
    obtain ⟨n0, e0, _⟩ := TR_int k0 Try.underlying3
    obtain ⟨_, k1⟩ := hf 1 _ rfl
    replace k1 : TR Try.prog h 31 (([x0, x1, x2].drop 1).take (Try.prog.cellsOf 31)) _ := k1
    rw [z31] at k1
    obtain ⟨v1, xs1, e1, f1, m1, h1⟩ := TR_slice k1 Try.underlying31
    rw [z74] at f1
    obtain ⟨l1, rfl⟩ := map_of (f := Gt.c) fun x hx => let ⟨d', q⟩ := h1 x hx; TR_Gt q
    rw [List.length_map] at m1
    obtain ⟨_, k2⟩ := hf 2 _ rfl
    replace k2 : TR Try.prog h 3 (([x0, x1, x2].drop 2).take (Try.prog.cellsOf 3)) _ := k2
    rw [z3] at k2
    obtain ⟨n2, e2, _⟩ := TR_int k2 Try.underlying3
    simp at e0 e1 e2
    exact ⟨⟨n0, l1, n2⟩, v1, by rw [e0, e1, e2], f1, Nat.lt_of_le_of_lt m1 hml⟩
end Go.Proofs.Ytgaplmpopgdfbaa.Hm.V
