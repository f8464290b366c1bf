/- Layer 9's laws: how their arguments are read. -/
import Derived.Test.YtffdcbhhajagjaaHF
import Derived.Test.YtffdcbhhajagjaaA6
import Derived.Test.YtffdcbhhajagjaaVL1
import Derived.Test.YtffdcbhhajagjaaHG
namespace Go.Proofs.Ytffdcbhhajagjaa.Hm.V
open Go
set_option linter.all false
set_option maxRecDepth 100000
attribute [local irreducible] X S R D W Call Upd Rds Rck Sees Res Cel CallP fnQ
theorem TR_Vr {D : Type} {h : Heap} {cs : List Value} {d : DataW D} (kk : TR Try.prog h 54 cs d) : ∃ a : Vr, cs = a.c ∧ (a.nm).length < 9223372036854775808 := by
  obtain ⟨ql, qf⟩ := TR_struct kk Try.underlying54
  have z : Try.prog.cellsOf 54 = 3 := by kernel_rfl
  have z3 : Try.prog.cellsOf 3 = 1 := by kernel_rfl
  have z9 : Try.prog.cellsOf 9 = 1 := by kernel_rfl
  rw [z] at ql
  match cs, ql with
  | [y0, y1, y2], _ =>
    obtain ⟨_, p0⟩ := qf 0 _ rfl
    replace p0 : TR Try.prog h 9 (([y0, y1, y2].drop 0).take (Try.prog.cellsOf 9)) _ := p0
    rw [z9] at p0
    obtain ⟨n0, r0, hs0⟩ := TR_str p0 Try.underlying9
    obtain ⟨_, p1⟩ := qf 1 _ rfl
    replace p1 : TR Try.prog h 3 (([y0, y1, y2].drop 1).take (Try.prog.cellsOf 3)) _ := p1
    rw [z3] at p1
    obtain ⟨n1, r1, _⟩ := TR_int p1 Try.underlying3
    obtain ⟨_, p2⟩ := qf 2 _ rfl
    replace p2 : TR Try.prog h 3 (([y0, y1, y2].drop 2).take (Try.prog.cellsOf 3)) _ := p2
    rw [z3] at p2
    obtain ⟨n2, r2, _⟩ := TR_int p2 Try.underlying3
    simp at r0 r1 r2
    exact ⟨⟨bs n0, n1, n2⟩, by rw [r0, r1, r2]; rfl, (by rw [bs_len]; exact Nat.lt_of_le_of_lt hs0 (by decide))⟩
theorem TR_In {D : Type} {h : Heap} {cs : List Value} {d : DataW D} (kk : TR Try.prog h 56 cs d) : ∃ a : In, cs = a.k := by
  obtain ⟨ql, qf⟩ := TR_struct kk Try.underlying56
  have z : Try.prog.cellsOf 56 = 5 := by kernel_rfl
  have z3 : Try.prog.cellsOf 3 = 1 := by kernel_rfl
  rw [z] at ql
  match cs, ql with
  | [y0, y1, y2, y3, y4], _ =>
    obtain ⟨_, p0⟩ := qf 0 _ rfl
    replace p0 : TR Try.prog h 3 (([y0, y1, y2, y3, y4].drop 0).take (Try.prog.cellsOf 3)) _ := p0
    rw [z3] at p0
    obtain ⟨n0, r0, _⟩ := TR_int p0 Try.underlying3
    obtain ⟨_, p1⟩ := qf 1 _ rfl
    replace p1 : TR Try.prog h 3 (([y0, y1, y2, y3, y4].drop 1).take (Try.prog.cellsOf 3)) _ := p1
    rw [z3] at p1
    obtain ⟨n1, r1, _⟩ := TR_int p1 Try.underlying3
    obtain ⟨_, p2⟩ := qf 2 _ rfl
    replace p2 : TR Try.prog h 3 (([y0, y1, y2, y3, y4].drop 2).take (Try.prog.cellsOf 3)) _ := p2
    rw [z3] at p2
    obtain ⟨n2, r2, _⟩ := TR_int p2 Try.underlying3
    obtain ⟨_, p3⟩ := qf 3 _ rfl
    replace p3 : TR Try.prog h 3 (([y0, y1, y2, y3, y4].drop 3).take (Try.prog.cellsOf 3)) _ := p3
    rw [z3] at p3
    obtain ⟨n3, r3, _⟩ := TR_int p3 Try.underlying3
    obtain ⟨_, p4⟩ := qf 4 _ rfl
    replace p4 : TR Try.prog h 3 (([y0, y1, y2, y3, y4].drop 4).take (Try.prog.cellsOf 3)) _ := p4
    rw [z3] at p4
    obtain ⟨n4, r4, _⟩ := TR_int p4 Try.underlying3
    simp at r0 r1 r2 r3 r4
    exact ⟨⟨n0, n1, n2, n3, n4⟩, by rw [r0, r1, r2, r3, r4]; rfl⟩
theorem CdV_of {D : Type} {h : Heap} {v : Value} {d : DataW D} (kk : TA Try.prog h 25 v d) : ∃ c, CdV (viewOf h) v c := by
  obtain ⟨cs, rfl, k⟩ := TA_agg kk (by kernel_rfl)
  obtain ⟨hl, hf⟩ := TR_struct k Try.underlying25
  have z : Try.prog.cellsOf 25 = 3 := by kernel_rfl
  have z3 : Try.prog.cellsOf 3 = 1 := by kernel_rfl
  have z22 : Try.prog.cellsOf 22 = 1 := by kernel_rfl
  have z23 : Try.prog.cellsOf 23 = 1 := by kernel_rfl
  have z54 : Try.prog.cellsOf 54 = 3 := by kernel_rfl
  have z56 : Try.prog.cellsOf 56 = 5 := by kernel_rfl
  rw [z] at hl
  match cs, hl with
  | [x0, x1, x2], _ =>
    have hml : maxLen < 9223372036854775808 := by decide
    obtain ⟨_, k0⟩ := hf 0 _ rfl
    replace k0 : TR Try.prog h 3 (([x0, x1, x2].drop 0).take (Try.prog.cellsOf 3)) _ := k0
    rw [z3] at k0
    obtain ⟨n0, e0, _⟩ := TR_int k0 Try.underlying3
    obtain ⟨_, k1⟩ := hf 1 _ rfl
    replace k1 : TR Try.prog h 22 (([x0, x1, x2].drop 1).take (Try.prog.cellsOf 22)) _ := k1
    rw [z22] at k1
    obtain ⟨v1, xs1, e1, f1, m1, h1⟩ := TR_slice k1 Try.underlying22
    rw [z54] at f1
    obtain ⟨l1, rfl, q1⟩ := map_ofP (f := Vr.c) (p := fun a => a.nm.length < 9223372036854775808) fun x hx => let ⟨d', q⟩ := h1 x hx; TR_Vr q
    rw [List.length_map] at m1
    obtain ⟨_, k2⟩ := hf 2 _ rfl
    replace k2 : TR Try.prog h 23 (([x0, x1, x2].drop 2).take (Try.prog.cellsOf 23)) _ := k2
    rw [z23] at k2
    obtain ⟨v2, xs2, e2, f2, m2, h2⟩ := TR_slice k2 Try.underlying23
    rw [z56] at f2
    obtain ⟨l2, rfl⟩ := map_of (f := In.k) fun x hx => let ⟨d', q⟩ := h2 x hx; TR_In q
    rw [List.length_map] at m2
    simp at e0 e1 e2
    exact ⟨⟨n0, l1, l2⟩, v1, v2, by rw [e0, e1, e2], f1, f2, Nat.lt_of_le_of_lt m1 hml, Nat.lt_of_le_of_lt m2 hml, q1⟩
theorem StV_of {D : Type} {h : Heap} {v : Value} {d : DataW D} (kk : TA Try.prog h 28 v d) : ∃ st pk, StV (viewOf h) v st pk := by
  obtain ⟨cs, rfl, k⟩ := TA_agg kk (by kernel_rfl)
  obtain ⟨hl, hf⟩ := TR_struct k Try.underlying28
  have z : Try.prog.cellsOf 28 = 2 := by kernel_rfl
  have z26 : Try.prog.cellsOf 26 = 1 := by kernel_rfl
  have z3 : Try.prog.cellsOf 3 = 1 := by kernel_rfl
  rw [z] at hl
  match cs, hl with
  | [x0, x1], _ =>
    have hml : maxLen < 9223372036854775808 := by decide
    obtain ⟨_, k0⟩ := hf 0 _ rfl
    replace k0 : TR Try.prog h 26 (([x0, x1].drop 0).take (Try.prog.cellsOf 26)) _ := k0
    rw [z26] at k0
    obtain ⟨v0, l0, e0, f0, m0, _⟩ := TR_ints k0 Try.underlying26 Try.underlying3 z3
    obtain ⟨_, k1⟩ := hf 1 _ rfl
    replace k1 : TR Try.prog h 26 (([x0, x1].drop 1).take (Try.prog.cellsOf 26)) _ := k1
    rw [z26] at k1
    obtain ⟨v1, l1, e1, f1, m1, _⟩ := TR_ints k1 Try.underlying26 Try.underlying3 z3
    simp at e0 e1
    exact ⟨l0, l1, v0, v1, by rw [e0, e1], f0, f1, Nat.lt_of_le_of_lt m0 hml, Nat.lt_of_le_of_lt m1 hml⟩
end Go.Proofs.Ytffdcbhhajagjaa.Hm.V
