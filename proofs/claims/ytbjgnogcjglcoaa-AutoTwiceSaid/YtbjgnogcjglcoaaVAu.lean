import Derived.Test.YtbjgnogcjglcoaaHF
import Derived.Test.YtbjgnogcjglcoaaA6
import Derived.Test.YtbjgnogcjglcoaaVA1
import Derived.Test.YtbjgnogcjglcoaaHG0
namespace Go.Proofs.Ytbjgnogcjglcoaa.Hm.V
open Go
set_option linter.all false
set_option maxRecDepth 100000
attribute [local irreducible] X S R D W Call Upd Rds Rck Sees Res Cel CallP fnQ
theorem AuV_of {D : Type} {h : Heap} {v : Value} {d : DataW D} (kk : TA Try.prog h 25 v d) : ∃ a, AuV (viewOf h) v a := by
  obtain ⟨cs, rfl, k⟩ := TA_agg kk (by kernel_rfl)
  obtain ⟨hl, hf⟩ := TR_struct k Try.underlying25
  have hc : Try.prog.cellsOf 25 = 5 := by kernel_rfl
  have c3 : Try.prog.cellsOf 3 = 1 := by kernel_rfl
  have c22 : Try.prog.cellsOf 22 = 1 := by kernel_rfl
  have c23 : Try.prog.cellsOf 23 = 1 := by kernel_rfl
  have c65 : Try.prog.cellsOf 65 = 3 := by kernel_rfl
  rw [hc] at hl
  match cs, hl with
  | [x0, x1, x2, x3, x4], _ =>
    obtain ⟨d0, k0⟩ := hf 0 _ rfl
    obtain ⟨d1, k1⟩ := hf 1 _ rfl
    obtain ⟨d2, k2⟩ := hf 2 _ rfl
    obtain ⟨d3, k3⟩ := hf 3 _ rfl
    obtain ⟨d4, k4⟩ := hf 4 _ rfl
    replace k0 : TR Try.prog h 3 (([x0, x1, x2, x3, x4].drop 0).take (Try.prog.cellsOf 3)) d0 := k0
    replace k1 : TR Try.prog h 3 (([x0, x1, x2, x3, x4].drop 1).take (Try.prog.cellsOf 3)) d1 := k1
    replace k2 : TR Try.prog h 22 (([x0, x1, x2, x3, x4].drop 2).take (Try.prog.cellsOf 22)) d2 := k2
    replace k3 : TR Try.prog h 22 (([x0, x1, x2, x3, x4].drop 3).take (Try.prog.cellsOf 22)) d3 := k3
    replace k4 : TR Try.prog h 23 (([x0, x1, x2, x3, x4].drop 4).take (Try.prog.cellsOf 23)) d4 := k4
    rw [c3] at k0 k1
    rw [c22] at k2 k3
    rw [c23] at k4
    obtain ⟨S, e0, _⟩ := TR_int k0 Try.underlying3
    obtain ⟨L, e1, _⟩ := TR_int k1 Try.underlying3
    obtain ⟨v2, l2, e2, f2, m2, _⟩ := TR_ints k2 Try.underlying22 Try.underlying3 c3
    obtain ⟨v3, l3, e3, f3, m3, _⟩ := TR_ints k3 Try.underlying22 Try.underlying3 c3
    obtain ⟨v4, xs, e4, f4, m4, h4⟩ := TR_slice k4 Try.underlying23
    rw [c65] at f4
    have hx : ∀ x ∈ xs, ∃ a : Ed, x = a.c := fun x hx => by
      obtain ⟨d', q⟩ := h4 x hx
      obtain ⟨ql, qf⟩ := TR_struct q Try.underlying65
      rw [c65] at ql
      match x, ql with
      | [y0, y1, y2], _ =>
        obtain ⟨_, p0⟩ := qf 0 _ rfl
        obtain ⟨_, p1⟩ := qf 1 _ rfl
        obtain ⟨_, p2⟩ := qf 2 _ rfl
        replace p0 : TR Try.prog h 3 (([y0, y1, y2].drop 0).take (Try.prog.cellsOf 3)) _ := p0
        replace p1 : TR Try.prog h 3 (([y0, y1, y2].drop 1).take (Try.prog.cellsOf 3)) _ := p1
        replace p2 : TR Try.prog h 3 (([y0, y1, y2].drop 2).take (Try.prog.cellsOf 3)) _ := p2
        rw [c3] at p0 p1 p2
        obtain ⟨n0, r0, _⟩ := TR_int p0 Try.underlying3
        obtain ⟨n1, r1, _⟩ := TR_int p1 Try.underlying3
        obtain ⟨n2, r2, _⟩ := TR_int p2 Try.underlying3
        refine ⟨⟨n0, n1, n2⟩, ?_⟩
        simp at r0 r1 r2
        rw [r0, r1, r2]; rfl
    obtain ⟨l4, rfl⟩ := map_of hx
    simp at e0 e1 e2 e3 e4
    have hml : maxLen < 9223372036854775808 := by decide
    refine ⟨⟨S, L, l2, l3, l4⟩, v2, v3, v4, by rw [e0, e1, e2, e3, e4], f2, f3, f4, ?_, ?_, ?_⟩
    · exact Nat.lt_of_le_of_lt m2 hml
    · exact Nat.lt_of_le_of_lt m3 hml
    · rw [List.length_map] at m4; exact Nat.lt_of_le_of_lt m4 hml
end Go.Proofs.Ytbjgnogcjglcoaa.Hm.V
