/- How trees and goals among a law's arguments are read. -/
import Derived.Test.YtgaplmpopgdfbaaHF
import Derived.Test.YtgaplmpopgdfbaaA6
import Derived.Test.YtgaplmpopgdfbaaVE4
import Derived.Test.YtgaplmpopgdfbaaHG
namespace Go.Proofs.Ytgaplmpopgdfbaa.Hm.V
open Go
set_option linter.all false
set_option maxRecDepth 100000
attribute [local irreducible] X S R D W Call Upd Rds Rck Sees Res Cel CallP fnQ
theorem TR_Vr {D : Type} {h : Heap} {cs : List Value} {d : DataW D} (kk : TR Try.prog h 78 cs d) : ∃ a : Vr, cs = a.c ∧ (a.nm).length < 9223372036854775808 := by
  obtain ⟨ql, qf⟩ := TR_struct kk Try.underlying78
  have z : Try.prog.cellsOf 78 = 3 := by kernel_rfl
  have z3 : Try.prog.cellsOf 3 = 1 := by kernel_rfl
  have z9 : Try.prog.cellsOf 9 = 1 := by kernel_rfl
  rw [z] at ql
  match cs, ql with
  | [y0, y1, y2], _ =>
    obtain ⟨_, p0⟩ := qf 0 _ rfl
    replace p0 : TR Try.prog h 9 (([y0, y1, y2].drop 0).take (Try.prog.cellsOf 9)) _ := p0
    rw [z9] at p0
    obtain ⟨n0, r0, hs0⟩ := TR_str p0 Try.underlying9
    obtain ⟨_, p1⟩ := qf 1 _ rfl
    replace p1 : TR Try.prog h 3 (([y0, y1, y2].drop 1).take (Try.prog.cellsOf 3)) _ := p1
    rw [z3] at p1
    obtain ⟨n1, r1, _⟩ := TR_int p1 Try.underlying3
    obtain ⟨_, p2⟩ := qf 2 _ rfl
    replace p2 : TR Try.prog h 3 (([y0, y1, y2].drop 2).take (Try.prog.cellsOf 3)) _ := p2
    rw [z3] at p2
    obtain ⟨n2, r2, _⟩ := TR_int p2 Try.underlying3
    simp at r0 r1 r2
    exact ⟨⟨bs n0, n1, n2⟩, by rw [r0, r1, r2]; rfl, (by rw [bs_len]; exact Nat.lt_of_le_of_lt hs0 (by decide))⟩
theorem sl_fz {h : Heap} {z b len cap : Nat} {cf : Nat → List Value} (h2 : len ≤ cap) (hb : ∃ cs, h.get b = some (.row cs none)) (hr : ∀ i, i < cap → h.rd b (i * z) z = some (cf i)) : Fz (viewOf h) z (.slice (some ⟨b, 0, none⟩) len cap) ((List.range len).map cf) := by
  obtain ⟨cs, hg⟩ := hb
  have hc := cells_row hg
  have hrd : ∀ i, i < cap → i * z + z ≤ cs.length ∧ (cs.drop (i * z)).take z = cf i := fun i hi => by
    have := hr i hi
    unfold Heap.rd at this
    rw [hc] at this
    simp only at this
    split at this
    · exact ⟨by assumption, Option.some.inj this⟩
    · cases this
  have key : ∀ m, m ≤ cap → m * z ≤ cs.length ∧ cs.take (m * z) = ((List.range m).map cf).flatten := by
    intro m
    induction m with
    | zero => intro _; simp
    | succ m ih =>
      intro hm
      obtain ⟨i1, i2⟩ := ih (by omega)
      obtain ⟨q1, q2⟩ := hrd m (by omega)
      rw [Nat.succ_mul]
      refine ⟨q1, ?_⟩
      rw [List.take_add, i2, q2, List.range_succ, List.map_append, List.flatten_append]
      simp
  obtain ⟨k1, k2⟩ := key len h2
  refine ⟨fun x hx => ?_, .inr ⟨b, 0, none, cap, cs, by simp, by simpa using h2, .inl rfl, viewOf_row hg, by simpa using k1, by simpa using k2⟩⟩
  obtain ⟨i, hi, rfl⟩ := List.mem_map.1 hx
  have hi : i < cap := by have := List.mem_range.1 hi; omega
  obtain ⟨q1, q2⟩ := hrd i hi
  rw [← q2, List.length_take, List.length_drop]; omega
theorem TR_tree {D : Type} {h : Heap} {t : TypeId} {cs : List Value} {d : DataW D} (kk : TR Try.prog h t cs d) : (t = 25 → ∃ e : Et, cs = e.cs ∧ Tr (viewOf h) e) ∧ (t = 23 → ∃ (v : Value) (ks : List Et), cs = [v] ∧ (Fz (viewOf h) 4 v (ks.map Et.cs) ∧ ks.length < 9223372036854775808) ∧ ∀ a ∈ ks, Tr (viewOf h) a) := by
  induction kk with
  | bool t b hu =>
    refine ⟨?_, ?_⟩
    · rintro rfl; rw [Try.underlying25] at hu; cases hu
    · rintro rfl; rw [Try.underlying23] at hu; cases hu
  | int t k n hu hw =>
    refine ⟨?_, ?_⟩
    · rintro rfl; rw [Try.underlying25] at hu; cases hu
    · rintro rfl; rw [Try.underlying23] at hu; cases hu
  | str t s hu hs =>
    refine ⟨?_, ?_⟩
    · rintro rfl; rw [Try.underlying25] at hu; cases hu
    · rintro rfl; rw [Try.underlying23] at hu; cases hu
  | nils t e hu =>
    refine ⟨?_, fun _ => ⟨_, [], rfl, ⟨Fz.nil _ _, by decide⟩, fun a ha => absurd ha (by simp)⟩⟩
    rintro rfl; rw [Try.underlying25] at hu; cases hu
  | slice t e b len cap es rest cf df hu he h1 h2 h3 hb hr ht hd ih =>
    refine ⟨?_, ?_⟩
    · rintro rfl; rw [Try.underlying25] at hu; cases hu
    · rintro rfl
      rw [Try.underlying23] at hu; cases hu
      have z : Try.prog.cellsOf 25 = 4 := by kernel_rfl
      rw [z] at hr
      have hf := sl_fz (by omega : len ≤ cap) hb hr
      obtain ⟨ks, e, hk⟩ := map_ofP (f := Et.cs) (p := fun a => Tr (viewOf h) a) (xs := (List.range len).map cf) fun x hx => by
        obtain ⟨i, hi, rfl⟩ := List.mem_map.1 hx
        have hi : i < cap := by have := List.mem_range.1 hi; omega
        exact (ih i hi).1 rfl
      rw [e] at hf
      refine ⟨_, ks, rfl, ⟨hf, ?_⟩, hk⟩
      have := congrArg List.length e
      simp only [List.length_map, List.length_range] at this
      have hml : maxLen < 9223372036854775808 := by decide
      omega
  | struct t fs cs ds df hu hl hn hf hd ih =>
    refine ⟨?_, ?_⟩
    · rintro rfl
      rw [Try.underlying25] at hu; cases hu
      have z : Try.prog.cellsOf 25 = 4 := by kernel_rfl
      have zi : Try.prog.cellsOf 3 = 1 := by kernel_rfl
      have zs : Try.prog.cellsOf 23 = 1 := by kernel_rfl
      rw [z] at hl
      match cs, hl with
      | [y0, y1, y2, y3], _ =>
        have p0 := hf 0 _ rfl
        replace p0 : TR Try.prog h 3 (([y0, y1, y2, y3].drop 0).take (Try.prog.cellsOf 3)) _ := p0
        rw [zi] at p0
        obtain ⟨n0, r0, _⟩ := TR_int p0 Try.underlying3
        have p1 := hf 1 _ rfl
        replace p1 : TR Try.prog h 3 (([y0, y1, y2, y3].drop 1).take (Try.prog.cellsOf 3)) _ := p1
        rw [zi] at p1
        obtain ⟨n1, r1, _⟩ := TR_int p1 Try.underlying3
        have p2 := hf 2 _ rfl
        replace p2 : TR Try.prog h 3 (([y0, y1, y2, y3].drop 2).take (Try.prog.cellsOf 3)) _ := p2
        rw [zi] at p2
        obtain ⟨n2, r2, _⟩ := TR_int p2 Try.underlying3
        have p3 := (ih 3 _ rfl).2 rfl
        replace p3 : ∃ (v : Value) (ks : List Et), ([y0, y1, y2, y3].drop 3).take (Try.prog.cellsOf 23) = [v] ∧ (Fz (viewOf h) 4 v (ks.map Et.cs) ∧ ks.length < 9223372036854775808) ∧ ∀ a ∈ ks, Tr (viewOf h) a := p3
        rw [zs] at p3
        obtain ⟨v, ks, r3, h1, h2⟩ := p3
        simp at r0 r1 r2 r3
        exact ⟨.mk n0 n1 n2 v ks, by rw [r0, r1, r2, r3]; rfl, Tr_mk.2 ⟨h1, h2⟩⟩
    · rintro rfl; rw [Try.underlying23] at hu; cases hu
  | array t e n cs ds df hu hl hn hf hd ih =>
    refine ⟨?_, ?_⟩
    · rintro rfl; rw [Try.underlying25] at hu; cases hu
    · rintro rfl; rw [Try.underlying23] at hu; cases hu
theorem GlV_of {D : Type} {h : Heap} {v : Value} {d : DataW D} (kk : TA Try.prog h 27 v d) : ∃ g, GlV (viewOf h) v g := by
  obtain ⟨cs, rfl, k⟩ := TA_agg kk (by kernel_rfl)
  obtain ⟨hl, hf⟩ := TR_struct k Try.underlying27
  have z : Try.prog.cellsOf 27 = 6 := by kernel_rfl
  have zi : Try.prog.cellsOf 3 = 1 := by kernel_rfl
  have zv : Try.prog.cellsOf 22 = 1 := by kernel_rfl
  have ze : Try.prog.cellsOf 25 = 4 := by kernel_rfl
  have zr : Try.prog.cellsOf 78 = 3 := by kernel_rfl
  rw [z] at hl
  match cs, hl with
  | [y0, y1, y2, y3, y4, y5], _ =>
    have hml : maxLen < 9223372036854775808 := by decide
    obtain ⟨_, k0⟩ := hf 0 _ rfl
    replace k0 : TR Try.prog h 3 (([y0, y1, y2, y3, y4, y5].drop 0).take (Try.prog.cellsOf 3)) _ := k0
    rw [zi] at k0
    obtain ⟨_, k1⟩ := hf 1 _ rfl
    replace k1 : TR Try.prog h 22 (([y0, y1, y2, y3, y4, y5].drop 1).take (Try.prog.cellsOf 22)) _ := k1
    rw [zv] at k1
    obtain ⟨_, k2⟩ := hf 2 _ rfl
    replace k2 : TR Try.prog h 25 (([y0, y1, y2, y3, y4, y5].drop 2).take (Try.prog.cellsOf 25)) _ := k2
    rw [ze] at k2
    obtain ⟨n0, e0, _⟩ := TR_int k0 Try.underlying3
    obtain ⟨v1, xs, e1, f1, m1, h1⟩ := TR_slice k1 Try.underlying22
    rw [zr] at f1
    obtain ⟨l1, rfl⟩ := map_of (f := Vr.c) fun x hx => let ⟨d', q⟩ := h1 x hx; let ⟨a, ha⟩ := TR_Vr q; ⟨a, ha.1⟩
    rw [List.length_map] at m1
    obtain ⟨e, e2, htr⟩ := (TR_tree k2).1 rfl
    obtain ⟨op, n, c, v, ks⟩ := e
    simp at e0 e1
    simp [Et.cs] at e2
    obtain ⟨q0, q1, q2, q3⟩ := e2
    exact ⟨⟨n0, l1, .mk op n c v ks⟩, v1, op, n, c, v, ks, rfl, by rw [e0, e1, q0, q1, q2, q3], f1, Nat.lt_of_le_of_lt m1 hml, htr⟩
end Go.Proofs.Ytgaplmpopgdfbaa.Hm.V
