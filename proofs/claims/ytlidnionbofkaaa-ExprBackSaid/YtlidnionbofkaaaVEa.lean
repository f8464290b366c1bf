import Derived.Test.YtlidnionbofkaaaHF
import Derived.Test.YtlidnionbofkaaaA6
import Derived.Test.YtlidnionbofkaaaVE2
import Derived.Test.YtlidnionbofkaaaHG
namespace Go.Proofs.Ytlidnionbofkaaa.Hm.V
open Go
set_option linter.all false
set_option maxRecDepth 100000
attribute [local irreducible] X XG S R D W Call CallG Upd Rds Rck Sees Res Cel CallP fnQ fnG
theorem TR_Vr {D : Type} {h : Heap} {cs : List Value} {d : DataW D} (kk : TR Try.prog h 53 cs d) : ∃ a : Vr, cs = a.c ∧ (a.nm).length < 9223372036854775808 := by
  obtain ⟨ql, qf⟩ := TR_struct kk Try.underlying53
  have z : Try.prog.cellsOf 53 = 3 := by kernel_rfl
  have z3 : Try.prog.cellsOf 3 = 1 := by kernel_rfl
  have z9 : Try.prog.cellsOf 9 = 1 := by kernel_rfl
  rw [z] at ql
  match cs, ql with
  | [y0, y1, y2], _ =>
    obtain ⟨_, p0⟩ := qf 0 _ rfl
    replace p0 : TR Try.prog h 9 (([y0, y1, y2].drop 0).take (Try.prog.cellsOf 9)) _ := p0
    rw [z9] at p0
    obtain ⟨n0, r0, hs0⟩ := TR_str p0 Try.underlying9
    obtain ⟨_, p1⟩ := qf 1 _ rfl
    replace p1 : TR Try.prog h 3 (([y0, y1, y2].drop 1).take (Try.prog.cellsOf 3)) _ := p1
    rw [z3] at p1
    obtain ⟨n1, r1, _⟩ := TR_int p1 Try.underlying3
    obtain ⟨_, p2⟩ := qf 2 _ rfl
    replace p2 : TR Try.prog h 3 (([y0, y1, y2].drop 2).take (Try.prog.cellsOf 3)) _ := p2
    rw [z3] at p2
    obtain ⟨n2, r2, _⟩ := TR_int p2 Try.underlying3
    simp at r0 r1 r2
    exact ⟨⟨bs n0, n1, n2⟩, by rw [r0, r1, r2]; rfl, (by rw [bs_len]; exact Nat.lt_of_le_of_lt hs0 (by decide))⟩
theorem sl_fz {h : Heap} {z b len cap : Nat} {cf : Nat → List Value} (h2 : len ≤ cap) (hb : ∃ cs, h.get b = some (.row cs none)) (hr : ∀ i, i < cap → h.rd b (i * z) z = some (cf i)) : Fz (viewOf h) z (.slice (some ⟨b, 0, none⟩) len cap) ((List.range len).map cf) := by
  obtain ⟨cs, hg⟩ := hb
  have hc := cells_row hg
  have hrd : ∀ i, i < cap → i * z + z ≤ cs.length ∧ (cs.drop (i * z)).take z = cf i := fun i hi => by
    have := hr i hi
    unfold Heap.rd at this
    rw [hc] at this
    simp only at this
    split at this
    · exact ⟨by assumption, Option.some.inj this⟩
    · cases this
  have key : ∀ m, m ≤ cap → m * z ≤ cs.length ∧ cs.take (m * z) = ((List.range m).map cf).flatten := by
    intro m
    induction m with
    | zero => intro _; simp
    | succ m ih =>
      intro hm
      obtain ⟨i1, i2⟩ := ih (by omega)
      obtain ⟨q1, q2⟩ := hrd m (by omega)
      rw [Nat.succ_mul]
      refine ⟨q1, ?_⟩
      rw [List.take_add, i2, q2, List.range_succ, List.map_append, List.flatten_append]
      simp
  obtain ⟨k1, k2⟩ := key len h2
  refine ⟨fun x hx => ?_, .inr ⟨b, 0, none, cap, cs, by simp, by simpa using h2, .inl rfl, viewOf_row hg, by simpa using k1, by simpa using k2⟩⟩
  obtain ⟨i, hi, rfl⟩ := List.mem_map.1 hx
  have hi : i < cap := by have := List.mem_range.1 hi; omega
  obtain ⟨q1, q2⟩ := hrd i hi
  rw [← q2, List.length_take, List.length_drop]; omega
theorem TR_tree {D : Type} {h : Heap} {t : TypeId} {cs : List Value} {d : DataW D} (kk : TR Try.prog h t cs d) : (t = 26 → ∃ e : Et, cs = e.cs ∧ Tr (viewOf h) e) ∧ (t = 24 → ∃ (v : Value) (ks : List Et), cs = [v] ∧ (Fz (viewOf h) 4 v (ks.map Et.cs) ∧ ks.length < 9223372036854775808) ∧ ∀ a ∈ ks, Tr (viewOf h) a) := by
  induction kk with
  | bool t b hu =>
    refine ⟨?_, ?_⟩
    · rintro rfl; rw [Try.underlying26] at hu; cases hu
    · rintro rfl; rw [Try.underlying24] at hu; cases hu
  | int t k n hu hw =>
    refine ⟨?_, ?_⟩
    · rintro rfl; rw [Try.underlying26] at hu; cases hu
    · rintro rfl; rw [Try.underlying24] at hu; cases hu
  | str t s hu hs =>
    refine ⟨?_, ?_⟩
    · rintro rfl; rw [Try.underlying26] at hu; cases hu
    · rintro rfl; rw [Try.underlying24] at hu; cases hu
  | nils t e hu =>
    refine ⟨?_, fun _ => ⟨_, [], rfl, ⟨Fz.nil _ _, by decide⟩, fun a ha => absurd ha (by simp)⟩⟩
    rintro rfl; rw [Try.underlying26] at hu; cases hu
  | slice t e b len cap es rest cf df hu he h1 h2 h3 hb hr ht hd ih =>
    refine ⟨?_, ?_⟩
    · rintro rfl; rw [Try.underlying26] at hu; cases hu
    · rintro rfl
      rw [Try.underlying24] at hu; cases hu
      have z : Try.prog.cellsOf 26 = 4 := by kernel_rfl
      rw [z] at hr
      have hf := sl_fz (by omega : len ≤ cap) hb hr
      obtain ⟨ks, e, hk⟩ := map_ofP (f := Et.cs) (p := fun a => Tr (viewOf h) a) (xs := (List.range len).map cf) fun x hx => by
        obtain ⟨i, hi, rfl⟩ := List.mem_map.1 hx
        have hi : i < cap := by have := List.mem_range.1 hi; omega
        exact (ih i hi).1 rfl
      rw [e] at hf
      refine ⟨_, ks, rfl, ⟨hf, ?_⟩, hk⟩
      have := congrArg List.length e
      simp only [List.length_map, List.length_range] at this
      have hml : maxLen < 9223372036854775808 := by decide
      omega
  | struct t fs cs ds df hu hl hn hf hd ih =>
    refine ⟨?_, ?_⟩
    · rintro rfl
      rw [Try.underlying26] at hu; cases hu
      have z : Try.prog.cellsOf 26 = 4 := by kernel_rfl
      have zi : Try.prog.cellsOf 3 = 1 := by kernel_rfl
      have zs : Try.prog.cellsOf 24 = 1 := by kernel_rfl
      rw [z] at hl
      match cs, hl with
      | [y0, y1, y2, y3], _ =>
        have p0 := hf 0 _ rfl
        replace p0 : TR Try.prog h 3 (([y0, y1, y2, y3].drop 0).take (Try.prog.cellsOf 3)) _ := p0
        rw [zi] at p0
        obtain ⟨n0, r0, _⟩ := TR_int p0 Try.underlying3
        have p1 := hf 1 _ rfl
        replace p1 : TR Try.prog h 3 (([y0, y1, y2, y3].drop 1).take (Try.prog.cellsOf 3)) _ := p1
        rw [zi] at p1
        obtain ⟨n1, r1, _⟩ := TR_int p1 Try.underlying3
        have p2 := hf 2 _ rfl
        replace p2 : TR Try.prog h 3 (([y0, y1, y2, y3].drop 2).take (Try.prog.cellsOf 3)) _ := p2
        rw [zi] at p2
        obtain ⟨n2, r2, _⟩ := TR_int p2 Try.underlying3
        have p3 := (ih 3 _ rfl).2 rfl
        replace p3 : ∃ (v : Value) (ks : List Et), ([y0, y1, y2, y3].drop 3).take (Try.prog.cellsOf 24) = [v] ∧ (Fz (viewOf h) 4 v (ks.map Et.cs) ∧ ks.length < 9223372036854775808) ∧ ∀ a ∈ ks, Tr (viewOf h) a := p3
        rw [zs] at p3
        obtain ⟨v, ks, r3, h1, h2⟩ := p3
        simp at r0 r1 r2 r3
        exact ⟨.mk n0 n1 n2 v ks, by rw [r0, r1, r2, r3]; rfl, Tr_mk.2 ⟨h1, h2⟩⟩
    · rintro rfl; rw [Try.underlying24] at hu; cases hu
  | array t e n cs ds df hu hl hn hf hd ih =>
    refine ⟨?_, ?_⟩
    · rintro rfl; rw [Try.underlying26] at hu; cases hu
    · rintro rfl; rw [Try.underlying24] at hu; cases hu
theorem Vrs_of {D : Type} {h : Heap} {v : Value} {d : DataW D} (kk : TA Try.prog h 22 v d) : ∃ vs, Vrs (viewOf h) v vs ∧ vs.length < 9223372036854775808 ∧ ∀ i, i < vs.length → (vs.getD i default).nm.length < 9223372036854775808 := by
  have zr : Try.prog.cellsOf 53 = 3 := by kernel_rfl
  obtain ⟨v1, xs, e1, f1, m1, h1⟩ := TR_slice (TA_one kk (by kernel_rfl)) Try.underlying22
  rw [zr] at f1
  cases e1
  obtain ⟨l1, rfl, q⟩ := map_ofP (f := Vr.c) (p := fun a => a.nm.length < 9223372036854775808) fun x hx => let ⟨d', q⟩ := h1 x hx; TR_Vr q
  rw [List.length_map] at m1
  exact ⟨l1, f1, Nat.lt_of_le_of_lt m1 (by decide), fun i hi => q _ (getD_in hi)⟩
theorem Et_of {D : Type} {h : Heap} {v : Value} {d : DataW D} (kk : TA Try.prog h 26 v d) : ∃ t : Et, v = .agg ⟨t.cs⟩ ∧ Tr (viewOf h) t := by
  obtain ⟨cs, rfl, k⟩ := TA_agg kk (by kernel_rfl)
  obtain ⟨t, rfl, ht⟩ := (TR_tree k).1 rfl
  exact ⟨t, rfl, ht⟩
end Go.Proofs.Ytlidnionbofkaaa.Hm.V
