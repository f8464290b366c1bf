import Derived.Test.YtbjgnogcjglcoaaHF
import Derived.Test.YtbjgnogcjglcoaaA6
import Derived.Test.YtbjgnogcjglcoaaVG2
namespace Go.Proofs.Ytbjgnogcjglcoaa.Hm.V
open Go
set_option linter.all false
set_option maxRecDepth 100000
attribute [local irreducible] X S R D W Call Upd Rds Rck Sees Res Cel CallP fnQ
theorem fold_bit {c : Int} {m t : Nat} : ∀ (g : List Ed) (s : Nat), (g.foldl (fun s x => if x.l = c ∧ m.testBit x.f.toNat = true then s ||| 1 <<< x.t.toNat else s) s).testBit t = true ↔ s.testBit t = true ∨ ∃ x ∈ g, x.l = c ∧ m.testBit x.f.toNat = true ∧ x.t.toNat = t
  | [], s => by simp
  | y :: g, s => by
    rw [List.foldl_cons, fold_bit g]
    by_cases h : y.l = c ∧ m.testBit y.f.toNat = true
    · rw [if_pos h, Nat.testBit_or, Bool.or_eq_true, Nat.one_shiftLeft, Nat.testBit_two_pow, decide_eq_true_eq]
      constructor
      · rintro ((h1 | h1) | ⟨x, hx, h1⟩)
        · exact .inl h1
        · exact .inr ⟨y, by simp, h.1, h.2, h1⟩
        · exact .inr ⟨x, by simp [hx], h1⟩
      · rintro (h1 | ⟨x, hx, h1⟩)
        · exact .inl (.inl h1)
        · rcases List.mem_cons.1 hx with rfl | hx
          · exact .inl (.inr h1.2.2)
          · exact .inr ⟨x, hx, h1⟩
    · rw [if_neg h]
      constructor
      · rintro (h1 | ⟨x, hx, h1⟩)
        · exact .inl h1
        · exact .inr ⟨x, by simp [hx], h1⟩
      · rintro (h1 | ⟨x, hx, h1⟩)
        · exact .inl h1
        · rcases List.mem_cons.1 hx with rfl | hx
          · exact absurd ⟨h1.1, h1.2.1⟩ h
          · exact .inr ⟨x, hx, h1⟩
theorem stepTo_bit {g : List Ed} {m t : Nat} {c : Int} : (stepTo g m c).testBit t = true ↔ ∃ x ∈ g, x.l = c ∧ m.testBit x.f.toNat = true ∧ x.t.toNat = t := by
  unfold stepTo
  rw [fold_bit]
  simp
theorem setFold_bit {t : Nat} : ∀ (l : List Int) (s : Nat), (l.foldl (fun m n => m ||| 1 <<< n.toNat) s).testBit t = true ↔ s.testBit t = true ∨ ∃ x ∈ l, x.toNat = t
  | [], s => by simp
  | y :: l, s => by
    rw [List.foldl_cons, setFold_bit l, Nat.testBit_or, Bool.or_eq_true, Nat.one_shiftLeft, Nat.testBit_two_pow, decide_eq_true_eq]
    constructor
    · rintro ((h | h) | ⟨x, hx, h⟩)
      · exact .inl h
      · exact .inr ⟨y, by simp, h⟩
      · exact .inr ⟨x, by simp [hx], h⟩
    · rintro (h | ⟨x, hx, h⟩)
      · exact .inl (.inl h)
      · rcases List.mem_cons.1 hx with rfl | hx
        · exact .inl (.inr h)
        · exact .inr ⟨x, hx, h⟩
theorem setOf_bit {l : List Int} {t : Nat} : (setOf l).testBit t = true ↔ ∃ x ∈ l, x.toNat = t := by
  unfold setOf
  rw [setFold_bit]
  simp
theorem one_bit {k t : Nat} : (1 <<< k).testBit t = true ↔ k = t := by rw [Nat.one_shiftLeft, Nat.testBit_two_pow, decide_eq_true_eq]
theorem one_and {k m : Nat} : 1 <<< k &&& m ≠ 0 ↔ m.testBit k = true := by
  constructor
  · intro h
    obtain ⟨i, hi⟩ := Nat.exists_testBit_of_ne_zero h
    rw [Nat.testBit_and, Bool.and_eq_true, one_bit] at hi
    rw [hi.1]; exact hi.2
  · intro h e
    have : (1 <<< k &&& m).testBit k = true := by rw [Nat.testBit_and, Bool.and_eq_true, one_bit]; exact ⟨rfl, h⟩
    rw [e] at this
    simp at this
theorem bit_ext {m n : Nat} (h : ∀ t, m.testBit t = true ↔ n.testBit t = true) : m = n := by
  apply Nat.eq_of_testBit_eq
  intro i
  have := h i
  cases hm : m.testBit i <;> cases hn : n.testBit i <;> simp_all
theorem idxT_mem {l : List Bool} {k : Nat} : ((k : Int) ∈ idxT l) ↔ k < l.length ∧ l.getD k default = true := by
  unfold idxT
  rw [List.mem_map]
  constructor
  · rintro ⟨j, hj, e⟩
    obtain rfl : j = k := by omega
    rw [List.mem_filter, List.mem_range] at hj
    exact hj
  · intro h
    exact ⟨k, by rw [List.mem_filter, List.mem_range]; exact h, rfl⟩
theorem idxT_nat {l : List Bool} {x : Int} (h : x ∈ idxT l) : 0 ≤ x := by
  unfold idxT at h
  obtain ⟨j, _, rfl⟩ := List.mem_map.1 h
  omega
theorem getD_mem {α : Type} [Inhabited α] {l : List α} {k : Nat} (h : k < l.length) : l.getD k default ∈ l := by rw [getD_eq h]; exact List.getElem_mem _
theorem tab_step {L : Int} {rows : List (List Int)} {en : List Bool} (h : TabOK L rows en) {k : Nat} {c : Int} (hk : k < rows.length) (h0 : 0 ≤ c) (h1 : c < L) : stepTo (edsOf rows) (1 <<< k) c = 1 <<< ((rows.getD k default).getD c.toNat default).toNat := by
  have hL : 0 < L.toNat := by have := h.l1; omega
  have hlen := edsOf_len rows h.wide
  have hat := edsOf_at hL rows h.wide
  apply bit_ext
  intro t
  rw [stepTo_bit, one_bit]
  constructor
  · rintro ⟨x, hx, e1, e2, e3⟩
    obtain ⟨j, hj, rfl⟩ := List.getElem_of_mem hx
    have hj' : j < rows.length * L.toNat := by rw [← hlen]; exact hj
    have e := hat j hj'
    rw [getD_eq hj] at e
    rw [e] at e1 e2 e3
    simp only at e1 e2 e3
    rw [one_bit, Int.toNat_natCast] at e2
    have ec : c.toNat = j % L.toNat := by omega
    rw [e2, ec]; exact e3
  · intro e
    have hc : c.toNat < L.toNat := by omega
    have hj : k * L.toNat + c.toNat < rows.length * L.toNat := by
      calc k * L.toNat + c.toNat < k * L.toNat + L.toNat := by omega
        _ = (k + 1) * L.toNat := by rw [Nat.add_mul, Nat.one_mul]
        _ ≤ rows.length * L.toNat := Nat.mul_le_mul_right _ hk
    have e1 : (k * L.toNat + c.toNat) / L.toNat = k := by rw [Nat.mul_comm, Nat.mul_add_div hL, Nat.div_eq_of_lt hc]; rfl
    have e2 : (k * L.toNat + c.toNat) % L.toNat = c.toNat := by rw [Nat.mul_comm, Nat.mul_add_mod, Nat.mod_eq_of_lt hc]
    refine ⟨(edsOf rows).getD (k * L.toNat + c.toNat) default, getD_mem (by rw [hlen]; exact hj), ?_⟩
    rw [hat _ hj, e1, e2]
    exact ⟨by simp only; omega, by simp only; rw [one_bit]; exact (Int.toNat_natCast k).symm, e⟩
def runT (rows : List (List Int)) (w : List Int) : Nat := w.foldl (fun k c => ((rows.getD k default).getD c.toNat default).toNat) 0
theorem runT_snoc (rows : List (List Int)) (w : List Int) (c : Int) : runT rows (w ++ [c]) = ((rows.getD (runT rows w) default).getD c.toNat default).toNat := by unfold runT; rw [List.foldl_append]; rfl
theorem tab_run {L : Int} {rows : List (List Int)} {en : List Bool} (h : TabOK L rows en) (w : List Int) : lets L w → runT rows w < rows.length ∧ runW (tabAu L rows en) w = 1 <<< runT rows w :=
  snoc_ind (p := fun w => lets L w → runT rows w < rows.length ∧ runW (tabAu L rows en) w = 1 <<< runT rows w) (fun _ => ⟨h.pos, by simp [runW, tabAu, setOf, runT]⟩) (fun w c ih hw => by
    obtain ⟨h1, h2⟩ := ih fun x hx => hw x (by simp [hx])
    obtain ⟨h3, h4⟩ := hw c (by simp)
    have hmem := getD_mem h1
    have hwd := h.wide _ hmem
    obtain ⟨h5, h6⟩ := h.ins _ hmem _ (getD_mem (k := c.toNat) (by rw [hwd]; omega))
    refine ⟨by rw [runT_snoc]; omega, ?_⟩
    rw [runW_snoc, h2, runT_snoc]
    exact tab_step h h1 h3 h4) w
theorem tab_acc {L : Int} {rows : List (List Int)} {en : List Bool} (h : TabOK L rows en) {w : List Int} (hw : lets L w) : (runW (tabAu L rows en) w &&& setOf (tabAu L rows en).en ≠ 0) ↔ en.getD (runT rows w) default = true := by
  obtain ⟨h1, h2⟩ := tab_run h w hw
  rw [h2, one_and, setOf_bit]
  constructor
  · rintro ⟨x, hx, e⟩
    have h0 := idxT_nat hx
    have : ((runT rows w : Nat) : Int) ∈ idxT en := by rw [← e, Int.toNat_of_nonneg h0]; exact hx
    exact (idxT_mem.1 this).2
  · intro e
    exact ⟨((runT rows w : Nat) : Int), idxT_mem.2 ⟨by rw [h.enl]; exact h1, e⟩, Int.toNat_natCast _⟩
theorem det_run {a : Au} {ord : List Nat} (hP : DetP a ord) (w : List Int) : lets a.L w → runT (rowsS a ord) w < ord.length ∧ ord.getD (runT (rowsS a ord) w) default = runW a w :=
  snoc_ind (p := fun w => lets a.L w → runT (rowsS a ord) w < ord.length ∧ ord.getD (runT (rowsS a ord) w) default = runW a w) (fun _ => by
    obtain ⟨t, rfl⟩ := hP.start
    exact ⟨by show 0 < _; simp, rfl⟩) (fun w c ih hw => by
    obtain ⟨h1, h2⟩ := ih fun x hx => hw x (by simp [hx])
    obtain ⟨h3, h4⟩ := hw c (by simp)
    have hc : c.toNat < a.L.toNat := by omega
    have e1 : (rowsS a ord).getD (runT (rowsS a ord) w) default = rowS ord (nextL a.ed (runW a w) a.L.toNat) := by
      rw [getD_eq (by simpa [rowsS] using h1), ← h2, getD_eq h1]; simp [rowsS]
    have hs : stepTo a.ed (runW a w) c ∈ nextL a.ed (runW a w) a.L.toNat := List.mem_map.2 ⟨c.toNat, List.mem_range.2 hc, by rw [Int.toNat_of_nonneg h3]⟩
    have e2 : (rowS ord (nextL a.ed (runW a w) a.L.toNat)).getD c.toNat default = ((ord.idxOf (stepTo a.ed (runW a w) c) : Nat) : Int) := by
      rw [getD_eq (by rw [rowS_len, nextL_len]; exact hc)]
      simp only [rowS, nextL, List.getElem_map, List.getElem_range]
      rw [Int.toNat_of_nonneg h3]
    have hm : stepTo a.ed (runW a w) c ∈ ord := hP.cl (runW a w) (by rw [← h2]; exact getD_mem h1) _ hs
    rw [runT_snoc, e1, e2, Int.toNat_natCast, runW_snoc]
    have hlt := List.idxOf_lt_length_of_mem hm
    exact ⟨hlt, by rw [getD_eq hlt]; exact List.getElem_idxOf hlt⟩) w
theorem ends_at {a : Au} {ord : List Nat} (hP : DetP a ord) {w : List Int} (hw : lets a.L w) : (endsS a ord).getD (runT (rowsS a ord) w) default = decide (runW a w &&& setOf a.en ≠ 0) := by
  obtain ⟨h1, h2⟩ := det_run hP w hw
  rw [getD_eq (by simpa [endsS] using h1), ← h2, getD_eq h1]; simp [endsS]
theorem notAu_ok {a : Au} {ord : List Nat} (hA : isAutoP a) (hP : DetP a ord) : TabOK a.L (rowsS a ord) ((endsS a ord).map fun b => !b) := (hP.tab hA).ends (by simp)
theorem not_acc {a : Au} {ord : List Nat} (hA : isAutoP a) (hP : DetP a ord) {w : List Int} (hw : lets a.L w) : decide (runW (notAu a ord) w &&& setOf (notAu a ord).en ≠ 0) = !decide (runW a w &&& setOf a.en ≠ 0) := by
  have h := tab_acc (notAu_ok hA hP) hw
  have h1 := (det_run hP w hw).1
  have e : ((endsS a ord).map fun b => !b).getD (runT (rowsS a ord) w) default = !(endsS a ord).getD (runT (rowsS a ord) w) default := by
    rw [getD_eq (by simpa [endsS] using h1), getD_eq (by simpa [endsS] using h1)]; simp
  rw [e, ends_at hP hw] at h
  unfold notAu
  cases hq : decide (runW a w &&& setOf a.en ≠ 0)
  · rw [hq] at h; exact decide_eq_true (h.2 rfl)
  · rw [hq] at h; exact decide_eq_false fun hh => absurd (h.1 hh) (by decide)
theorem AuRZ.le {Z Z' : Vw} {r : AuR} (h : AuRZ Z r) (hz : Z.le Z') : AuRZ Z' r := ⟨h.s.le hz, h.e.le hz, h.g.le hz, h.q1, h.q2, h.q3, h.ok⟩
end Go.Proofs.Ytbjgnogcjglcoaa.Hm.V
