import Derived.Test.YtbjgnogcjglcoaaHF
import Derived.Test.YtbjgnogcjglcoaaA6
import Derived.Test.YtbjgnogcjglcoaaVD4
namespace Go.Proofs.Ytbjgnogcjglcoaa.Hm.V
open Go
set_option linter.all false
set_option maxRecDepth 100000
attribute [local irreducible] X S R D W Call Upd Rds Rck Sees Res Cel CallP fnQ
theorem getD_app_right {α : Type} [Inhabited α] {l t : List α} {i : Nat} (h : l.length ≤ i) : (l ++ t).getD i default = t.getD (i - l.length) default := by
  rw [List.getD_eq_getElem?_getD, List.getElem?_append_right h, List.getD_eq_getElem?_getD]
theorem edsRow_at {i : Nat} {row : List Int} {k : Nat} (h : k < row.length) : (edsRow i row).getD k default = ⟨(i : Int), (k : Int), row.getD k default⟩ := by
  rw [getD_eq (by rw [edsRow_len]; exact h), getD_eq h]
  simp [edsRow]
def wideR (n : Nat) (rows : List (List Int)) : Prop := ∀ r ∈ rows, r.length = n
theorem edsOf_at {n : Nat} (hn : 0 < n) (rows : List (List Int)) : wideR n rows → ∀ j, j < rows.length * n → (edsOf rows).getD j default = ⟨((j / n : Nat) : Int), ((j % n : Nat) : Int), (rows.getD (j / n) default).getD (j % n) default⟩ :=
  snoc_ind (p := fun rows => wideR n rows → ∀ j, j < rows.length * n → (edsOf rows).getD j default = ⟨((j / n : Nat) : Int), ((j % n : Nat) : Int), (rows.getD (j / n) default).getD (j % n) default⟩)
    (fun _ j hj => absurd hj (by simp)) (fun l x ih h j hj => by
      have hl : wideR n l := fun r hr => h r (by simp [hr])
      have hx : x.length = n := h x (by simp)
      rw [edsOf_snoc]
      have hlen := edsOf_len l hl
      rw [List.length_append, List.length_singleton, Nat.add_mul, Nat.one_mul] at hj
      rcases Nat.lt_or_ge j (l.length * n) with h1 | h1
      · rw [getD_app (by rw [hlen]; exact h1), ih hl j h1]
        have h2 : j / n < l.length := (Nat.div_lt_iff_lt_mul hn).2 h1
        rw [getD_app h2]
      · obtain ⟨k, rfl⟩ : ∃ k, j = l.length * n + k := ⟨j - l.length * n, by omega⟩
        have hk : k < n := by omega
        have e1 : (l.length * n + k) / n = l.length := by
          rw [Nat.mul_comm, Nat.mul_add_div hn, Nat.div_eq_of_lt hk]; rfl
        have e2 : (l.length * n + k) % n = k := by rw [Nat.mul_comm, Nat.mul_add_mod, Nat.mod_eq_of_lt hk]
        rw [getD_app_right (by rw [hlen]; omega), hlen, e1, e2, Nat.add_sub_cancel_left, edsRow_at (by omega), getD_app_right (Nat.le_refl _), Nat.sub_self]
        rfl) rows
def tabAu (L : Int) (rows : List (List Int)) (en : List Bool) : Au := ⟨(rows.length : Int), L, [0], idxT en, edsOf rows⟩
structure TabOK (L : Int) (rows : List (List Int)) (en : List Bool) : Prop where
  pos : 1 ≤ rows.length
  len : rows.length ≤ 256
  enl : en.length = rows.length
  l1 : 1 ≤ L
  l2 : L ≤ 1024
  big : rows.length * L.toNat ≤ 200000
  wide : wideR L.toNat rows
  ins : ∀ r ∈ rows, ∀ x ∈ r, 0 ≤ x ∧ x < (rows.length : Int)
theorem idxT_prop (l : List Bool) : (∀ i, i < (idxT l).length → okAt (idxT l) (l.length : Int) i) :=
  snoc_ind (p := fun l => ∀ i, i < (idxT l).length → okAt (idxT l) (l.length : Int) i) (fun i hi => absurd hi (by simp [idxT])) (fun l b ih i hi => by
    rw [idxT_snoc] at hi ⊢
    cases b
    · simp only [Bool.false_eq_true, if_false, List.append_nil] at hi ⊢
      obtain ⟨h1, h2, h3⟩ := ih i hi
      exact ⟨h1, by rw [List.length_append]; omega, h3⟩
    · simp only [if_true] at hi ⊢
      rw [List.length_append, List.length_singleton] at hi
      rcases Nat.lt_or_ge i (idxT l).length with h | h
      · obtain ⟨h1, h2, h3⟩ := ih i h
        refine ⟨by rw [getD_app h]; exact h1, by rw [getD_app h, List.length_append]; omega, fun h0 => ?_⟩
        rw [getD_app h, getD_app (by omega)]
        exact h3 h0
      · have e : i = (idxT l).length := by omega
        have e1 : (idxT l ++ [((l.length : Nat) : Int)]).getD i default = (l.length : Int) := by
          rw [getD_app_right h, e, Nat.sub_self]; rfl
        refine ⟨by rw [e1]; omega, by rw [e1, List.length_append, List.length_singleton]; omega, fun h0 => ?_⟩
        rw [e1, getD_app (by omega)]
        exact (ih (i - 1) (by omega)).2.1) l
theorem tab_isAuto {L : Int} {rows : List (List Int)} {en : List Bool} (h : TabOK L rows en) : isAutoP (tabAu L rows en) := by
  have hL : 0 < L.toNat := by have := h.l1; omega
  have hel : (edsOf rows).length = rows.length * L.toNat := edsOf_len rows h.wide
  refine ⟨by simp only [tabAu]; omega, by have := h.len; simp only [tabAu]; omega, h.l1, h.l2, by have := h.big; simp only [tabAu]; omega, ?_, ?_, ?_⟩
  · intro i hi
    simp only [tabAu, List.length_singleton] at hi
    have : i = 0 := by omega
    subst this
    have := h.pos
    exact ⟨by simp [tabAu], by simp [tabAu]; omega, fun h0 => absurd h0 (by omega)⟩
  · intro i hi
    have := idxT_prop en i hi
    rw [h.enl] at this
    exact this
  · intro i hi
    simp only [tabAu] at hi ⊢
    rw [hel] at hi
    have at_ := edsOf_at hL rows h.wide
    have hq : i / L.toNat < rows.length := (Nat.div_lt_iff_lt_mul hL).2 hi
    have hr : i % L.toNat < L.toNat := Nat.mod_lt _ hL
    have hrow : (rows.getD (i / L.toNat) default) ∈ rows := by rw [getD_eq hq]; exact List.getElem_mem hq
    have hx : (rows.getD (i / L.toNat) default).getD (i % L.toNat) default ∈ rows.getD (i / L.toNat) default := by
      rw [getD_eq (l := rows.getD (i / L.toNat) default) (by rw [h.wide _ hrow]; exact hr)]; exact List.getElem_mem _
    obtain ⟨h1, h2⟩ := h.ins _ hrow _ hx
    rw [edOk, at_ i hi]
    have hd := Nat.div_add_mod i L.toNat
    have hm := at_ (i - 1) (by omega)
    have hl0 : L = (L.toNat : Int) := by have := h.l1; omega
    generalize hn : L.toNat = n at *
    generalize hqq : i / n = q at *
    generalize hrr : i % n = r at *
    refine ⟨by simp only; omega, by simp only; omega, h1, h2, by simp only; omega, by simp only; omega, fun h0 => ?_⟩
    rw [hm]
    rcases Nat.eq_zero_or_pos r with hz | hz
    · have hq0 : 0 < q := by
        rcases Nat.eq_zero_or_pos q with h5 | h5
        · rw [h5, hz] at hd; simp at hd; omega
        · exact h5
      obtain ⟨p, rfl⟩ : ∃ p, q = p + 1 := ⟨q - 1, by omega⟩
      have e : i - 1 = n * p + (n - 1) := by
        rw [hz, Nat.mul_add, Nat.mul_one] at hd; omega
      have e1 : (i - 1) / n = p := by rw [e, Nat.mul_add_div hL, Nat.div_eq_of_lt (by omega)]; rfl
      exact .inl (by simp only; rw [e1]; omega)
    · have e : i - 1 = n * q + (r - 1) := by omega
      have e1 : (i - 1) / n = q := by
        rw [e, Nat.mul_add_div hL, Nat.div_eq_of_lt (by omega)]; simp
      have e2 : (i - 1) % n = r - 1 := by
        rw [e, Nat.mul_add_mod, Nat.mod_eq_of_lt (by omega)]
      exact .inr ⟨by simp only; rw [e1], .inl (by simp only; rw [e2]; omega)⟩
theorem DetP.tab {a : Au} {ord : List Nat} (hA : isAutoP a) (h : DetP a ord) : TabOK a.L (rowsS a ord) (endsS a ord) := by
  obtain ⟨_, _, l1, l2, _⟩ := hA
  obtain ⟨t, ht⟩ := h.start
  have hl : (rowsS a ord).length = ord.length := by simp [rowsS]
  refine ⟨by rw [hl, ht]; simp, by rw [hl]; exact h.len, by simp [endsS, rowsS], l1, l2, by rw [hl]; exact h.big, fun r hr => ?_, fun r hr x hx => ?_⟩
  · obtain ⟨m, _, rfl⟩ := List.mem_map.1 hr
    rw [rowS_len, nextL_len]
  · obtain ⟨m, hm, rfl⟩ := List.mem_map.1 hr
    obtain ⟨s, hs, rfl⟩ := List.mem_map.1 hx
    have := List.idxOf_lt_length_of_mem (h.cl m hm s hs)
    rw [hl]; omega
end Go.Proofs.Ytbjgnogcjglcoaa.Hm.V
