/- Of layer 27: far, plainly. -/
import Derived.Test.YtbjgnogcjglcoaaHF
import Derived.Test.YtbjgnogcjglcoaaA6
import Derived.Test.YtbjgnogcjglcoaaVP2
namespace Go.Proofs.Ytbjgnogcjglcoaa.Hm.V
open Go
set_option linter.all false
set_option maxRecDepth 100000
attribute [local irreducible] X S R D W Call Upd Rds Rck Sees Res Cel CallP fnQ
/-- Where the edges into a state come from. -/
def inL (g : List Ed) (q : Nat) : List Int := (g.filter fun x => decide (x.t.toNat = q)).map (·.f)
def nonneg (out : List Int) : Nat := out.countP fun x => decide (0 ≤ x)
theorem nonneg_le (out : List Int) : nonneg out ≤ out.length := List.countP_le_length
theorem nonneg_set : ∀ {out : List Int} {k : Nat} {x : Int}, k < out.length → out.getD k default < 0 → 0 ≤ x → nonneg (out.set k x) = nonneg out + 1
  | y :: out, 0, x, _, h, hx => by
    have h : y < 0 := h
    unfold nonneg
    rw [List.set_cons_zero, List.countP_cons_of_pos (by simpa using hx), List.countP_cons_of_neg (by simp; omega)]
  | y :: out, k + 1, x, hk, h, hx => by
    have ih := nonneg_set (out := out) (k := k) (x := x) (by simpa using hk) (by simpa using h) hx
    unfold nonneg at ih ⊢
    rw [List.set_cons_succ, List.countP_cons, List.countP_cons, ih]; omega
theorem getD_set_eq {α : Type} [Inhabited α] {l : List α} {k : Nat} {x : α} (h : k < l.length) : (l.set k x).getD k default = x := by
  rw [getD_eq (by simpa using h)]; simp
theorem getD_set_ne {α : Type} [Inhabited α] {l : List α} {k j : Nat} {x : α} (h : j ≠ k) : (l.set k x).getD j default = l.getD j default := by
  rw [List.getD_eq_getElem?_getD, List.getElem?_set_ne (by omega), List.getD_eq_getElem?_getD]
structure Bfs (a : Au) (out Q : List Int) (i j : Nat) : Prop where
  len : out.length = a.S.toNat
  i0 : i ≤ Q.length
  mem : ∀ q, q < a.S.toNat → (0 ≤ out.getD q default ↔ (q : Int) ∈ Q)
  neg : ∀ q, q < a.S.toNat → out.getD q default < 0 → out.getD q default = -1
  rng : ∀ x ∈ Q, 0 ≤ x ∧ x < a.S
  dis : ∀ x ∈ Q, 0 ≤ out.getD x.toNat default ∧ isD a x.toNat (out.getD x.toNat default).toNat
  mono : ∀ k k', k ≤ k' → k' < Q.length → out.getD (Q.getD k default).toNat default ≤ out.getD (Q.getD k' default).toNat default
  near : i < Q.length → ∀ k, k < Q.length → out.getD (Q.getD k default).toNat default ≤ out.getD (Q.getD i default).toNat default + 1
  done : ∀ k, k < i → ∀ x ∈ a.ed, x.t = Q.getD k default → x.f ∈ Q
  ends : ∀ x ∈ a.en, x ∈ Q
  cnt : Q.length = nonneg out
  part : i < Q.length → ∀ k, k < j → (inL a.ed (Q.getD i default).toNat).getD k default ∈ Q
/-- All that is as near as the one at hand is met. -/
theorem Bfs.all {a : Au} {out Q : List Int} {i j : Nat} (hA : isAutoP a) (h : Bfs a out Q i j) (hi : i < Q.length) : ∀ {k m : Nat}, (k : Int) ≤ out.getD (Q.getD i default).toNat default → (aftN a k).testBit m = true → (m : Int) ∈ Q
  | 0, m, _, hm => by
    obtain ⟨x, hx, rfl⟩ := setOf_bit.1 (show (setOf a.en).testBit m = true from hm)
    have := h.ends x hx
    rw [Int.toNat_of_nonneg (h.rng x this).1]; exact this
  | k + 1, m, hk, hm => by
    obtain ⟨x, hx, h1, rfl⟩ := backAny_bit.1 (show (backAny a.ed (aftN a k)).testBit m = true from hm)
    have h2 := Bfs.all hA h hi (k := k) (m := x.t.toNat) (by omega) h1
    obtain ⟨d1, d2⟩ := h.dis _ h2
    rw [Int.toNat_natCast] at d1 d2
    have h3 : (out.getD x.t.toNat default).toNat ≤ k := by
      obtain ⟨j', hj, h4⟩ := isD_of k h1
      rw [isD_eq d2 h4]; exact hj
    obtain ⟨p, hp, e⟩ := List.getElem_of_mem h2
    have e' : Q.getD p default = (x.t.toNat : Int) := by rw [getD_eq hp]; exact e
    have hpi : p < i := by
      rcases Nat.lt_or_ge p i with h5 | h5
      · exact h5
      · have := h.mono i p h5 hp
        rw [e', Int.toNat_natCast] at this
        omega
    have hxt : 0 ≤ x.t ∧ 0 ≤ x.f := by have := inEd_mem (isAuto_ed hA) hx; omega
    have h6 := h.done p hpi x hx (by rw [e']; omega)
    rw [Int.toNat_of_nonneg hxt.2]; exact h6
theorem inL_mem {g : List Ed} {q : Nat} {n : Int} : n ∈ inL g q ↔ ∃ x ∈ g, x.t.toNat = q ∧ x.f = n := by
  unfold inL
  rw [List.mem_map]
  constructor
  · rintro ⟨x, hx, rfl⟩
    rw [List.mem_filter, decide_eq_true_eq] at hx
    exact ⟨x, hx.1, hx.2, rfl⟩
  · rintro ⟨x, hx, h, rfl⟩
    exact ⟨x, by rw [List.mem_filter, decide_eq_true_eq]; exact ⟨hx, h⟩, rfl⟩
theorem Bfs.row {a : Au} {out Q : List Int} {i j : Nat} (hA : isAutoP a) (h : Bfs a out Q i j) (hi : i < Q.length) (hj : (inL a.ed (Q.getD i default).toNat).length ≤ j) : Bfs a out Q (i + 1) 0 where
  len := h.len
  i0 := hi
  mem := h.mem
  neg := h.neg
  rng := h.rng
  dis := h.dis
  mono := h.mono
  near := fun h1 k hk => by
    have h2 := h.near hi k hk
    have h3 := h.mono i (i + 1) (by omega) h1
    omega
  done := fun k hk x hx e => by
    rcases Nat.lt_or_ge k i with h1 | h1
    · exact h.done k h1 x hx e
    · obtain rfl : k = i := by omega
      have h2 : x.f ∈ inL a.ed (Q.getD k default).toNat := inL_mem.2 ⟨x, hx, by rw [e], rfl⟩
      obtain ⟨p, hp, e2⟩ := List.getElem_of_mem h2
      have := h.part hi p (by omega)
      rw [getD_eq hp, e2] at this
      exact this
  ends := h.ends
  cnt := h.cnt
  part := fun _ k hk => absurd hk (by omega)
theorem Bfs.skip {a : Au} {out Q : List Int} {i j : Nat} (h : Bfs a out Q i j) (hn : 0 ≤ (inL a.ed (Q.getD i default).toNat).getD j default ∧ (inL a.ed (Q.getD i default).toNat).getD j default < a.S) (ho : 0 ≤ out.getD ((inL a.ed (Q.getD i default).toNat).getD j default).toNat default) : Bfs a out Q i (j + 1) := by
  refine ⟨h.len, h.i0, h.mem, h.neg, h.rng, h.dis, h.mono, h.near, h.done, h.ends, h.cnt, fun hi k hk => ?_⟩
  rcases Nat.lt_or_ge k j with h1 | h1
  · exact h.part hi k h1
  · obtain rfl : k = j := by omega
    have := (h.mem _ (by omega)).1 ho
    rw [Int.toNat_of_nonneg hn.1] at this
    exact this
theorem Bfs.add {a : Au} {out Q : List Int} {i j : Nat} {n : Int} (hA : isAutoP a) (h : Bfs a out Q i j) (hi : i < Q.length) (hj : j < (inL a.ed (Q.getD i default).toNat).length) (hn : n = (inL a.ed (Q.getD i default).toNat).getD j default) (h0 : 0 ≤ n ∧ n < a.S) (ho : out.getD n.toNat default < 0) :
    Bfs a (out.set n.toNat (out.getD (Q.getD i default).toNat default + 1)) (Q ++ [n]) i (j + 1) := by
  have hS := hA.1
  have hlen := h.len
  have hqi := getD_mem hi
  obtain ⟨d1, d2⟩ := h.dis _ hqi
  have hnm : n ∉ Q := fun hm => by
    have := (h.dis n hm).1
    omega
  have hne : ∀ x ∈ Q, x.toNat ≠ n.toNat := fun x hx e => hnm (by
    have := (h.rng x hx).1
    have : x = n := by omega
    rw [← this]; exact hx)
  have hold : ∀ x ∈ Q, (out.set n.toNat (out.getD (Q.getD i default).toNat default + 1)).getD x.toNat default = out.getD x.toNat default := fun x hx => getD_set_ne (hne x hx)
  have hnew : (out.set n.toNat (out.getD (Q.getD i default).toNat default + 1)).getD n.toNat default = out.getD (Q.getD i default).toNat default + 1 := getD_set_eq (by omega)
  have hisD : isD a n.toNat (out.getD (Q.getD i default).toNat default + 1).toNat := by
    have hm : n ∈ inL a.ed (Q.getD i default).toNat := by rw [hn]; exact getD_mem hj
    obtain ⟨x, hx, h1, h2⟩ := inL_mem.1 hm
    have e : (out.getD (Q.getD i default).toNat default + 1).toNat = (out.getD (Q.getD i default).toNat default).toNat + 1 := by omega
    rw [e]
    refine ⟨backAny_bit.2 ⟨x, hx, by rw [h1]; exact d2.1, by rw [h2]⟩, fun k hk => ?_⟩
    cases h3 : (aftN a k).testBit n.toNat
    · rfl
    · have := h.all hA hi (k := k) (m := n.toNat) (by omega) h3
      rw [Int.toNat_of_nonneg h0.1] at this
      exact absurd this hnm
  refine ⟨by rw [List.length_set]; exact hlen, by rw [List.length_append]; omega, fun q hq => ?_, fun q hq hlt => ?_, fun x hx => ?_, fun x hx => ?_, fun k k' hk hk' => ?_, fun _ k hk => ?_, fun k hk x hx e => ?_, fun x hx => ?_, ?_, fun _ k hk => ?_⟩
  · by_cases e : q = n.toNat
    · subst e
      rw [hnew, Int.toNat_of_nonneg h0.1]
      exact ⟨fun _ => by simp, fun _ => by omega⟩
    · rw [getD_set_ne e, h.mem q hq, List.mem_append, List.mem_singleton]
      exact ⟨.inl, fun h1 => h1.resolve_right (by omega)⟩
  · by_cases e : q = n.toNat
    · subst e
      rw [hnew] at hlt; omega
    · rw [getD_set_ne e] at hlt ⊢
      exact h.neg q hq hlt
  · rcases List.mem_append.1 hx with hx | hx
    · exact h.rng x hx
    · rw [List.mem_singleton.1 hx]; exact h0
  · rcases List.mem_append.1 hx with hx | hx
    · rw [hold x hx]; exact h.dis x hx
    · rw [List.mem_singleton.1 hx, hnew]
      exact ⟨by omega, hisD⟩
  · rw [List.length_append, List.length_singleton] at hk'
    rcases Nat.lt_or_ge k' Q.length with h1 | h1
    · rw [getD_app (by omega), getD_app h1, hold _ (getD_mem (by omega)), hold _ (getD_mem h1)]
      exact h.mono k k' hk h1
    · obtain rfl : k' = Q.length := by omega
      have e2 : (Q ++ [n]).getD Q.length default = n := by rw [getD_app_right (Nat.le_refl _), Nat.sub_self]; rfl
      rw [e2, hnew]
      rcases Nat.lt_or_ge k Q.length with h2 | h2
      · rw [getD_app h2, hold _ (getD_mem h2)]
        exact h.near hi k h2
      · obtain rfl : k = Q.length := by omega
        rw [e2, hnew]; exact Int.le_refl _
  · rw [List.length_append, List.length_singleton] at hk
    rw [getD_app hi, hold _ hqi]
    rcases Nat.lt_or_ge k Q.length with h2 | h2
    · rw [getD_app h2, hold _ (getD_mem h2)]
      exact h.near hi k h2
    · obtain rfl : k = Q.length := by omega
      have e2 : (Q ++ [n]).getD Q.length default = n := by rw [getD_app_right (Nat.le_refl _), Nat.sub_self]; rfl
      rw [e2, hnew]; exact Int.le_refl _
  · rw [getD_app (by omega)] at e
    exact List.mem_append_left _ (h.done k hk x hx e)
  · exact List.mem_append_left _ (h.ends x hx)
  · rw [nonneg_set (by omega) ho (by omega), List.length_append, List.length_singleton, h.cnt]
  · rw [getD_app hi]
    rcases Nat.lt_or_ge k j with h2 | h2
    · exact List.mem_append_left _ (h.part hi k h2)
    · obtain rfl : k = j := by omega
      rw [← hn]; simp
/-- What far makes. -/
def farP (a : Au) (out : List Int) : Prop := out.length = a.S.toNat ∧ ∀ q, q < a.S.toNat → (out.getD q default = -1 ∧ ∀ k, (aftN a k).testBit q = false) ∨ (0 ≤ out.getD q default ∧ isD a q (out.getD q default).toNat)
theorem Bfs.fin {a : Au} {out Q : List Int} {i : Nat} (hA : isAutoP a) (h : Bfs a out Q i 0) (hi : Q.length ≤ i) : farP a out := by
  have hcl : ∀ k m, (aftN a k).testBit m = true → (m : Int) ∈ Q := by
    intro k
    induction k with
    | zero =>
      intro m hm
      obtain ⟨x, hx, rfl⟩ := setOf_bit.1 (show (setOf a.en).testBit m = true from hm)
      have := h.ends x hx
      rw [Int.toNat_of_nonneg (h.rng x this).1]; exact this
    | succ k ih =>
      intro m hm
      obtain ⟨x, hx, h1, rfl⟩ := backAny_bit.1 (show (backAny a.ed (aftN a k)).testBit m = true from hm)
      have h2 := ih x.t.toNat h1
      obtain ⟨p, hp, e⟩ := List.getElem_of_mem h2
      have hxt := inEd_mem (isAuto_ed hA) hx
      have h6 := h.done p (by omega) x hx (by rw [getD_eq hp, e]; omega)
      rw [Int.toNat_of_nonneg hxt.1]; exact h6
  refine ⟨h.len, fun q hq => ?_⟩
  by_cases h0 : 0 ≤ out.getD q default
  · right
    have := h.dis _ ((h.mem q hq).1 h0)
    rw [Int.toNat_natCast] at this
    exact this
  · left
    refine ⟨h.neg q hq (by omega), fun k => ?_⟩
    cases h1 : (aftN a k).testBit q
    · rfl
    · exact absurd ((h.mem q hq).2 (hcl k q h1)) h0
end Go.Proofs.Ytbjgnogcjglcoaa.Hm.V
