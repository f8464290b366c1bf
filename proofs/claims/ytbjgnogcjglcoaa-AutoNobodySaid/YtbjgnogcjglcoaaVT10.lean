import Derived.Test.YtbjgnogcjglcoaaHF
import Derived.Test.YtbjgnogcjglcoaaA6
import Derived.Test.YtbjgnogcjglcoaaVT9
namespace Go.Proofs.Ytbjgnogcjglcoaa.Hm.V
open Go
set_option linter.all false
set_option maxRecDepth 100000
attribute [local irreducible] X S R D W Call Upd Rds Rck Sees Res Cel CallP fnQ
theorem pr_lt {i j k m n : Int} (h : i < j) (hk : k < n) (hm : 0 ≤ m) (hn : 0 ≤ n) : i * n + k < j * n + m := by
  have h1 : (i + 1) * n ≤ j * n := Int.mul_le_mul_of_nonneg_right (by omega) hn
  rw [Int.add_mul, Int.one_mul] at h1
  omega
theorem pr_nn {i k n : Int} (hi : 0 ≤ i) (hk : 0 ≤ k) (hn : 0 ≤ n) : 0 ≤ i * n + k := by
  have := Int.mul_nonneg hi hn
  omega
theorem pr_ub {i k n S : Int} (hi : i < S) (hk : k < n) (hn : 0 ≤ n) : i * n + k < S * n := by
  have := pr_lt (m := 0) hi hk (Int.le_refl 0) hn
  omega
theorem pr_nat {i k n : Int} (hi : 0 ≤ i) (hk : 0 ≤ k) (hkn : k < n) : (i * n + k).toNat / n.toNat = i.toNat ∧ (i * n + k).toNat % n.toNat = k.toNat := by
  obtain ⟨i', rfl⟩ := Int.eq_ofNat_of_zero_le hi
  obtain ⟨k', rfl⟩ := Int.eq_ofNat_of_zero_le hk
  obtain ⟨n', rfl⟩ := Int.eq_ofNat_of_zero_le (show 0 ≤ n by omega)
  have hkn : k' < n' := by omega
  have e : ((i' : Int) * (n' : Int) + (k' : Int)).toNat = i' * n' + k' := by
    have : ((i' : Int) * (n' : Int) + (k' : Int)) = ((i' * n' + k' : Nat) : Int) := by rw [Int.natCast_add, Int.natCast_mul]
    rw [this, Int.toNat_natCast]
  rw [e, Int.toNat_natCast, Int.toNat_natCast, Int.toNat_natCast]
  constructor
  · rw [Nat.mul_comm, Nat.mul_add_div (by omega), Nat.div_eq_of_lt hkn, Nat.add_zero]
  · rw [Nat.mul_comm, Nat.mul_add_mod, Nat.mod_eq_of_lt hkn]
theorem pr_back {t : Nat} {n : Int} (hn : 0 < n) : (((t / n.toNat : Nat) : Int) * n + ((t % n.toNat : Nat) : Int)).toNat = t := by
  obtain ⟨n', rfl⟩ := Int.eq_ofNat_of_zero_le (Int.le_of_lt hn)
  rw [Int.toNat_natCast]
  have : (((t / n' : Nat) : Int) * (n' : Int) + ((t % n' : Nat) : Int)) = ((t / n' * n' + t % n' : Nat) : Int) := by rw [Int.natCast_add, Int.natCast_mul]
  rw [this, Int.toNat_natCast, Nat.mul_comm, Nat.div_add_mod]
theorem rising_of {l : List Int} {S : Int} (hp : l.Pairwise fun x y => x < y) (hb : ∀ x ∈ l, 0 ≤ x ∧ x < S) : risingP l S := fun i hi => by
  obtain ⟨h0, h1⟩ := hb _ (getD_mem hi)
  exact ⟨h0, h1, fun hpos => pw_at hp (by omega) hi⟩
theorem rising_mem {l : List Int} {S : Int} (h : risingP l S) : ∀ x ∈ l, 0 ≤ x ∧ x < S := fun x hx => by
  obtain ⟨j, hj, rfl⟩ := List.getElem_of_mem hx
  obtain ⟨h0, h1, _⟩ := h j hj
  rw [getD_eq hj] at h0 h1
  exact ⟨h0, h1⟩
def pairsN (n : Int) (l m : List Int) : Nat → List Int
  | 0 => []
  | i + 1 => pairsN n l m i ++ m.map fun k => l.getD i default * n + k
theorem pairsN_mem {n x : Int} {l m : List Int} : ∀ {i : Nat}, x ∈ pairsN n l m i ↔ ∃ j, j < i ∧ ∃ k ∈ m, l.getD j default * n + k = x
  | 0 => by simp [pairsN]
  | i + 1 => by
    rw [pairsN, List.mem_append, pairsN_mem, List.mem_map]
    constructor
    · rintro (⟨j, h1, h2⟩ | h2)
      · exact ⟨j, by omega, h2⟩
      · exact ⟨i, by omega, h2⟩
    · rintro ⟨j, h1, h2⟩
      rcases Nat.lt_or_ge j i with h3 | h3
      · exact .inl ⟨j, h3, h2⟩
      · obtain rfl : j = i := by omega
        exact .inr h2
theorem pairsN_len (n : Int) (l m : List Int) : ∀ i, (pairsN n l m i).length = i * m.length
  | 0 => by simp [pairsN]
  | i + 1 => by rw [pairsN, List.length_append, pairsN_len n l m i, List.length_map, Nat.succ_mul]
theorem pairsN_mem' {n x : Int} {l m : List Int} : x ∈ pairsN n l m l.length ↔ ∃ i ∈ l, ∃ k ∈ m, i * n + k = x := by
  rw [pairsN_mem]
  constructor
  · rintro ⟨j, h1, h2⟩; exact ⟨_, getD_mem h1, h2⟩
  · rintro ⟨i, h1, h2⟩
    obtain ⟨j, hj, rfl⟩ := List.getElem_of_mem h1
    exact ⟨j, hj, by rw [getD_eq hj]; exact h2⟩
theorem pairsN_pw {n S : Int} {l m : List Int} (hl : risingP l S) (hm : risingP m n) (hn : 0 ≤ n) : ∀ i, i ≤ l.length → (pairsN n l m i).Pairwise fun x y => x < y
  | 0, _ => .nil
  | i + 1, hi => by
    refine List.pairwise_append.2 ⟨pairsN_pw hl hm hn i (by omega), List.pairwise_map.2 ((rising_pw hm).imp fun h => by omega), fun x hx y hy => ?_⟩
    obtain ⟨j, hj, k, hk, rfl⟩ := pairsN_mem.1 hx
    obtain ⟨k', hk', rfl⟩ := List.mem_map.1 hy
    exact pr_lt (pw_at (rising_pw hl) hj (by omega)) (rising_mem hm k hk).2 (rising_mem hm k' hk').1 hn
theorem pairsN_rising {n S : Int} {l m : List Int} (hl : risingP l S) (hm : risingP m n) (hn : 0 ≤ n) : risingP (pairsN n l m l.length) (S * n) :=
  rising_of (pairsN_pw hl hm hn _ (Nat.le_refl _)) fun x hx => by
    obtain ⟨i, hi, k, hk, rfl⟩ := pairsN_mem'.1 hx
    obtain ⟨i0, i1⟩ := rising_mem hl i hi
    obtain ⟨k0, k1⟩ := rising_mem hm k hk
    exact ⟨pr_nn i0 k0 hn, pr_ub i1 k1 hn⟩
def bE (n : Int) (c : Nat) (x y : Ed) : Ed := ⟨x.f * n + y.f, (c : Int), x.t * n + y.t⟩
def bothI (n : Int) (c : Nat) (ps qs : List Ed) : Nat → List Ed
  | 0 => []
  | i + 1 => bothI n c ps qs i ++ qs.map (bE n c (ps.getD i default))
def bothN (a b : Au) : Nat → List Ed
  | 0 => []
  | c + 1 => bothN a b c ++ bothI b.S c (byL a.ed c) (byL b.ed c) (byL a.ed c).length
def cntN (a b : Au) : Nat → Nat
  | 0 => 0
  | c + 1 => cntN a b c + (byL a.ed c).length * (byL b.ed c).length
theorem bothI_len (n : Int) (c : Nat) (ps qs : List Ed) : ∀ i, (bothI n c ps qs i).length = i * qs.length
  | 0 => by simp [bothI]
  | i + 1 => by rw [bothI, List.length_append, bothI_len, List.length_map, Nat.succ_mul]
theorem bothN_len (a b : Au) : ∀ c, (bothN a b c).length = cntN a b c
  | 0 => rfl
  | c + 1 => by rw [bothN, List.length_append, bothN_len, bothI_len, cntN]
theorem cntN_small {a b : Au} (ha : (a.ed.length : Int) ≤ 200000) (hb : (b.ed.length : Int) ≤ 200000) : ∀ c, cntN a b c ≤ c * 40000000000
  | 0 => Nat.le_refl _
  | c + 1 => by
    have h1 := cntN_small ha hb c
    have h2 : (byL a.ed c).length * (byL b.ed c).length ≤ 200000 * 200000 := Nat.mul_le_mul (by have := byL_le a.ed c; omega) (by have := byL_le b.ed c; omega)
    rw [cntN]; omega
theorem bothI_mem {n : Int} {c : Nat} {ps qs : List Ed} {x : Ed} : ∀ {i : Nat}, x ∈ bothI n c ps qs i ↔ ∃ j, j < i ∧ ∃ q ∈ qs, bE n c (ps.getD j default) q = x
  | 0 => by simp [bothI]
  | i + 1 => by
    rw [bothI, List.mem_append, bothI_mem, List.mem_map]
    constructor
    · rintro (⟨j, h1, h2⟩ | h2)
      · exact ⟨j, by omega, h2⟩
      · exact ⟨i, by omega, h2⟩
    · rintro ⟨j, h1, h2⟩
      rcases Nat.lt_or_ge j i with h3 | h3
      · exact .inl ⟨j, h3, h2⟩
      · obtain rfl : j = i := by omega
        exact .inr h2
theorem bothN_mem {a b : Au} {x : Ed} : ∀ {n : Nat}, x ∈ bothN a b n ↔ ∃ c, c < n ∧ ∃ p ∈ a.ed, p.l.toNat = c ∧ ∃ q ∈ b.ed, q.l.toNat = c ∧ bE b.S c p q = x
  | 0 => by simp [bothN]
  | n + 1 => by
    rw [bothN, List.mem_append, bothN_mem, bothI_mem]
    constructor
    · rintro (⟨c, h1, h2⟩ | ⟨j, h1, q, hq, e⟩)
      · exact ⟨c, by omega, h2⟩
      · obtain ⟨p1, p2⟩ := byL_mem.1 (getD_mem h1)
        obtain ⟨q1, q2⟩ := byL_mem.1 hq
        exact ⟨n, by omega, _, p1, p2, q, q1, q2, e⟩
    · rintro ⟨c, h1, p, p1, p2, q, q1, q2, e⟩
      rcases Nat.lt_or_ge c n with h3 | h3
      · exact .inl ⟨c, h3, p, p1, p2, q, q1, q2, e⟩
      · obtain rfl : c = n := by omega
        obtain ⟨j, hj, e2⟩ := List.getElem_of_mem (byL_mem.2 ⟨p1, p2⟩)
        exact .inr ⟨j, hj, q, byL_mem.2 ⟨q1, q2⟩, by rw [getD_eq hj, e2]; exact e⟩
def bothAu (a b : Au) : Au := ⟨a.S * b.S, a.L, pairsN b.S a.st b.st a.st.length, pairsN b.S a.en b.en a.en.length, bothN a b a.L.toNat⟩
def bothOv (a b : Au) : Prop := 256 < a.S * b.S ∨ 200000 < cntN a b a.L.toNat
theorem both_raw {a b : Au} (ha : isAutoP a) (hb : isAutoP b) (hn : ¬ bothOv a b) : rawAu (bothAu a b) := by
  have h0 := ha.1
  have h1 := hb.1
  have hL := ha.2.2.1
  refine ⟨Int.mul_nonneg h0 h1, by show a.S * b.S ≤ 256; unfold bothOv at hn; omega, ha.2.2.1, ha.2.2.2.1, pairsN_rising ha.2.2.2.2.2.1 hb.2.2.2.2.2.1 h1, pairsN_rising ha.2.2.2.2.2.2.1 hb.2.2.2.2.2.2.1 h1, fun x hx => ?_⟩
  obtain ⟨c, hc, p, hp, _, q, hq, _, rfl⟩ := bothN_mem.1 hx
  obtain ⟨p1, p2, p3, p4, _⟩ := edsIn.of ha p hp
  obtain ⟨q1, q2, q3, q4, _⟩ := edsIn.of hb q hq
  exact ⟨pr_nn p1 q1 h1, pr_ub p2 q2 h1, pr_nn p3 q3 h1, pr_ub p4 q4 h1, by show 0 ≤ (c : Int); omega, by show (c : Int) < a.L; omega⟩
theorem and_ne {m n : Nat} : m &&& n ≠ 0 ↔ ∃ t, m.testBit t = true ∧ n.testBit t = true := by
  constructor
  · intro h
    obtain ⟨t, ht⟩ := Nat.exists_testBit_of_ne_zero h
    rw [Nat.testBit_and, Bool.and_eq_true] at ht
    exact ⟨t, ht⟩
  · rintro ⟨t, h1, h2⟩ e
    have : (m &&& n).testBit t = true := by rw [Nat.testBit_and, h1, h2]; rfl
    rw [e] at this
    simp at this
theorem setOf_in {l : List Int} {S : Int} (h : risingP l S) {t : Nat} (ht : (setOf l).testBit t = true) : (t : Int) ∈ l ∧ (t : Int) < S := by
  obtain ⟨x, hx, rfl⟩ := setOf_bit.1 ht
  obtain ⟨h0, h1⟩ := rising_mem h x hx
  rw [Int.toNat_of_nonneg h0]
  exact ⟨hx, h1⟩
theorem runW_in {a : Au} (h : isAutoP a) (w : List Int) : ∀ t, (runW a w).testBit t = true → (t : Int) < a.S :=
  snoc_ind (p := fun w => ∀ t, (runW a w).testBit t = true → (t : Int) < a.S) (fun t ht => (setOf_in h.2.2.2.2.2.1 ht).2) (fun w c ih t ht => by
    rw [runW_snoc, stepTo_bit] at ht
    obtain ⟨x, hx, _, _, rfl⟩ := ht
    obtain ⟨_, _, h3, h4, _⟩ := edsIn.of h x hx
    omega) w
theorem both_run {a b : Au} (ha : isAutoP a) (hb : isAutoP b) (hL : a.L = b.L) (w : List Int) : ∀ t, (runW (bothAu a b) w).testBit t = true ↔ (runW a w).testBit (t / b.S.toNat) = true ∧ (runW b w).testBit (t % b.S.toNat) = true :=
  snoc_ind (p := fun w => ∀ t, (runW (bothAu a b) w).testBit t = true ↔ (runW a w).testBit (t / b.S.toNat) = true ∧ (runW b w).testBit (t % b.S.toNat) = true) (fun t => by
    show (setOf (pairsN b.S a.st b.st a.st.length)).testBit t = true ↔ (setOf a.st).testBit _ = true ∧ (setOf b.st).testBit _ = true
    rw [setOf_bit]
    constructor
    · rintro ⟨x, hx, rfl⟩
      obtain ⟨i, hi, k, hk, rfl⟩ := pairsN_mem'.1 hx
      obtain ⟨i0, i1⟩ := rising_mem ha.2.2.2.2.2.1 i hi
      obtain ⟨k0, k1⟩ := rising_mem hb.2.2.2.2.2.1 k hk
      obtain ⟨e1, e2⟩ := pr_nat i0 k0 k1
      rw [e1, e2]
      exact ⟨setOf_bit.2 ⟨i, hi, rfl⟩, setOf_bit.2 ⟨k, hk, rfl⟩⟩
    · rintro ⟨h1, h2⟩
      obtain ⟨h1, _⟩ := setOf_in ha.2.2.2.2.2.1 h1
      obtain ⟨h2, h3⟩ := setOf_in hb.2.2.2.2.2.1 h2
      exact ⟨_, pairsN_mem'.2 ⟨_, h1, _, h2, rfl⟩, pr_back (by omega)⟩) (fun w c ih t => by
    rw [runW_snoc, runW_snoc, runW_snoc, stepTo_bit, stepTo_bit, stepTo_bit]
    constructor
    · rintro ⟨x, hx, hl, hf, rfl⟩
      obtain ⟨c', hc', p, hp, e1, q, hq, e2, rfl⟩ := bothN_mem.1 hx
      obtain ⟨p1, p2, p3, p4, p5, p6⟩ := edsIn.of ha p hp
      obtain ⟨q1, q2, q3, q4, q5, q6⟩ := edsIn.of hb q hq
      have hl : (c' : Int) = c := hl
      obtain ⟨f1, f2⟩ := pr_nat p1 q1 q2
      obtain ⟨t1, t2⟩ := pr_nat p3 q3 q4
      have hf := (ih _).1 hf
      rw [show (bE b.S c' p q).f.toNat = (p.f * b.S + q.f).toNat from rfl, f1, f2] at hf
      rw [show (bE b.S c' p q).t.toNat = (p.t * b.S + q.t).toNat from rfl, t1, t2]
      exact ⟨⟨p, hp, by omega, hf.1, rfl⟩, ⟨q, hq, by omega, hf.2, rfl⟩⟩
    · rintro ⟨⟨p, hp, e1, h1, t1⟩, ⟨q, hq, e2, h2, t2⟩⟩
      obtain ⟨p1, p2, p3, p4, p5, p6⟩ := edsIn.of ha p hp
      obtain ⟨q1, q2, q3, q4, q5, q6⟩ := edsIn.of hb q hq
      refine ⟨bE b.S p.l.toNat p q, bothN_mem.2 ⟨p.l.toNat, by show p.l.toNat < a.L.toNat; omega, p, hp, rfl, q, hq, by omega, rfl⟩, by show ((p.l.toNat : Nat) : Int) = c; omega, (ih _).2 ?_, ?_⟩
      · obtain ⟨f1, f2⟩ := pr_nat p1 q1 q2
        show (runW a w).testBit ((p.f * b.S + q.f).toNat / b.S.toNat) = true ∧ (runW b w).testBit ((p.f * b.S + q.f).toNat % b.S.toNat) = true
        rw [f1, f2]
        exact ⟨h1, h2⟩
      · show (p.t * b.S + q.t).toNat = t
        rw [← pr_back (t := t) (n := b.S) (by omega), ← t1, ← t2, Int.toNat_of_nonneg p3, Int.toNat_of_nonneg q3]) w
theorem both_acc {a b : Au} (ha : isAutoP a) (hb : isAutoP b) (hL : a.L = b.L) (w : List Int) : (runW (bothAu a b) w &&& setOf (bothAu a b).en ≠ 0) ↔ (runW a w &&& setOf a.en ≠ 0) ∧ (runW b w &&& setOf b.en ≠ 0) := by
  rw [and_ne, and_ne, and_ne]
  constructor
  · rintro ⟨t, h1, h2⟩
    obtain ⟨r1, r2⟩ := (both_run ha hb hL w t).1 h1
    obtain ⟨x, hx, rfl⟩ := setOf_bit.1 h2
    obtain ⟨i, hi, k, hk, rfl⟩ := pairsN_mem'.1 hx
    obtain ⟨i0, i1⟩ := rising_mem ha.2.2.2.2.2.2.1 i hi
    obtain ⟨k0, k1⟩ := rising_mem hb.2.2.2.2.2.2.1 k hk
    obtain ⟨e1, e2⟩ := pr_nat i0 k0 k1
    rw [e1] at r1
    rw [e2] at r2
    exact ⟨⟨_, r1, setOf_bit.2 ⟨i, hi, rfl⟩⟩, ⟨_, r2, setOf_bit.2 ⟨k, hk, rfl⟩⟩⟩
  · rintro ⟨⟨i, r1, h1⟩, ⟨k, r2, h2⟩⟩
    obtain ⟨h1, g1⟩ := setOf_in ha.2.2.2.2.2.2.1 h1
    obtain ⟨h2, g2⟩ := setOf_in hb.2.2.2.2.2.2.1 h2
    obtain ⟨e1, e2⟩ := pr_nat (i := (i : Int)) (k := (k : Int)) (n := b.S) (by omega) (by omega) g2
    refine ⟨((i : Int) * b.S + (k : Int)).toNat, (both_run ha hb hL w _).2 ?_, setOf_bit.2 ⟨_, pairsN_mem'.2 ⟨_, h1, _, h2, rfl⟩, rfl⟩⟩
    rw [e1, e2, Int.toNat_natCast, Int.toNat_natCast]
    exact ⟨r1, r2⟩
theorem either_run {a b : Au} (ha : isAutoP a) (hb : isAutoP b) (w : List Int) : ∀ t, (runW (eitherAu a b) w).testBit t = true ↔ (runW a w).testBit t = true ∨ (a.S.toNat ≤ t ∧ (runW b w).testBit (t - a.S.toNat) = true) :=
  snoc_ind (p := fun w => ∀ t, (runW (eitherAu a b) w).testBit t = true ↔ (runW a w).testBit t = true ∨ (a.S.toNat ≤ t ∧ (runW b w).testBit (t - a.S.toNat) = true)) (fun t => by
    show (setOf (a.st ++ b.st.map (a.S + ·))).testBit t = true ↔ (setOf a.st).testBit _ = true ∨ (_ ∧ (setOf b.st).testBit _ = true)
    have h0 := ha.1
    rw [setOf_bit, setOf_bit, setOf_bit]
    constructor
    · rintro ⟨x, hx, rfl⟩
      rcases List.mem_append.1 hx with hx | hx
      · exact .inl ⟨x, hx, rfl⟩
      · obtain ⟨y, hy, rfl⟩ := List.mem_map.1 hx
        have := rising_mem hb.2.2.2.2.2.1 y hy
        exact .inr ⟨by omega, y, hy, by omega⟩
    · rintro (⟨x, hx, rfl⟩ | ⟨h1, y, hy, e⟩)
      · exact ⟨x, List.mem_append_left _ hx, rfl⟩
      · have := rising_mem hb.2.2.2.2.2.1 y hy
        exact ⟨a.S + y, List.mem_append_right _ (List.mem_map.2 ⟨y, hy, rfl⟩), by omega⟩) (fun w c ih t => by
    have h0 := ha.1
    rw [runW_snoc, runW_snoc, runW_snoc, stepTo_bit, stepTo_bit, stepTo_bit]
    constructor
    · rintro ⟨x, hx, hl, hf, rfl⟩
      rcases List.mem_append.1 hx with hx | hx
      · obtain ⟨p1, p2, p3, p4, p5, p6⟩ := edsIn.of ha x hx
        rcases (ih _).1 hf with h | ⟨h, _⟩
        · exact .inl ⟨x, hx, hl, h, rfl⟩
        · omega
      · obtain ⟨y, hy, rfl⟩ := List.mem_map.1 hx
        obtain ⟨p1, p2, p3, p4, p5, p6⟩ := edsIn.of hb y hy
        have e1 : (shE a.S y).f.toNat = a.S.toNat + y.f.toNat := by show (a.S + y.f).toNat = _; omega
        have e2 : (shE a.S y).t.toNat = a.S.toNat + y.t.toNat := by show (a.S + y.t).toNat = _; omega
        rw [e1] at hf
        rw [e2]
        rcases (ih _).1 hf with h | ⟨_, h⟩
        · have := runW_in ha w _ h; omega
        · rw [Nat.add_sub_cancel_left] at h ⊢
          exact .inr ⟨by omega, y, hy, hl, h, rfl⟩
    · rintro (⟨x, hx, hl, hf, rfl⟩ | ⟨h1, y, hy, hl, hf, e⟩)
      · exact ⟨x, List.mem_append_left _ hx, hl, (ih _).2 (.inl hf), rfl⟩
      · obtain ⟨p1, p2, p3, p4, p5, p6⟩ := edsIn.of hb y hy
        have e1 : (shE a.S y).f.toNat = a.S.toNat + y.f.toNat := by show (a.S + y.f).toNat = _; omega
        refine ⟨shE a.S y, List.mem_append_right _ (List.mem_map.2 ⟨y, hy, rfl⟩), hl, (ih _).2 (.inr ?_), by show (a.S + y.t).toNat = t; omega⟩
        rw [e1, Nat.add_sub_cancel_left]
        exact ⟨by omega, hf⟩) w
theorem either_acc {a b : Au} (ha : isAutoP a) (hb : isAutoP b) (w : List Int) : (runW (eitherAu a b) w &&& setOf (eitherAu a b).en ≠ 0) ↔ (runW a w &&& setOf a.en ≠ 0) ∨ (runW b w &&& setOf b.en ≠ 0) := by
  have h0 := ha.1
  rw [and_ne, and_ne, and_ne]
  constructor
  · rintro ⟨t, h1, h2⟩
    obtain ⟨x, hx, rfl⟩ := setOf_bit.1 h2
    rcases List.mem_append.1 hx with hx | hx
    · obtain ⟨q1, q2⟩ := rising_mem ha.2.2.2.2.2.2.1 x hx
      rcases (either_run ha hb w _).1 h1 with h | ⟨h, _⟩
      · exact .inl ⟨_, h, setOf_bit.2 ⟨x, hx, rfl⟩⟩
      · omega
    · obtain ⟨y, hy, rfl⟩ := List.mem_map.1 hx
      obtain ⟨q1, q2⟩ := rising_mem hb.2.2.2.2.2.2.1 y hy
      have e1 : (a.S + y).toNat = a.S.toNat + y.toNat := by omega
      rw [e1] at h1
      rcases (either_run ha hb w _).1 h1 with h | ⟨_, h⟩
      · have := runW_in ha w _ h; omega
      · rw [Nat.add_sub_cancel_left] at h
        exact .inr ⟨_, h, setOf_bit.2 ⟨y, hy, rfl⟩⟩
  · rintro (⟨t, h1, h2⟩ | ⟨t, h1, h2⟩)
    · obtain ⟨x, hx, rfl⟩ := setOf_bit.1 h2
      exact ⟨_, (either_run ha hb w _).2 (.inl h1), setOf_bit.2 ⟨x, List.mem_append_left _ hx, rfl⟩⟩
    · obtain ⟨y, hy, rfl⟩ := setOf_bit.1 h2
      obtain ⟨q1, q2⟩ := rising_mem hb.2.2.2.2.2.2.1 y hy
      have e1 : (a.S + y).toNat = a.S.toNat + y.toNat := by omega
      refine ⟨(a.S + y).toNat, (either_run ha hb w _).2 (.inr ?_), setOf_bit.2 ⟨_, List.mem_append_right _ (List.mem_map.2 ⟨y, hy, rfl⟩), rfl⟩⟩
      rw [e1, Nat.add_sub_cancel_left]
      exact ⟨by omega, h1⟩
theorem done_acc {x : Au} (h : rawAu x) (w : List Int) : (runW (doneAu x) w &&& setOf (doneAu x).en ≠ 0) ↔ (runW x w &&& setOf x.en ≠ 0) := by
  rw [runW_mem (a := doneAu x) (b := x) (fun _ => Iff.rfl) (fun e => doneE_mem h.fine)]
  exact Iff.rfl
end Go.Proofs.Ytbjgnogcjglcoaa.Hm.V
