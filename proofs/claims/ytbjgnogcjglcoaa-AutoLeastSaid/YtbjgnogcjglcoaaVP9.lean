/- Of layer 27: Least, plainly. -/
import Derived.Test.YtbjgnogcjglcoaaHF
import Derived.Test.YtbjgnogcjglcoaaA6
import Derived.Test.YtbjgnogcjglcoaaVP8
namespace Go.Proofs.Ytbjgnogcjglcoaa.Hm.V
open Go
set_option linter.all false
set_option maxRecDepth 100000
attribute [local irreducible] X S R D W Call Upd Rds Rck Sees Res Cel CallP fnQ
theorem eqv_zero {m : Nat} (h : m < 2 ^ 256) : eqv dS (vS m) (.agg ⟨[.int .u64 0, .int .u64 0, .int .u64 0, .int .u64 0]⟩) = some (decide (m = 0)) := by
  have := eqv_set h (m' := 0) (by decide)
  unfold vS at this ⊢
  rw [cS_zero] at this
  exact this
theorem aft_rng {a : Au} (hA : isAutoP a) {k q : Nat} (h : (aftN a k).testBit q = true) : q < a.S.toNat := by
  cases k with
  | zero =>
    obtain ⟨x, hx, rfl⟩ := setOf_bit.1 (show (setOf a.en).testBit q = true from h)
    obtain ⟨i, hi, rfl⟩ := List.getElem_of_mem hx
    obtain ⟨q1, q2, _⟩ := hA.2.2.2.2.2.2.1 i hi
    rw [getD_eq hi] at q1 q2
    omega
  | succ k =>
    obtain ⟨x, hx, _, rfl⟩ := backAny_bit.1 (show (backAny a.ed (aftN a k)).testBit q = true from h)
    obtain ⟨i, hi, rfl⟩ := List.getElem_of_mem hx
    obtain ⟨q1, q2, _⟩ := hA.2.2.2.2.2.2.2 i hi
    rw [getD_eq hi] at q1 q2
    omega
/-- The best start so far. -/
def bestP (d st : List Int) (i : Nat) (b : Int) : Prop := (b = -1 ∨ ∃ j, j < i ∧ d.getD (st.getD j default).toNat default = b ∧ 0 ≤ b) ∧ ∀ j, j < i → 0 ≤ d.getD (st.getD j default).toNat default → 0 ≤ b ∧ b ≤ d.getD (st.getD j default).toNat default
theorem bestP.take {d st : List Int} {i : Nat} {b : Int} (h : bestP d st i b) (h0 : 0 ≤ d.getD (st.getD i default).toNat default) (h1 : b < 0 ∨ d.getD (st.getD i default).toNat default < b) : bestP d st (i + 1) (d.getD (st.getD i default).toNat default) := by
  refine ⟨.inr ⟨i, by omega, rfl, h0⟩, fun j hj hd => ⟨h0, ?_⟩⟩
  rcases Nat.lt_or_ge j i with h2 | h2
  · have := h.2 j h2 hd
    omega
  · obtain rfl : j = i := by omega
    exact Int.le_refl _
theorem bestP.skip {d st : List Int} {i : Nat} {b : Int} (h : bestP d st i b) (h1 : d.getD (st.getD i default).toNat default < 0 ∨ (0 ≤ b ∧ b ≤ d.getD (st.getD i default).toNat default)) : bestP d st (i + 1) b := by
  refine ⟨h.1.elim .inl fun ⟨j, h2, h3⟩ => .inr ⟨j, by omega, h3⟩, fun j hj hd => ?_⟩
  rcases Nat.lt_or_ge j i with h2 | h2
  · exact h.2 j h2 hd
  · obtain rfl : j = i := by omega
    omega
theorem bestP.rng {a : Au} {d : List Int} {i : Nat} {b : Int} (hA : isAutoP a) (hf : farP a d) (hi : i ≤ a.st.length) (h : bestP d a.st i b) : -1 ≤ b ∧ b < a.S := by
  have hS := hA.1
  rcases h.1 with rfl | ⟨j, h1, h2, h3⟩
  · omega
  · obtain ⟨q1, q2, _⟩ := hA.2.2.2.2.2.1 j (by omega)
    rcases hf.2 (a.st.getD j default).toNat (by omega) with ⟨e, _⟩ | ⟨_, e⟩
    · omega
    · have := isD_lt hA e
      omega
theorem best_end {a : Au} {d : List Int} {b : Int} (hA : isAutoP a) (hf : farP a d) (h : bestP d a.st a.st.length b) : (b < 0 ∧ noneW a) ∨ (0 ≤ b ∧ lenW a b.toNat) := by
  have hst := hA.2.2.2.2.2.1
  have key : ∀ k, setOf a.st &&& aftN a k ≠ 0 → 0 ≤ b ∧ b ≤ k := fun k hk => by
    obtain ⟨q, h1, h2⟩ := meet_iff.1 hk
    obtain ⟨x, hx, rfl⟩ := setOf_bit.1 h1
    obtain ⟨j, hj, rfl⟩ := List.getElem_of_mem hx
    obtain ⟨q1, q2, _⟩ := hst j hj
    rw [getD_eq hj] at q1 q2
    have h3 := h.2 j hj
    rw [getD_eq hj] at h3
    obtain ⟨k', hk', hd⟩ := isD_of k h2
    rcases hf.2 (a.st[j]).toNat (by omega) with ⟨e, e2⟩ | ⟨e, e2⟩
    · rw [e2] at h2; cases h2
    · have h4 := isD_eq hd e2
      have h5 := h3 e
      omega
  rcases h.1 with rfl | ⟨j, h1, h2, h3⟩
  · exact .inl ⟨by omega, fun k hk => by have := key k hk; omega⟩
  · refine .inr ⟨h3, ?_, fun k hk hm => by have := key k hm; omega⟩
    obtain ⟨q1, q2, _⟩ := hst j h1
    refine meet_iff.2 ⟨(a.st.getD j default).toNat, setOf_bit.2 ⟨_, by rw [getD_eq h1]; exact List.getElem_mem _, rfl⟩, ?_⟩
    rcases hf.2 (a.st.getD j default).toNat (by omega) with ⟨e, _⟩ | ⟨_, e⟩
    · omega
    · rw [h2] at e
      exact e.1
/-- In the set, and so far away. -/
def pD (now : Nat) (d : List Int) (m : Int) (q : Nat) : Bool := now.testBit q && decide (d.getD q default = m)
theorem pD_yes {now q : Nat} {d : List Int} {m : Int} (h1 : true = now.testBit q) (h2 : d.getD q default = m) : pD now d m q = true := by unfold pD; rw [← h1, decide_eq_true h2]; rfl
theorem pD_no1 {now q : Nat} {d : List Int} {m : Int} (h1 : false = now.testBit q) : ¬ pD now d m q = true := by unfold pD; rw [← h1]; simp
theorem pD_no2 {now q : Nat} {d : List Int} {m : Int} (h2 : ¬ d.getD q default = m) : ¬ pD now d m q = true := by unfold pD; rw [decide_eq_false h2]; simp
theorem pD_bit {a : Au} (hA : isAutoP a) {d : List Int} (hf : farP a d) {now : Nat} {m : Int} (h0 : 0 ≤ m) (q : Nat) : (filS (pD now d m) a.S.toNat).testBit q = true ↔ now.testBit q = true ∧ isD a q m.toNat := by
  rw [filS_bit]
  unfold pD
  rw [Bool.and_eq_true, decide_eq_true_eq]
  constructor
  · rintro ⟨h1, h2, h3⟩
    refine ⟨h2, (far_isD hf h1).1 ?_⟩
    rw [h3]; omega
  · rintro ⟨h1, h2⟩
    have h3 := aft_rng hA h2.1
    refine ⟨h3, h1, ?_⟩
    rw [(far_isD hf h3).2 h2]; omega
theorem ne_zero_bit {m : Nat} : m ≠ 0 ↔ ∃ q, m.testBit q = true := by
  have := meet_iff (m := m) (n := m)
  rw [Nat.and_self] at this
  rw [this]
  exact ⟨fun ⟨q, h, _⟩ => ⟨q, h⟩, fun ⟨q, h⟩ => ⟨q, h, h⟩⟩
theorem least_step {a : Au} (hA : isAutoP a) {d : List Int} (hf : farP a d) {now s : Nat} {m c : Int} (h0 : 0 < m) (h : farS a now s m.toNat) :
    (filS (pD (stepTo a.ed (filS (pD now d m) a.S.toNat) c) d (m - 1)) a.S.toNat ≠ 0 ↔ stepTo a.ed s c &&& aftN a (m - 1).toNat ≠ 0) ∧ farS a (filS (pD (stepTo a.ed (filS (pD now d m) a.S.toNat) c) d (m - 1)) a.S.toNat) (stepTo a.ed s c) (m - 1).toNat := by
  have e : m.toNat = (m - 1).toNat + 1 := by omega
  have hn := pD_bit hA hf (now := now) (m := m) (by omega)
  rw [e] at h hn
  have hg := pD_bit hA hf (now := stepTo a.ed (filS (pD now d m) a.S.toNat) c) (m := m - 1) (by omega)
  obtain ⟨k1, k2⟩ := farS_step h hn hg
  refine ⟨?_, k2⟩
  rw [ne_zero_bit, meet_iff]
  exact ⟨fun ⟨q, hq⟩ => ⟨q, (k1 q).1 hq⟩, fun ⟨q, hq⟩ => ⟨q, (k1 q).2 hq⟩⟩
end Go.Proofs.Ytbjgnogcjglcoaa.Hm.V
