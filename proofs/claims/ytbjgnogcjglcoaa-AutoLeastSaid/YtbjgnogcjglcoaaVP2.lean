/- Of layer 27: distances, plainly. -/
import Derived.Test.YtbjgnogcjglcoaaHF
import Derived.Test.YtbjgnogcjglcoaaA6
import Derived.Test.YtbjgnogcjglcoaaVP1
namespace Go.Proofs.Ytbjgnogcjglcoaa.Hm.V
open Go
set_option linter.all false
set_option maxRecDepth 100000
attribute [local irreducible] X S R D W Call Upd Rds Rck Sees Res Cel CallP fnQ
def backAny (g : List Ed) (m : Nat) : Nat := g.foldl (fun s x => if m.testBit x.t.toNat = true then s ||| 1 <<< x.f.toNat else s) 0
theorem backAny_take {g : List Ed} {m : Nat} {i : Nat} (h : i < g.length) : backAny (g.take (i + 1)) m = if m.testBit (g.getD i default).t.toNat = true then backAny (g.take i) m ||| 1 <<< (g.getD i default).f.toNat else backAny (g.take i) m := foldl_take h
theorem backFold_bit {m t : Nat} : ∀ (g : List Ed) (s : Nat), (g.foldl (fun s x => if m.testBit x.t.toNat = true then s ||| 1 <<< x.f.toNat else s) s).testBit t = true ↔ s.testBit t = true ∨ ∃ x ∈ g, m.testBit x.t.toNat = true ∧ x.f.toNat = t
  | [], s => by simp
  | y :: g, s => by
    rw [List.foldl_cons, backFold_bit g]
    by_cases h : m.testBit y.t.toNat = true
    · rw [if_pos h, Nat.testBit_or, Bool.or_eq_true, one_bit]
      constructor
      · rintro ((h1 | h1) | ⟨x, hx, h1⟩)
        · exact .inl h1
        · exact .inr ⟨y, by simp, h, h1⟩
        · exact .inr ⟨x, by simp [hx], h1⟩
      · rintro (h1 | ⟨x, hx, h1⟩)
        · exact .inl (.inl h1)
        · rcases List.mem_cons.1 hx with rfl | hx
          · exact .inl (.inr h1.2)
          · exact .inr ⟨x, hx, h1⟩
    · rw [if_neg h]
      constructor
      · rintro (h1 | ⟨x, hx, h1⟩)
        · exact .inl h1
        · exact .inr ⟨x, by simp [hx], h1⟩
      · rintro (h1 | ⟨x, hx, h1⟩)
        · exact .inl h1
        · rcases List.mem_cons.1 hx with rfl | hx
          · exact absurd h1.1 h
          · exact .inr ⟨x, hx, h1⟩
theorem backAny_bit {g : List Ed} {m t : Nat} : (backAny g m).testBit t = true ↔ ∃ x ∈ g, m.testBit x.t.toNat = true ∧ x.f.toNat = t := by
  unfold backAny
  rw [backFold_bit]
  simp
/-- The states from which a word of just k letters is accepted. -/
def aftN (a : Au) : Nat → Nat
  | 0 => setOf a.en
  | k + 1 => backAny a.ed (aftN a k)
/-- The length of the shortest word that is accepted from a state. -/
def isD (a : Au) (q k : Nat) : Prop := (aftN a k).testBit q = true ∧ ∀ j, j < k → (aftN a j).testBit q = false
theorem isD_eq {a : Au} {q k k' : Nat} (h : isD a q k) (h' : isD a q k') : k = k' := by
  rcases Nat.lt_trichotomy k k' with h1 | h1 | h1
  · have := h'.2 k h1; rw [h.1] at this; cases this
  · exact h1
  · have := h.2 k' h1; rw [h'.1] at this; cases this
theorem isD_of {a : Au} {q : Nat} : ∀ k, (aftN a k).testBit q = true → ∃ j, j ≤ k ∧ isD a q j
  | k, h => by
    by_cases hn : ∃ i, i < k ∧ (aftN a i).testBit q = true
    · obtain ⟨i, hi, h1⟩ := hn
      obtain ⟨j, hj, h2⟩ := isD_of i h1
      exact ⟨j, by omega, h2⟩
    · refine ⟨k, Nat.le_refl _, h, fun j hj => ?_⟩
      cases h1 : (aftN a j).testBit q
      · rfl
      · exact absurd ⟨j, hj, h1⟩ hn
termination_by k => k
theorem isD_zero {a : Au} {x : Int} (h : x ∈ a.en) : isD a x.toNat 0 := ⟨setOf_bit.2 ⟨x, h, rfl⟩, fun j hj => absurd hj (by omega)⟩
/-- One step back. -/
theorem isD_pred {a : Au} {q k : Nat} (h : isD a q (k + 1)) : ∃ x ∈ a.ed, x.f.toNat = q ∧ isD a x.t.toNat k := by
  obtain ⟨h1, h2⟩ := h
  obtain ⟨x, hx, h3, rfl⟩ := backAny_bit.1 (show (backAny a.ed (aftN a k)).testBit q = true from h1)
  refine ⟨x, hx, rfl, h3, fun j hj => ?_⟩
  cases h4 : (aftN a j).testBit x.t.toNat
  · rfl
  · have := h2 (j + 1) (by omega)
    rw [show (aftN a (j + 1)).testBit x.f.toNat = true from backAny_bit.2 ⟨x, hx, h4, rfl⟩] at this
    cases this
def cumN (a : Au) : Nat → Nat
  | 0 => aftN a 0
  | k + 1 => cumN a k ||| aftN a (k + 1)
theorem cumN_bit {a : Au} {q : Nat} : ∀ {k : Nat}, (cumN a k).testBit q = true ↔ ∃ j, j ≤ k ∧ (aftN a j).testBit q = true
  | 0 => ⟨fun h => ⟨0, Nat.le_refl _, h⟩, fun ⟨j, hj, h⟩ => by obtain rfl : j = 0 := (by omega); exact h⟩
  | k + 1 => by
    show (cumN a k ||| aftN a (k + 1)).testBit q = true ↔ _
    rw [Nat.testBit_or, Bool.or_eq_true, cumN_bit]
    constructor
    · rintro (⟨j, hj, h⟩ | h)
      · exact ⟨j, by omega, h⟩
      · exact ⟨k + 1, Nat.le_refl _, h⟩
    · rintro ⟨j, hj, h⟩
      rcases Nat.lt_or_ge k j with h1 | h1
      · obtain rfl : j = k + 1 := by omega
        exact .inr h
      · exact .inl ⟨j, h1, h⟩
theorem isD_each {a : Au} : ∀ {k q : Nat}, isD a q k → ∀ j, j ≤ k → ∃ p, isD a p j
  | 0, q, h, j, hj => by obtain rfl : j = 0 := (by omega); exact ⟨q, h⟩
  | k + 1, q, h, j, hj => by
    rcases Nat.lt_or_ge k j with h1 | h1
    · obtain rfl : j = k + 1 := by omega
      exact ⟨q, h⟩
    · obtain ⟨x, _, _, h2⟩ := isD_pred h
      exact isD_each h2 j h1
theorem aftN_in {a : Au} (hA : isAutoP a) {q : Nat} : ∀ {k : Nat}, (aftN a k).testBit q = true → q < a.S.toNat := by
  obtain ⟨s0, _, _, _, _, _, h7, h8⟩ := hA
  intro k
  cases k with
  | zero =>
    intro h
    obtain ⟨x, hx, rfl⟩ := setOf_bit.1 (show (setOf a.en).testBit q = true from h)
    obtain ⟨i, hi, rfl⟩ := List.getElem_of_mem hx
    obtain ⟨h1, h2, _⟩ := h7 i hi
    rw [getD_eq hi] at h1 h2
    omega
  | succ k =>
    intro h
    obtain ⟨x, hx, _, rfl⟩ := backAny_bit.1 (show (backAny a.ed (aftN a k)).testBit q = true from h)
    obtain ⟨i, hi, rfl⟩ := List.getElem_of_mem hx
    obtain ⟨h1, h2, _⟩ := h8 i hi
    rw [getD_eq hi] at h1 h2
    omega
theorem isD_lt {a : Au} (hA : isAutoP a) {q k : Nat} (h : isD a q k) : k < a.S.toNat := by
  have key : ∀ j, j ≤ k → j + 1 ≤ cntB a.S.toNat (cumN a j) := by
    intro j
    induction j with
    | zero =>
      intro _
      obtain ⟨p, hp⟩ := isD_each h 0 (by omega)
      have := cntB_lt (s := 0) (s' := cumN a 0) (q := p) (fun q h => by simp at h) (by simp) (cumN_bit.2 ⟨0, Nat.le_refl _, hp.1⟩) a.S.toNat (aftN_in hA hp.1)
      omega
    | succ j ih =>
      intro hj
      have h1 := ih (by omega)
      obtain ⟨p, hp⟩ := isD_each h (j + 1) hj
      have := cntB_lt (s := cumN a j) (s' := cumN a (j + 1)) (q := p) (fun q h => by
        show (cumN a j ||| _).testBit q = true
        rw [Nat.testBit_or, h]; rfl) (by
        cases h2 : (cumN a j).testBit p
        · rfl
        · obtain ⟨i, hi, h3⟩ := cumN_bit.1 h2
          rw [hp.2 i (by omega)] at h3; cases h3) (cumN_bit.2 ⟨j + 1, Nat.le_refl _, hp.1⟩) a.S.toNat (aftN_in hA hp.1)
      omega
  have h1 := key k (Nat.le_refl _)
  have h2 := cntB_le a.S.toNat (cumN a k)
  omega
end Go.Proofs.Ytbjgnogcjglcoaa.Hm.V
