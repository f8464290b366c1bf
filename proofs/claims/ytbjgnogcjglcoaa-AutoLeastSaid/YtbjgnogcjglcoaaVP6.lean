/- Of layer 27: the first word, plainly. -/
import Derived.Test.YtbjgnogcjglcoaaHF
import Derived.Test.YtbjgnogcjglcoaaA6
import Derived.Test.YtbjgnogcjglcoaaVP5
namespace Go.Proofs.Ytbjgnogcjglcoaa.Hm.V
open Go
set_option linter.all false
set_option maxRecDepth 100000
attribute [local irreducible] X S R D W Call Upd Rds Rck Sees Res Cel CallP fnQ
theorem meet_iff {m n : Nat} : m &&& n ≠ 0 ↔ ∃ q, m.testBit q = true ∧ n.testBit q = true := by
  constructor
  · intro h
    apply Classical.byContradiction
    intro hn
    apply h
    apply Nat.eq_of_testBit_eq
    intro i
    rw [Nat.testBit_and, Nat.zero_testBit]
    cases h1 : m.testBit i <;> cases h2 : n.testBit i <;> first | rfl | exact absurd ⟨i, h1, h2⟩ hn
  · rintro ⟨q, h1, h2⟩ h0
    have : (m &&& n).testBit q = true := by rw [Nat.testBit_and, h1, h2]; rfl
    rw [h0, Nat.zero_testBit] at this; cases this
theorem backFold_lt {m : Nat} : ∀ (g : List Ed) (s : Nat), s < 2 ^ 256 → (∀ x ∈ g, 0 ≤ x.f ∧ x.f < 256) → g.foldl (fun s x => if m.testBit x.t.toNat = true then s ||| 1 <<< x.f.toNat else s) s < 2 ^ 256
  | [], s, h, _ => h
  | x :: g, s, h, hg => by
    rw [List.foldl_cons]
    refine backFold_lt g _ ?_ fun y hy => hg y (by simp [hy])
    split
    · exact put_lt h (by have := hg x (by simp); omega)
    · exact h
theorem aftN_lt {a : Au} (hA : isAutoP a) : ∀ k, aftN a k < 2 ^ 256
  | 0 => setOf_lt (isAuto_en hA)
  | k + 1 => backFold_lt _ _ (by decide) fun x hx => by have := inEd_mem (isAuto_ed hA) hx; omega
theorem backAny_lt {g : List Ed} {m : Nat} (h : inEd g) : backAny g m < 2 ^ 256 := backFold_lt _ _ (by decide) fun x hx => by have := inEd_mem h hx; omega
theorem letter_ex {a : Au} (hA : isAutoP a) {s k : Nat} (h : s &&& aftN a (k + 1) ≠ 0) : ∃ c : Nat, c < a.L.toNat ∧ stepTo a.ed s (c : Int) &&& aftN a k ≠ 0 := by
  obtain ⟨q, h1, h2⟩ := meet_iff.1 h
  obtain ⟨x, hx, h3, rfl⟩ := backAny_bit.1 (show (backAny a.ed (aftN a k)).testBit q = true from h2)
  obtain ⟨i, hi, e⟩ := List.getElem_of_mem hx
  obtain ⟨_, _, _, _, l0, l1, _⟩ := hA.2.2.2.2.2.2.2 i hi
  rw [getD_eq hi, e] at l0 l1
  refine ⟨x.l.toNat, by omega, meet_iff.2 ⟨x.t.toNat, ?_, h3⟩⟩
  rw [Int.toNat_of_nonneg l0]
  exact stepTo_bit.2 ⟨x, hx, rfl, h1, rfl⟩
/-- The least letter by which a set comes into another one. -/
def leastC (a : Au) (s k : Nat) : Nat := ((List.range a.L.toNat).find? fun c : Nat => decide (stepTo a.ed s (c : Int) &&& aftN a k ≠ 0)).getD 0
theorem find_range {p : Nat → Bool} : ∀ {n c : Nat}, c < n → p c = true → (∀ j, j < c → p j = false) → (List.range n).find? p = some c := by
  intro n
  induction n with
  | zero => intro c h; omega
  | succ n ih =>
    intro c h hp hn
    rw [List.range_succ, List.find?_append]
    rcases Nat.lt_or_ge c n with h1 | h1
    · rw [ih h1 hp hn]; rfl
    · obtain rfl : c = n := by omega
      have : (List.range c).find? p = none := by
        rw [List.find?_eq_none]
        intro j hj
        rw [hn j (List.mem_range.1 hj)]; decide
      rw [this]
      simp [hp]
theorem leastC_eq {a : Au} {s k c : Nat} (h : c < a.L.toNat) (hp : stepTo a.ed s (c : Int) &&& aftN a k ≠ 0) (hn : ∀ j : Nat, j < c → ¬ stepTo a.ed s (j : Int) &&& aftN a k ≠ 0) : leastC a s k = c := by
  unfold leastC
  rw [find_range h (decide_eq_true hp) fun j hj => decide_eq_false (hn j hj)]; rfl
theorem least_ex {p : Nat → Prop} {n : Nat} (h : p n) : ∃ c, c ≤ n ∧ p c ∧ ∀ j, j < c → ¬ p j := by
  induction n using Nat.strongRecOn with
  | _ n ih =>
    by_cases hn : ∃ j, j < n ∧ p j
    · obtain ⟨j, hj, hp⟩ := hn
      obtain ⟨c, h1, h2⟩ := ih j hj hp
      exact ⟨c, by omega, h2⟩
    · exact ⟨n, Nat.le_refl _, h, fun j hj hp => hn ⟨j, hj, hp⟩⟩
theorem leastC_ok {a : Au} (hA : isAutoP a) {s k : Nat} (h : s &&& aftN a (k + 1) ≠ 0) : leastC a s k < a.L.toNat ∧ stepTo a.ed s ((leastC a s k : Nat) : Int) &&& aftN a k ≠ 0 ∧ ∀ j : Nat, j < leastC a s k → ¬ stepTo a.ed s (j : Int) &&& aftN a k ≠ 0 := by
  obtain ⟨c, h1, h2⟩ := letter_ex hA h
  obtain ⟨d, d1, d2, d3⟩ := least_ex (p := fun c : Nat => stepTo a.ed s (c : Int) &&& aftN a k ≠ 0) h2
  rw [leastC_eq (by omega) d2 d3]
  exact ⟨by omega, d2, d3⟩
/-- The first word, letter by letter. -/
def wordR (a : Au) : Nat → Nat → List Int
  | 0, _ => []
  | k + 1, s => ((leastC a s k : Nat) : Int) :: wordR a k (stepTo a.ed s ((leastC a s k : Nat) : Int))
theorem wordR_len (a : Au) : ∀ k s, (wordR a k s).length = k
  | 0, _ => rfl
  | k + 1, s => by simp [wordR, wordR_len a k]
/-- How long the first word is, if there is one. -/
def noneW (a : Au) : Prop := ∀ k, ¬ setOf a.st &&& aftN a k ≠ 0
def lenW (a : Au) (k : Nat) : Prop := setOf a.st &&& aftN a k ≠ 0 ∧ ∀ j, j < k → ¬ setOf a.st &&& aftN a j ≠ 0
theorem lenW_eq {a : Au} {k k' : Nat} (h : lenW a k) (h' : lenW a k') : k = k' := by
  rcases Nat.lt_trichotomy k k' with h1 | h1 | h1
  · exact absurd h.1 (h'.2 k h1)
  · exact h1
  · exact absurd h'.1 (h.2 k' h1)
theorem lenW_lt {a : Au} (hA : isAutoP a) {k : Nat} (h : lenW a k) : k < a.S.toNat := by
  obtain ⟨q, h1, h2⟩ := meet_iff.1 h.1
  refine isD_lt hA (q := q) ⟨h2, fun j hj => ?_⟩
  cases e : (aftN a j).testBit q
  · rfl
  · exact absurd (meet_iff.2 ⟨q, h1, e⟩) (h.2 j hj)
theorem some_len {a : Au} {k : Nat} (h : setOf a.st &&& aftN a k ≠ 0) : ∃ j, j ≤ k ∧ lenW a j := by
  obtain ⟨c, c1, c2, c3⟩ := least_ex (p := fun k => setOf a.st &&& aftN a k ≠ 0) h
  exact ⟨c, c1, c2, c3⟩
/-- The states of a set that are just so far away. -/
def farS (a : Au) (now s left : Nat) : Prop := ∀ q, (now.testBit q = true ∧ isD a q left) ↔ (s.testBit q = true ∧ (aftN a left).testBit q = true)
theorem farS_start {a : Au} {k : Nat} (h : lenW a k) : farS a (setOf a.st) (setOf a.st) k := fun q =>
  ⟨fun ⟨h1, h2⟩ => ⟨h1, h2.1⟩, fun ⟨h1, h2⟩ => ⟨h1, h2, fun j hj => by
    cases e : (aftN a j).testBit q
    · rfl
    · exact absurd (meet_iff.2 ⟨q, h1, e⟩) (h.2 j hj)⟩⟩
/-- One step. -/
theorem farS_step {a : Au} {now s left near good : Nat} {c : Int} (h : farS a now s (left + 1)) (hn : ∀ q, near.testBit q = true ↔ now.testBit q = true ∧ isD a q (left + 1)) (hg : ∀ q, good.testBit q = true ↔ (stepTo a.ed near c).testBit q = true ∧ isD a q left) :
    (∀ q, good.testBit q = true ↔ (stepTo a.ed s c).testBit q = true ∧ (aftN a left).testBit q = true) ∧ farS a good (stepTo a.ed s c) left := by
  have key : ∀ q, good.testBit q = true ↔ (stepTo a.ed s c).testBit q = true ∧ (aftN a left).testBit q = true := fun q => by
    rw [hg]
    constructor
    · rintro ⟨h1, h2⟩
      obtain ⟨x, hx, e1, e2, e3⟩ := stepTo_bit.1 h1
      have := (h _).1 ((hn _).1 e2)
      exact ⟨stepTo_bit.2 ⟨x, hx, e1, this.1, e3⟩, h2.1⟩
    · rintro ⟨h1, h2⟩
      obtain ⟨x, hx, e1, e2, e3⟩ := stepTo_bit.1 h1
      have hb : (aftN a (left + 1)).testBit x.f.toNat = true := backAny_bit.2 ⟨x, hx, by rw [e3]; exact h2, rfl⟩
      obtain ⟨n1, n2⟩ := (h _).2 ⟨e2, hb⟩
      refine ⟨stepTo_bit.2 ⟨x, hx, e1, (hn _).2 ⟨n1, n2⟩, e3⟩, h2, fun j hj => ?_⟩
      cases e : (aftN a j).testBit q
      · rfl
      · have := n2.2 (j + 1) (by omega)
        rw [show (aftN a (j + 1)).testBit x.f.toNat = true from backAny_bit.2 ⟨x, hx, by rw [e3]; exact e, rfl⟩] at this
        cases this
  refine ⟨key, fun q => ?_⟩
  rw [key]
  constructor
  · rintro ⟨h1, _⟩; exact h1
  · intro h1
    exact ⟨h1, ((hg q).1 ((key q).2 h1)).2⟩
def filS (p : Nat → Bool) (n : Nat) : Nat := (List.range n).foldl (fun m q => if p q = true then m ||| 1 <<< q else m) 0
theorem filS_succ (p : Nat → Bool) (n : Nat) : filS p (n + 1) = if p n = true then filS p n ||| 1 <<< n else filS p n := by unfold filS; rw [List.range_succ, List.foldl_append]; rfl
theorem filS_bit {p : Nat → Bool} {q : Nat} : ∀ {n : Nat}, (filS p n).testBit q = true ↔ q < n ∧ p q = true
  | 0 => by simp [filS]
  | n + 1 => by
    have ih := filS_bit (p := p) (q := q) (n := n)
    rw [filS_succ]
    split
    · rename_i h
      rw [put_bit, Bool.or_eq_true, ih, decide_eq_true_eq]
      constructor
      · rintro (⟨h1, h2⟩ | h1)
        · exact ⟨by omega, h2⟩
        · subst h1; exact ⟨by omega, h⟩
      · rintro ⟨h1, h2⟩
        rcases Nat.lt_or_ge q n with h3 | h3
        · exact .inl ⟨h3, h2⟩
        · exact .inr (by omega)
    · rename_i h
      rw [ih]
      constructor
      · rintro ⟨h1, h2⟩; exact ⟨by omega, h2⟩
      · rintro ⟨h1, h2⟩
        refine ⟨?_, h2⟩
        rcases Nat.lt_or_ge q n with h3 | h3
        · exact h3
        · obtain rfl : q = n := by omega
          exact absurd h2 h
theorem filS_lt {p : Nat → Bool} {n : Nat} (hn : n ≤ 256) : filS p n < 2 ^ 256 := by
  induction n with
  | zero => simp [filS]
  | succ n ih =>
    rw [filS_succ]
    split
    · exact put_lt (ih (by omega)) (by omega)
    · exact ih (by omega)
theorem far_isD {a : Au} {d : List Int} (h : farP a d) {q left : Nat} (hq : q < a.S.toNat) : d.getD q default = (left : Int) ↔ isD a q left := by
  rcases h.2 q hq with ⟨h1, h2⟩ | ⟨h1, h2⟩
  · rw [h1]
    constructor
    · intro e; omega
    · intro e
      have h5 := e.1
      rw [h2] at h5
      cases h5
  · constructor
    · intro e
      rw [e] at h2
      exact h2
    · intro e
      have := isD_eq h2 e
      omega
end Go.Proofs.Ytbjgnogcjglcoaa.Hm.V
