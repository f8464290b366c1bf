/- Of layer 27: Short, plainly. -/
import Derived.Test.YtbjgnogcjglcoaaHF
import Derived.Test.YtbjgnogcjglcoaaA6
import Derived.Test.YtbjgnogcjglcoaaVN2
namespace Go.Proofs.Ytbjgnogcjglcoaa.Hm.V
open Go
set_option linter.all false
set_option maxRecDepth 100000
attribute [local irreducible] X S R D W Call Upd Rds Rck Sees Res Cel CallP fnQ
/-- The states from which an end is reached by a letter alone. -/
inductive InC (a : Au) (c : Int) : Nat → Prop
  | en {x : Int} : x ∈ a.en → InC a c x.toNat
  | ed {x : Ed} : x ∈ a.ed → x.l = c → InC a c x.t.toNat → InC a c x.f.toNat
def soundC (a : Au) (c : Int) (E : Nat) : Prop := ∀ q, E.testBit q = true → InC a c q
def endsC (a : Au) (E : Nat) : Prop := ∀ x ∈ a.en, E.testBit x.toNat = true
def closedC (a : Au) (c : Int) (E : Nat) : Prop := ∀ x ∈ a.ed, x.l = c → E.testBit x.t.toNat = true → E.testBit x.f.toNat = true
theorem inC_bit {a : Au} {c : Int} {E : Nat} (h1 : endsC a E) (h2 : closedC a c E) {q : Nat} (h : InC a c q) : E.testBit q = true := by
  induction h with
  | en hx => exact h1 _ hx
  | ed hx e _ ih => exact h2 _ hx e ih
theorem setC_eq {a : Au} {c : Int} {E E' : Nat} (h1 : soundC a c E) (h2 : endsC a E) (h3 : closedC a c E) (k1 : soundC a c E') (k2 : endsC a E') (k3 : closedC a c E') : E = E' :=
  bit_ext fun t => ⟨fun h => inC_bit k2 k3 (h1 t h), fun h => inC_bit h2 h3 (k1 t h)⟩
def cntB : Nat → Nat → Nat
  | 0, _ => 0
  | n + 1, s => cntB n s + (if s.testBit n = true then 1 else 0)
theorem cntB_le (n s : Nat) : cntB n s ≤ n := by
  induction n with
  | zero => exact Nat.le_refl _
  | succ n ih => unfold cntB; split <;> omega
theorem cntB_mono {s s' : Nat} (h : ∀ q, s.testBit q = true → s'.testBit q = true) (n : Nat) : cntB n s ≤ cntB n s' := by
  induction n with
  | zero => exact Nat.le_refl _
  | succ n ih =>
    unfold cntB
    by_cases hs : s.testBit n = true
    · rw [if_pos hs, if_pos (h n hs)]; omega
    · rw [if_neg hs]; omega
theorem cntB_lt {s s' q : Nat} (h : ∀ q, s.testBit q = true → s'.testBit q = true) (h0 : s.testBit q = false) (h1 : s'.testBit q = true) : ∀ n, q < n → cntB n s < cntB n s'
  | n + 1, hq => by
    unfold cntB
    rcases Nat.lt_or_ge q n with h2 | h2
    · have := cntB_lt h h0 h1 n h2
      by_cases hs : s.testBit n = true
      · rw [if_pos hs, if_pos (h n hs)]; omega
      · rw [if_neg hs]; omega
    · obtain rfl : q = n := by omega
      have := cntB_mono h q
      rw [if_neg (by rw [h0]; exact Bool.false_ne_true), if_pos h1]; omega
def backTo (g : List Ed) (m : Nat) (c : Int) : Nat := g.foldl (fun s x => if x.l = c ∧ m.testBit x.t.toNat = true then s ||| 1 <<< x.f.toNat else s) 0
theorem backTo_take {g : List Ed} {m : Nat} {c : Int} {i : Nat} (h : i < g.length) : backTo (g.take (i + 1)) m c = if (g.getD i default).l = c ∧ m.testBit (g.getD i default).t.toNat = true then backTo (g.take i) m c ||| 1 <<< (g.getD i default).f.toNat else backTo (g.take i) m c := foldl_take h
def flipE (x : Ed) : Ed := ⟨x.t, x.l, x.f⟩
theorem backTo_flip (g : List Ed) (m : Nat) (c : Int) : backTo g m c = stepTo (g.map flipE) m c := by
  unfold backTo stepTo
  rw [List.foldl_map]; rfl
theorem backTo_bit {g : List Ed} {m t : Nat} {c : Int} : (backTo g m c).testBit t = true ↔ ∃ x ∈ g, x.l = c ∧ m.testBit x.t.toNat = true ∧ x.f.toNat = t := by
  rw [backTo_flip, stepTo_bit]
  constructor
  · rintro ⟨x, hx, h⟩
    obtain ⟨y, hy, rfl⟩ := List.mem_map.1 hx
    exact ⟨y, hy, h⟩
  · rintro ⟨y, hy, h⟩
    exact ⟨flipE y, List.mem_map_of_mem hy, h⟩
theorem inEd_mem {g : List Ed} (h : inEd g) {x : Ed} (hx : x ∈ g) : 0 ≤ x.f ∧ x.f < 256 ∧ 0 ≤ x.t ∧ x.t < 256 := by
  obtain ⟨i, hi, rfl⟩ := List.getElem_of_mem hx
  have := h i hi
  rw [getD_eq hi] at this
  exact this
theorem backTo_lt {g : List Ed} {m : Nat} {c : Int} (h : inEd g) : backTo g m c < 2 ^ 256 := by
  rw [backTo_flip]
  refine stepTo_lt fun i hi => ?_
  rw [List.length_map] at hi
  have := h i hi
  rw [getD_eq hi] at this
  rw [getD_eq (by rw [List.length_map]; exact hi), List.getElem_map]
  exact ⟨this.2.2.1, this.2.2.2, this.1, this.2.1⟩
def shortN (a : Au) (c : Int) : Nat → Nat
  | 0 => setOf a.en
  | n + 1 => shortN a c n ||| backTo a.ed (shortN a c n) c
theorem shortN_sub (a : Au) (c : Int) (n : Nat) : ∀ q, (shortN a c n).testBit q = true → (shortN a c (n + 1)).testBit q = true := fun q h => by
  unfold shortN; rw [Nat.testBit_or, h]; rfl
theorem shortN_sound (a : Au) (c : Int) : ∀ n, soundC a c (shortN a c n)
  | 0, q, h => by
    obtain ⟨x, hx, rfl⟩ := setOf_bit.1 h
    exact .en hx
  | n + 1, q, h => by
    unfold shortN at h
    rw [Nat.testBit_or, Bool.or_eq_true] at h
    rcases h with h | h
    · exact shortN_sound a c n q h
    · obtain ⟨x, hx, e, h1, rfl⟩ := backTo_bit.1 h
      exact .ed hx e (shortN_sound a c n _ h1)
theorem shortN_ends (a : Au) (c : Int) : ∀ n, endsC a (shortN a c n)
  | 0, x, hx => setOf_bit.2 ⟨x, hx, rfl⟩
  | n + 1, x, hx => shortN_sub a c n _ (shortN_ends a c n x hx)
theorem shortN_closed_of {a : Au} {c : Int} {n : Nat} (h : shortN a c (n + 1) = shortN a c n) : closedC a c (shortN a c n) := fun x hx e h1 => by
  rw [← h]
  unfold shortN
  rw [Nat.testBit_or, Bool.or_eq_true]
  exact .inr (backTo_bit.2 ⟨x, hx, e, h1, rfl⟩)
theorem shortN_grow {a : Au} {c : Int} {S : Nat} (hS : ∀ x ∈ a.ed, x.f.toNat < S) : ∀ n, closedC a c (shortN a c n) ∨ n ≤ cntB S (shortN a c n)
  | 0 => .inr (Nat.zero_le _)
  | n + 1 => by
    by_cases hc : closedC a c (shortN a c n)
    · left
      have e : shortN a c (n + 1) = shortN a c n := bit_ext fun t => ⟨fun h => by
        unfold shortN at h
        rw [Nat.testBit_or, Bool.or_eq_true] at h
        rcases h with h | h
        · exact h
        · obtain ⟨x, hx, e, h1, rfl⟩ := backTo_bit.1 h
          exact hc x hx e h1, shortN_sub a c n t⟩
      rw [e]; exact hc
    · right
      have h1 := (shortN_grow hS n).resolve_left hc
      have : ∃ x, x ∈ a.ed ∧ x.l = c ∧ (shortN a c n).testBit x.t.toNat = true ∧ (shortN a c n).testBit x.f.toNat = false := by
        apply Classical.byContradiction
        intro hn
        exact hc fun x hx e h1 => by
          cases hq : (shortN a c n).testBit x.f.toNat
          · exact absurd ⟨x, hx, e, h1, hq⟩ hn
          · rfl
      obtain ⟨x, hx, e, h2, h3⟩ := this
      have h4 := cntB_lt (shortN_sub a c n) h3 (show (shortN a c (n + 1)).testBit x.f.toNat = true by
        unfold shortN
        rw [Nat.testBit_or, Bool.or_eq_true]
        exact .inr (backTo_bit.2 ⟨x, hx, e, h2, rfl⟩)) S (hS x hx)
      omega
theorem shortN_closed {a : Au} {c : Int} (hA : isAutoP a) : closedC a c (shortN a c a.S.toNat) := by
  have hS : ∀ x ∈ a.ed, x.f.toNat < a.S.toNat := fun x hx => by
    obtain ⟨_, _, _, _, _, _, _, h⟩ := hA
    obtain ⟨i, hi, rfl⟩ := List.getElem_of_mem hx
    obtain ⟨h1, h2, _⟩ := h i hi
    rw [getD_eq hi] at h1 h2
    omega
  by_cases hc : closedC a c (shortN a c a.S.toNat)
  · exact hc
  · have h1 := (shortN_grow (c := c) hS a.S.toNat).resolve_left hc
    exfalso
    apply hc
    have : ∃ x, x ∈ a.ed ∧ x.l = c ∧ (shortN a c a.S.toNat).testBit x.t.toNat = true ∧ (shortN a c a.S.toNat).testBit x.f.toNat = false := by
      apply Classical.byContradiction
      intro hn
      exact hc fun x hx e h1 => by
        cases hq : (shortN a c a.S.toNat).testBit x.f.toNat
        · exact absurd ⟨x, hx, e, h1, hq⟩ hn
        · rfl
    obtain ⟨x, hx, e, h2, h3⟩ := this
    have h4 := cntB_lt (shortN_sub a c a.S.toNat) h3 (show (shortN a c (a.S.toNat + 1)).testBit x.f.toNat = true by
      show (shortN a c a.S.toNat ||| _).testBit _ = true
      rw [Nat.testBit_or, Bool.or_eq_true]
      exact .inr (backTo_bit.2 ⟨x, hx, e, h2, rfl⟩)) a.S.toNat (hS x hx)
    have := cntB_le a.S.toNat (shortN a c (a.S.toNat + 1))
    omega
def bitsL (S E : Nat) : List Bool := (List.range S).map fun q => E.testBit q
def shortAu (a : Au) (E : Nat) : Au := ⟨a.S, a.L, a.st, idxT (bitsL a.S.toNat E), a.ed⟩
theorem bitsL_len (S E : Nat) : (bitsL S E).length = S := by simp [bitsL]
theorem bitsL_at {S E q : Nat} (h : q < S) : (bitsL S E).getD q default = E.testBit q := by
  rw [getD_eq (by rw [bitsL_len]; exact h)]; simp [bitsL]
theorem shortAu_ok {a : Au} (h : isAutoP a) (E : Nat) : isAutoP (shortAu a E) := by
  obtain ⟨h1, h2, h3, h4, h5, h6, h7, h8⟩ := h
  refine ⟨h1, h2, h3, h4, h5, h6, fun i hi => ?_, h8⟩
  have := idxT_prop (bitsL a.S.toNat E) i hi
  rw [bitsL_len, Int.toNat_of_nonneg h1] at this
  exact this
theorem rising_len {l : List Int} {n : Int} (h : risingP l n) (h0 : 0 ≤ n) : (l.length : Int) ≤ n := by
  have key : ∀ i, i < l.length → (i : Int) ≤ l.getD i default := by
    intro i
    induction i with
    | zero => intro hi; exact (h 0 hi).1
    | succ i ih =>
      intro hi
      have h1 := ih (by omega)
      have h2 := (h (i + 1) hi).2.2 (by omega)
      rw [Nat.add_sub_cancel] at h2
      omega
  rcases Nat.eq_zero_or_pos l.length with h1 | h1
  · omega
  · have h2 := key (l.length - 1) (by omega)
    have h3 := (h (l.length - 1) (by omega)).2.1
    omega
end Go.Proofs.Ytbjgnogcjglcoaa.Hm.V
