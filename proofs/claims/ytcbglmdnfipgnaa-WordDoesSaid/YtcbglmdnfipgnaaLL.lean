/- What the printed functions on lists of bits come to: Bits, Same, Bit, Of of the program and of the reference. Plain Lean; each fact names its bounds. -/
import Derived.Test.YtcbglmdnfipgnaaPx1
import Derived.Test.YtcbglmdnfipgnaaPx2
import Derived.Test.YtcbglmdnfipgnaaPx3
import Derived.Test.YtcbglmdnfipgnaaL
import Derived.Laws.BitsAllLaws
namespace Go.Proofs.Ytcbglmdnfipgnaa.L
open Go Go.RowKit Go.Proofs.Ytcbglmdnfipgnaa.P Go.Proofs.YtcbglmdnfipgnaaW.PrintWords Go.Proofs.YtcbglmdnfipgnaaW.PrintLast Go.Proofs.YtcbglmdnfipgnaaW.PrintMore Go.Proofs.Ytcbglmdnfipgnaa.WordBase

theorem same_l0 (a b : List Int) (hlen : a.length = b.length) (hm : a.length ≤ maxLen) (d : Nat) : ∀ (k : Nat) (i : Int), 0 ≤ i → i ≤ a.length → (a.length : Int) - i = d → d < k →
    stereopsisref01_Same.l0 k a b i = some (decide (a.drop i.toNat = b.drop i.toNat)) := by
  unfold maxLen at hm
  induction d with
  | zero =>
    intro k i h0 hi hd hk
    obtain ⟨k, rfl⟩ : ∃ m, k = m + 1 := ⟨k - 1, by omega⟩
    simp only [stereopsisref01_Same.l0]
    rw [if_neg (by omega), List.drop_of_length_le (by omega), List.drop_of_length_le (by omega)]
    simp
  | succ d ih =>
    intro k i h0 hi hd hk
    obtain ⟨k, rfl⟩ : ∃ m, k = m + 1 := ⟨k - 1, by omega⟩
    have hlt : i < (a.length : Int) := by omega
    have hlt2 : i < (b.length : Int) := by omega
    obtain ⟨x, r, e1, e2, e3⟩ := rd_at h0 hlt
    obtain ⟨y, q, f1, f2, f3⟩ := rd_at h0 hlt2
    have hr := ih k (i + 1) (by omega) (by omega) (by omega) (by omega)
    simp only [stereopsisref01_Same.l0]
    rw [if_pos hlt, if_pos h0, if_pos hlt2, e2, f2, e1, f1, wrap64_id (by omega) (by omega), hr, e3, f3]
    by_cases e : x = y
    · rw [if_pos e]
      simp [e]
    · rw [if_neg e]
      simp [e]

theorem same_f (a b : List Int) (hm : a.length ≤ maxLen) {k : Nat} (hk : a.length < k) : stereopsisref01_Same.f k a b = some (decide (a = b)) := by
  unfold stereopsisref01_Same.f
  by_cases h : a.length = b.length
  · rw [if_pos (by omega), same_l0 a b h hm a.length k 0 (by omega) (by omega) (by omega) hk]
    simp
  · rw [if_neg (by omega)]
    congr 1
    symm
    apply decide_eq_false
    rintro rfl
    exact h rfl

/-- The bits from i on, below n. -/
def bitsFrom (a : Int) (n : Nat) : Nat → List Int
  | 0 => []
  | d + 1 => a / 2 ^ (n - (d + 1)) % 2 :: bitsFrom a n d

theorem bitsFrom_length (a : Int) (n d : Nat) : (bitsFrom a n d).length = d := by
  induction d with
  | zero => rfl
  | succ d ih => simp [bitsFrom, ih]

theorem shr_id {a i : Int} (h0 : 0 ≤ i) (h8 : i ≤ 60) : shr .i64 a i = a / 2 ^ i.toNat := by
  unfold shr
  rw [show min i.toNat IntKind.i64.bits = i.toNat from Nat.min_eq_left (by show i.toNat ≤ 64; omega)]

theorem bits_l0 (a : Int) (n : Int) (hn : n ≤ 8) (d : Nat) : ∀ (k : Nat) (i : Int) (acc : List Int), 0 ≤ i → i ≤ n → n - i = d → d < k → acc.length ≤ 100 - d →
    word_Bits.l0 k a acc n i = some (acc ++ bitsFrom a n.toNat d, 0) := by
  induction d with
  | zero =>
    intro k i acc h0 hi hd hk ha
    obtain ⟨k, rfl⟩ : ∃ m, k = m + 1 := ⟨k - 1, by omega⟩
    simp only [word_Bits.l0]
    rw [if_neg (by omega)]
    simp [bitsFrom]
  | succ d ih =>
    intro k i acc h0 hi hd hk ha
    obtain ⟨k, rfl⟩ : ∃ m, k = m + 1 := ⟨k - 1, by omega⟩
    simp only [word_Bits.l0]
    rw [if_pos (by omega), u64_id h0 (by omega), if_pos h0, if_pos (by omega), wrap64_id (by omega) (by omega), shr_id h0 (by omega)]
    have e := and_mask (a / 2 ^ i.toNat) 1 (by decide)
    rw [show ((2 : Int) ^ 1 - 1) = 1 from rfl, show ((2 : Int) ^ 1) = 2 from rfl] at e
    rw [e, ih k (i + 1) _ (by omega) (by omega) (by omega) (by omega) (by simp; omega)]
    simp only [bitsFrom, List.append_assoc, List.singleton_append]
    rw [show n.toNat - (d + 1) = i.toNat by omega]

theorem bits_f {w a : Int} (h : W8 w a) {k : Nat} (hk : 10 ≤ k) : word_Bits.f k w a = some (bitsFrom a w.toNat w.toNat, 0) := by
  unfold word_Bits.f
  rw [ok_one (by omega)]
  simp only [Option.bind_some]
  have h1 := h.1
  have h8 := h.2.1
  rw [if_pos (decide_eq_true h), bits_l0 a w h8 w.toNat k 0 [] (by omega) (by omega) (by omega) (by omega) (by simp)]
  rfl

theorem bits_no {w a : Int} (h : ¬ W8 w a) {k : Nat} (hk : 10 ≤ k) : word_Bits.f k w a = some ([], 1) := by
  unfold word_Bits.f
  rw [ok_one (by omega)]
  simp only [Option.bind_some]
  rw [if_neg (by simpa using h)]

theorem bit_f {a i : Int} (h0 : 0 ≤ i) (h8 : i ≤ 60) (ha0 : 0 ≤ a) (ha1 : a < 9223372036854775808) {k : Nat} (hk : 63 ≤ k) : stereopsisref01_Bit.f k a i = some (a / 2 ^ i.toNat % 2) := by
  unfold stereopsisref01_Bit.f
  rw [pow_f h0 (by omega) hk]
  simp only [Option.bind_some]
  have hp := pow_pos_ i.toNat
  have q0 : 0 ≤ a / 2 ^ i.toNat := Int.ediv_nonneg ha0 (by omega)
  have q1 : a / 2 ^ i.toNat ≤ a := Int.ediv_le_self _ ha0
  rw [if_neg (by omega), Int.tdiv_eq_ediv_of_nonneg ha0, wrap64_id (by omega) (by omega), Int.tmod_eq_emod_of_nonneg q0]

theorem rbits_l0 (a : Int) (ha0 : 0 ≤ a) (ha1 : a < 9223372036854775808) (n : Int) (hn : n ≤ 8) (d : Nat) : ∀ (k : Nat) (i : Int) (acc : List Int), 0 ≤ i → i ≤ n → n - i = d → d + 63 < k → acc.length ≤ 100 - d →
    stereopsisref01_Bits.l0 k n a acc i = some (acc ++ bitsFrom a n.toNat d) := by
  induction d with
  | zero =>
    intro k i acc h0 hi hd hk ha
    obtain ⟨k, rfl⟩ : ∃ m, k = m + 1 := ⟨k - 1, by omega⟩
    simp only [stereopsisref01_Bits.l0]
    rw [if_neg (by omega)]
    simp [bitsFrom]
  | succ d ih =>
    intro k i acc h0 hi hd hk ha
    obtain ⟨k, rfl⟩ : ∃ m, k = m + 1 := ⟨k - 1, by omega⟩
    simp only [stereopsisref01_Bits.l0]
    rw [if_pos (by omega), bit_f h0 (by omega) ha0 ha1 (by omega)]
    simp only [Option.bind_some]
    rw [if_pos (by omega), wrap64_id (by omega) (by omega)]
    rw [ih k (i + 1) _ (by omega) (by omega) (by omega) (by omega) (by simp; omega)]
    simp only [bitsFrom, List.append_assoc, List.singleton_append]
    rw [show n.toNat - (d + 1) = i.toNat by omega]

theorem rbits_f {w a : Int} (h : W8 w a) {k : Nat} (hk : 80 ≤ k) : stereopsisref01_Bits.f k w a = some (bitsFrom a w.toNat w.toNat) := by
  unfold stereopsisref01_Bits.f
  have h1 := h.1
  have h8 := h.2.1
  have hp := p8 h8
  have ha0 := h.2.2.1
  have ha1 := h.2.2.2
  rw [rbits_l0 a ha0 (by omega) w h8 w.toNat k 0 [] (by omega) (by omega) (by omega) (by omega) (by simp)]
  rfl

/-- The word of bits, the first one at place i. -/
def valS : List Int → Nat → Int
  | [], _ => 0
  | b :: r, i => b * 2 ^ i + valS r (i + 1)

abbrev Bit01 (l : List Int) : Prop := ∀ x ∈ l, x = 0 ∨ x = 1

theorem or_add {acc b : Int} {i : Nat} (hi : i ≤ 60) (h0 : 0 ≤ acc) (h1 : acc < 2 ^ i) (hb : b = 0 ∨ b = 1) : bits .or .i64 acc (b * 2 ^ i) = acc + b * 2 ^ i := by
  have hp : (2 : Int) ^ i ≤ 2 ^ 60 := pow_le_ hi
  have h60 : (2 : Int) ^ 60 = 1152921504606846976 := by decide
  have hn : (2 : Nat) ^ i ≤ 2 ^ 60 := Nat.pow_le_pow_right (by decide) hi
  have hpos := pow_pos_ i
  have hacc := nat_lt h0 h1
  rcases hb with rfl | rfl
  · have e := or_nat acc.toNat 0 (by omega) (by omega)
    rw [Int.toNat_of_nonneg h0] at e
    simp at e ⊢
    rw [e, Int.max_eq_left h0]
  · have e := or_nat acc.toNat (2 ^ i) (by omega) (by omega)
    rw [Int.toNat_of_nonneg h0] at e
    rw [Int.one_mul]
    have hc : (((2 : Nat) ^ i : Nat) : Int) = 2 ^ i := by simp
    rw [hc] at e
    rw [e, Nat.or_comm, nat_join i (2 ^ i) acc.toNat (Nat.mod_self _) hacc]
    rw [Int.natCast_add, hc, Int.toNat_of_nonneg h0]
    omega

theorem shl_bit {b i : Int} (h0 : 0 ≤ i) (hi : i ≤ 60) (hb : b = 0 ∨ b = 1) : shl .i64 b i = b * 2 ^ i.toNat := by
  unfold shl
  rw [show min i.toNat IntKind.i64.bits = i.toNat from Nat.min_eq_left (by show i.toNat ≤ 64; omega)]
  have hp : (2 : Int) ^ i.toNat ≤ 2 ^ 60 := pow_le_ (by omega)
  have h60 : (2 : Int) ^ 60 = 1152921504606846976 := by decide
  have h63 : (2 : Int) ^ 63 = 9223372036854775808 := by decide
  have hpos := pow_pos_ i.toNat
  rcases hb with rfl | rfl
  · rw [Int.zero_mul]; rfl
  · rw [Int.one_mul]; exact wraps_i64 _ (by omega) (by omega)

theorem add_lt {acc b : Int} {i : Nat} (h0 : 0 ≤ acc) (h1 : acc < 2 ^ i) (hb : b = 0 ∨ b = 1) : 0 ≤ acc + b * 2 ^ i ∧ acc + b * 2 ^ i < 2 ^ (i + 1) := by
  have hpos := pow_pos_ i
  rw [Int.pow_succ]
  rcases hb with rfl | rfl <;> omega

theorem of_l0 (l : List Int) (hl : l.length ≤ 50) (d : Nat) : ∀ (k : Nat) (i acc : Int), 0 ≤ i → i ≤ l.length → (l.length : Int) - i = d → d < k → 0 ≤ acc → acc < 2 ^ i.toNat →
    word_Of.l0 k acc l (l.length : Int) i = some (if Bit01 (l.drop i.toNat) then (acc + valS (l.drop i.toNat) i.toNat, 0) else (0, 1)) := by
  induction d with
  | zero =>
    intro k i acc h0 hi hd hk ha0 ha1
    obtain ⟨k, rfl⟩ : ∃ m, k = m + 1 := ⟨k - 1, by omega⟩
    simp only [word_Of.l0]
    rw [if_neg (by omega), List.drop_of_length_le (by omega)]
    simp [valS, Bit01]
  | succ d ih =>
    intro k i acc h0 hi hd hk ha0 ha1
    obtain ⟨k, rfl⟩ : ∃ m, k = m + 1 := ⟨k - 1, by omega⟩
    have hlt : i < (l.length : Int) := by omega
    obtain ⟨x, r, e1, e2, e3⟩ := rd_at h0 hlt
    have step : ∀ (hx : x = 0 ∨ x = 1), word_Of.l0 k (bits .or .i64 acc (shl .i64 x i)) l (l.length : Int) (wrap64 (i + 1)) = some (if Bit01 (x :: r) then (acc + valS (x :: r) i.toNat, 0) else (0, 1)) := by
      intro hx
      have hb := add_lt ha0 ha1 hx
      rw [shl_bit h0 (by omega) hx, or_add (by omega) ha0 ha1 hx, wrap64_id (by omega) (by omega)]
      rw [ih k (i + 1) _ (by omega) (by omega) (by omega) (by omega) hb.1 (by rw [show (i + 1).toNat = i.toNat + 1 by omega]; exact hb.2), e3]
      congr 1
      have hc : Bit01 (x :: r) ↔ Bit01 r := by
        constructor
        · intro h y hy
          exact h y (List.mem_cons_of_mem _ hy)
        · intro h y hy
          rcases List.mem_cons.1 hy with rfl | hm
          · exact hx
          · exact h y hm
      by_cases hr : Bit01 r
      · rw [if_pos hr, if_pos (hc.2 hr), show (i + 1).toNat = i.toNat + 1 by omega]
        simp only [valS]
        rw [Int.add_assoc]
      · rw [if_neg hr, if_neg (fun h => hr (hc.1 h))]
    simp only [word_Of.l0]
    rw [if_pos hlt, if_pos h0, if_pos hlt, e2, e1, u64_id h0 (by omega)]
    by_cases h1 : x = 0
    · rw [if_pos h1, if_pos h0]
      exact step (Or.inl h1)
    · rw [if_neg h1]
      by_cases h2 : x = 1
      · rw [if_pos h2, if_pos h0]
        exact step (Or.inr h2)
      · rw [if_neg h2, if_neg]
        intro h
        rcases h x (by simp) with rfl | rfl
        · exact h1 rfl
        · exact h2 rfl

abbrev GoodBits (l : List Int) : Prop := (1 ≤ l.length ∧ l.length ≤ 8) ∧ Bit01 l

theorem of_f (l : List Int) {k : Nat} (hk : 12 ≤ k) : word_Of.f k l = some (if GoodBits l then (valS l 0, 0) else (0, 1)) := by
  obtain ⟨k, rfl⟩ : ∃ m, k = m + 1 := ⟨k - 1, by omega⟩
  unfold word_Of.f
  by_cases h1 : (l.length : Int) < 1
  · rw [if_pos h1, if_neg (by unfold GoodBits; omega)]
    simp only [word_Of.j0]
    rw [if_pos trivial]
  · rw [if_neg h1]
    simp only [word_Of.j0]
    by_cases h8 : (l.length : Int) > 8
    · rw [if_pos (decide_eq_true h8), if_neg (by unfold GoodBits; omega)]
    · rw [if_neg (by simpa using h8), of_l0 l (by omega) l.length k 0 0 (by omega) (by omega) (by omega) (by omega) (by omega) (by decide)]
      congr 1
      simp only [Int.toNat_zero, List.drop_zero, Int.zero_add]
      by_cases hb : Bit01 l
      · rw [if_pos hb, if_pos ⟨by omega, hb⟩]
      · rw [if_neg hb, if_neg (fun h => hb h.2)]

theorem valS_bd (l : List Int) (hb : Bit01 l) : ∀ i : Nat, 0 ≤ valS l i ∧ valS l i < 2 ^ (i + l.length) := by
  induction l with
  | nil => intro i; simp [valS, pow_pos_]
  | cons x r ih =>
    intro i
    have hr : Bit01 r := fun y hy => hb y (List.mem_cons_of_mem _ hy)
    obtain ⟨h1, h2⟩ := ih hr (i + 1)
    have hx := hb x (by simp)
    simp only [valS, List.length_cons]
    have hp := pow_pos_ i
    rw [show i + (r.length + 1) = i + 1 + r.length by omega]
    have h3 : 0 ≤ valS r (i + 1) := h1
    refine ⟨by rcases hx with rfl | rfl <;> omega, ?_⟩
    -- the rest is a multiple of 2^(i+1)
    have hd : ∀ (q : List Int) (j : Nat), (2 : Int) ^ j ∣ valS q j := by
      intro q
      induction q with
      | nil => intro j; exact ⟨0, by simp [valS]⟩
      | cons y s ihq =>
        intro j
        obtain ⟨c, hc⟩ := ihq (j + 1)
        refine ⟨y + 2 * c, ?_⟩
        simp only [valS]
        rw [hc, Int.pow_succ, Int.mul_add, Int.mul_comm y, Int.mul_assoc]
    obtain ⟨c, hc⟩ := hd r (i + 1)
    have hp1 := pow_pos_ (i + 1)
    have hpr := pow_pos_ r.length
    rw [hc] at h2 h3 ⊢
    rw [Int.pow_add 2 (i + 1)] at h2 ⊢
    have hlt : c < 2 ^ r.length := Int.lt_of_mul_lt_mul_left h2 (by omega)
    have hle : c + 1 ≤ 2 ^ r.length := by omega
    have hm := Int.mul_le_mul_of_nonneg_left hle (show (0 : Int) ≤ 2 ^ (i + 1) by omega)
    rw [Int.mul_add, Int.mul_one] at hm
    have he : (2 : Int) ^ (i + 1) = 2 ^ i * 2 := Int.pow_succ 2 i
    rcases hx with rfl | rfl <;> omega

theorem rof_l0 (l : List Int) (hl : l.length ≤ 50) (hb : Bit01 l) (d : Nat) : ∀ (k : Nat) (i acc : Int), 0 ≤ i → i ≤ l.length → (l.length : Int) - i = d → d + 63 < k → 0 ≤ acc → acc < 2 ^ i.toNat →
    stereopsisref01_Of.l0 k l acc i = some (acc + valS (l.drop i.toNat) i.toNat) := by
  induction d with
  | zero =>
    intro k i acc h0 hi hd hk ha0 ha1
    obtain ⟨k, rfl⟩ : ∃ m, k = m + 1 := ⟨k - 1, by omega⟩
    simp only [stereopsisref01_Of.l0]
    rw [if_neg (by omega), List.drop_of_length_le (by omega)]
    simp [valS]
  | succ d ih =>
    intro k i acc h0 hi hd hk ha0 ha1
    obtain ⟨k, rfl⟩ : ∃ m, k = m + 1 := ⟨k - 1, by omega⟩
    have hlt : i < (l.length : Int) := by omega
    obtain ⟨x, r, e1, e2, e3⟩ := rd_at h0 hlt
    have hx : x = 0 ∨ x = 1 := hb x (List.mem_of_mem_drop (i := i.toNat) (by rw [e1]; simp))
    have hbd := add_lt ha0 ha1 hx
    have hp : (2 : Int) ^ i.toNat ≤ 2 ^ 50 := pow_le_ (by omega)
    have h50 : (2 : Int) ^ 50 = 1125899906842624 := by decide
    have hpos := pow_pos_ i.toNat
    simp only [stereopsisref01_Of.l0]
    rw [if_pos hlt, if_pos h0, pow_f h0 (by omega) (by omega), e2, e1]
    simp only [Option.bind_some]
    rw [wrap64_id (x := x * 2 ^ i.toNat) (by rcases hx with rfl | rfl <;> omega) (by rcases hx with rfl | rfl <;> omega)]
    rw [wrap64_id (x := acc + x * 2 ^ i.toNat) (by omega) (by rcases hx with rfl | rfl <;> omega), wrap64_id (by omega) (by omega)]
    rw [ih k (i + 1) _ (by omega) (by omega) (by omega) (by omega) hbd.1 (by rw [show (i + 1).toNat = i.toNat + 1 by omega]; exact hbd.2), e3]
    rw [show (i + 1).toNat = i.toNat + 1 by omega]
    simp only [valS]
    rw [Int.add_assoc]

theorem rof_f (l : List Int) (hl : l.length ≤ 50) (hb : Bit01 l) {k : Nat} (hk : 120 ≤ k) : stereopsisref01_Of.f k l = some (valS l 0) := by
  unfold stereopsisref01_Of.f
  rw [rof_l0 l hl hb l.length k 0 0 (by omega) (by omega) (by omega) (by omega) (by omega) (by decide)]
  simp

end Go.Proofs.Ytcbglmdnfipgnaa.L
