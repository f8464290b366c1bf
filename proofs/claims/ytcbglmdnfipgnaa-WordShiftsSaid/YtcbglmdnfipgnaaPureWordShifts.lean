/- WordShifts: for every width and all words, the law of package stereopsislaw01 answers true: and, or, xor and not act on each bit, and shifts are products and quotients by powers of two. No condition beside those of the statement. -/
import Derived.Test.YtcbglmdnfipgnaaPx8
import Derived.Test.YtcbglmdnfipgnaaLG
namespace Go.Proofs.Ytcbglmdnfipgnaa.Pure
open Go Go.RowKit Go.Proofs.Ytcbglmdnfipgnaa.P Go.Proofs.Ytcbglmdnfipgnaa.L Go.Proofs.YtcbglmdnfipgnaaW.PrintWords Go.Proofs.YtcbglmdnfipgnaaW.PrintLast Go.Proofs.YtcbglmdnfipgnaaW.PrintMore Go.Proofs.Ytcbglmdnfipgnaa.WordBase

theorem do_law {op w a b : Int} (ha : W8 w a) (hb : W8 w b) (ho : IsOp op) {k : Nat} (hk : 4 ≤ k) : stereopsislaw01_do.f k op w a b = some (doS op w a b, true) := by
  unfold stereopsislaw01_do.f
  rw [do_f ha hb ho hk]
  rfl

theorem awake_j0 {k : Nat} (hk : 61 ≤ k) (w a b : Int) : stereopsislaw01_WordShifts.j0 k w a b true = some true := by
  obtain ⟨k, rfl⟩ : ∃ m, k = m + 1 := ⟨k - 1, by omega⟩
  simp only [stereopsislaw01_WordShifts.j0, if_true]
  rw [awake_f (by omega)]
  rfl

theorem mod_w8 {w : Int} (h1 : 1 ≤ w) (h8 : w ≤ 8) (x : Int) : W8 w (x % 2 ^ w.toNat) :=
  ⟨h1, h8, Int.emod_nonneg _ (Int.ne_of_gt (pow_pos_ _)), Int.emod_lt_of_pos _ (pow_pos_ _)⟩

theorem and_w {w a b : Int} (ha : W8 w a) (hb : W8 w b) : W8 w (doS 7 w a b) :=
  ⟨ha.1, ha.2.1, Int.natCast_nonneg _, cast_lt (Nat.and_lt_two_pow _ (nat_lt hb.2.2.1 hb.2.2.2))⟩
theorem or_w {w a b : Int} (ha : W8 w a) (hb : W8 w b) : W8 w (doS 8 w a b) :=
  ⟨ha.1, ha.2.1, Int.natCast_nonneg _, cast_lt (Nat.or_lt_two_pow (nat_lt ha.2.2.1 ha.2.2.2) (nat_lt hb.2.2.1 hb.2.2.2))⟩
theorem xor_w {w a b : Int} (ha : W8 w a) (hb : W8 w b) : W8 w (doS 9 w a b) :=
  ⟨ha.1, ha.2.1, Int.natCast_nonneg _, cast_lt (Nat.xor_lt_two_pow (nat_lt ha.2.2.1 ha.2.2.2) (nat_lt hb.2.2.1 hb.2.2.2))⟩
theorem not_w {w a : Int} (ha : W8 w a) : W8 w (2 ^ w.toNat - 1 - a) := by
  have h := ha.2.2
  exact ⟨ha.1, ha.2.1, by omega, by omega⟩

theorem nat_of {w a : Int} (ha : W8 w a) : ∃ x : Nat, a = (x : Int) ∧ x < 2 ^ w.toNat := ⟨a.toNat, by have := ha.2.2.1; omega, nat_lt ha.2.2.1 ha.2.2.2⟩

/-- One place: the bits of and, or, xor, not. -/
theorem place {w a b i : Int} (ha : W8 w a) (hb : W8 w b) (_h0 : 0 ≤ i) (hi : i < w) :
    doS 7 w a b / 2 ^ i.toNat % 2 = wrap64 ((a / 2 ^ i.toNat % 2) * (b / 2 ^ i.toNat % 2)) ∧
    doS 8 w a b / 2 ^ i.toNat % 2 = mx (a / 2 ^ i.toNat % 2) (b / 2 ^ i.toNat % 2) ∧
    stereopsisref01_One.f ((a / 2 ^ i.toNat % 2) != (b / 2 ^ i.toNat % 2)) = some (doS 9 w a b / 2 ^ i.toNat % 2) ∧
    (2 ^ w.toNat - 1 - a) / 2 ^ i.toNat % 2 = wrap64 (1 - a / 2 ^ i.toNat % 2) := by
  obtain ⟨x, rfl, hx⟩ := nat_of ha
  obtain ⟨y, rfl, hy⟩ := nat_of hb
  have e7 : doS 7 w x y = ((x &&& y : Nat) : Int) := rfl
  have e8 : doS 8 w x y = ((x ||| y : Nat) : Int) := rfl
  have e9 : doS 9 w x y = ((x ^^^ y : Nat) : Int) := rfl
  have e0 : (2 : Int) ^ w.toNat - 1 - (x : Int) = ((2 ^ w.toNat - 1 - x : Nat) : Int) := by
    have hp : 0 < 2 ^ w.toNat := Nat.pow_pos (by decide)
    rw [Int.natCast_sub (by omega), Int.natCast_sub hp]
    simp
  rw [e7, e8, e9, e0, cast_bit, cast_bit, cast_bit, cast_bit, cast_bit, cast_bit, bit_and, bit_or, bit_xor, bit_not hx (by omega)]
  have b1 : x / 2 ^ i.toNat % 2 < 2 := Nat.mod_lt _ (by decide)
  have b2 : y / 2 ^ i.toNat % 2 < 2 := Nat.mod_lt _ (by decide)
  generalize x / 2 ^ i.toNat % 2 = p at b1 ⊢
  generalize y / 2 ^ i.toNat % 2 = q at b2 ⊢
  have c1 : p = 0 ∨ p = 1 := by omega
  have c2 : q = 0 ∨ q = 1 := by omega
  rcases c1 with rfl | rfl <;> rcases c2 with rfl | rfl <;> decide +kernel

theorem tail {k : Nat} (hk : 70 ≤ k) {w a b : Int} (ha : W8 w a) (hb : W8 w b) (A B C D E F : List Int) : stereopsislaw01_WordShifts.l0 k w a b A B C D E F w = some true := by
  obtain ⟨k, rfl⟩ : ∃ m, k = m + 1 := ⟨k - 1, by omega⟩
  have ew := awake_f (k := k) (by omega)
  simp only [stereopsislaw01_WordShifts.l0]
  rw [if_neg (by omega)]
  by_cases h : b ≥ w
  · rw [if_pos h, ew]
    rfl
  · have h1 := ha.1
    have h8 := ha.2.1
    have hb0 := hb.2.2.1
    have hpb : W8 w (2 ^ b.toNat) := by
      refine ⟨h1, h8, by have := pow_pos_ b.toNat; omega, ?_⟩
      have : (2 : Int) ^ (b.toNat + 1) ≤ 2 ^ w.toNat := pow_le_ (by omega)
      rw [Int.pow_succ] at this
      have := pow_pos_ b.toNat
      omega
    have e1 := do_law ha hb (show IsOp 10 by decide) (k := k) (by omega)
    have e2 := do_law ha hb (show IsOp 11 by decide) (k := k) (by omega)
    have e3 := do_law ha hpb (show IsOp 4 by decide) (k := k) (by omega)
    have e4 := do_law ha hpb (show IsOp 5 by decide) (k := k) (by omega)
    have ep := pow_f hb0 (show b ≤ 62 by omega) (k := k) (by omega)
    rw [if_neg h, e1, e2, ep]
    simp only [Option.bind_some]
    rw [e3, e4]
    simp only [Option.bind_some, if_true]
    have s1 : doS 10 w a b = doS 4 w a (2 ^ b.toNat) := by
      show (if b ≥ w then 0 else a * 2 ^ b.toNat % 2 ^ w.toNat) = _
      rw [if_neg h]
      rfl
    have s2 : doS 11 w a b = doS 5 w a (2 ^ b.toNat) := by
      show (if b ≥ w then 0 else a / 2 ^ b.toNat) = (if (2 : Int) ^ b.toNat = 0 then 2 ^ w.toNat - 1 else a / 2 ^ b.toNat)
      rw [if_neg h, if_neg (by have := pow_pos_ b.toNat; omega)]
    rw [if_pos s1, if_pos s2, ew]
    rfl

theorem loop {w a b : Int} (ha : W8 w a) (hb : W8 w b) (d : Nat) : ∀ (k : Nat) (i : Int), 0 ≤ i → i ≤ w → w - i = d → d + 80 ≤ k →
    stereopsislaw01_WordShifts.l0 k w a b (bitsFrom a w.toNat w.toNat) (bitsFrom b w.toNat w.toNat) (bitsFrom (doS 7 w a b) w.toNat w.toNat) (bitsFrom (doS 8 w a b) w.toNat w.toNat) (bitsFrom (doS 9 w a b) w.toNat w.toNat) (bitsFrom (2 ^ w.toNat - 1 - a) w.toNat w.toNat) i = some true := by
  have h8 := ha.2.1
  induction d with
  | zero =>
    intro k i h0 hi hd hk
    rw [show i = w by omega]
    exact tail (by omega) ha hb _ _ _ _ _ _
  | succ d ih =>
    intro k i h0 hi hd hk
    obtain ⟨k, rfl⟩ : ∃ m, k = m + 1 := ⟨k - 1, by omega⟩
    have hlt : i < w := by omega
    have hl : ∀ z : Int, i < ((bitsFrom z w.toNat w.toNat).length : Int) := by
      intro z
      rw [bitsFrom_length]
      omega
    obtain ⟨p1, p2, p3, p4⟩ := place ha hb h0 hlt
    simp only [stereopsislaw01_WordShifts.l0]
    rw [if_pos hlt, if_pos h0, if_pos (hl _), if_pos (hl _), if_pos (hl _), if_pos (hl _), if_pos (hl _), if_pos (hl _)]
    simp only [rd_bits h0 hlt]
    rw [if_pos p1, if_pos p2, p3]
    simp only [Option.bind_some, if_true]
    rw [if_pos p4, wrap64_id (by omega) (by omega)]
    exact ih k (i + 1) (by omega) (by omega) (by omega) (by omega)

theorem shifts_j0 {k : Nat} (hk : 100 ≤ k) {w a b : Int} (ha : W8 w a) (hb : W8 w b) : stereopsislaw01_WordShifts.j0 k w a b false = some true := by
  obtain ⟨k, rfl⟩ : ∃ m, k = m + 3 := ⟨k - 3, by omega⟩
  have h1 := ha.1
  have h8 := ha.2.1
  have e1 := do_law ha hb (show IsOp 7 by decide) (k := k + 2) (by omega)
  have e2 := do_law ha hb (show IsOp 8 by decide) (k := k + 2) (by omega)
  have e3 := do_law ha hb (show IsOp 9 by decide) (k := k + 2) (by omega)
  have e4 := not_f ha (k := k + 2) (by omega)
  have f1 := bits_f ha (k := k + 2) (by omega)
  have f2 := bits_f hb (k := k + 2) (by omega)
  have f3 := bits_f (and_w ha hb) (k := k + 2) (by omega)
  have f4 := bits_f (or_w ha hb) (k := k + 2) (by omega)
  have f5 := bits_f (xor_w ha hb) (k := k + 2) (by omega)
  have f6 := bits_f (not_w ha) (k := k + 2) (by omega)
  have hl : ∀ z : Int, ((bitsFrom z w.toNat w.toNat).length : Int) = w := by
    intro z
    rw [bitsFrom_length]
    omega
  show stereopsislaw01_WordShifts.j0 (k + 2 + 1) w a b false = some true
  simp only [stereopsislaw01_WordShifts.j0]
  rw [if_neg (by decide), e1, e2, e3, e4]
  simp only [Option.bind_some]
  rw [f1, f2, f3, f4, f5, f6]
  simp only [Option.bind_some, if_true, bne_self_eq_false]
  simp only [stereopsislaw01_WordShifts.j1, hl, if_true, bne_self_eq_false]
  rw [if_neg (by decide)]
  simp only [stereopsislaw01_WordShifts.j2]
  rw [if_neg (by decide)]
  exact loop ha hb w.toNat k 0 (by omega) (by omega) (by omega) (by omega)

theorem WordShifts : stereopsislaw01_WordShifts.Pure := by
  intro w a b _ _ _
  refine ⟨200, ?_⟩
  unfold stereopsislaw01_WordShifts.f
  rw [word_f w a (by omega), word_f w b (by omega)]
  simp only [Option.bind_some]
  by_cases ha : W8 w a
  · rw [if_pos (decide_eq_true ha)]
    by_cases hb : W8 w b
    · rw [decide_eq_true hb]
      exact shifts_j0 (by omega) ha hb
    · rw [decide_eq_false hb]
      exact awake_j0 (by omega) _ _ _
  · rw [if_neg (by simpa using ha)]
    exact awake_j0 (by omega) _ _ _

end Go.Proofs.Ytcbglmdnfipgnaa.Pure
