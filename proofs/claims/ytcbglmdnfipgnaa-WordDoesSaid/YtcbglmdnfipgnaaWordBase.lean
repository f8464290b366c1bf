/- Plain facts about whole numbers of at most 8 bits: masks, powers of two, bits. No program in sight; no condition but the ones each fact names. -/
import Derived.WalkKit
import Derived.Laws.BitsLemmas
import Derived.Test.YtcbglmdnfipgnaaWMore
namespace Go.Proofs.Ytcbglmdnfipgnaa.WordBase
open Go Go.RowKit Go.Proofs.YtcbglmdnfipgnaaW.PrintWords Go.Proofs.YtcbglmdnfipgnaaW.PrintLast Go.Proofs.YtcbglmdnfipgnaaW.PrintMore

theorem pow_pos_ (n : Nat) : (0 : Int) < 2 ^ n := by
  have : (2 : Int) ^ n = ((2 ^ n : Nat) : Int) := by simp
  rw [this]
  exact_mod_cast Nat.pow_pos (by decide)

theorem pow_le_ {m n : Nat} (h : m ≤ n) : (2 : Int) ^ m ≤ 2 ^ n := by
  have h1 : (2 : Int) ^ m = ((2 ^ m : Nat) : Int) := by simp
  have h2 : (2 : Int) ^ n = ((2 ^ n : Nat) : Int) := by simp
  rw [h1, h2]
  exact_mod_cast Nat.pow_le_pow_right (by decide) h

theorem wrap64_id {x : Int} (h0 : -9223372036854775808 ≤ x) (h1 : x < 9223372036854775808) : wrap64 x = x := by
  unfold wrap64
  omega

theorem wraps_i64 (n : Int) (h0 : 0 ≤ n) (h1 : n < 2 ^ 63) : IntKind.i64.wrap n = n := by
  rw [IntKind.wrap_i64]
  have : (2 : Int) ^ 63 = 9223372036854775808 := by decide
  omega

theorem and_nat (a b : Nat) (ha : a < 2 ^ 63) (hb : b < 2 ^ 63) : bits .and .i64 (a : Int) (b : Int) = ((a &&& b : Nat) : Int) :=
  (bits_nat .i64 63 (by decide) wraps_i64 a b ha hb).1

theorem or_nat (a b : Nat) (ha : a < 2 ^ 63) (hb : b < 2 ^ 63) : bits .or .i64 (a : Int) (b : Int) = ((a ||| b : Nat) : Int) :=
  (bits_nat .i64 63 (by decide) wraps_i64 a b ha hb).2

theorem mod64 (a : Nat) (ha : a < 2 ^ 63) : a % 2 ^ 64 = a := Nat.mod_eq_of_lt (Nat.lt_trans ha (by decide))

theorem cast63 (n : Nat) (h : n < 2 ^ 63) : ((n : Nat) : Int) < 2 ^ 63 := by exact_mod_cast h

theorem xor_nat (a b : Nat) (ha : a < 2 ^ 63) (hb : b < 2 ^ 63) : bits .xor .i64 (a : Int) (b : Int) = ((a ^^^ b : Nat) : Int) := by
  simp only [bits, BitVec.ofInt_natCast, BitVec.toNat_xor, BitVec.toNat_ofNat]
  rw [show IntKind.i64.bits = 64 from rfl, mod64 a ha, mod64 b hb]
  exact wraps_i64 _ (Int.natCast_nonneg _) (cast63 _ (Nat.xor_lt_two_pow ha hb))

theorem andNot_nat (a b : Nat) (ha : a < 2 ^ 63) (hb : b < 2 ^ 63) : bits .andNot .i64 (a : Int) (b : Int) = ((a &&& (2 ^ 64 - 1 - b) : Nat) : Int) := by
  simp only [bits, BitVec.ofInt_natCast, BitVec.toNat_and, BitVec.toNat_ofNat, BitVec.toNat_not]
  rw [show IntKind.i64.bits = 64 from rfl, mod64 a ha, mod64 b hb]
  exact wraps_i64 _ (Int.natCast_nonneg _) (cast63 _ (Nat.lt_of_le_of_lt Nat.and_le_left ha))

/-- A mask of w ones is a remainder, of whatever number. -/
theorem and_mask (x : Int) (w : Nat) (hw : w ≤ 62) : bits .and .i64 x (2 ^ w - 1) = x % 2 ^ w := by
  have hp : (2 : Nat) ^ w ≤ 2 ^ 62 := Nat.pow_le_pow_right (by decide) hw
  have h1 : (2 : Int) ^ w - 1 = ((2 ^ w - 1 : Nat) : Int) := by
    have : 0 < 2 ^ w := Nat.pow_pos (by decide)
    rw [Int.natCast_sub this]
    simp
  rw [h1]
  have h2 : 2 ^ w - 1 < 2 ^ 63 := by
    have : (2 : Nat) ^ 62 < 2 ^ 63 := by decide
    omega
  simp only [bits, BitVec.ofInt_natCast, BitVec.toNat_and, BitVec.toNat_ofNat, BitVec.toNat_ofInt]
  rw [show IntKind.i64.bits = 64 from rfl, mod64 _ h2, Nat.and_two_pow_sub_one_eq_mod]
  have h3 : ((x % ((2 ^ 64 : Nat) : Int)).toNat % 2 ^ w : Nat) = (x % 2 ^ w).toNat := by
    have hd : (2 : Int) ^ w ∣ ((2 ^ 64 : Nat) : Int) := by
      refine ⟨2 ^ (64 - w), ?_⟩
      rw [← Int.pow_add, show w + (64 - w) = 64 by omega]
      decide
    have h4 := Int.emod_emod_of_dvd x hd
    have h5 : 0 ≤ x % ((2 ^ 64 : Nat) : Int) := Int.emod_nonneg _ (by decide)
    have h6 : 0 ≤ x % (2 : Int) ^ w := Int.emod_nonneg _ (Int.ne_of_gt (pow_pos_ w))
    have h7 : (((x % ((2 ^ 64 : Nat) : Int)).toNat % 2 ^ w : Nat) : Int) = x % 2 ^ w := by
      rw [Int.natCast_emod, Int.toNat_of_nonneg h5]
      simpa using h4
    omega
  rw [h3]
  have h6 : 0 ≤ x % (2 : Int) ^ w := Int.emod_nonneg _ (Int.ne_of_gt (pow_pos_ w))
  have h8 : x % (2 : Int) ^ w < 2 ^ w := Int.emod_lt_of_pos _ (pow_pos_ w)
  have h9 : (2 : Int) ^ w ≤ 2 ^ 62 := pow_le_ hw
  have h10 : (2 : Int) ^ 62 < 2 ^ 63 := by decide
  rw [Int.toNat_of_nonneg h6]
  exact wraps_i64 _ h6 (by omega)

end Go.Proofs.Ytcbglmdnfipgnaa.WordBase
