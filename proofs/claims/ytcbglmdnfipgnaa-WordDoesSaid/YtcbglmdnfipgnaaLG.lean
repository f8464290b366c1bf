/- The bits of words: each bit of and, or, xor and not; a word out of its bits. Plain Lean; each fact names its bounds. -/
import Derived.Test.YtcbglmdnfipgnaaLL
namespace Go.Proofs.Ytcbglmdnfipgnaa.L
open Go Go.RowKit Go.Proofs.Ytcbglmdnfipgnaa.P Go.Proofs.YtcbglmdnfipgnaaW.PrintWords Go.Proofs.YtcbglmdnfipgnaaW.PrintLast Go.Proofs.YtcbglmdnfipgnaaW.PrintMore Go.Proofs.Ytcbglmdnfipgnaa.WordBase

theorem cast_bit (z i : Nat) : ((z : Nat) : Int) / 2 ^ i % 2 = ((z / 2 ^ i % 2 : Nat) : Int) := by
  have : (2 : Int) ^ i = ((2 ^ i : Nat) : Int) := by simp
  rw [this]
  simp

theorem bit_and (x y i : Nat) : (x &&& y) / 2 ^ i % 2 = (x / 2 ^ i % 2) * (y / 2 ^ i % 2) := by
  rw [← Nat.toNat_testBit, ← Nat.toNat_testBit, ← Nat.toNat_testBit, Nat.testBit_and]
  cases x.testBit i <;> cases y.testBit i <;> rfl

theorem bit_or (x y i : Nat) : (x ||| y) / 2 ^ i % 2 = max (x / 2 ^ i % 2) (y / 2 ^ i % 2) := by
  rw [← Nat.toNat_testBit, ← Nat.toNat_testBit, ← Nat.toNat_testBit, Nat.testBit_or]
  cases x.testBit i <;> cases y.testBit i <;> rfl

theorem bit_xor (x y i : Nat) : (x ^^^ y) / 2 ^ i % 2 = (x / 2 ^ i % 2 + y / 2 ^ i % 2) % 2 := by
  rw [← Nat.toNat_testBit, ← Nat.toNat_testBit, ← Nat.toNat_testBit, Nat.testBit_xor]
  cases x.testBit i <;> cases y.testBit i <;> rfl

theorem bit_not {x n i : Nat} (hx : x < 2 ^ n) (hi : i < n) : (2 ^ n - 1 - x) / 2 ^ i % 2 = 1 - x / 2 ^ i % 2 := by
  rw [← Nat.toNat_testBit, ← Nat.toNat_testBit, show 2 ^ n - 1 - x = 2 ^ n - (x + 1) by omega, Nat.testBit_two_pow_sub_succ hx, decide_eq_true hi]
  cases x.testBit i <;> rfl

theorem getD_bits (a : Int) (n : Nat) : ∀ (d j : Nat), d ≤ n → j < d → (bitsFrom a n d).getD j 0 = a / 2 ^ (n - d + j) % 2 := by
  intro d
  induction d with
  | zero => intro j _ h; omega
  | succ d ih =>
    intro j hd hj
    simp only [bitsFrom]
    cases j with
    | zero => simp
    | succ j =>
      rw [List.getD_cons_succ, ih j (by omega) (by omega), show n - d + j = n - (d + 1) + (j + 1) by omega]

theorem rd_bits {a w i : Int} (h0 : 0 ≤ i) (hi : i < w) : rd (bitsFrom a w.toNat w.toNat) i = a / 2 ^ i.toNat % 2 := by
  unfold rd
  rw [getD_bits a w.toNat w.toNat i.toNat (Nat.le_refl _) (by omega), Nat.sub_self, Nat.zero_add]

/-- A word is what its bits come to. -/
theorem valS_bits (z : Int) (n : Nat) (h0 : 0 ≤ z) (h1 : z < 2 ^ n) : ∀ d, d ≤ n → valS (bitsFrom z n d) (n - d) = z / 2 ^ (n - d) * 2 ^ (n - d) := by
  intro d
  induction d with
  | zero =>
    intro _
    simp only [bitsFrom, valS, Nat.sub_zero]
    rw [Int.ediv_eq_zero_of_lt h0 h1, Int.zero_mul]
  | succ d ih =>
    intro hd
    simp only [bitsFrom, valS]
    rw [show n - (d + 1) + 1 = n - d by omega, ih (by omega), show n - d = (n - (d + 1)) + 1 by omega]
    generalize n - (d + 1) = m
    have hp := pow_pos_ m
    rw [Int.pow_succ, ← Int.ediv_ediv_of_nonneg (show (0 : Int) ≤ 2 ^ m by omega)]
    generalize z / 2 ^ m = q
    generalize (2 : Int) ^ m = p
    have hq : q = q % 2 + 2 * (q / 2) := by omega
    conv => rhs; rw [hq]
    rw [Int.add_mul, Int.mul_assoc 2 (q / 2) p, Int.mul_comm p 2, ← Int.mul_assoc, ← Int.mul_assoc, Int.mul_comm (q / 2) 2]

theorem valS_all {z : Int} {n : Nat} (h0 : 0 ≤ z) (h1 : z < 2 ^ n) : valS (bitsFrom z n n) 0 = z := by
  have := valS_bits z n h0 h1 n (Nat.le_refl _)
  rw [Nat.sub_self] at this
  rw [this]
  simp

theorem bits01 (z : Int) (n : Nat) : ∀ d, Bit01 (bitsFrom z n d) := by
  intro d
  induction d with
  | zero => intro x hx; simp [bitsFrom] at hx
  | succ d ih =>
    intro x hx
    rcases List.mem_cons.1 hx with rfl | h
    · omega
    · exact ih x h

end Go.Proofs.Ytcbglmdnfipgnaa.L
