/- Words, plainly. -/
import Derived.Test.YtlidnionbofkaaaHF
import Derived.Test.YtlidnionbofkaaaA6
namespace Go.Proofs.Ytlidnionbofkaaa.Hm.V
open Go
set_option linter.all false
set_option maxRecDepth 100000
attribute [local irreducible] X S R D W Call Upd Rds Rck Sees Res Cel CallP fnQ
/-! ### words -/
def widP (w : Int) : Prop := 1 ≤ w ∧ w ≤ 8
def wrdP (w a : Int) : Prop := 0 ≤ a ∧ a < 2 ^ w.toNat
def wdsP (w : Int) (l : List Int) : Prop := ∀ i, i < l.length → wrdP w (l.getD i default)
instance (w : Int) : Decidable (widP w) := by unfold widP; infer_instance
instance (w a : Int) : Decidable (wrdP w a) := by unfold wrdP; infer_instance
def IsOp (op : Int) : Prop := (2 ≤ op ∧ op ≤ 11) ∨ op = 13 ∨ op = 14
instance (op : Int) : Decidable (IsOp op) := by unfold IsOp; infer_instance
/-- What the operators do. -/
def doW (op w a b : Int) : Int :=
  if op = 2 then (a + b) % 2 ^ w.toNat
  else if op = 3 then (a - b) % 2 ^ w.toNat
  else if op = 4 then a * b % 2 ^ w.toNat
  else if op = 5 then (if b = 0 then 2 ^ w.toNat - 1 else a / b)
  else if op = 6 then (if b = 0 then a else a % b)
  else if op = 7 then ((a.toNat &&& b.toNat : Nat) : Int)
  else if op = 8 then ((a.toNat ||| b.toNat : Nat) : Int)
  else if op = 9 then ((a.toNat ^^^ b.toNat : Nat) : Int)
  else if op = 10 then (if w ≤ b then 0 else a * 2 ^ b.toNat % 2 ^ w.toNat)
  else if op = 11 then (if w ≤ b then 0 else a / 2 ^ b.toNat)
  else if op = 13 then (if a = b then 1 else 0)
  else (if a < b then 1 else 0)
theorem wrd_nat {w a : Int} (h : wrdP w a) : a.toNat < 2 ^ w.toNat := by
  have h2 := h.2
  rw [pow_nat] at h2
  have := h.1
  omega
theorem nat_wrd {w : Int} {n : Nat} (h : n < 2 ^ w.toNat) : wrdP w (n : Int) := ⟨Int.natCast_nonneg _, by rw [pow_nat]; exact_mod_cast h⟩
theorem wrd_ite {w x y : Int} {p : Prop} [Decidable p] (h1 : p → wrdP w x) (h2 : ¬ p → wrdP w y) : wrdP w (if p then x else y) := by
  by_cases h : p
  · rw [if_pos h]; exact h1 h
  · rw [if_neg h]; exact h2 h
theorem doW_wrd {op w a b : Int} (hw : widP w) (ha : wrdP w a) (hb : wrdP w b) : wrdP w (doW op w a b) := by
  have hp := pow_w hw.1 hw.2
  have hpos := pow_pos_ w.toNat
  have hm : ∀ x : Int, wrdP w (x % 2 ^ w.toNat) := fun x => ⟨Int.emod_nonneg _ (by omega), Int.emod_lt_of_pos _ hpos⟩
  obtain ⟨a0, a1⟩ := ha
  obtain ⟨b0, b1⟩ := hb
  have na := wrd_nat ⟨a0, a1⟩
  have nb := wrd_nat ⟨b0, b1⟩
  unfold doW
  repeat' (refine wrd_ite (fun _ => ?_) (fun _ => ?_))
  all_goals first
    | exact hm _
    | (unfold wrdP; omega)
    | exact nat_wrd (Nat.and_lt_two_pow _ nb)
    | exact nat_wrd (Nat.or_lt_two_pow na nb)
    | exact nat_wrd (Nat.xor_lt_two_pow na nb)
    | exact ⟨Int.ediv_nonneg a0 b0, Int.lt_of_le_of_lt (Int.ediv_le_self _ a0) a1⟩
    | (have q1 := Int.emod_nonneg a (b := b) (by omega)
       have q2 := Int.emod_lt_of_pos a (b := b) (by omega)
       unfold wrdP; omega)
    | exact ⟨Int.ediv_nonneg a0 (Int.le_of_lt (pow_pos_ _)), Int.lt_of_le_of_lt (Int.ediv_le_self _ a0) a1⟩
/-- The w lowest bits, one behind the other, make the word. -/
def bitI (a : Int) (i : Nat) : Int := a / 2 ^ i % 2
theorem bitI_01 (a : Int) (i : Nat) : bitI a i = 0 ∨ bitI a i = 1 := by unfold bitI; omega
theorem sum_bits {a : Int} (h0 : 0 ≤ a) : ∀ n : Nat, (List.range n).foldl (fun s i => s + bitI a i * 2 ^ i) 0 = a % 2 ^ n
  | 0 => by simp [Int.emod_one]
  | n + 1 => by
    rw [List.range_succ, List.foldl_append, sum_bits h0 n]
    simp only [List.foldl_cons, List.foldl_nil, bitI]
    rw [Int.pow_succ]
    have hp := pow_pos_ n
    have e : a / 2 ^ n / 2 = a / (2 ^ n * 2) := Int.ediv_ediv_of_nonneg (by omega)
    have h1 := Int.emod_add_mul_ediv a (2 ^ n)
    have h2 := Int.emod_add_mul_ediv (a / 2 ^ n) 2
    have h3 := Int.emod_add_mul_ediv a (2 ^ n * 2)
    rw [e] at h2
    generalize a / (2 ^ n * 2) = q at h2 h3
    generalize a % (2 ^ n * 2) = r at h3 ⊢
    generalize a / 2 ^ n % 2 = t at h2 ⊢
    generalize a / 2 ^ n = u at h1 h2
    generalize a % 2 ^ n = v at h1 ⊢
    generalize (2 : Int) ^ n = p at *
    subst h2
    rw [Int.mul_add, Int.mul_assoc] at *
    have : t * p = p * t := Int.mul_comm _ _
    have : p * (2 * q) = 2 * (p * q) := by rw [Int.mul_left_comm]
    omega
theorem bit_nat (x i : Nat) : bitI (x : Int) i = ((x / 2 ^ i % 2 : Nat) : Int) := by unfold bitI; rw [pow_nat]; simp
/-- A gate of two bits. -/
def gateI (op a b : Int) : Int := if op = 7 then a * b else if op = 8 then a + b - a * b else (a + b) % 2
theorem gate_bit {op : Int} (ho : op = 7 ∨ op = 8 ∨ op = 9) (w : Int) (x y i : Nat) : gateI op (bitI (x : Int) i) (bitI (y : Int) i) = bitI (doW op w (x : Int) (y : Int)) i := by
  rcases ho with rfl | rfl | rfl
  · have e : doW 7 w (x : Int) (y : Int) = ((x &&& y : Nat) : Int) := rfl
    rw [e, bit_nat, bit_nat, bit_nat, ← Nat.toNat_testBit, ← Nat.toNat_testBit, ← Nat.toNat_testBit, Nat.testBit_and]
    cases x.testBit i <;> cases y.testBit i <;> rfl
  · have e : doW 8 w (x : Int) (y : Int) = ((x ||| y : Nat) : Int) := rfl
    rw [e, bit_nat, bit_nat, bit_nat, ← Nat.toNat_testBit, ← Nat.toNat_testBit, ← Nat.toNat_testBit, Nat.testBit_or]
    cases x.testBit i <;> cases y.testBit i <;> rfl
  · have e : doW 9 w (x : Int) (y : Int) = ((x ^^^ y : Nat) : Int) := rfl
    rw [e, bit_nat, bit_nat, bit_nat, ← Nat.toNat_testBit, ← Nat.toNat_testBit, ← Nat.toNat_testBit, Nat.testBit_xor]
    cases x.testBit i <;> cases y.testBit i <;> rfl
theorem each_W {op w a b : Int} (ho : op = 7 ∨ op = 8 ∨ op = 9) (hw : widP w) (ha : wrdP w a) (hb : wrdP w b) : (List.range w.toNat).foldl (fun s i => s + gateI op (bitI a i) (bitI b i) * 2 ^ i) 0 = doW op w a b := by
  have hd := doW_wrd (op := op) hw ha hb
  have e1 : a = (a.toNat : Int) := (Int.toNat_of_nonneg ha.1).symm
  have e2 : b = (b.toNat : Int) := (Int.toNat_of_nonneg hb.1).symm
  have h2 := sum_bits hd.1 w.toNat
  rw [Int.emod_eq_of_lt hd.1 hd.2] at h2
  rw [← h2]
  congr 1
  funext s i
  rw [e1, e2, gate_bit ho w]
theorem not_W {w a : Int} (hw : widP w) (ha : wrdP w a) : (((2 ^ w.toNat - 1) &&& (2 ^ 64 - 1 - a.toNat) : Nat) : Int) = 2 ^ w.toNat - 1 - a := by
  have na := wrd_nat ha
  have hp : (2 : Nat) ^ w.toNat ≤ 2 ^ 8 := Nat.pow_le_pow_right (by decide) (by have := hw.2; omega)
  have e : (2 ^ w.toNat - 1) &&& (2 ^ 64 - 1 - a.toNat) = 2 ^ w.toNat - 1 - a.toNat := by
    rw [Nat.and_comm, Nat.and_two_pow_sub_one_eq_mod]
    have h1 : 2 ^ 64 - 1 - a.toNat = (2 ^ w.toNat - 1 - a.toNat) + 2 ^ w.toNat * (2 ^ (64 - w.toNat) - 1) := by
      have h3 : 2 ^ w.toNat * 2 ^ (64 - w.toNat) = 2 ^ 64 := by rw [← Nat.pow_add]; congr 1; have := hw.2; omega
      rw [Nat.mul_sub, h3, Nat.mul_one]
      have h4 : (2 : Nat) ^ 8 ≤ 2 ^ 64 := by decide
      omega
    rw [h1, Nat.add_mul_mod_self_left, Nat.mod_eq_of_lt (by omega)]
  rw [e, pow_nat]
  have := ha.1
  omega
end Go.Proofs.Ytlidnionbofkaaa.Hm.V
