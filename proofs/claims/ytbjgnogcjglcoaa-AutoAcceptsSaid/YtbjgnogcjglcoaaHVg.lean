/- Numbers in the logic with parts: quotients, bits; sets of numbers below 256 as four words. -/
import Derived.Test.YtbjgnogcjglcoaaHVe
import Derived.Laws.BitsLemmas
namespace Go.Proofs.Ytbjgnogcjglcoaa.Hm.V
open Go Go.Proofs.Ytbjgnogcjglcoaa.Hm
set_option linter.all false
/-! ### natural numbers told -/
class NI (a : Int) (x : outParam Nat) : Prop where
  out : a = (x : Int)
instance NI.cast {x : Nat} : NI (x : Int) x := ⟨rfl⟩
instance NI.lit {n : Nat} : NI (no_index (OfNat.ofNat n)) (OfNat.ofNat n : Nat) := ⟨rfl⟩
instance NI.zero : NI 0 0 := ⟨rfl⟩
instance NI.one : NI 1 1 := ⟨rfl⟩
theorem wrap_u64 {n : Int} (h1 : 0 ≤ n) (h2 : n < 18446744073709551616) : IntKind.u64.wrap n = n := by
  unfold IntKind.wrap
  simp [IntKind.bits, IntKind.signed]
  omega
/-! ### sets as four words -/
def wd (m i : Nat) : Nat := m / 2 ^ (64 * i) % 2 ^ 64
theorem wd_lt (m i : Nat) : wd m i < 2 ^ 64 := Nat.mod_lt _ (by decide)
/-- Below 2 ^ 64. -/
class BU (a : Nat) : Prop where
  out : a < 2 ^ 64
instance BU.wd {m i : Nat} : BU (V.wd m i) := ⟨wd_lt m i⟩
instance BU.shr {a s : Nat} [k : BU a] : BU (a >>> s) := ⟨Nat.lt_of_le_of_lt (by rw [Nat.shiftRight_eq_div_pow]; exact Nat.div_le_self _ _) k.out⟩
instance BU.and {a b : Nat} [k : BU a] : BU (a &&& b) := ⟨Nat.lt_of_le_of_lt Nat.and_le_left k.out⟩
instance BU.or {a b : Nat} [k : BU a] [k' : BU b] : BU (a ||| b) := ⟨Nat.or_lt_two_pow k.out k'.out⟩
instance BU.mod {a : Nat} : BU (a % 2 ^ 64) := ⟨Nat.mod_lt _ (by decide)⟩
instance BU.zero : BU 0 := ⟨by decide⟩
instance BU.one : BU 1 := ⟨by decide⟩
section
variable {F : Nat → Option HFn} {lo N : Nat} {A : Tab} {Z : Vw} {O : List Pt} {K : Value → Vw → List Pt → Prop} {x y : Operand}
theorem X_quoI {a c : Int} (hx : evA A x = some (.int .i64 a)) (hy : evA A y = some (.int .i64 c)) (h0 : 0 ≤ a) (h1 : a < 9223372036854775808) (hc : 0 < c) (k : K (.int .i64 (a / c)) Z O) : X F lo (.bin .quo x y) N A Z O K :=
  X_bin hx hy (v := .int .i64 (a / c)) (by
    have hc0 : c ≠ 0 := by omega
    have h2 : a.tdiv c = a / c := Int.tdiv_eq_ediv_of_nonneg h0
    have h3 : a / c ≤ a := Int.ediv_le_self _ h0
    have h4 : 0 ≤ a / c := Int.ediv_nonneg h0 (by omega)
    have : bin .quo (.int .i64 a) (.int .i64 c) = pureRun (Op.intDiv .quo .i64 a c) := by simp only [bin, ne_eq, not_true_eq_false, if_false]
    rw [this]
    simp only [Op.intDiv, hc0, if_false, h2]
    rw [wrap_i64 (by omega) (by omega)]; rfl) k
theorem X_remI {a c : Int} (hx : evA A x = some (.int .i64 a)) (hy : evA A y = some (.int .i64 c)) (h0 : 0 ≤ a) (hc : 0 < c) (k : K (.int .i64 (a % c)) Z O) : X F lo (.bin .rem x y) N A Z O K :=
  X_bin hx hy (v := .int .i64 (a % c)) (by
    have hc0 : c ≠ 0 := by omega
    have h2 : a.tmod c = a % c := Int.tmod_eq_emod_of_nonneg h0
    have : bin .rem (.int .i64 a) (.int .i64 c) = pureRun (Op.intDiv .rem .i64 a c) := by simp only [bin, ne_eq, not_true_eq_false, if_false]
    rw [this]
    simp only [Op.intDiv, hc0, if_false, h2]; rfl) k
theorem bits_u64 (a b : Nat) (ha : a < 2 ^ 64) (hb : b < 2 ^ 64) : bits .and .u64 (a : Int) (b : Int) = ((a &&& b : Nat) : Int) ∧ bits .or .u64 (a : Int) (b : Int) = ((a ||| b : Nat) : Int) :=
  bits_nat .u64 64 (by decide) (fun n h0 h1 => wrap_u64 h0 (by simpa using h1)) a b ha hb
theorem X_andU {ia ib : Int} {a b : Nat} [na : NI ia a] [nb : NI ib b] [ba : BU a] [bb : BU b] (hx : evA A x = some (.int .u64 ia)) (hy : evA A y = some (.int .u64 ib)) (k : K (.int .u64 ((a &&& b : Nat) : Int)) Z O) : X F lo (.bin .and x y) N A Z O K :=
  X_bin hx hy (v := .int .u64 ((a &&& b : Nat) : Int)) (by
    have : bin .and (.int .u64 ia) (.int .u64 ib) = some (.int .u64 (bits .and .u64 ia ib)) := rfl
    rw [this, na.out, nb.out, (bits_u64 a b ba.out bb.out).1]) k
theorem X_orU {ia ib : Int} {a b : Nat} [na : NI ia a] [nb : NI ib b] [ba : BU a] [bb : BU b] (hx : evA A x = some (.int .u64 ia)) (hy : evA A y = some (.int .u64 ib)) (k : K (.int .u64 ((a ||| b : Nat) : Int)) Z O) : X F lo (.bin .or x y) N A Z O K :=
  X_bin hx hy (v := .int .u64 ((a ||| b : Nat) : Int)) (by
    have : bin .or (.int .u64 ia) (.int .u64 ib) = some (.int .u64 (bits .or .u64 ia ib)) := rfl
    rw [this, na.out, nb.out, (bits_u64 a b ba.out bb.out).2]) k
theorem X_shrU {ia : Int} {a s0 : Nat} {yk : IntKind} {s : Int} [na : NI ia a] [ns : TN s s0] (hx : evA A x = some (.int .u64 ia)) (hy : evA A y = some (.int yk s)) (h0 : 0 ≤ s) (h1 : s < 64) (k : K (.int .u64 ((a >>> s0 : Nat) : Int)) Z O) : X F lo (.bin .shr x y) N A Z O K :=
  X_bin hx hy (v := .int .u64 ((a >>> s.toNat : Nat) : Int)) (by
    have : bin .shr (.int .u64 ia) (.int yk s) = pureRun (Op.shift .shr .u64 ia yk s) := rfl
    rw [this, na.out]
    have h2 : ¬ s < 0 := by omega
    have h3 : min s.toNat IntKind.u64.bits = s.toNat := by show min s.toNat 64 = s.toNat; omega
    simp only [Op.shift, h2, if_false, h3]
    have h4 : (a : Int).fdiv (2 ^ s.toNat) = ((a >>> s.toNat : Nat) : Int) := by
      rw [Nat.shiftRight_eq_div_pow, Int.fdiv_eq_ediv_of_nonneg _ (by exact_mod_cast Nat.zero_le _)]
      simp
    rw [h4]; rfl) (by rw [ns.out]; exact k)
theorem X_shlU {ia : Int} {a s0 : Nat} {yk : IntKind} {s : Int} [na : NI ia a] [ns : TN s s0] (hx : evA A x = some (.int .u64 ia)) (hy : evA A y = some (.int yk s)) (h0 : 0 ≤ s) (h1 : s < 64) (k : K (.int .u64 ((a <<< s0 % 2 ^ 64 : Nat) : Int)) Z O) : X F lo (.bin .shl x y) N A Z O K :=
  X_bin hx hy (v := .int .u64 ((a <<< s.toNat % 2 ^ 64 : Nat) : Int)) (by
    have : bin .shl (.int .u64 ia) (.int yk s) = pureRun (Op.shift .shl .u64 ia yk s) := rfl
    rw [this, na.out]
    have h2 : ¬ s < 0 := by omega
    have h3 : min s.toNat IntKind.u64.bits = s.toNat := by show min s.toNat 64 = s.toNat; omega
    simp only [Op.shift, h2, if_false, h3]
    have h4 : IntKind.u64.wrap ((a : Int) * 2 ^ s.toNat) = ((a <<< s.toNat % 2 ^ 64 : Nat) : Int) := by
      rw [Nat.shiftLeft_eq]
      unfold IntKind.wrap
      simp [IntKind.bits, IntKind.signed]
    rw [h4]; rfl) (by rw [ns.out]; exact k)
theorem X_convU {k' : IntKind} {n : Int} (hx : evA A x = some (.int k' n)) (h0 : 0 ≤ n) (h1 : n < 18446744073709551616) (k : K (.int .u64 n) Z O) : X F lo (.convI .u64 x) N A Z O K := X_conv hx (by rw [wrap_u64 h0 h1]; exact k)
end

def cW (m i : Nat) : Value := .int .u64 ((wd m i : Nat) : Int)
/-- The cells of a set, told as a number whose bits are its members. -/
def cS (m : Nat) : List Value := [cW m 0, cW m 1, cW m 2, cW m 3]
theorem wd_bit (m i k : Nat) : (wd m i).testBit k = (decide (k < 64) && m.testBit (64 * i + k)) := by
  unfold wd
  rw [Nat.testBit_mod_two_pow, Nat.testBit_div_two_pow]
  congr 2; omega
theorem cS_at {m j : Nat} (h : j < 4) : (cS m)[j]? = some (cW m j) := by
  match j, h with
  | 0, _ => rfl
  | 1, _ => rfl
  | 2, _ => rfl
  | 3, _ => rfl
theorem cS_at0 {m j : Nat} (h : j < 4) : (cS m)[0 + j * 1]? = some (cW m j) := by rw [Nat.zero_add, Nat.mul_one]; exact cS_at h
theorem cS_at1 {m j : Nat} (h : j < 4) : (cS m)[j * 1]? = some (cW m j) := by rw [Nat.mul_one]; exact cS_at h
instance SL.set {Z : Vw} {O : List Pt} {m : Nat} : SL Z O (cS m) := ⟨fun _ _ _ _ => by simp [cS, cW, sameL, same0]⟩
theorem has_bit {m n : Nat} : (wd m (n / 64) >>> (n % 64) &&& 1 = 1) ↔ m.testBit n = true := by
  have h1 : (wd m (n / 64)).testBit (n % 64) = m.testBit n := by
    rw [wd_bit]
    have : n % 64 < 64 := Nat.mod_lt _ (by decide)
    simp only [this, decide_true, Bool.true_and]
    congr 1; omega
  rw [← h1, Nat.testBit]
  rw [Nat.and_comm]
  have : 1 &&& wd m (n / 64) >>> (n % 64) = wd m (n / 64) >>> (n % 64) % 2 := by rw [Nat.and_comm, Nat.and_one_is_mod]
  rw [this]
  have := Nat.mod_lt (wd m (n / 64) >>> (n % 64)) (show 0 < 2 by decide)
  rcases Nat.mod_two_eq_zero_or_one (wd m (n / 64) >>> (n % 64)) with h | h <;> simp [h]
theorem wd_or {m m' i : Nat} : wd (m ||| m') i = wd m i ||| wd m' i := by
  apply Nat.eq_of_testBit_eq
  intro k
  simp only [Nat.testBit_or, wd_bit]
  cases decide (k < 64) <;> simp
theorem wd_and {m m' i : Nat} : wd (m &&& m') i = wd m i &&& wd m' i := by
  apply Nat.eq_of_testBit_eq
  intro k
  simp only [Nat.testBit_and, wd_bit]
  cases decide (k < 64) <;> simp
theorem wd_one {n i : Nat} : wd (1 <<< n) i = if i = n / 64 then 1 <<< (n % 64) % 2 ^ 64 else 0 := by
  apply Nat.eq_of_testBit_eq
  intro k
  rw [wd_bit, Nat.one_shiftLeft, Nat.testBit_two_pow]
  split
  · rename_i e
    rw [Nat.testBit_mod_two_pow, Nat.one_shiftLeft, Nat.testBit_two_pow]
    by_cases hk : k < 64
    · simp only [hk, decide_true, Bool.true_and]
      congr 1
      apply propext
      omega
    · simp [hk]
  · rename_i e
    rw [Nat.zero_testBit]
    by_cases hk : k < 64
    · simp only [hk, decide_true, Bool.true_and, decide_eq_false_iff_not]
      omega
    · simp [hk]
theorem cW_put (m n i : Nat) : cW (m ||| 1 <<< n) i = if i = n / 64 then .int .u64 ((wd m i ||| 1 <<< (n % 64) % 2 ^ 64 : Nat) : Int) else cW m i := by
  unfold cW
  rw [wd_or, wd_one]
  split
  · rfl
  · rw [Nat.or_zero]
/-- A set with one member more, written into its word. -/
theorem cS_put {m n : Nat} (h : n < 256) : (cS m).take (n / 64) ++ ([.int .u64 ((wd m (n / 64) ||| 1 <<< (n % 64) % 2 ^ 64 : Nat) : Int)] ++ (cS m).drop (n / 64 + 1)) = cS (m ||| 1 <<< n) := by
  have hq : n / 64 < 4 := by omega
  have e : ∀ i, cW (m ||| 1 <<< n) i = if i = n / 64 then .int .u64 ((wd m i ||| 1 <<< (n % 64) % 2 ^ 64 : Nat) : Int) else cW m i := cW_put m n
  unfold cS
  rw [e 0, e 1, e 2, e 3]
  rcases (by omega : n / 64 = 0 ∨ n / 64 = 1 ∨ n / 64 = 2 ∨ n / 64 = 3) with hh | hh | hh | hh <;> rw [hh] <;> simp
theorem lt_of_wd {m : Nat} (h : m < 2 ^ 256) (h0 : wd m 0 = 0) (h1 : wd m 1 = 0) (h2 : wd m 2 = 0) (h3 : wd m 3 = 0) : m = 0 := by
  apply Nat.eq_of_testBit_eq
  intro k
  rw [Nat.zero_testBit]
  by_cases hk : k < 256
  · have key : ∀ i, wd m i = 0 → k / 64 = i → m.testBit k = false := fun i hi e => by
      have := wd_bit m i (k % 64)
      rw [hi, Nat.zero_testBit] at this
      have h4 : k % 64 < 64 := Nat.mod_lt _ (by decide)
      have h5 : 64 * i + k % 64 = k := by omega
      rw [h5] at this
      simpa [h4] using this.symm
    rcases (by omega : k / 64 = 0 ∨ k / 64 = 1 ∨ k / 64 = 2 ∨ k / 64 = 3) with e | e | e | e
    · exact key 0 h0 e
    · exact key 1 h1 e
    · exact key 2 h2 e
    · exact key 3 h3 e
  · exact Nat.testBit_lt_two_pow (Nat.lt_of_lt_of_le h (Nat.pow_le_pow_right (by decide) (by omega)))
theorem wd_eq {m m' : Nat} (h : m < 2 ^ 256) (h' : m' < 2 ^ 256) (k : ∀ i, i < 4 → wd m i = wd m' i) : m = m' := by
  have hx : m ^^^ m' = 0 := by
    have hw : ∀ i, i < 4 → wd (m ^^^ m') i = 0 := fun i hi => by
      apply Nat.eq_of_testBit_eq
      intro j
      have e1 := wd_bit m i j
      have e2 := wd_bit m' i j
      rw [k i hi, e2] at e1
      rw [wd_bit, Nat.testBit_xor, Nat.zero_testBit]
      cases hj : decide (j < 64)
      · rfl
      · rw [hj] at e1
        simp only [Bool.true_and] at e1 ⊢
        rw [e1]; simp
    exact lt_of_wd (Nat.xor_lt_two_pow h h') (hw 0 (by omega)) (hw 1 (by omega)) (hw 2 (by omega)) (hw 3 (by omega))
  apply Nat.eq_of_testBit_eq
  intro j
  have := congrArg (·.testBit j) hx
  simp only [Nat.testBit_xor, Nat.zero_testBit] at this
  cases h1 : m.testBit j <;> cases h2 : m'.testBit j <;> simp_all
theorem cS_inj {m m' : Nat} (h : m < 2 ^ 256) (h' : m' < 2 ^ 256) (k : cS m = cS m') : m = m' := by
  simp only [cS, cW, List.cons.injEq, Value.int.injEq, true_and, and_true] at k
  refine wd_eq h h' fun i hi => ?_
  match i, hi with
  | 0, _ => exact_mod_cast k.1
  | 1, _ => exact_mod_cast k.2.1
  | 2, _ => exact_mod_cast k.2.2.1
  | 3, _ => exact_mod_cast k.2.2.2
theorem put_lt {m n : Nat} (h : m < 2 ^ 256) (hn : n < 256) : m ||| 1 <<< n < 2 ^ 256 := Nat.or_lt_two_pow h (by rw [Nat.one_shiftLeft]; exact Nat.pow_lt_pow_right (by decide) hn)
theorem put_bit {m n k : Nat} : (m ||| 1 <<< n).testBit k = (m.testBit k || decide (n = k)) := by rw [Nat.testBit_or, Nat.one_shiftLeft, Nat.testBit_two_pow]
theorem meets_iff {m m' : Nat} (h : m < 2 ^ 256) : (∃ i, i < 4 ∧ wd m i &&& wd m' i ≠ 0) ↔ m &&& m' ≠ 0 := by
  constructor
  · rintro ⟨i, hi, hne⟩ h0
    rw [← wd_and, h0] at hne
    exact hne (by simp [wd])
  · intro hne
    apply Classical.byContradiction
    intro hno
    have hz : ∀ i, i < 4 → wd (m &&& m') i = 0 := fun i hi => by
      rw [wd_and]
      exact Classical.byContradiction fun hn => hno ⟨i, hi, hn⟩
    exact hne (lt_of_wd (Nat.lt_of_le_of_lt Nat.and_le_left h) (hz 0 (by omega)) (hz 1 (by omega)) (hz 2 (by omega)) (hz 3 (by omega)))
section
variable {F : Nat → Option HFn} {lo N : Nat} {A : Tab} {Z : Vw} {O : List Pt} {K : Value → Vw → List Pt → Prop} {a y : Operand}
/-- The word of a set, written with one member more. -/
theorem xSset {m n b : Nat} {f : Pt → List Pt} {g : List Pt} [t : AtB O b (cS m) f g] (ha : evA A a = some (.pointer (some ⟨b, 0 + n / 64 * 1, none⟩))) (hx : evA A y = some (.int .u64 ((wd m (n / 64) ||| 1 <<< (n % 64) % 2 ^ 64 : Nat) : Int))) (hn : n < 256) (k : K undef Z (f (.box b (cS (m ||| 1 <<< n))))) : X F lo (.store 1 a y) N A Z O K := by
  rw [Nat.zero_add, Nat.mul_one] at ha
  exact X_storeB ha hx rfl rfl t.out (Nat.ble_eq_true_of_le (by show n / 64 + 1 ≤ 4; omega)) (cS_put hn) k
theorem xSsetA {n c k0 : Nat} {v : Value} {l : List Nat} {f : Pt → List Pt} {g : List Pt} [t : AtA O v 4 c (l.map cS) f g] (ha : evA A a = some (.pointer (some ⟨bb v, oo v + k0 * 4 + n / 64 * 1, none⟩))) (hx : evA A y = some (.int .u64 ((wd (l.getD k0 default) (n / 64) ||| 1 <<< (n % 64) % 2 ^ 64 : Nat) : Int))) (hk : k0 < l.length) (hn : n < 256)
    (k : K undef Z (f (.arr v 4 c ((l.set k0 (l.getD k0 default ||| 1 <<< n)).map cS)))) : X F lo (.store 1 a y) N A Z O K := by
  rw [Nat.mul_one] at ha
  refine X_storeArr ha hx rfl rfl t.out (map_at hk) (Nat.ble_eq_true_of_le (by omega)) ?_
  rw [cS_put hn, ← List.map_set]
  exact k
end
theorem cS_zero : cS 0 = [.int .u64 0, .int .u64 0, .int .u64 0, .int .u64 0] := by simp [cS, cW, wd]
end Go.Proofs.Ytbjgnogcjglcoaa.Hm.V
