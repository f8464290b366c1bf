import Derived.Test.YtlidnionbofkaaaHF
import Derived.Test.YtlidnionbofkaaaA6
import Derived.Test.YtlidnionbofkaaaVQ1
import Derived.Test.YtlidnionbofkaaaVE7
namespace Go.Proofs.Ytlidnionbofkaaa.Hm.V
open Go
set_option linter.all false
set_option maxRecDepth 100000
attribute [local irreducible] X XG S R D W Call CallG Upd Rds Rck Sees Res Cel CallP fnQ fnG
def dgV (c : UInt8) : Int := ((c.toNat + 208) % 256 : Nat)
theorem dgV_le (c : UInt8) : 0 ≤ dgV c ∧ dgV c ≤ 255 := by unfold dgV; omega
def numS (n : Int) (c : UInt8) : Int := if 10 * n + dgV c < 1099511627776 then 10 * n + dgV c else 1099511627776
def numP (t : Tok) : Int := t.foldl numS 0
theorem fold_le : ∀ (t : Tok) (n : Int), 0 ≤ n → n ≤ 1099511627776 → 0 ≤ t.foldl numS n ∧ t.foldl numS n ≤ 1099511627776
  | [], n, h0, h1 => ⟨h0, h1⟩
  | c :: t, n, h0, h1 => by
    have := dgV_le c
    rw [List.foldl_cons]
    refine fold_le t _ ?_ ?_ <;> (unfold numS; split <;> omega)
theorem numP_le (t : Tok) : 0 ≤ numP t ∧ numP t ≤ 1099511627776 := fold_le t 0 (by omega) (by omega)
theorem numP_take {t : Tok} {i : Nat} (h : i < t.length) : numP (t.take (i + 1)) = numS (numP (t.take i)) (t.getD i default) := by
  unfold numP
  rw [take_snoc h, List.foldl_append]; rfl
section
variable {F : Nat → Option HFn} {lo N : Nat} {A : Tab} {Z : Vw} {O : List Pt} {K : Value → Vw → List Pt → Prop}
theorem u8_wrap (n : Int) : IntKind.u8.wrap n = n % 256 := by
  unfold IntKind.wrap
  simp [IntKind.bits, IntKind.signed]
theorem X_sub48 {x : Operand} {y : Operand} {c : UInt8} (hx : evA A x = some (.int .u8 c.toNat)) (hy : evA A y = some (.int .u8 48)) (k : K (.int .u8 (dgV c)) Z O) : X F lo (.bin .sub x y) N A Z O K :=
  X_bin hx hy (v := .int .u8 (dgV c)) (by
    have : bin .sub (.int .u8 c.toNat) (.int .u8 48) = some (.int .u8 (IntKind.u8.wrap ((c.toNat : Int) - 48))) := rfl
    rw [this, u8_wrap]
    have e : ((c.toNat : Int) - 48) % 256 = dgV c := by
      unfold dgV
      have := c.toNat_lt
      omega
    rw [e]) k
theorem X_convD {k' : IntKind} {x : Operand} {c : UInt8} (hx : evA A x = some (.int k' (dgV c))) (k : K (.int .i64 (dgV c)) Z O) : X F lo (.convI .i64 x) N A Z O K :=
  X_convS hx (by have := dgV_le c; omega) (by have := dgV_le c; omega) k
end
def signV (op : Int) : Tok := ((signL.find? fun p => decide (p.2 = op)).map (·.1)).getD []
theorem opT_sign {i : Nat} (h0 : 2 ≤ i) (h1 : i < 15) (hs : signV i ≠ []) : opT (signV i) = some (i : Int) := by
  obtain ⟨j, rfl⟩ : ∃ j : Fin 13, i = j.val + 2 := ⟨⟨i - 2, by omega⟩, by simp; omega⟩
  revert hs
  have key : ∀ j : Fin 13, signV ((j.val + 2 : Nat) : Int) ≠ [] → opT (signV ((j.val + 2 : Nat) : Int)) = some ((j.val + 2 : Nat) : Int) := by decide
  exact key j
theorem opT_none {t : Tok} (h : ∀ i : Nat, 2 ≤ i → i < 15 → signV i = [] ∨ t ≠ signV i) : opT t = none := by
  unfold opT
  have hn : ∀ p ∈ signL, p.1 ≠ t := by
    intro p hp e
    have key : ∀ p ∈ signL, ∃ i : Fin 13, p.1 = signV ((i.val + 2 : Nat) : Int) ∧ p.1 ≠ [] := by decide
    obtain ⟨i, h1, h2⟩ := key p hp
    rcases h (i.val + 2) (by omega) (by omega) with h3 | h3
    · exact h2 (h1.trans h3)
    · exact h3 (e.symm.trans h1)
  rw [List.find?_eq_none.2 (fun p hp => by simpa using hn p hp)]
  rfl
theorem sign_64 (op : Int) : signV op ≠ [64] := by
  unfold signV
  cases e : signL.find? fun p => decide (p.2 = op) with
  | none => simp
  | some p =>
    have hm := List.mem_of_find?_eq_some e
    have key : ∀ p ∈ signL, p.1 ≠ [64] := by decide
    simpa using key p hm
theorem sign_63 (op : Int) : signV op ≠ [63] := by
  unfold signV
  cases e : signL.find? fun p => decide (p.2 = op) with
  | none => simp
  | some p =>
    have hm := List.mem_of_find?_eq_some e
    have key : ∀ p ∈ signL, p.1 ≠ [63] := by decide
    simpa using key p hm
theorem nameI_no {vs : List Vr} {t : Tok} (h : ∀ j, j < vs.length → (vs.getD j default).nm ≠ t) : nameI vs t = -1 := by
  unfold nameI
  have : vs.findIdx? (fun v => decide (v.nm = t)) = none := by
    rw [List.findIdx?_eq_none_iff]
    intro x hx
    obtain ⟨i, hi, rfl⟩ := List.getElem_of_mem hx
    have := h i hi
    rw [getD_eq hi] at this
    simpa using this
  rw [this]
theorem nameI_at {vs : List Vr} {t : Tok} {i : Nat} (hi : i < vs.length) (h : (vs.getD i default).nm = t) (hu : ∀ j, j < i → (vs.getD j default).nm ≠ t) : nameI vs t = i := by
  unfold nameI
  have : vs.findIdx? (fun v => decide (v.nm = t)) = some i := by
    rw [List.findIdx?_eq_some_iff_getElem]
    refine ⟨hi, by rw [getD_eq hi] at h; simpa using h, fun j hj => ?_⟩
    have := hu j hj
    rw [getD_eq (by omega)] at this
    simpa using this
  rw [this]
end Go.Proofs.Ytlidnionbofkaaa.Hm.V
