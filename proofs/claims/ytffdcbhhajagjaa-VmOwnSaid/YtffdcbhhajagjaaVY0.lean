/- Code's form, plainly. -/
import Derived.Test.YtffdcbhhajagjaaHF
import Derived.Test.YtffdcbhhajagjaaA6
import Derived.Test.YtffdcbhhajagjaaVM0
namespace Go.Proofs.Ytffdcbhhajagjaa.Hm.V
open Go
set_option linter.all false
set_option maxRecDepth 100000
attribute [local irreducible] X S R D W Call Upd Rds Rck Sees Res Cel CallP fnQ
theorem eqv_In (a b : In) : eqv (.cells 5 [(0, .int), (1, .int), (2, .int), (3, .int), (4, .int)]) (a.v) (b.v) = some (decide (a = b)) := by
  obtain ⟨a0, a1, a2, a3, a4⟩ := a
  obtain ⟨b0, b1, b2, b3, b4⟩ := b
  have hb : ∀ a b : Int, (a == b) = decide (a = b) := fun a b => rfl
  simp only [In.v, In.k, eqv, List.length_cons, List.length_nil, and_self, if_true, eqcells, List.getElem?_cons_zero, List.getElem?_cons_succ, veq0, hb]
  by_cases h0 : a0 = b0 <;> by_cases h1 : a1 = b1 <;> by_cases h2 : a2 = b2 <;> by_cases h3 : a3 = b3 <;> by_cases h4 : a4 = b4 <;> simp [h0, h1, h2, h3, h4]
instance : KeyE (.cells 5 [(0, .int), (1, .int), (2, .int), (3, .int), (4, .int)]) (fun a : In => a.v) where
  eq := eqv_In
  ok a := by simp [keyOk, veq0, In.v, In.k]
def shapeL (x : In) : List UInt8 :=
  if x.o = 0 then [114, 119, 48, 48] else if x.o = 1 then (if x.b = 12 then [114, 111, 114, 48] else [114, 111, 114, 114])
  else if x.o = 2 then [114, 114, 114, 114] else if x.o = 3 then [114, 118, 105, 48] else if x.o = 4 then [118, 105, 114, 48]
  else if x.o = 5 then [106, 48, 48, 48] else if x.o = 6 then [114, 106, 48, 48] else if x.o = 7 then [108, 114, 48, 48]
  else if x.o = 8 ∨ x.o = 9 ∨ x.o = 10 then [114, 48, 48, 48] else if x.o = 11 then [48, 48, 48, 48] else []
def fitsP (c : Cd) (k : UInt8) (n v : Int) : Prop :=
  (k.toNat = 114 ∧ regP n) ∨ (k.toNat = 119 ∧ wrdP c.w n) ∨ (k.toNat = 111 ∧ (IsOp n ∨ n = 12)) ∨ (k.toNat = 118 ∧ 0 ≤ n ∧ n < c.vs.length) ∨
  (k.toNat = 105 ∧ 0 ≤ n ∧ n ≤ 63 ∧ ((0 ≤ v ∧ v < c.vs.length ∧ 1 < cellsV' c v) ∨ n = 0)) ∨ (k.toNat = 106 ∧ placeP c n) ∨ (k.toNat = 108 ∧ 0 ≤ n ∧ n ≤ 47) ∨
  (k.toNat ≠ 114 ∧ k.toNat ≠ 119 ∧ k.toNat ≠ 111 ∧ k.toNat ≠ 118 ∧ k.toNat ≠ 105 ∧ k.toNat ≠ 106 ∧ k.toNat ≠ 108 ∧ n = 0)
def fldI (x : In) (i : Nat) : Int := if i = 0 then x.a else if i = 1 then x.b else if i = 2 then x.c else x.d
theorem fld_part (x : In) {i : Nat} (h : i < 4) : partOf (⟨[.int .i64 x.a, .int .i64 x.b, .int .i64 x.c, .int .i64 x.d]⟩ : Array Value).toList (((i : Nat) : Int).toNat * 1) none = some (.int .i64 (fldI x i)) := by
  match i, h with
  | 0, _ => rfl
  | 1, _ => rfl
  | 2, _ => rfl
  | 3, _ => rfl
def vOf (x : In) : Int := if x.o = 3 then x.b else x.a
theorem shapeL_len (x : In) : (shapeL x).length = 4 ∨ shapeL x = [] := by unfold shapeL; (repeat' split) <;> simp
theorem b114 : (114 : UInt8).toNat = 114 := rfl
theorem b119 : (119 : UInt8).toNat = 119 := rfl
theorem b111 : (111 : UInt8).toNat = 111 := rfl
theorem b118 : (118 : UInt8).toNat = 118 := rfl
theorem b105 : (105 : UInt8).toNat = 105 := rfl
theorem b106 : (106 : UInt8).toNat = 106 := rfl
theorem b108 : (108 : UInt8).toNat = 108 := rfl
theorem b48 : (48 : UInt8).toNat = 48 := rfl
theorem fits_r {c : Cd} {n v : Int} : fitsP c 114 n v ↔ regP n := by unfold fitsP; simp [b114]
theorem fits_w {c : Cd} {n v : Int} : fitsP c 119 n v ↔ wrdP c.w n := by unfold fitsP; simp [b119]
theorem fits_o {c : Cd} {n v : Int} : fitsP c 111 n v ↔ IsOp n ∨ n = 12 := by unfold fitsP; simp [b111]
theorem fits_v {c : Cd} {n v : Int} : fitsP c 118 n v ↔ 0 ≤ n ∧ n < c.vs.length := by unfold fitsP; simp [b118]
theorem fits_i {c : Cd} {n v : Int} : fitsP c 105 n v ↔ 0 ≤ n ∧ n ≤ 63 ∧ ((0 ≤ v ∧ v < c.vs.length ∧ 1 < cellsV' c v) ∨ n = 0) := by unfold fitsP; simp [b105]
theorem fits_j {c : Cd} {n v : Int} : fitsP c 106 n v ↔ placeP c n := by unfold fitsP; simp [b106]
theorem fits_l {c : Cd} {n v : Int} : fitsP c 108 n v ↔ 0 ≤ n ∧ n ≤ 47 := by unfold fitsP; simp [b108]
theorem fits_0 {c : Cd} {n v : Int} : fitsP c 48 n v ↔ n = 0 := by unfold fitsP; simp [b48]
def fineP (c : Cd) (x : In) : Prop := shapeL x ≠ [] ∧ ∀ i, i < 4 → fitsP c ((shapeL x).getD i default) (fldI x i) (vOf x)
theorem all4 {p : Nat → Prop} : (∀ i, i < 4 → p i) ↔ p 0 ∧ p 1 ∧ p 2 ∧ p 3 := by
  constructor
  · exact fun h => ⟨h 0 (by omega), h 1 (by omega), h 2 (by omega), h 3 (by omega)⟩
  · rintro ⟨h0, h1, h2, h3⟩ i hi
    match i, hi with
    | 0, _ => exact h0
    | 1, _ => exact h1
    | 2, _ => exact h2
    | 3, _ => exact h3
theorem fine_right {c : Cd} {x : In} : fineP c x ↔ rightP c x := by
  unfold fineP
  rw [all4]
  have hop : ∀ n : Int, IsOp n → n ≠ 12 := fun n h => by unfold IsOp at h; omega
  have h4 : x.o = 0 ∨ x.o = 1 ∨ x.o = 2 ∨ x.o = 3 ∨ x.o = 4 ∨ x.o = 5 ∨ x.o = 6 ∨ x.o = 7 ∨ x.o = 8 ∨ x.o = 9 ∨ x.o = 10 ∨ x.o = 11 ∨ (x.o < 0 ∨ 11 < x.o) := by omega
  rcases h4 with h | h | h | h | h | h | h | h | h | h | h | h | h
  · have e : shapeL x = [114, 119, 48, 48] := by simp [shapeL, h]
    simp [e, fldI, rightP, h, fits_r, fits_w, fits_0]
  · by_cases hb : x.b = 12
    · have e : shapeL x = [114, 111, 114, 48] := by simp [shapeL, h, hb]
      have : ¬ IsOp 12 := fun hh => hop _ hh rfl
      simp [e, fldI, rightP, h, hb, fits_r, fits_o, fits_0, this]
    · have e : shapeL x = [114, 111, 114, 114] := by simp [shapeL, h, hb]
      simp [e, fldI, rightP, h, hb, fits_r, fits_o]
      intro _
      exact ⟨fun ⟨b, c, d⟩ => ⟨c, b, d⟩, fun ⟨c, b, d⟩ => ⟨b, c, d⟩⟩
  · have e : shapeL x = [114, 114, 114, 114] := by simp [shapeL, h]
    simp [e, fldI, rightP, h, fits_r]
  · have e : shapeL x = [114, 118, 105, 48] := by simp [shapeL, h]
    simp [e, fldI, rightP, h, fits_r, fits_v, fits_i, fits_0, vOf, atP, regP]
    omega
  · have e : shapeL x = [118, 105, 114, 48] := by simp [shapeL, h]
    simp [e, fldI, rightP, h, fits_r, fits_v, fits_i, fits_0, vOf, atP, regP]
    omega
  · have e : shapeL x = [106, 48, 48, 48] := by simp [shapeL, h]
    simp [e, fldI, rightP, h, fits_j, fits_0]
  · have e : shapeL x = [114, 106, 48, 48] := by simp [shapeL, h]
    simp [e, fldI, rightP, h, fits_r, fits_j, fits_0]
  · have e : shapeL x = [108, 114, 48, 48] := by simp [shapeL, h]
    simp [e, fldI, rightP, h, fits_r, fits_l, fits_0, and_assoc]
  · have e : shapeL x = [114, 48, 48, 48] := by simp [shapeL, h]
    simp [e, fldI, rightP, h, fits_r, fits_0]
  · have e : shapeL x = [114, 48, 48, 48] := by simp [shapeL, h]
    simp [e, fldI, rightP, h, fits_r, fits_0]
  · have e : shapeL x = [114, 48, 48, 48] := by simp [shapeL, h]
    simp [e, fldI, rightP, h, fits_r, fits_0]
  · have e : shapeL x = [48, 48, 48, 48] := by simp [shapeL, h]
    simp [e, fldI, rightP, h, fits_0]
  · have e : shapeL x = [] := by
      unfold shapeL
      repeat (rw [if_neg (by omega)])
    simp only [e, ne_eq, not_true, false_and, false_iff]
    unfold rightP
    omega
end Go.Proofs.Ytffdcbhhajagjaa.Hm.V
