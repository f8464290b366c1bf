import Derived.Test.YtlidnionbofkaaaHF
import Derived.Test.YtlidnionbofkaaaA6
import Derived.Test.YtlidnionbofkaaaVW0
namespace Go.Proofs.Ytlidnionbofkaaa.Hm.V
open Go
set_option linter.all false
set_option maxRecDepth 100000
attribute [local irreducible] X XG S R D W Call CallG Upd Rds Rck Sees Res Cel CallP fnQ fnG
structure Vr where
  nm : List UInt8
  lv : Int
  cs : Int
  deriving DecidableEq
instance : Inhabited Vr := ⟨⟨[], 0, 0⟩⟩
def Vr.c (x : Vr) : List Value := [.string ⟨⟨x.nm⟩⟩, .int .i64 x.lv, .int .i64 x.cs]
abbrev Vrs (Z : Vw) (v : Value) (l : List Vr) : Prop := Fz Z 3 v (l.map Vr.c)
abbrev VrsL (Z : Vw) (v : Value) (l : List Vr) : Prop := FzL Z 3 v (l.map Vr.c)
def takenL : List (List UInt8) := [[119, 105, 100, 116, 104], [118, 97, 114], [105, 102], [101, 108, 115, 101], [119, 104, 105, 108, 101], [111, 117, 116], [112, 105, 99, 107], [110, 101, 101, 100], [109, 117, 115, 116], [108, 101, 118, 101, 108], [115, 101, 101, 115]]
def isLet (c : UInt8) : Bool := decide (97 ≤ c.toNat ∧ c.toNat ≤ 122)
def isDig (c : UInt8) : Bool := decide (48 ≤ c.toNat ∧ c.toNat ≤ 57)
def isNam (c : UInt8) : Bool := isLet c || isDig c || decide (c.toNat = 95)
def nameP (s : List UInt8) : Prop := 1 ≤ s.length ∧ s.length ≤ 12 ∧ isLet (s.getD 0 default) = true ∧ (∀ i, i < s.length → isNam (s.getD i default) = true) ∧ s ∉ takenL
def firstV (vs : List Vr) (v : Nat) : Int := (vs.take v).foldl (fun n x => n + x.cs) 0
theorem firstV_zero (vs : List Vr) : firstV vs 0 = 0 := rfl
theorem firstV_succ {vs : List Vr} {v : Nat} (h : v < vs.length) : firstV vs (v + 1) = firstV vs v + (vs.getD v default).cs := by
  unfold firstV
  rw [List.take_succ, List.getElem?_eq_getElem h, List.foldl_append, getD_eq h]; rfl
def varP (vs : List Vr) (i : Nat) : Prop := nameP (vs.getD i default).nm ∧ 0 ≤ (vs.getD i default).lv ∧ (vs.getD i default).lv ≤ 47 ∧ 1 ≤ (vs.getD i default).cs ∧ (vs.getD i default).cs ≤ 8 ∧ ∀ j, j < i → (vs.getD j default).nm ≠ (vs.getD i default).nm
def headP (w : Int) (vs : List Vr) : Prop := widP w ∧ 1 ≤ vs.length ∧ vs.length ≤ 18 ∧ (∀ i, i < vs.length → varP vs i) ∧ firstV vs vs.length ≤ 48
theorem firstV_le {vs : List Vr} : ∀ {v : Nat}, (∀ i, i < v → i < vs.length → varP vs i) → v ≤ vs.length → 0 ≤ firstV vs v ∧ firstV vs v ≤ 8 * v
  | 0, _, _ => by rw [firstV_zero]; omega
  | v + 1, h, hv => by
    obtain ⟨h1, h2⟩ := firstV_le (v := v) (fun i hi => h i (by omega)) (by omega)
    obtain ⟨_, _, _, h3, h4, _⟩ := h v (by omega) (by omega)
    rw [firstV_succ (by omega)]
    omega
end Go.Proofs.Ytlidnionbofkaaa.Hm.V
