/- Small helps for contracts in the logic with parts. -/
import Derived.Test.YtbjgnogcjglcoaaHVc
namespace Go.Proofs.Ytbjgnogcjglcoaa.Hm.V
open Go Go.Proofs.Ytbjgnogcjglcoaa.Hm
set_option linter.all false
theorem toNat_pred (i : Nat) : ((i : Int) - 1).toNat = i - 1 := by omega
theorem toNat_succ (i : Nat) : ((i : Int) + 1).toNat = i + 1 := by omega
/-- Cells of numbers. -/
def cI (n : Int) : List Value := [.int .i64 n]
def cU (n : Nat) : List Value := [.int .u64 n]
def cB (b : Bool) : List Value := [.bool b]
def cV (v : Value) : List Value := [v]
abbrev Ints (Z : Vw) (v : Value) (l : List Int) : Prop := Fz Z 1 v (l.map cI)
abbrev Bools (Z : Vw) (v : Value) (l : List Bool) : Prop := Fz Z 1 v (l.map cB)
theorem getD_eq {α : Type} [Inhabited α] {l : List α} {k : Nat} (h : k < l.length) : l.getD k default = l[k] := by
  rw [List.getD_eq_getElem?_getD, List.getElem?_eq_getElem h]; rfl
theorem getD_at {α : Type} [Inhabited α] {l : List α} {k : Nat} (h : k < l.length) : l[k]? = some (l.getD k default) := by
  rw [getD_eq h, List.getElem?_eq_getElem h]
/-- What holds of a slice's length. -/
def maxL : Nat := 140737488351232
end Go.Proofs.Ytbjgnogcjglcoaa.Hm.V
