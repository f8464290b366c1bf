import Derived.Test.YtlidnionbofkaaaHF
import Derived.Test.YtlidnionbofkaaaA6
namespace Go.Proofs.Ytlidnionbofkaaa.Hm.V
open Go
set_option linter.all false
set_option maxRecDepth 100000
attribute [local irreducible] X XG S R D W Call CallG Upd Rds Rck Sees Res Cel CallP fnQ fnG
def widP (w : Int) : Prop := 1 ≤ w ∧ w ≤ 8
def wrdP (w a : Int) : Prop := 0 ≤ a ∧ a < 2 ^ w.toNat
instance (w : Int) : Decidable (widP w) := by unfold widP; infer_instance
instance (w a : Int) : Decidable (wrdP w a) := by unfold wrdP; infer_instance
def IsOp (op : Int) : Prop := (2 ≤ op ∧ op ≤ 11) ∨ op = 13 ∨ op = 14
instance (op : Int) : Decidable (IsOp op) := by unfold IsOp; infer_instance
def doW (op w a b : Int) : Int :=
  if op = 2 then (a + b) % 2 ^ w.toNat
  else if op = 3 then (a - b) % 2 ^ w.toNat
  else if op = 4 then a * b % 2 ^ w.toNat
  else if op = 5 then (if b = 0 then 2 ^ w.toNat - 1 else a / b)
  else if op = 6 then (if b = 0 then a else a % b)
  else if op = 7 then ((a.toNat &&& b.toNat : Nat) : Int)
  else if op = 8 then ((a.toNat ||| b.toNat : Nat) : Int)
  else if op = 9 then ((a.toNat ^^^ b.toNat : Nat) : Int)
  else if op = 10 then (if w ≤ b then 0 else a * 2 ^ b.toNat % 2 ^ w.toNat)
  else if op = 11 then (if w ≤ b then 0 else a / 2 ^ b.toNat)
  else if op = 13 then (if a = b then 1 else 0)
  else (if a < b then 1 else 0)
end Go.Proofs.Ytlidnionbofkaaa.Hm.V
