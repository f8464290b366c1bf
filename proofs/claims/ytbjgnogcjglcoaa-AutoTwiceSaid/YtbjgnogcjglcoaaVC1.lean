import Derived.Test.YtbjgnogcjglcoaaHF
import Derived.Test.YtbjgnogcjglcoaaA6
import Derived.Test.YtbjgnogcjglcoaaVD5
namespace Go.Proofs.Ytbjgnogcjglcoaa.Hm.V
open Go
set_option linter.all false
set_option maxRecDepth 100000
attribute [local irreducible] X S R D W Call Upd Rds Rck Sees Res Cel CallP fnQ
def Many : Nat := 1152921504606846977
def incC (now acc : List Nat) (e : Ed) : List Nat := acc.set e.f.toNat (min (acc.getD e.f.toNat default + now.getD e.t.toNat default) Many)
def stepC (n : Nat) (eds : List Ed) (now : List Nat) : List Nat := eds.foldl (incC now) (List.replicate n 0)
def cntC (n : Nat) (eds : List Ed) (v0 : List Nat) : Nat → List Nat
  | 0 => v0
  | k + 1 => stepC n eds (cntC n eds v0 k)
def okV (n : Nat) (v : List Nat) : Prop := v.length = n ∧ ∀ i, i < n → v.getD i default ≤ Many
theorem okV.zero (n : Nat) : okV n (List.replicate n 0) := ⟨by simp, fun i hi => by rw [getD_eq (by simpa using hi)]; simp⟩
def putsC (n : Nat) (ks : List Int) : List Nat := ks.foldl (fun acc k => acc.set k.toNat 1) (List.replicate n 0)
def many (a : Au) (k : Nat) : Nat := (cntC a.S.toNat a.ed (putsC a.S.toNat a.en) k).getD 0 default
end Go.Proofs.Ytbjgnogcjglcoaa.Hm.V
