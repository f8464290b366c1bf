import Derived.Test.YtbjgnogcjglcoaaHF
import Derived.Test.YtbjgnogcjglcoaaA6
import Derived.Test.YtbjgnogcjglcoaaVD4
namespace Go.Proofs.Ytbjgnogcjglcoaa.Hm.V
open Go
set_option linter.all false
set_option maxRecDepth 100000
attribute [local irreducible] X S R D W Call Upd Rds Rck Sees Res Cel CallP fnQ
def wideR (n : Nat) (rows : List (List Int)) : Prop := ∀ r ∈ rows, r.length = n
structure TabOK (L : Int) (rows : List (List Int)) (en : List Bool) : Prop where
  pos : 1 ≤ rows.length
  len : rows.length ≤ 256
  enl : en.length = rows.length
  l1 : 1 ≤ L
  l2 : L ≤ 1024
  big : rows.length * L.toNat ≤ 200000
  wide : wideR L.toNat rows
  ins : ∀ r ∈ rows, ∀ x ∈ r, 0 ≤ x ∧ x < (rows.length : Int)
end Go.Proofs.Ytbjgnogcjglcoaa.Hm.V
