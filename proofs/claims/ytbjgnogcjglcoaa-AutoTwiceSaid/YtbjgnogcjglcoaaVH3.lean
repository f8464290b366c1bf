import Derived.Test.YtbjgnogcjglcoaaHF
import Derived.Test.YtbjgnogcjglcoaaA6
import Derived.Test.YtbjgnogcjglcoaaVH2
namespace Go.Proofs.Ytbjgnogcjglcoaa.Hm.V
open Go
set_option linter.all false
set_option maxRecDepth 100000
attribute [local irreducible] X S R D W Call Upd Rds Rck Sees Res Cel CallP fnQ
section
variable {F : Nat → Option HFn} {lo N : Nat} {A : Tab} {Z Z0 : Vw} {O : List Pt} {K : Value → Vw → List Pt → Prop} {x y : Operand} {v : Value} {e : Nat} {xs : List (List Value)}
theorem xNilZ [fz : FzL Z e v xs] (hx : evA A x = some v) (hy : evA A y = some (.slice none 0 0)) (kt : v = .slice none 0 0 → xs = [] → K (.bool true) Z O) (kf : K (.bool false) Z O) : X F lo (.eq false (.nil .slice) x y) N A Z O K := by
  rcases fz.out.out with ⟨h1, h2⟩ | ⟨b, o, s, c, cs, h1, _⟩
  · subst h1
    exact X_eq hx hy (t := true) rfl (kt rfl h2)
  · subst h1
    exact X_eq hx hy (t := false) rfl kf
end
end Go.Proofs.Ytbjgnogcjglcoaa.Hm.V
