import Derived.Test.YtbjgnogcjglcoaaHF
import Derived.Test.YtbjgnogcjglcoaaA6
import Derived.Test.YtbjgnogcjglcoaaVC2
namespace Go.Proofs.Ytbjgnogcjglcoaa.Hm.V
open Go
set_option linter.all false
set_option maxRecDepth 100000
attribute [local irreducible] X S R D W Call Upd Rds Rck Sees Res Cel CallP fnQ
theorem RowsZ.le {Z Z' : Vw} {v : Value} {rows : List (List Int)} (h : RowsZ Z v rows) (hz : Z.le Z') : RowsZ Z' v rows := by
  obtain ⟨ws, h1, h2, h3⟩ := h
  exact ⟨ws, h1.le hz, h2, fun i hi => (h3 i hi).le hz⟩
end Go.Proofs.Ytbjgnogcjglcoaa.Hm.V
