import Derived.Test.YtbjgnogcjglcoaaHF
import Derived.Test.YtbjgnogcjglcoaaA6
import Derived.Test.YtbjgnogcjglcoaaVC1
namespace Go.Proofs.Ytbjgnogcjglcoaa.Hm.V
open Go
set_option linter.all false
set_option maxRecDepth 100000
attribute [local irreducible] X S R D W Call Upd Rds Rck Sees Res Cel CallP fnQ
theorem RowsZ.at {Z : Vw} {v : Value} {rows : List (List Int)} (h : RowsZ Z v rows) : ∃ ws : List Value, Fz Z 1 v (ws.map cV) ∧ ws.length = rows.length ∧ ∀ i, i < rows.length → Ints Z (ws.getD i default) (rows.getD i default) := by
  obtain ⟨ws, h1, h2, h3⟩ := h
  refine ⟨ws, h1, h2, fun i hi => ?_⟩
  have := h3 i hi
  rw [getD_eq (l := ws) (by omega)]
  rw [List.getD_eq_getElem?_getD, List.getElem?_eq_getElem (by omega)] at this
  exact this
end Go.Proofs.Ytbjgnogcjglcoaa.Hm.V
