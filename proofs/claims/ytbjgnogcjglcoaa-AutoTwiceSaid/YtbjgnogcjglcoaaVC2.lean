import Derived.Test.YtbjgnogcjglcoaaHF
import Derived.Test.YtbjgnogcjglcoaaA6
import Derived.Test.YtbjgnogcjglcoaaVC1
namespace Go.Proofs.Ytbjgnogcjglcoaa.Hm.V
open Go
set_option linter.all false
set_option maxRecDepth 100000
attribute [local irreducible] X S R D W Call Upd Rds Rck Sees Res Cel CallP fnQ
theorem RowsZ.at {Z : Vw} {v : Value} {rows : List (List Int)} (h : RowsZ Z v rows) : ∃ ws : List Value, Fz Z 1 v (ws.map cV) ∧ ws.length = rows.length ∧ ∀ i, i < rows.length → Ints Z (ws.getD i default) (rows.getD i default) := by
  obtain ⟨ws, h1, h2, h3⟩ := h
  refine ⟨ws, h1, h2, fun i hi => ?_⟩
  have := h3 i hi
  rw [getD_eq (l := ws) (by omega)]
  rw [List.getD_eq_getElem?_getD, List.getElem?_eq_getElem (by omega)] at this
  exact this
theorem edsOf_take {rows : List (List Int)} {i : Nat} (h : i < rows.length) : edsOf (rows.take (i + 1)) = edsOf (rows.take i) ++ edsRow i (rows.getD i default) := by
  rw [List.take_succ, getD_at h]
  show edsOf (_ ++ [_]) = _
  rw [edsOf_snoc, List.length_take, Nat.min_eq_left (by omega)]
theorem edsRow_take {i j : Nat} {row : List Int} (h : j < row.length) : edsRow i (row.take (j + 1)) = edsRow i (row.take j) ++ [⟨(i : Int), (j : Int), row.getD j default⟩] := by
  rw [List.take_succ, getD_at h]
  show edsRow i (_ ++ [_]) = _
  rw [edsRow_snoc, List.length_take, Nat.min_eq_left (by omega)]
end Go.Proofs.Ytbjgnogcjglcoaa.Hm.V
