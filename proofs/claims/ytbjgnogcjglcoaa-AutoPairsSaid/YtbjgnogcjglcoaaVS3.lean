import Derived.Test.YtbjgnogcjglcoaaHF
import Derived.Test.YtbjgnogcjglcoaaA6
import Derived.Test.YtbjgnogcjglcoaaVS2
namespace Go.Proofs.Ytbjgnogcjglcoaa.Hm.V
open Go
set_option linter.all false
set_option maxRecDepth 100000
attribute [local irreducible] X S R D W Call Upd Rds Rck Sees Res Cel CallP fnQ
def runW (a : Au) (w : List Int) : Nat := w.foldl (fun m c => stepTo a.ed m c) (setOf a.st)
theorem runW_take {a : Au} {w : List Int} {i : Nat} (h : i < w.length) : runW a (w.take (i + 1)) = stepTo a.ed (runW a (w.take i)) (w.getD i default) := foldl_take h
theorem isAuto_st {a : Au} (h : isAutoP a) : inSt a.st := fun i hi => by
  obtain ⟨h1, h2, _, _, _, h6, _⟩ := h
  obtain ⟨q1, q2, _⟩ := h6 i hi
  omega
theorem isAuto_en {a : Au} (h : isAutoP a) : inSt a.en := fun i hi => by
  obtain ⟨h1, h2, _, _, _, _, h6, _⟩ := h
  obtain ⟨q1, q2, _⟩ := h6 i hi
  omega
theorem isAuto_ed {a : Au} (h : isAutoP a) : inEd a.ed := fun i hi => by
  obtain ⟨h1, h2, _, _, _, _, _, h6⟩ := h
  obtain ⟨q1, q2, q3, q4, _⟩ := h6 i hi
  omega
end Go.Proofs.Ytbjgnogcjglcoaa.Hm.V
