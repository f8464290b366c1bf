import Derived.Test.YtbjgnogcjglcoaaHF
import Derived.Test.YtbjgnogcjglcoaaA6
import Derived.Test.YtbjgnogcjglcoaaVT3
namespace Go.Proofs.Ytbjgnogcjglcoaa.Hm.V
open Go
set_option linter.all false
set_option maxRecDepth 100000
attribute [local irreducible] X S R D W Call Upd Rds Rck Sees Res Cel CallP fnQ
def doneAu (x : Au) : Au := ⟨x.S, x.L, x.st, x.en, doneE x.ed⟩
structure rawAu (x : Au) : Prop where
  h0 : 0 ≤ x.S
  h1 : x.S ≤ 256
  h2 : 1 ≤ x.L
  h3 : x.L ≤ 1024
  st : risingP x.st x.S
  en : risingP x.en x.S
  ed : edsIn x.S x.L x.ed
theorem rawAu.okL {x : Au} (h : rawAu x) : okL x := okL_un h.h0 h.h1 h.h2 h.h3 h.st h.en h.ed
theorem rawAu.fine {x : Au} (h : rawAu x) : fines x.ed := h.ed.fine h.h1 h.h3
theorem rawAu.auto {x : Au} (h : rawAu x) (hn : (x.ed.length : Int) ≤ 200000) : isAutoP (doneAu x) := isAuto_done h.h0 h.h1 h.h2 h.h3 hn h.st h.en h.ed
end Go.Proofs.Ytbjgnogcjglcoaa.Hm.V
