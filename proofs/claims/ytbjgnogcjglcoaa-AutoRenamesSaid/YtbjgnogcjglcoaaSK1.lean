/- Of layer 27: the library sorts edges: its contract laid at slices.SortFunc[Edge] (function 111), and before (53), run. -/
import Derived.Below
import Derived.Deep.Draws
import Derived.Deep.AppendLies
import Derived.Maps.AppendAt
import Derived.OwnWalk
import Derived.Laws.BytesArg
import Derived.Laws.MakeOwn
import Derived.Laws.OwnMore
import Derived.Deep.OwnRows
import Derived.Tactics
import Derived.Lib.ConvBytes
import Derived.Laws.Slices
import Derived.WalkKit
import Derived.KernelRfl
import Derived.RowKit3
import Derived.Deep.LoopGhost
import Derived.Deep.QuietTactic
import Derived.BigQuiet
import Derived.WideLaws
import Derived.Deep.DeepCutAuto
import Derived.Deep.CutBlock
import Derived.Deep.RegionHeld3
import Derived.Laws.Rows
import Derived.Lib.AppendStr
import Derived.ArgAppend
import Derived.Laws.IdiomCopy
import Derived.OrdersHeld
import Derived.Laws.BitsLemmas
import Derived.RowKit
import Derived.Shelf.SlicesG.Cmp
import Derived.Shelf.SlLaysF0
import Derived.Shelf.Lay
import Derived.Ground.SlsfProg
import Derived.Test.YtbjgnogcjglcoaaChecked
import Derived.Test.YtbjgnogcjglcoaaSK2
import Derived.Sort.Grow
import Derived.Shelf.SlSortCmp.QuietGrown
import Derived.Tactics
import Derived.Deep.Draws
import Derived.Below
import Derived.Deep.OwnRows
namespace Go.Proofs
open Go Go.Shelf Go.RowKit Go.Sort
shelf_lay_g SlLaysF0.n6 Slsf 6 at Try 111 as Try.sortEd
set_option maxHeartbeats 4000000 in
theorem before_calls (xf xl xt yf yl yt : Int) (W : World) : Calls Try.prog 53 #[.agg #[.int .i64 xf, .int .i64 xl, .int .i64 xt], .agg #[.int .i64 yf, .int .i64 yl, .int .i64 yt]] W fun e w' => e = .returned (.int .i64 (Ytbjgnogcjglcoaa.Hm.cfE xf xl xt yf yl yt)) ∧ ∃ q os', w' = grow (W.drewN q) os' := by
  go_enter Try.func53, Try.ntmps53
  go_wp2
  all_goals
    go_ret
    refine ⟨?_, 0, _, by rw [alloc_eq_grow, alloc_eq_grow, grow_grow]; rfl⟩
    simp_all [Ytbjgnogcjglcoaa.Hm.cfE]
end Go.Proofs
