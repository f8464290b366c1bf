import Derived.Below
import Derived.Deep.Draws
import Derived.Deep.AppendLies
import Derived.Maps.AppendAt
import Derived.OwnWalk
import Derived.Laws.BytesArg
import Derived.Laws.MakeOwn
import Derived.Laws.OwnMore
import Derived.Deep.OwnRows
import Derived.Tactics
import Derived.Lib.ConvBytes
import Derived.Laws.Slices
import Derived.WalkKit
import Derived.KernelRfl
import Derived.RowKit3
import Derived.Deep.LoopGhost
import Derived.Deep.QuietTactic
import Derived.BigQuiet
import Derived.WideLaws
import Derived.Deep.DeepCutAuto
import Derived.Deep.CutBlock
import Derived.Deep.RegionHeld3
import Derived.Laws.Rows
import Derived.Lib.AppendStr
import Derived.ArgAppend
import Derived.Laws.IdiomCopy
import Derived.OrdersHeld
import Derived.Laws.BitsLemmas
import Derived.RowKit
import Derived.Shelf.SlicesG.Cmp
import Derived.Shelf.SlLaysF0
import Derived.Shelf.Lay
import Derived.Ground.SlsfProg
import Derived.Test.YtbjgnogcjglcoaaChecked
import Derived.Test.YtbjgnogcjglcoaaSA
import Derived.Sort.Grow
import Derived.Shelf.SlSortCmp.QuietGrown
import Derived.Shelf.SlSortCmp.NoneTotal
import Derived.Ground.NamesProg
import Derived.Shelf.Sort.Plain
import Derived.Shelf.Slices.In.SortNone
namespace Go.Proofs
open Go Go.Shelf Go.RowKit Go.Sort
shelf_lay_g SlLaysF0.n6 Slsf 6 at Try 111 as Try.sortEd
set_option maxHeartbeats 4000000 in
theorem before_calls (xf xl xt yf yl yt : Int) (W : World) : Calls Try.prog 53 #[.agg #[.int .i64 xf, .int .i64 xl, .int .i64 xt], .agg #[.int .i64 yf, .int .i64 yl, .int .i64 yt]] W fun e w' => e = .returned (.int .i64 (Ytbjgnogcjglcoaa.Hm.cfE xf xl xt yf yl yt)) ∧ ∃ q os', w' = grow (W.drewN q) os' := by
  go_enter Try.func53, Try.ntmps53
  go_wp2
  all_goals
    go_ret
    refine ⟨?_, 0, _, by rw [alloc_eq_grow, alloc_eq_grow, grow_grow]; rfl⟩
    simp_all [Ytbjgnogcjglcoaa.Hm.cfE]
end Go.Proofs
namespace Go.Proofs.Ytbjgnogcjglcoaa.Hm
open Go Go.Shelf
set_option linter.all false
theorem sortEd_none (p : Option Addr) (cap : Nat) (fv : Value) (w : World) : Calls Try.prog 111 #[.slice p 0 cap, fv] w fun e w' => e = .returned (.tuple #[]) ∧ w' = w :=
  AnyF.slices_SortFunc_none { Try.sortEd with } p cap fv w
theorem sortEd_calls (blk off cap : Nat) (d : Array FT) (w : World) (hH : Sort.HoldsK encT 3 w blk off d) (hblk : blk < w.heap.size) (hsz : d.size < 4611686018427387904) :
    Calls Try.prog 111 #[.slice (some ⟨blk, off, none⟩) d.size cap, .func (.func 53) #[] #[]] w fun e w' => e = .returned (.tuple #[]) ∧ ∃ n os, w' = Sort.grow (Sort.putRow id (Sort.ahead w n) blk off (Sort.flatK encT 3 (d.toList.mergeSort leT).toArray)) os :=
  AnyQ.slices_SortFunc_total Try.sortEd 3 Try.isAgg65 Try.sizeOf65 encT (fun _ => rfl) (fun x v hv => by simp [encT] at hv; rcases hv with rfl | rfl | rfl <;> rfl) cfT ltT_swo 53 #[] blk off cap d w
    (enters_of Try.func53 (by kernel_rfl) rfl) (fun _ _ _ _ x y => before_calls _ _ _ _ _ _ _) hH hblk hsz ltT_total
theorem sortEd_ok {hf : HFn} (hc : compFn Try.prog 111 = some hf) : PrimOK Try.prog 111 (sortP 53) := sortP_ok hc sortEd_none sortEd_calls
end Go.Proofs.Ytbjgnogcjglcoaa.Hm
namespace Go.Proofs
open Go Go.Shelf Go.RowKit Go.Sort
shelf_lay Lays.n189 Nm 189 at Try as Try.sortI
end Go.Proofs
namespace Go.Proofs.Ytbjgnogcjglcoaa.Hm
open Go Go.Shelf
set_option linter.all false
theorem sortI_none (p : Option Addr) (cap : Nat) (w : World) : Calls Try.prog 110 #[.slice p 0 cap] w fun e w' => e = .returned (.tuple #[]) ∧ w' = w := Any.slices_Sort_int_none Try.sortI p cap w
theorem sortI_calls (blk off cap : Nat) (zs : List Int) (w : World) (hH : Sort.Holds (Value.int .i64) w blk off zs.toArray) (hblk : blk < w.heap.size) (hsz : zs.length < 4611686018427387904) :
    Calls Try.prog 110 #[.slice (some ⟨blk, off, none⟩) zs.length cap] w fun e w' => e = .returned (.tuple #[]) ∧ ∃ n os, w' = Sort.grow (Sort.putRow (Value.int .i64) (Sort.ahead w n) blk off (zs.mergeSort leI).toArray) os :=
  Any.slices_Sort_int Try.sortI blk off cap zs w hH hblk hsz
theorem sortI_ok {hf : HFn} (hc : compFn Try.prog 110 = some hf) : PrimOK Try.prog 110 sortPI := sortPI_ok hc sortI_none sortI_calls
end Go.Proofs.Ytbjgnogcjglcoaa.Hm
