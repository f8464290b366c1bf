/- slices.Sort on whole numbers: the library's own contract, at this seat (function 110). -/
import Derived.Shelf.Lay
import Derived.Ground.NamesProg
import Derived.Shelf.Sort.Plain
import Derived.Shelf.Slices.In.SortNone
import Derived.Test.YtbjgnogcjglcoaaChecked
import Derived.Test.YtbjgnogcjglcoaaSK8
namespace Go.Proofs
open Go Go.Shelf Go.RowKit Go.Sort
shelf_lay Lays.n189 Nm 189 at Try as Try.sortI
end Go.Proofs
namespace Go.Proofs.Ytbjgnogcjglcoaa.Hm
open Go Go.Shelf
set_option linter.all false
theorem sortI_none (p : Option Addr) (cap : Nat) (w : World) : Calls Try.prog 110 #[.slice p 0 cap] w fun e w' => e = .returned (.tuple #[]) ∧ w' = w := Any.slices_Sort_int_none Try.sortI p cap w
theorem sortI_calls (blk off cap : Nat) (zs : List Int) (w : World) (hH : Sort.Holds (Value.int .i64) w blk off zs.toArray) (hblk : blk < w.heap.size) (hsz : zs.length < 4611686018427387904) :
    Calls Try.prog 110 #[.slice (some ⟨blk, off, none⟩) zs.length cap] w fun e w' => e = .returned (.tuple #[]) ∧ ∃ n os, w' = Sort.grow (Sort.putRow (Value.int .i64) (Sort.ahead w n) blk off (zs.mergeSort leI).toArray) os :=
  Any.slices_Sort_int Try.sortI blk off cap zs w hH hblk hsz
theorem sortI_ok {hf : HFn} (hc : compFn Try.prog 110 = some hf) : PrimOK Try.prog 110 sortPI := sortPI_ok hc sortI_none sortI_calls
end Go.Proofs.Ytbjgnogcjglcoaa.Hm
