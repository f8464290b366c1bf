/- slices.SortFunc on edges: the library's own contract, at this seat. (NOT BUILT: wants Derived.Shelf.SlSortCmp.NoneTotal compiled.) -/
import Derived.Test.YtbjgnogcjglcoaaSK4
import Derived.Test.YtbjgnogcjglcoaaSK1
import Derived.Shelf.SlSortCmp.NoneTotal
namespace Go.Proofs.Ytbjgnogcjglcoaa.Hm
open Go Go.Shelf
set_option linter.all false
theorem sortEd_none (p : Option Addr) (cap : Nat) (fv : Value) (w : World) : Calls Try.prog 111 #[.slice p 0 cap, fv] w fun e w' => e = .returned (.tuple #[]) ∧ w' = w :=
  AnyF.slices_SortFunc_none { Try.sortEd with } p cap fv w
theorem sortEd_calls (blk off cap : Nat) (d : Array FT) (w : World) (hH : Sort.HoldsK encT 3 w blk off d) (hblk : blk < w.heap.size) (hsz : d.size < 4611686018427387904) :
    Calls Try.prog 111 #[.slice (some ⟨blk, off, none⟩) d.size cap, .func (.func 53) #[] #[]] w fun e w' => e = .returned (.tuple #[]) ∧ ∃ n os, w' = Sort.grow (Sort.putRow id (Sort.ahead w n) blk off (Sort.flatK encT 3 (d.toList.mergeSort leT).toArray)) os :=
  AnyQ.slices_SortFunc_total Try.sortEd 3 Try.isAgg65 Try.sizeOf65 encT (fun _ => rfl) (fun x v hv => by simp [encT] at hv; rcases hv with rfl | rfl | rfl <;> rfl) cfT ltT_swo 53 #[] blk off cap d w
    (enters_of Try.func53 (by kernel_rfl) rfl) (fun _ _ _ _ x y => before_calls _ _ _ _ _ _ _) hH hblk hsz ltT_total
theorem sortEd_ok {hf : HFn} (hc : compFn Try.prog 111 = some hf) : PrimOK Try.prog 111 (sortP 53) := sortP_ok hc sortEd_none sortEd_calls
end Go.Proofs.Ytbjgnogcjglcoaa.Hm
