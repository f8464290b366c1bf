/-
  No cell of these rows narrows 'for every input' (looked for: loops, veiled, ifaces, maps, wideKeys, modest, calm, conditions, laid).
  DERIVED. THE GIVEN ROWS OF THIS SEAT. 5 by the template 'for every input the law returns true; each argument reads behind the call as it read before'; 0 by the template 'total and deterministic' (their statements: YtffdcbhhajagjaaTotals.lean).
  GIVEN WITH THE SEED: the statements are not yours to turn. If you find one false, say at which input.
  Laid BY PROGRAM, IN A SANDBOX (cutbox-rows.mjs): the forced cells as the released guide's own fill.sh prints them over the translation 19d7172ab31bd726… (all of the seat's roots in one cut). By AI agents, Wed Nov 11 2026. No macro, syntax, notation, axiom, sorry.
-/
import Derived.Test.YtffdcbhhajagjaaChecked
import GoSem.Claim
import GoSem.ClaimJoined
import GoSem.ClaimMapViews
import Derived.JoinedTies
import Derived.KernelRfl
namespace Go.Proofs.Ytffdcbhhajagjaa
/- THE CELL 'sum', in the pinned program and in every row, IS THE sha256 OF THE DUMP (.gsa) THAT YtffdcbhhajagjaaProg.lean LOADS. Nothing in Lean hashes anything: it is a label: what it is worth is what the hold of that sum in a sandbox is worth. -/
noncomputable def Try.pinned : Pinned := { name := "ytffdcbhhajagjaa", sum := "19d7172ab31bd7260f3e22f4e75bea592fea4b86648769b33394ef8fb863a28b", checked := Try.checked }
namespace Rows
def none {H : Type} : Left H := { results := [], args := [] }

/-- 'stereopsislaw09.VmRuns': WHATEVER THE INPUT: true; the input reads as it did. -/
def vmRunsSpec : ChangeSpec := { name := "vmRuns", fn := fun _ => fun
  | [d1, d2, d3] => { results := [.lit (.bool true)], args := [d1, d2, d3] }
  | _ => none }
def vmRunsRow : OpenClaim := { program := "ytffdcbhhajagjaa", sum := "19d7172ab31bd7260f3e22f4e75bea592fea4b86648769b33394ef8fb863a28b", func := "stereopsis/stereopsislaw09.VmRuns", spec := "vmRuns", unfollowed := true, recurses := true, plainKeys := false, apart := false }
def VmRunsSaid : Prop := vmRunsRow.holds Try.pinned (OpenSpec.ofChange vmRunsSpec)

/-- ITS FALSE NEIGHBOUR: 'it returns false'. Refute it at one input. -/
def vmRunsWrong : ChangeSpec := { name := "vmRuns", fn := fun _ => fun
  | [d1, d2, d3] => { results := [.lit (.bool false)], args := [d1, d2, d3] }
  | _ => none }
def VmRunsWrongFalsely : Prop := vmRunsRow.holds Try.pinned (OpenSpec.ofChange vmRunsWrong)

/-- 'stereopsislaw09.VmPlaces': WHATEVER THE INPUT: true; the input reads as it did. -/
def vmPlacesSpec : ChangeSpec := { name := "vmPlaces", fn := fun _ => fun
  | [d1, d2, d3] => { results := [.lit (.bool true)], args := [d1, d2, d3] }
  | _ => none }
def vmPlacesRow : OpenClaim := { program := "ytffdcbhhajagjaa", sum := "19d7172ab31bd7260f3e22f4e75bea592fea4b86648769b33394ef8fb863a28b", func := "stereopsis/stereopsislaw09.VmPlaces", spec := "vmPlaces", unfollowed := true, recurses := true, plainKeys := false, apart := false }
def VmPlacesSaid : Prop := vmPlacesRow.holds Try.pinned (OpenSpec.ofChange vmPlacesSpec)

/-- ITS FALSE NEIGHBOUR: 'it returns false'. Refute it at one input. -/
def vmPlacesWrong : ChangeSpec := { name := "vmPlaces", fn := fun _ => fun
  | [d1, d2, d3] => { results := [.lit (.bool false)], args := [d1, d2, d3] }
  | _ => none }
def VmPlacesWrongFalsely : Prop := vmPlacesRow.holds Try.pinned (OpenSpec.ofChange vmPlacesWrong)

/-- 'stereopsislaw09.VmFuel': WHATEVER THE INPUT: true; the input reads as it did. -/
def vmFuelSpec : ChangeSpec := { name := "vmFuel", fn := fun _ => fun
  | [d1, d2, d3, d4] => { results := [.lit (.bool true)], args := [d1, d2, d3, d4] }
  | _ => none }
def vmFuelRow : OpenClaim := { program := "ytffdcbhhajagjaa", sum := "19d7172ab31bd7260f3e22f4e75bea592fea4b86648769b33394ef8fb863a28b", func := "stereopsis/stereopsislaw09.VmFuel", spec := "vmFuel", unfollowed := true, recurses := true, plainKeys := false, apart := false }
def VmFuelSaid : Prop := vmFuelRow.holds Try.pinned (OpenSpec.ofChange vmFuelSpec)

/-- ITS FALSE NEIGHBOUR: 'it returns false'. Refute it at one input. -/
def vmFuelWrong : ChangeSpec := { name := "vmFuel", fn := fun _ => fun
  | [d1, d2, d3, d4] => { results := [.lit (.bool false)], args := [d1, d2, d3, d4] }
  | _ => none }
def VmFuelWrongFalsely : Prop := vmFuelRow.holds Try.pinned (OpenSpec.ofChange vmFuelWrong)

/-- 'stereopsislaw09.VmSeen': WHATEVER THE INPUT: true; the input reads as it did. -/
def vmSeenSpec : ChangeSpec := { name := "vmSeen", fn := fun _ => fun
  | [d1, d2, d3, d4] => { results := [.lit (.bool true)], args := [d1, d2, d3, d4] }
  | _ => none }
def vmSeenRow : OpenClaim := { program := "ytffdcbhhajagjaa", sum := "19d7172ab31bd7260f3e22f4e75bea592fea4b86648769b33394ef8fb863a28b", func := "stereopsis/stereopsislaw09.VmSeen", spec := "vmSeen", unfollowed := true, recurses := true, plainKeys := false, apart := false }
def VmSeenSaid : Prop := vmSeenRow.holds Try.pinned (OpenSpec.ofChange vmSeenSpec)

/-- ITS FALSE NEIGHBOUR: 'it returns false'. Refute it at one input. -/
def vmSeenWrong : ChangeSpec := { name := "vmSeen", fn := fun _ => fun
  | [d1, d2, d3, d4] => { results := [.lit (.bool false)], args := [d1, d2, d3, d4] }
  | _ => none }
def VmSeenWrongFalsely : Prop := vmSeenRow.holds Try.pinned (OpenSpec.ofChange vmSeenWrong)

/-- 'stereopsislaw09.VmOwn': WHATEVER THE INPUT: true; the input reads as it did. -/
def vmOwnSpec : ChangeSpec := { name := "vmOwn", fn := fun _ => fun
  | [d1, d2, d3] => { results := [.lit (.bool true)], args := [d1, d2, d3] }
  | _ => none }
def vmOwnRow : OpenClaim := { program := "ytffdcbhhajagjaa", sum := "19d7172ab31bd7260f3e22f4e75bea592fea4b86648769b33394ef8fb863a28b", func := "stereopsis/stereopsislaw09.VmOwn", spec := "vmOwn", unfollowed := true, recurses := true, plainKeys := false, apart := false }
def VmOwnSaid : Prop := vmOwnRow.holds Try.pinned (OpenSpec.ofChange vmOwnSpec)

/-- ITS FALSE NEIGHBOUR: 'it returns false'. Refute it at one input. -/
def vmOwnWrong : ChangeSpec := { name := "vmOwn", fn := fun _ => fun
  | [d1, d2, d3] => { results := [.lit (.bool false)], args := [d1, d2, d3] }
  | _ => none }
def VmOwnWrongFalsely : Prop := vmOwnRow.holds Try.pinned (OpenSpec.ofChange vmOwnWrong)

/- THE SECOND FORM. 'bulk': how many values and letters a reading holds, each counted each time it is reached (what is shared counts as often as it is met; a slice's spare places count too). A statement '..UptoSaid' is the law's where the arguments, and the package variables that the reading takes, are together of bulk at most 1048576: NARROWER than '..Said'. Prove '..Said' where nothing that the law and all that it calls make is longer than what came in: it says more and counts as full. Else prove '..UptoSaid'. A law counts once. -/
mutual
def uptoBulk {H : Type} : DataW H → Nat
  | .lit (.string bytes) => bytes.length + 1
  | .lit _ => 1
  | .nil => 1
  | .ptr d => uptoBulk d + 1
  | .slice elems spare => uptoBulkAll elems + uptoBulkAll spare + 1
  | .agg parts => uptoBulkAll parts + 1
  | .iface _ d => uptoBulk d + 1
  | .map entries => uptoBulkEntries entries + 1
  | .held _ => 1
def uptoBulkAll {H : Type} : List (DataW H) → Nat
  | [] => 0
  | d :: r => uptoBulk d + uptoBulkAll r
def uptoBulkEntries {H : Type} : List (Lit × DataW H) → Nat
  | [] => 0
  | x :: r => uptoBulkEntry x + uptoBulkEntries r
def uptoBulkEntry {H : Type} : Lit × DataW H → Nat
  | (.string bytes, d) => bytes.length + uptoBulk d + 1
  | (_, d) => uptoBulk d + 1
 end
def uptoSmall : (H : Type) → List (DataW H) → Bool := fun _ ds => decide (uptoBulkAll ds ≤ 1048576)
def OpenSpec.upto (s : _root_.Go.ChangeSpec) : _root_.Go.OpenSpec := { _root_.Go.OpenSpec.ofChange s with cond := some uptoSmall }

/-- 'stereopsislaw09.VmRuns', WHERE WHAT IT READS IS OF BULK AT MOST 1048576: true; the input reads as it did. -/
def vmRunsUptoRow : OpenClaim := { program := "ytffdcbhhajagjaa", sum := "19d7172ab31bd7260f3e22f4e75bea592fea4b86648769b33394ef8fb863a28b", func := "stereopsis/stereopsislaw09.VmRuns", spec := "vmRuns", unfollowed := true, recurses := true, plainKeys := false, apart := false, narrowed := true }
def VmRunsUptoSaid : Prop := vmRunsUptoRow.holds Try.pinned (OpenSpec.upto vmRunsSpec)

/-- 'stereopsislaw09.VmPlaces', WHERE WHAT IT READS IS OF BULK AT MOST 1048576: true; the input reads as it did. -/
def vmPlacesUptoRow : OpenClaim := { program := "ytffdcbhhajagjaa", sum := "19d7172ab31bd7260f3e22f4e75bea592fea4b86648769b33394ef8fb863a28b", func := "stereopsis/stereopsislaw09.VmPlaces", spec := "vmPlaces", unfollowed := true, recurses := true, plainKeys := false, apart := false, narrowed := true }
def VmPlacesUptoSaid : Prop := vmPlacesUptoRow.holds Try.pinned (OpenSpec.upto vmPlacesSpec)

/-- 'stereopsislaw09.VmFuel', WHERE WHAT IT READS IS OF BULK AT MOST 1048576: true; the input reads as it did. -/
def vmFuelUptoRow : OpenClaim := { program := "ytffdcbhhajagjaa", sum := "19d7172ab31bd7260f3e22f4e75bea592fea4b86648769b33394ef8fb863a28b", func := "stereopsis/stereopsislaw09.VmFuel", spec := "vmFuel", unfollowed := true, recurses := true, plainKeys := false, apart := false, narrowed := true }
def VmFuelUptoSaid : Prop := vmFuelUptoRow.holds Try.pinned (OpenSpec.upto vmFuelSpec)

/-- 'stereopsislaw09.VmSeen', WHERE WHAT IT READS IS OF BULK AT MOST 1048576: true; the input reads as it did. -/
def vmSeenUptoRow : OpenClaim := { program := "ytffdcbhhajagjaa", sum := "19d7172ab31bd7260f3e22f4e75bea592fea4b86648769b33394ef8fb863a28b", func := "stereopsis/stereopsislaw09.VmSeen", spec := "vmSeen", unfollowed := true, recurses := true, plainKeys := false, apart := false, narrowed := true }
def VmSeenUptoSaid : Prop := vmSeenUptoRow.holds Try.pinned (OpenSpec.upto vmSeenSpec)

/-- 'stereopsislaw09.VmOwn', WHERE WHAT IT READS IS OF BULK AT MOST 1048576: true; the input reads as it did. -/
def vmOwnUptoRow : OpenClaim := { program := "ytffdcbhhajagjaa", sum := "19d7172ab31bd7260f3e22f4e75bea592fea4b86648769b33394ef8fb863a28b", func := "stereopsis/stereopsislaw09.VmOwn", spec := "vmOwn", unfollowed := true, recurses := true, plainKeys := false, apart := false, narrowed := true }
def VmOwnUptoSaid : Prop := vmOwnUptoRow.holds Try.pinned (OpenSpec.upto vmOwnSpec)

end Rows
end Go.Proofs.Ytffdcbhhajagjaa
