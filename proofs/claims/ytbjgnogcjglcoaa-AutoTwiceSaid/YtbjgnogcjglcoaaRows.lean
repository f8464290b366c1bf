/-
  No cell of these rows narrows 'for every input' (looked for: loops, veiled, ifaces, maps, wideKeys, modest, calm, conditions, laid).
  DERIVED. THE GIVEN ROWS OF THIS SEAT. 15 by the template 'for every input the law returns true; each argument reads behind the call as it read before'; 0 by the template 'total and deterministic' (their statements: YtbjgnogcjglcoaaTotals.lean).
  GIVEN WITH THE SEED: the statements are not yours to turn. If you find one false, say at which input.
  Laid BY PROGRAM, IN A SANDBOX (cutbox-rows.mjs): the forced cells as the released guide's own fill.sh prints them over the translation 38a4d0c69f442a7d… (all of the seat's roots in one cut). By AI agents, Wed Nov 11 2026. No macro, syntax, notation, axiom, sorry.
-/
import Derived.Test.YtbjgnogcjglcoaaChecked
import GoSem.Claim
import GoSem.ClaimJoined
import GoSem.ClaimMapViews
import Derived.JoinedTies
import Derived.KernelRfl
namespace Go.Proofs.Ytbjgnogcjglcoaa
/- THE CELL 'sum', in the pinned program and in every row, IS THE sha256 OF THE DUMP (.gsa) THAT YtbjgnogcjglcoaaProg.lean LOADS. Nothing in Lean hashes anything: it is a label: what it is worth is what the hold of that sum in a sandbox is worth. -/
noncomputable def Try.pinned : Pinned := { name := "ytbjgnogcjglcoaa", sum := "38a4d0c69f442a7d88601dc5589ce6281b570763c76c4fb45ce693a707d1e0b8", checked := Try.checked }
namespace Rows
def none {H : Type} : Left H := { results := [], args := [] }

/-- 'stereopsislaw27.AutoForms': WHATEVER THE INPUT: true; the input reads as it did. -/
def autoFormsSpec : ChangeSpec := { name := "autoForms", fn := fun _ => fun
  | [d] => { results := [.lit (.bool true)], args := [d] }
  | _ => none }
def autoFormsRow : OpenClaim := { program := "ytbjgnogcjglcoaa", sum := "38a4d0c69f442a7d88601dc5589ce6281b570763c76c4fb45ce693a707d1e0b8", func := "stereopsis/stereopsislaw27.AutoForms", spec := "autoForms", inPlace := ["math/bits.Add64"], plainKeys := false, apart := false }
def AutoFormsSaid : Prop := autoFormsRow.holds Try.pinned (OpenSpec.ofChange autoFormsSpec)

/-- ITS FALSE NEIGHBOUR: 'it returns false'. Refute it at one input. -/
def autoFormsWrong : ChangeSpec := { name := "autoForms", fn := fun _ => fun
  | [d] => { results := [.lit (.bool false)], args := [d] }
  | _ => none }
def AutoFormsWrongFalsely : Prop := autoFormsRow.holds Try.pinned (OpenSpec.ofChange autoFormsWrong)

/-- 'stereopsislaw27.AutoAccepts': WHATEVER THE INPUT: true; the input reads as it did. -/
def autoAcceptsSpec : ChangeSpec := { name := "autoAccepts", fn := fun _ => fun
  | [d1, d2] => { results := [.lit (.bool true)], args := [d1, d2] }
  | _ => none }
def autoAcceptsRow : OpenClaim := { program := "ytbjgnogcjglcoaa", sum := "38a4d0c69f442a7d88601dc5589ce6281b570763c76c4fb45ce693a707d1e0b8", func := "stereopsis/stereopsislaw27.AutoAccepts", spec := "autoAccepts", inPlace := ["math/bits.Add64"], plainKeys := false, apart := false }
def AutoAcceptsSaid : Prop := autoAcceptsRow.holds Try.pinned (OpenSpec.ofChange autoAcceptsSpec)

/-- ITS FALSE NEIGHBOUR: 'it returns false'. Refute it at one input. -/
def autoAcceptsWrong : ChangeSpec := { name := "autoAccepts", fn := fun _ => fun
  | [d1, d2] => { results := [.lit (.bool false)], args := [d1, d2] }
  | _ => none }
def AutoAcceptsWrongFalsely : Prop := autoAcceptsRow.holds Try.pinned (OpenSpec.ofChange autoAcceptsWrong)

/-- 'stereopsislaw27.AutoLeast': WHATEVER THE INPUT: true; the input reads as it did. -/
def autoLeastSpec : ChangeSpec := { name := "autoLeast", fn := fun _ => fun
  | [d] => { results := [.lit (.bool true)], args := [d] }
  | _ => none }
def autoLeastRow : OpenClaim := { program := "ytbjgnogcjglcoaa", sum := "38a4d0c69f442a7d88601dc5589ce6281b570763c76c4fb45ce693a707d1e0b8", func := "stereopsis/stereopsislaw27.AutoLeast", spec := "autoLeast", inPlace := ["math/bits.Add64"], plainKeys := false, apart := false }
def AutoLeastSaid : Prop := autoLeastRow.holds Try.pinned (OpenSpec.ofChange autoLeastSpec)

/-- ITS FALSE NEIGHBOUR: 'it returns false'. Refute it at one input. -/
def autoLeastWrong : ChangeSpec := { name := "autoLeast", fn := fun _ => fun
  | [d] => { results := [.lit (.bool false)], args := [d] }
  | _ => none }
def AutoLeastWrongFalsely : Prop := autoLeastRow.holds Try.pinned (OpenSpec.ofChange autoLeastWrong)

/-- 'stereopsislaw27.AutoCounts': WHATEVER THE INPUT: true; the input reads as it did. -/
def autoCountsSpec : ChangeSpec := { name := "autoCounts", fn := fun _ => fun
  | [d1, d2] => { results := [.lit (.bool true)], args := [d1, d2] }
  | _ => none }
def autoCountsRow : OpenClaim := { program := "ytbjgnogcjglcoaa", sum := "38a4d0c69f442a7d88601dc5589ce6281b570763c76c4fb45ce693a707d1e0b8", func := "stereopsis/stereopsislaw27.AutoCounts", spec := "autoCounts", inPlace := ["math/bits.Add64"], plainKeys := false, apart := false }
def AutoCountsSaid : Prop := autoCountsRow.holds Try.pinned (OpenSpec.ofChange autoCountsSpec)

/-- ITS FALSE NEIGHBOUR: 'it returns false'. Refute it at one input. -/
def autoCountsWrong : ChangeSpec := { name := "autoCounts", fn := fun _ => fun
  | [d1, d2] => { results := [.lit (.bool false)], args := [d1, d2] }
  | _ => none }
def AutoCountsWrongFalsely : Prop := autoCountsRow.holds Try.pinned (OpenSpec.ofChange autoCountsWrong)

/-- 'stereopsislaw27.AutoNots': WHATEVER THE INPUT: true; the input reads as it did. -/
def autoNotsSpec : ChangeSpec := { name := "autoNots", fn := fun _ => fun
  | [d] => { results := [.lit (.bool true)], args := [d] }
  | _ => none }
def autoNotsRow : OpenClaim := { program := "ytbjgnogcjglcoaa", sum := "38a4d0c69f442a7d88601dc5589ce6281b570763c76c4fb45ce693a707d1e0b8", func := "stereopsis/stereopsislaw27.AutoNots", spec := "autoNots", inPlace := ["math/bits.Add64"], plainKeys := false, apart := false }
def AutoNotsSaid : Prop := autoNotsRow.holds Try.pinned (OpenSpec.ofChange autoNotsSpec)

/-- ITS FALSE NEIGHBOUR: 'it returns false'. Refute it at one input. -/
def autoNotsWrong : ChangeSpec := { name := "autoNots", fn := fun _ => fun
  | [d] => { results := [.lit (.bool false)], args := [d] }
  | _ => none }
def AutoNotsWrongFalsely : Prop := autoNotsRow.holds Try.pinned (OpenSpec.ofChange autoNotsWrong)

/-- 'stereopsislaw27.AutoShorts': WHATEVER THE INPUT: true; the input reads as it did. -/
def autoShortsSpec : ChangeSpec := { name := "autoShorts", fn := fun _ => fun
  | [d1, d2] => { results := [.lit (.bool true)], args := [d1, d2] }
  | _ => none }
def autoShortsRow : OpenClaim := { program := "ytbjgnogcjglcoaa", sum := "38a4d0c69f442a7d88601dc5589ce6281b570763c76c4fb45ce693a707d1e0b8", func := "stereopsis/stereopsislaw27.AutoShorts", spec := "autoShorts", inPlace := ["math/bits.Add64"], plainKeys := false, apart := false }
def AutoShortsSaid : Prop := autoShortsRow.holds Try.pinned (OpenSpec.ofChange autoShortsSpec)

/-- ITS FALSE NEIGHBOUR: 'it returns false'. Refute it at one input. -/
def autoShortsWrong : ChangeSpec := { name := "autoShorts", fn := fun _ => fun
  | [d1, d2] => { results := [.lit (.bool false)], args := [d1, d2] }
  | _ => none }
def AutoShortsWrongFalsely : Prop := autoShortsRow.holds Try.pinned (OpenSpec.ofChange autoShortsWrong)

/-- 'stereopsislaw27.AutoWithin': WHATEVER THE INPUT: true; the input reads as it did. -/
def autoWithinSpec : ChangeSpec := { name := "autoWithin", fn := fun _ => fun
  | [d1, d2] => { results := [.lit (.bool true)], args := [d1, d2] }
  | _ => none }
def autoWithinRow : OpenClaim := { program := "ytbjgnogcjglcoaa", sum := "38a4d0c69f442a7d88601dc5589ce6281b570763c76c4fb45ce693a707d1e0b8", func := "stereopsis/stereopsislaw27.AutoWithin", spec := "autoWithin", inPlace := ["math/bits.Add64"], unfollowed := true, recurses := true, plainKeys := false, apart := false }
def AutoWithinSaid : Prop := autoWithinRow.holds Try.pinned (OpenSpec.ofChange autoWithinSpec)

/-- ITS FALSE NEIGHBOUR: 'it returns false'. Refute it at one input. -/
def autoWithinWrong : ChangeSpec := { name := "autoWithin", fn := fun _ => fun
  | [d1, d2] => { results := [.lit (.bool false)], args := [d1, d2] }
  | _ => none }
def AutoWithinWrongFalsely : Prop := autoWithinRow.holds Try.pinned (OpenSpec.ofChange autoWithinWrong)

/-- 'stereopsislaw27.AutoTotals': WHATEVER THE INPUT: true; the input reads as it did. -/
def autoTotalsSpec : ChangeSpec := { name := "autoTotals", fn := fun _ => fun
  | [d] => { results := [.lit (.bool true)], args := [d] }
  | _ => none }
def autoTotalsRow : OpenClaim := { program := "ytbjgnogcjglcoaa", sum := "38a4d0c69f442a7d88601dc5589ce6281b570763c76c4fb45ce693a707d1e0b8", func := "stereopsis/stereopsislaw27.AutoTotals", spec := "autoTotals", inPlace := ["math/bits.Add64"], unfollowed := true, recurses := true, plainKeys := false, apart := false }
def AutoTotalsSaid : Prop := autoTotalsRow.holds Try.pinned (OpenSpec.ofChange autoTotalsSpec)

/-- ITS FALSE NEIGHBOUR: 'it returns false'. Refute it at one input. -/
def autoTotalsWrong : ChangeSpec := { name := "autoTotals", fn := fun _ => fun
  | [d] => { results := [.lit (.bool false)], args := [d] }
  | _ => none }
def AutoTotalsWrongFalsely : Prop := autoTotalsRow.holds Try.pinned (OpenSpec.ofChange autoTotalsWrong)

/-- 'stereopsislaw27.AutoOne': WHATEVER THE INPUT: true; the input reads as it did. -/
def autoOneSpec : ChangeSpec := { name := "autoOne", fn := fun _ => fun
  | [d1, d2] => { results := [.lit (.bool true)], args := [d1, d2] }
  | _ => none }
def autoOneRow : OpenClaim := { program := "ytbjgnogcjglcoaa", sum := "38a4d0c69f442a7d88601dc5589ce6281b570763c76c4fb45ce693a707d1e0b8", func := "stereopsis/stereopsislaw27.AutoOne", spec := "autoOne", inPlace := ["math/bits.Add64"], unfollowed := true, recurses := true, plainKeys := false, apart := false }
def AutoOneSaid : Prop := autoOneRow.holds Try.pinned (OpenSpec.ofChange autoOneSpec)

/-- ITS FALSE NEIGHBOUR: 'it returns false'. Refute it at one input. -/
def autoOneWrong : ChangeSpec := { name := "autoOne", fn := fun _ => fun
  | [d1, d2] => { results := [.lit (.bool false)], args := [d1, d2] }
  | _ => none }
def AutoOneWrongFalsely : Prop := autoOneRow.holds Try.pinned (OpenSpec.ofChange autoOneWrong)

/-- 'stereopsislaw27.AutoTurns': WHATEVER THE INPUT: true; the input reads as it did. -/
def autoTurnsSpec : ChangeSpec := { name := "autoTurns", fn := fun _ => fun
  | [d] => { results := [.lit (.bool true)], args := [d] }
  | _ => none }
def autoTurnsRow : OpenClaim := { program := "ytbjgnogcjglcoaa", sum := "38a4d0c69f442a7d88601dc5589ce6281b570763c76c4fb45ce693a707d1e0b8", func := "stereopsis/stereopsislaw27.AutoTurns", spec := "autoTurns", inPlace := ["math/bits.Add64"], unfollowed := true, recurses := true, plainKeys := false, apart := false }
def AutoTurnsSaid : Prop := autoTurnsRow.holds Try.pinned (OpenSpec.ofChange autoTurnsSpec)

/-- ITS FALSE NEIGHBOUR: 'it returns false'. Refute it at one input. -/
def autoTurnsWrong : ChangeSpec := { name := "autoTurns", fn := fun _ => fun
  | [d] => { results := [.lit (.bool false)], args := [d] }
  | _ => none }
def AutoTurnsWrongFalsely : Prop := autoTurnsRow.holds Try.pinned (OpenSpec.ofChange autoTurnsWrong)

/-- 'stereopsislaw27.AutoRenames': WHATEVER THE INPUT: true; the input reads as it did. -/
def autoRenamesSpec : ChangeSpec := { name := "autoRenames", fn := fun _ => fun
  | [d1, d2, d3] => { results := [.lit (.bool true)], args := [d1, d2, d3] }
  | _ => none }
def autoRenamesRow : OpenClaim := { program := "ytbjgnogcjglcoaa", sum := "38a4d0c69f442a7d88601dc5589ce6281b570763c76c4fb45ce693a707d1e0b8", func := "stereopsis/stereopsislaw27.AutoRenames", spec := "autoRenames", inPlace := ["math/bits.Add64"], unfollowed := true, recurses := true, plainKeys := false, apart := false }
def AutoRenamesSaid : Prop := autoRenamesRow.holds Try.pinned (OpenSpec.ofChange autoRenamesSpec)

/-- ITS FALSE NEIGHBOUR: 'it returns false'. Refute it at one input. -/
def autoRenamesWrong : ChangeSpec := { name := "autoRenames", fn := fun _ => fun
  | [d1, d2, d3] => { results := [.lit (.bool false)], args := [d1, d2, d3] }
  | _ => none }
def AutoRenamesWrongFalsely : Prop := autoRenamesRow.holds Try.pinned (OpenSpec.ofChange autoRenamesWrong)

/-- 'stereopsislaw27.AutoLifts': WHATEVER THE INPUT: true; the input reads as it did. -/
def autoLiftsSpec : ChangeSpec := { name := "autoLifts", fn := fun _ => fun
  | [d1, d2] => { results := [.lit (.bool true)], args := [d1, d2] }
  | _ => none }
def autoLiftsRow : OpenClaim := { program := "ytbjgnogcjglcoaa", sum := "38a4d0c69f442a7d88601dc5589ce6281b570763c76c4fb45ce693a707d1e0b8", func := "stereopsis/stereopsislaw27.AutoLifts", spec := "autoLifts", inPlace := ["math/bits.Add64"], unfollowed := true, recurses := true, plainKeys := false, apart := false }
def AutoLiftsSaid : Prop := autoLiftsRow.holds Try.pinned (OpenSpec.ofChange autoLiftsSpec)

/-- ITS FALSE NEIGHBOUR: 'it returns false'. Refute it at one input. -/
def autoLiftsWrong : ChangeSpec := { name := "autoLifts", fn := fun _ => fun
  | [d1, d2] => { results := [.lit (.bool false)], args := [d1, d2] }
  | _ => none }
def AutoLiftsWrongFalsely : Prop := autoLiftsRow.holds Try.pinned (OpenSpec.ofChange autoLiftsWrong)

/-- 'stereopsislaw27.AutoPairs': WHATEVER THE INPUT: true; the input reads as it did. -/
def autoPairsSpec : ChangeSpec := { name := "autoPairs", fn := fun _ => fun
  | [d1, d2] => { results := [.lit (.bool true)], args := [d1, d2] }
  | _ => none }
def autoPairsRow : OpenClaim := { program := "ytbjgnogcjglcoaa", sum := "38a4d0c69f442a7d88601dc5589ce6281b570763c76c4fb45ce693a707d1e0b8", func := "stereopsis/stereopsislaw27.AutoPairs", spec := "autoPairs", inPlace := ["math/bits.Add64"], unfollowed := true, recurses := true, plainKeys := false, apart := false }
def AutoPairsSaid : Prop := autoPairsRow.holds Try.pinned (OpenSpec.ofChange autoPairsSpec)

/-- ITS FALSE NEIGHBOUR: 'it returns false'. Refute it at one input. -/
def autoPairsWrong : ChangeSpec := { name := "autoPairs", fn := fun _ => fun
  | [d1, d2] => { results := [.lit (.bool false)], args := [d1, d2] }
  | _ => none }
def AutoPairsWrongFalsely : Prop := autoPairsRow.holds Try.pinned (OpenSpec.ofChange autoPairsWrong)

/-- 'stereopsislaw27.AutoTwice': WHATEVER THE INPUT: true; the input reads as it did. -/
def autoTwiceSpec : ChangeSpec := { name := "autoTwice", fn := fun _ => fun
  | [d1, d2] => { results := [.lit (.bool true)], args := [d1, d2] }
  | _ => none }
def autoTwiceRow : OpenClaim := { program := "ytbjgnogcjglcoaa", sum := "38a4d0c69f442a7d88601dc5589ce6281b570763c76c4fb45ce693a707d1e0b8", func := "stereopsis/stereopsislaw27.AutoTwice", spec := "autoTwice", inPlace := ["math/bits.Add64"], unfollowed := true, recurses := true, plainKeys := false, apart := false }
def AutoTwiceSaid : Prop := autoTwiceRow.holds Try.pinned (OpenSpec.ofChange autoTwiceSpec)

/-- ITS FALSE NEIGHBOUR: 'it returns false'. Refute it at one input. -/
def autoTwiceWrong : ChangeSpec := { name := "autoTwice", fn := fun _ => fun
  | [d1, d2] => { results := [.lit (.bool false)], args := [d1, d2] }
  | _ => none }
def AutoTwiceWrongFalsely : Prop := autoTwiceRow.holds Try.pinned (OpenSpec.ofChange autoTwiceWrong)

/-- 'stereopsislaw27.AutoNobody': WHATEVER THE INPUT: true; the input reads as it did. -/
def autoNobodySpec : ChangeSpec := { name := "autoNobody", fn := fun _ => fun
  | [d1, d2, d3] => { results := [.lit (.bool true)], args := [d1, d2, d3] }
  | _ => none }
def autoNobodyRow : OpenClaim := { program := "ytbjgnogcjglcoaa", sum := "38a4d0c69f442a7d88601dc5589ce6281b570763c76c4fb45ce693a707d1e0b8", func := "stereopsis/stereopsislaw27.AutoNobody", spec := "autoNobody", inPlace := ["math/bits.Add64"], unfollowed := true, recurses := true, plainKeys := false, apart := false }
def AutoNobodySaid : Prop := autoNobodyRow.holds Try.pinned (OpenSpec.ofChange autoNobodySpec)

/-- ITS FALSE NEIGHBOUR: 'it returns false'. Refute it at one input. -/
def autoNobodyWrong : ChangeSpec := { name := "autoNobody", fn := fun _ => fun
  | [d1, d2, d3] => { results := [.lit (.bool false)], args := [d1, d2, d3] }
  | _ => none }
def AutoNobodyWrongFalsely : Prop := autoNobodyRow.holds Try.pinned (OpenSpec.ofChange autoNobodyWrong)

/- THE SECOND FORM. 'bulk': how many values and letters a reading holds, each counted each time it is reached (what is shared counts as often as it is met; a slice's spare places count too). A statement '..UptoSaid' is the law's where the arguments, and the package variables that the reading takes, are together of bulk at most 1048576: NARROWER than '..Said'. Prove '..Said' where nothing that the law and all that it calls make is longer than what came in: it says more and counts as full. Else prove '..UptoSaid'. A law counts once. -/
mutual
def uptoBulk {H : Type} : DataW H → Nat
  | .lit (.string bytes) => bytes.length + 1
  | .lit _ => 1
  | .nil => 1
  | .ptr d => uptoBulk d + 1
  | .slice elems spare => uptoBulkAll elems + uptoBulkAll spare + 1
  | .agg parts => uptoBulkAll parts + 1
  | .iface _ d => uptoBulk d + 1
  | .map entries => uptoBulkEntries entries + 1
  | .held _ => 1
def uptoBulkAll {H : Type} : List (DataW H) → Nat
  | [] => 0
  | d :: r => uptoBulk d + uptoBulkAll r
def uptoBulkEntries {H : Type} : List (Lit × DataW H) → Nat
  | [] => 0
  | x :: r => uptoBulkEntry x + uptoBulkEntries r
def uptoBulkEntry {H : Type} : Lit × DataW H → Nat
  | (.string bytes, d) => bytes.length + uptoBulk d + 1
  | (_, d) => uptoBulk d + 1
 end
def uptoSmall : (H : Type) → List (DataW H) → Bool := fun _ ds => decide (uptoBulkAll ds ≤ 1048576)
def OpenSpec.upto (s : _root_.Go.ChangeSpec) : _root_.Go.OpenSpec := { _root_.Go.OpenSpec.ofChange s with cond := some uptoSmall }

/-- 'stereopsislaw27.AutoForms', WHERE WHAT IT READS IS OF BULK AT MOST 1048576: true; the input reads as it did. -/
def autoFormsUptoRow : OpenClaim := { program := "ytbjgnogcjglcoaa", sum := "38a4d0c69f442a7d88601dc5589ce6281b570763c76c4fb45ce693a707d1e0b8", func := "stereopsis/stereopsislaw27.AutoForms", spec := "autoForms", inPlace := ["math/bits.Add64"], plainKeys := false, apart := false, narrowed := true }
def AutoFormsUptoSaid : Prop := autoFormsUptoRow.holds Try.pinned (OpenSpec.upto autoFormsSpec)

/-- 'stereopsislaw27.AutoAccepts', WHERE WHAT IT READS IS OF BULK AT MOST 1048576: true; the input reads as it did. -/
def autoAcceptsUptoRow : OpenClaim := { program := "ytbjgnogcjglcoaa", sum := "38a4d0c69f442a7d88601dc5589ce6281b570763c76c4fb45ce693a707d1e0b8", func := "stereopsis/stereopsislaw27.AutoAccepts", spec := "autoAccepts", inPlace := ["math/bits.Add64"], plainKeys := false, apart := false, narrowed := true }
def AutoAcceptsUptoSaid : Prop := autoAcceptsUptoRow.holds Try.pinned (OpenSpec.upto autoAcceptsSpec)

/-- 'stereopsislaw27.AutoLeast', WHERE WHAT IT READS IS OF BULK AT MOST 1048576: true; the input reads as it did. -/
def autoLeastUptoRow : OpenClaim := { program := "ytbjgnogcjglcoaa", sum := "38a4d0c69f442a7d88601dc5589ce6281b570763c76c4fb45ce693a707d1e0b8", func := "stereopsis/stereopsislaw27.AutoLeast", spec := "autoLeast", inPlace := ["math/bits.Add64"], plainKeys := false, apart := false, narrowed := true }
def AutoLeastUptoSaid : Prop := autoLeastUptoRow.holds Try.pinned (OpenSpec.upto autoLeastSpec)

/-- 'stereopsislaw27.AutoCounts', WHERE WHAT IT READS IS OF BULK AT MOST 1048576: true; the input reads as it did. -/
def autoCountsUptoRow : OpenClaim := { program := "ytbjgnogcjglcoaa", sum := "38a4d0c69f442a7d88601dc5589ce6281b570763c76c4fb45ce693a707d1e0b8", func := "stereopsis/stereopsislaw27.AutoCounts", spec := "autoCounts", inPlace := ["math/bits.Add64"], plainKeys := false, apart := false, narrowed := true }
def AutoCountsUptoSaid : Prop := autoCountsUptoRow.holds Try.pinned (OpenSpec.upto autoCountsSpec)

/-- 'stereopsislaw27.AutoNots', WHERE WHAT IT READS IS OF BULK AT MOST 1048576: true; the input reads as it did. -/
def autoNotsUptoRow : OpenClaim := { program := "ytbjgnogcjglcoaa", sum := "38a4d0c69f442a7d88601dc5589ce6281b570763c76c4fb45ce693a707d1e0b8", func := "stereopsis/stereopsislaw27.AutoNots", spec := "autoNots", inPlace := ["math/bits.Add64"], plainKeys := false, apart := false, narrowed := true }
def AutoNotsUptoSaid : Prop := autoNotsUptoRow.holds Try.pinned (OpenSpec.upto autoNotsSpec)

/-- 'stereopsislaw27.AutoShorts', WHERE WHAT IT READS IS OF BULK AT MOST 1048576: true; the input reads as it did. -/
def autoShortsUptoRow : OpenClaim := { program := "ytbjgnogcjglcoaa", sum := "38a4d0c69f442a7d88601dc5589ce6281b570763c76c4fb45ce693a707d1e0b8", func := "stereopsis/stereopsislaw27.AutoShorts", spec := "autoShorts", inPlace := ["math/bits.Add64"], plainKeys := false, apart := false, narrowed := true }
def AutoShortsUptoSaid : Prop := autoShortsUptoRow.holds Try.pinned (OpenSpec.upto autoShortsSpec)

/-- 'stereopsislaw27.AutoWithin', WHERE WHAT IT READS IS OF BULK AT MOST 1048576: true; the input reads as it did. -/
def autoWithinUptoRow : OpenClaim := { program := "ytbjgnogcjglcoaa", sum := "38a4d0c69f442a7d88601dc5589ce6281b570763c76c4fb45ce693a707d1e0b8", func := "stereopsis/stereopsislaw27.AutoWithin", spec := "autoWithin", inPlace := ["math/bits.Add64"], unfollowed := true, recurses := true, plainKeys := false, apart := false, narrowed := true }
def AutoWithinUptoSaid : Prop := autoWithinUptoRow.holds Try.pinned (OpenSpec.upto autoWithinSpec)

/-- 'stereopsislaw27.AutoTotals', WHERE WHAT IT READS IS OF BULK AT MOST 1048576: true; the input reads as it did. -/
def autoTotalsUptoRow : OpenClaim := { program := "ytbjgnogcjglcoaa", sum := "38a4d0c69f442a7d88601dc5589ce6281b570763c76c4fb45ce693a707d1e0b8", func := "stereopsis/stereopsislaw27.AutoTotals", spec := "autoTotals", inPlace := ["math/bits.Add64"], unfollowed := true, recurses := true, plainKeys := false, apart := false, narrowed := true }
def AutoTotalsUptoSaid : Prop := autoTotalsUptoRow.holds Try.pinned (OpenSpec.upto autoTotalsSpec)

/-- 'stereopsislaw27.AutoOne', WHERE WHAT IT READS IS OF BULK AT MOST 1048576: true; the input reads as it did. -/
def autoOneUptoRow : OpenClaim := { program := "ytbjgnogcjglcoaa", sum := "38a4d0c69f442a7d88601dc5589ce6281b570763c76c4fb45ce693a707d1e0b8", func := "stereopsis/stereopsislaw27.AutoOne", spec := "autoOne", inPlace := ["math/bits.Add64"], unfollowed := true, recurses := true, plainKeys := false, apart := false, narrowed := true }
def AutoOneUptoSaid : Prop := autoOneUptoRow.holds Try.pinned (OpenSpec.upto autoOneSpec)

/-- 'stereopsislaw27.AutoTurns', WHERE WHAT IT READS IS OF BULK AT MOST 1048576: true; the input reads as it did. -/
def autoTurnsUptoRow : OpenClaim := { program := "ytbjgnogcjglcoaa", sum := "38a4d0c69f442a7d88601dc5589ce6281b570763c76c4fb45ce693a707d1e0b8", func := "stereopsis/stereopsislaw27.AutoTurns", spec := "autoTurns", inPlace := ["math/bits.Add64"], unfollowed := true, recurses := true, plainKeys := false, apart := false, narrowed := true }
def AutoTurnsUptoSaid : Prop := autoTurnsUptoRow.holds Try.pinned (OpenSpec.upto autoTurnsSpec)

/-- 'stereopsislaw27.AutoRenames', WHERE WHAT IT READS IS OF BULK AT MOST 1048576: true; the input reads as it did. -/
def autoRenamesUptoRow : OpenClaim := { program := "ytbjgnogcjglcoaa", sum := "38a4d0c69f442a7d88601dc5589ce6281b570763c76c4fb45ce693a707d1e0b8", func := "stereopsis/stereopsislaw27.AutoRenames", spec := "autoRenames", inPlace := ["math/bits.Add64"], unfollowed := true, recurses := true, plainKeys := false, apart := false, narrowed := true }
def AutoRenamesUptoSaid : Prop := autoRenamesUptoRow.holds Try.pinned (OpenSpec.upto autoRenamesSpec)

/-- 'stereopsislaw27.AutoLifts', WHERE WHAT IT READS IS OF BULK AT MOST 1048576: true; the input reads as it did. -/
def autoLiftsUptoRow : OpenClaim := { program := "ytbjgnogcjglcoaa", sum := "38a4d0c69f442a7d88601dc5589ce6281b570763c76c4fb45ce693a707d1e0b8", func := "stereopsis/stereopsislaw27.AutoLifts", spec := "autoLifts", inPlace := ["math/bits.Add64"], unfollowed := true, recurses := true, plainKeys := false, apart := false, narrowed := true }
def AutoLiftsUptoSaid : Prop := autoLiftsUptoRow.holds Try.pinned (OpenSpec.upto autoLiftsSpec)

/-- 'stereopsislaw27.AutoPairs', WHERE WHAT IT READS IS OF BULK AT MOST 1048576: true; the input reads as it did. -/
def autoPairsUptoRow : OpenClaim := { program := "ytbjgnogcjglcoaa", sum := "38a4d0c69f442a7d88601dc5589ce6281b570763c76c4fb45ce693a707d1e0b8", func := "stereopsis/stereopsislaw27.AutoPairs", spec := "autoPairs", inPlace := ["math/bits.Add64"], unfollowed := true, recurses := true, plainKeys := false, apart := false, narrowed := true }
def AutoPairsUptoSaid : Prop := autoPairsUptoRow.holds Try.pinned (OpenSpec.upto autoPairsSpec)

/-- 'stereopsislaw27.AutoTwice', WHERE WHAT IT READS IS OF BULK AT MOST 1048576: true; the input reads as it did. -/
def autoTwiceUptoRow : OpenClaim := { program := "ytbjgnogcjglcoaa", sum := "38a4d0c69f442a7d88601dc5589ce6281b570763c76c4fb45ce693a707d1e0b8", func := "stereopsis/stereopsislaw27.AutoTwice", spec := "autoTwice", inPlace := ["math/bits.Add64"], unfollowed := true, recurses := true, plainKeys := false, apart := false, narrowed := true }
def AutoTwiceUptoSaid : Prop := autoTwiceUptoRow.holds Try.pinned (OpenSpec.upto autoTwiceSpec)

/-- 'stereopsislaw27.AutoNobody', WHERE WHAT IT READS IS OF BULK AT MOST 1048576: true; the input reads as it did. -/
def autoNobodyUptoRow : OpenClaim := { program := "ytbjgnogcjglcoaa", sum := "38a4d0c69f442a7d88601dc5589ce6281b570763c76c4fb45ce693a707d1e0b8", func := "stereopsis/stereopsislaw27.AutoNobody", spec := "autoNobody", inPlace := ["math/bits.Add64"], unfollowed := true, recurses := true, plainKeys := false, apart := false, narrowed := true }
def AutoNobodyUptoSaid : Prop := autoNobodyUptoRow.holds Try.pinned (OpenSpec.upto autoNobodySpec)

end Rows
end Go.Proofs.Ytbjgnogcjglcoaa
