/-
  NARROWER THAN 'FOR EVERY INPUT', by the rows' own cells (each row's printed sentence says how): ExprBack: loops · ExprValues: loops · ExprLooks: loops · ExprMoves: loops · ExprCopies: loops · ExprOwn: loops.
  DERIVED. THE GIVEN ROWS OF THIS SEAT. 7 by the template 'for every input the law returns true; each argument reads behind the call as it read before'; 0 by the template 'total and deterministic' (their statements: YtlidnionbofkaaaTotals.lean).
  GIVEN WITH THE SEED: the statements are not yours to turn. If you find one false, say at which input.
  Laid BY PROGRAM, IN A SANDBOX (cutbox-rows.mjs): the forced cells as the released guide's own fill.sh prints them over the translation 690a30c62b6b0a8b… (all of the seat's roots in one cut). By AI agents, Wed Nov 11 2026. No macro, syntax, notation, axiom, sorry.
-/
import Derived.Test.YtlidnionbofkaaaChecked
import GoSem.Claim
import GoSem.ClaimJoined
import GoSem.ClaimMapViews
import Derived.JoinedTies
import Derived.KernelRfl
namespace Go.Proofs.Ytlidnionbofkaaa
/- THE CELL 'sum', in the pinned program and in every row, IS THE sha256 OF THE DUMP (.gsa) THAT YtlidnionbofkaaaProg.lean LOADS. Nothing in Lean hashes anything: it is a label: what it is worth is what the hold of that sum in a sandbox is worth. -/
noncomputable def Try.pinned : Pinned := { name := "ytlidnionbofkaaa", sum := "690a30c62b6b0a8beaf6570997750ec8bc32633bc55008eaec0735a9feeaab79", checked := Try.checked }
namespace Rows
def none {H : Type} : Left H := { results := [], args := [] }

/-- 'stereopsislaw02.ExprParses': WHATEVER THE INPUT: true; the input reads as it did. -/
def exprParsesSpec : ChangeSpec := { name := "exprParses", fn := fun _ => fun
  | [d1, d2, d3, d4, d5] => { results := [.lit (.bool true)], args := [d1, d2, d3, d4, d5] }
  | _ => none }
def exprParsesRow : OpenClaim := { program := "ytlidnionbofkaaa", sum := "690a30c62b6b0a8beaf6570997750ec8bc32633bc55008eaec0735a9feeaab79", func := "stereopsis/stereopsislaw02.ExprParses", spec := "exprParses", unfollowed := true, recurses := true, apart := false }
def ExprParsesSaid : Prop := exprParsesRow.holds Try.pinned (OpenSpec.ofChange exprParsesSpec)

/-- ITS FALSE NEIGHBOUR: 'it returns false'. Refute it at one input. -/
def exprParsesWrong : ChangeSpec := { name := "exprParses", fn := fun _ => fun
  | [d1, d2, d3, d4, d5] => { results := [.lit (.bool false)], args := [d1, d2, d3, d4, d5] }
  | _ => none }
def ExprParsesWrongFalsely : Prop := exprParsesRow.holds Try.pinned (OpenSpec.ofChange exprParsesWrong)

/-- 'stereopsislaw02.ExprBack': WHATEVER THE INPUT: true; the input reads as it did. -/
def exprBackSpec : ChangeSpec := { name := "exprBack", fn := fun _ => fun
  | [d1, d2, d3, d4] => { results := [.lit (.bool true)], args := [d1, d2, d3, d4] }
  | _ => none }
def exprBackRow : OpenClaim := { program := "ytlidnionbofkaaa", sum := "690a30c62b6b0a8beaf6570997750ec8bc32633bc55008eaec0735a9feeaab79", func := "stereopsis/stereopsislaw02.ExprBack", spec := "exprBack", unfollowed := true, recurses := true, loops := true, apart := false }
def ExprBackSaid : Prop := exprBackRow.holds Try.pinned (OpenSpec.ofChange exprBackSpec)

/-- ITS FALSE NEIGHBOUR: 'it returns false'. Refute it at one input. -/
def exprBackWrong : ChangeSpec := { name := "exprBack", fn := fun _ => fun
  | [d1, d2, d3, d4] => { results := [.lit (.bool false)], args := [d1, d2, d3, d4] }
  | _ => none }
def ExprBackWrongFalsely : Prop := exprBackRow.holds Try.pinned (OpenSpec.ofChange exprBackWrong)

/-- 'stereopsislaw02.ExprValues': WHATEVER THE INPUT: true; the input reads as it did. -/
def exprValuesSpec : ChangeSpec := { name := "exprValues", fn := fun _ => fun
  | [d1, d2, d3, d4] => { results := [.lit (.bool true)], args := [d1, d2, d3, d4] }
  | _ => none }
def exprValuesRow : OpenClaim := { program := "ytlidnionbofkaaa", sum := "690a30c62b6b0a8beaf6570997750ec8bc32633bc55008eaec0735a9feeaab79", func := "stereopsis/stereopsislaw02.ExprValues", spec := "exprValues", unfollowed := true, recurses := true, loops := true, apart := false }
def ExprValuesSaid : Prop := exprValuesRow.holds Try.pinned (OpenSpec.ofChange exprValuesSpec)

/-- ITS FALSE NEIGHBOUR: 'it returns false'. Refute it at one input. -/
def exprValuesWrong : ChangeSpec := { name := "exprValues", fn := fun _ => fun
  | [d1, d2, d3, d4] => { results := [.lit (.bool false)], args := [d1, d2, d3, d4] }
  | _ => none }
def ExprValuesWrongFalsely : Prop := exprValuesRow.holds Try.pinned (OpenSpec.ofChange exprValuesWrong)

/-- 'stereopsislaw02.ExprLooks': WHATEVER THE INPUT: true; the input reads as it did. -/
def exprLooksSpec : ChangeSpec := { name := "exprLooks", fn := fun _ => fun
  | [d1, d2, d3, d4] => { results := [.lit (.bool true)], args := [d1, d2, d3, d4] }
  | _ => none }
def exprLooksRow : OpenClaim := { program := "ytlidnionbofkaaa", sum := "690a30c62b6b0a8beaf6570997750ec8bc32633bc55008eaec0735a9feeaab79", func := "stereopsis/stereopsislaw02.ExprLooks", spec := "exprLooks", unfollowed := true, recurses := true, loops := true, apart := false }
def ExprLooksSaid : Prop := exprLooksRow.holds Try.pinned (OpenSpec.ofChange exprLooksSpec)

/-- ITS FALSE NEIGHBOUR: 'it returns false'. Refute it at one input. -/
def exprLooksWrong : ChangeSpec := { name := "exprLooks", fn := fun _ => fun
  | [d1, d2, d3, d4] => { results := [.lit (.bool false)], args := [d1, d2, d3, d4] }
  | _ => none }
def ExprLooksWrongFalsely : Prop := exprLooksRow.holds Try.pinned (OpenSpec.ofChange exprLooksWrong)

/-- 'stereopsislaw02.ExprMoves': WHATEVER THE INPUT: true; the input reads as it did. -/
def exprMovesSpec : ChangeSpec := { name := "exprMoves", fn := fun _ => fun
  | [d1, d2, d3, d4] => { results := [.lit (.bool true)], args := [d1, d2, d3, d4] }
  | _ => none }
def exprMovesRow : OpenClaim := { program := "ytlidnionbofkaaa", sum := "690a30c62b6b0a8beaf6570997750ec8bc32633bc55008eaec0735a9feeaab79", func := "stereopsis/stereopsislaw02.ExprMoves", spec := "exprMoves", unfollowed := true, recurses := true, loops := true, apart := false }
def ExprMovesSaid : Prop := exprMovesRow.holds Try.pinned (OpenSpec.ofChange exprMovesSpec)

/-- ITS FALSE NEIGHBOUR: 'it returns false'. Refute it at one input. -/
def exprMovesWrong : ChangeSpec := { name := "exprMoves", fn := fun _ => fun
  | [d1, d2, d3, d4] => { results := [.lit (.bool false)], args := [d1, d2, d3, d4] }
  | _ => none }
def ExprMovesWrongFalsely : Prop := exprMovesRow.holds Try.pinned (OpenSpec.ofChange exprMovesWrong)

/-- 'stereopsislaw02.ExprCopies': WHATEVER THE INPUT: true; the input reads as it did. -/
def exprCopiesSpec : ChangeSpec := { name := "exprCopies", fn := fun _ => fun
  | [d1, d2, d3, d4, d5] => { results := [.lit (.bool true)], args := [d1, d2, d3, d4, d5] }
  | _ => none }
def exprCopiesRow : OpenClaim := { program := "ytlidnionbofkaaa", sum := "690a30c62b6b0a8beaf6570997750ec8bc32633bc55008eaec0735a9feeaab79", func := "stereopsis/stereopsislaw02.ExprCopies", spec := "exprCopies", unfollowed := true, recurses := true, loops := true, apart := false }
def ExprCopiesSaid : Prop := exprCopiesRow.holds Try.pinned (OpenSpec.ofChange exprCopiesSpec)

/-- ITS FALSE NEIGHBOUR: 'it returns false'. Refute it at one input. -/
def exprCopiesWrong : ChangeSpec := { name := "exprCopies", fn := fun _ => fun
  | [d1, d2, d3, d4, d5] => { results := [.lit (.bool false)], args := [d1, d2, d3, d4, d5] }
  | _ => none }
def ExprCopiesWrongFalsely : Prop := exprCopiesRow.holds Try.pinned (OpenSpec.ofChange exprCopiesWrong)

/-- 'stereopsislaw02.ExprOwn': WHATEVER THE INPUT: true; the input reads as it did. -/
def exprOwnSpec : ChangeSpec := { name := "exprOwn", fn := fun _ => fun
  | [d1, d2, d3, d4] => { results := [.lit (.bool true)], args := [d1, d2, d3, d4] }
  | _ => none }
def exprOwnRow : OpenClaim := { program := "ytlidnionbofkaaa", sum := "690a30c62b6b0a8beaf6570997750ec8bc32633bc55008eaec0735a9feeaab79", func := "stereopsis/stereopsislaw02.ExprOwn", spec := "exprOwn", unfollowed := true, recurses := true, loops := true, apart := false }
def ExprOwnSaid : Prop := exprOwnRow.holds Try.pinned (OpenSpec.ofChange exprOwnSpec)

/-- ITS FALSE NEIGHBOUR: 'it returns false'. Refute it at one input. -/
def exprOwnWrong : ChangeSpec := { name := "exprOwn", fn := fun _ => fun
  | [d1, d2, d3, d4] => { results := [.lit (.bool false)], args := [d1, d2, d3, d4] }
  | _ => none }
def ExprOwnWrongFalsely : Prop := exprOwnRow.holds Try.pinned (OpenSpec.ofChange exprOwnWrong)

/- THE SECOND FORM. 'bulk': how many values and letters a reading holds, each counted each time it is reached (what is shared counts as often as it is met; a slice's spare places count too). A statement '..UptoSaid' is the law's where the arguments, and the package variables that the reading takes, are together of bulk at most 1048576: NARROWER than '..Said'. Prove '..Said' where nothing that the law and all that it calls make is longer than what came in: it says more and counts as full. Else prove '..UptoSaid'. A law counts once. -/
mutual
def uptoBulk {H : Type} : DataW H → Nat
  | .lit (.string bytes) => bytes.length + 1
  | .lit _ => 1
  | .nil => 1
  | .ptr d => uptoBulk d + 1
  | .slice elems spare => uptoBulkAll elems + uptoBulkAll spare + 1
  | .agg parts => uptoBulkAll parts + 1
  | .iface _ d => uptoBulk d + 1
  | .map entries => uptoBulkEntries entries + 1
  | .held _ => 1
def uptoBulkAll {H : Type} : List (DataW H) → Nat
  | [] => 0
  | d :: r => uptoBulk d + uptoBulkAll r
def uptoBulkEntries {H : Type} : List (Lit × DataW H) → Nat
  | [] => 0
  | x :: r => uptoBulkEntry x + uptoBulkEntries r
def uptoBulkEntry {H : Type} : Lit × DataW H → Nat
  | (.string bytes, d) => bytes.length + uptoBulk d + 1
  | (_, d) => uptoBulk d + 1
 end
def uptoSmall : (H : Type) → List (DataW H) → Bool := fun _ ds => decide (uptoBulkAll ds ≤ 1048576)
def OpenSpec.upto (s : _root_.Go.ChangeSpec) : _root_.Go.OpenSpec := { _root_.Go.OpenSpec.ofChange s with cond := some uptoSmall }

/-- 'stereopsislaw02.ExprParses', WHERE WHAT IT READS IS OF BULK AT MOST 1048576: true; the input reads as it did. -/
def exprParsesUptoRow : OpenClaim := { program := "ytlidnionbofkaaa", sum := "690a30c62b6b0a8beaf6570997750ec8bc32633bc55008eaec0735a9feeaab79", func := "stereopsis/stereopsislaw02.ExprParses", spec := "exprParses", unfollowed := true, recurses := true, apart := false, narrowed := true }
def ExprParsesUptoSaid : Prop := exprParsesUptoRow.holds Try.pinned (OpenSpec.upto exprParsesSpec)

/-- 'stereopsislaw02.ExprBack', WHERE WHAT IT READS IS OF BULK AT MOST 1048576: true; the input reads as it did. -/
def exprBackUptoRow : OpenClaim := { program := "ytlidnionbofkaaa", sum := "690a30c62b6b0a8beaf6570997750ec8bc32633bc55008eaec0735a9feeaab79", func := "stereopsis/stereopsislaw02.ExprBack", spec := "exprBack", unfollowed := true, recurses := true, loops := true, apart := false, narrowed := true }
def ExprBackUptoSaid : Prop := exprBackUptoRow.holds Try.pinned (OpenSpec.upto exprBackSpec)

/-- 'stereopsislaw02.ExprValues', WHERE WHAT IT READS IS OF BULK AT MOST 1048576: true; the input reads as it did. -/
def exprValuesUptoRow : OpenClaim := { program := "ytlidnionbofkaaa", sum := "690a30c62b6b0a8beaf6570997750ec8bc32633bc55008eaec0735a9feeaab79", func := "stereopsis/stereopsislaw02.ExprValues", spec := "exprValues", unfollowed := true, recurses := true, loops := true, apart := false, narrowed := true }
def ExprValuesUptoSaid : Prop := exprValuesUptoRow.holds Try.pinned (OpenSpec.upto exprValuesSpec)

/-- 'stereopsislaw02.ExprLooks', WHERE WHAT IT READS IS OF BULK AT MOST 1048576: true; the input reads as it did. -/
def exprLooksUptoRow : OpenClaim := { program := "ytlidnionbofkaaa", sum := "690a30c62b6b0a8beaf6570997750ec8bc32633bc55008eaec0735a9feeaab79", func := "stereopsis/stereopsislaw02.ExprLooks", spec := "exprLooks", unfollowed := true, recurses := true, loops := true, apart := false, narrowed := true }
def ExprLooksUptoSaid : Prop := exprLooksUptoRow.holds Try.pinned (OpenSpec.upto exprLooksSpec)

/-- 'stereopsislaw02.ExprMoves', WHERE WHAT IT READS IS OF BULK AT MOST 1048576: true; the input reads as it did. -/
def exprMovesUptoRow : OpenClaim := { program := "ytlidnionbofkaaa", sum := "690a30c62b6b0a8beaf6570997750ec8bc32633bc55008eaec0735a9feeaab79", func := "stereopsis/stereopsislaw02.ExprMoves", spec := "exprMoves", unfollowed := true, recurses := true, loops := true, apart := false, narrowed := true }
def ExprMovesUptoSaid : Prop := exprMovesUptoRow.holds Try.pinned (OpenSpec.upto exprMovesSpec)

/-- 'stereopsislaw02.ExprCopies', WHERE WHAT IT READS IS OF BULK AT MOST 1048576: true; the input reads as it did. -/
def exprCopiesUptoRow : OpenClaim := { program := "ytlidnionbofkaaa", sum := "690a30c62b6b0a8beaf6570997750ec8bc32633bc55008eaec0735a9feeaab79", func := "stereopsis/stereopsislaw02.ExprCopies", spec := "exprCopies", unfollowed := true, recurses := true, loops := true, apart := false, narrowed := true }
def ExprCopiesUptoSaid : Prop := exprCopiesUptoRow.holds Try.pinned (OpenSpec.upto exprCopiesSpec)

/-- 'stereopsislaw02.ExprOwn', WHERE WHAT IT READS IS OF BULK AT MOST 1048576: true; the input reads as it did. -/
def exprOwnUptoRow : OpenClaim := { program := "ytlidnionbofkaaa", sum := "690a30c62b6b0a8beaf6570997750ec8bc32633bc55008eaec0735a9feeaab79", func := "stereopsis/stereopsislaw02.ExprOwn", spec := "exprOwn", unfollowed := true, recurses := true, loops := true, apart := false, narrowed := true }
def ExprOwnUptoSaid : Prop := exprOwnUptoRow.holds Try.pinned (OpenSpec.upto exprOwnSpec)

end Rows
end Go.Proofs.Ytlidnionbofkaaa
