/-
  NARROWER THAN 'FOR EVERY INPUT', by the rows' own cells (each row's printed sentence says how): NetOf: loops · NetWords: loops · NetAgrees: loops.
  DERIVED. THE GIVEN ROWS OF THIS SEAT. 7 by the template 'for every input the law returns true; each argument reads behind the call as it read before'; 0 by the template 'total and deterministic' (their statements: YtgaplmpopgdfbaaTotals.lean).
  GIVEN WITH THE SEED: the statements are not yours to turn. If you find one false, say at which input.
  Laid BY PROGRAM, IN A SANDBOX (cutbox-rows.mjs): the forced cells as the released guide's own fill.sh prints them over the translation b27680de2e628daf… (all of the seat's roots in one cut). By AI agents, Wed Nov 11 2026. No macro, syntax, notation, axiom, sorry.
-/
import Derived.Test.YtgaplmpopgdfbaaChecked
import GoSem.Claim
import GoSem.ClaimJoined
import GoSem.ClaimMapViews
import Derived.JoinedTies
import Derived.KernelRfl
namespace Go.Proofs.Ytgaplmpopgdfbaa
/- THE CELL 'sum', in the pinned program and in every row, IS THE sha256 OF THE DUMP (.gsa) THAT YtgaplmpopgdfbaaProg.lean LOADS. Nothing in Lean hashes anything: it is a label: what it is worth is what the hold of that sum in a sandbox is worth. -/
noncomputable def Try.pinned : Pinned := { name := "ytgaplmpopgdfbaa", sum := "b27680de2e628daf624372d30bd3253f07c411527170d925747643da3f682f62", checked := Try.checked }
namespace Rows
def none {H : Type} : Left H := { results := [], args := [] }

/-- 'stereopsislaw15.NetOf': WHATEVER THE INPUT: true; the input reads as it did. -/
def netOfSpec : ChangeSpec := { name := "netOf", fn := fun _ => fun
  | [d1, d2] => { results := [.lit (.bool true)], args := [d1, d2] }
  | _ => none }
def netOfRow : OpenClaim := { program := "ytgaplmpopgdfbaa", sum := "b27680de2e628daf624372d30bd3253f07c411527170d925747643da3f682f62", func := "stereopsis/stereopsislaw15.NetOf", spec := "netOf", unfollowed := true, recurses := true, loops := true, plainKeys := false, apart := false }
def NetOfSaid : Prop := netOfRow.holds Try.pinned (OpenSpec.ofChange netOfSpec)

/-- ITS FALSE NEIGHBOUR: 'it returns false'. Refute it at one input. -/
def netOfWrong : ChangeSpec := { name := "netOf", fn := fun _ => fun
  | [d1, d2] => { results := [.lit (.bool false)], args := [d1, d2] }
  | _ => none }
def NetOfWrongFalsely : Prop := netOfRow.holds Try.pinned (OpenSpec.ofChange netOfWrong)

/-- 'stereopsislaw15.NetForms': WHATEVER THE INPUT: true; the input reads as it did. -/
def netFormsSpec : ChangeSpec := { name := "netForms", fn := fun _ => fun
  | [d1, d2, d3, d4] => { results := [.lit (.bool true)], args := [d1, d2, d3, d4] }
  | _ => none }
def netFormsRow : OpenClaim := { program := "ytgaplmpopgdfbaa", sum := "b27680de2e628daf624372d30bd3253f07c411527170d925747643da3f682f62", func := "stereopsis/stereopsislaw15.NetForms", spec := "netForms", unfollowed := true, recurses := true, plainKeys := false, apart := false }
def NetFormsSaid : Prop := netFormsRow.holds Try.pinned (OpenSpec.ofChange netFormsSpec)

/-- ITS FALSE NEIGHBOUR: 'it returns false'. Refute it at one input. -/
def netFormsWrong : ChangeSpec := { name := "netForms", fn := fun _ => fun
  | [d1, d2, d3, d4] => { results := [.lit (.bool false)], args := [d1, d2, d3, d4] }
  | _ => none }
def NetFormsWrongFalsely : Prop := netFormsRow.holds Try.pinned (OpenSpec.ofChange netFormsWrong)

/-- 'stereopsislaw15.NetTruth': WHATEVER THE INPUT: true; the input reads as it did. -/
def netTruthSpec : ChangeSpec := { name := "netTruth", fn := fun _ => fun
  | [d1, d2, d3] => { results := [.lit (.bool true)], args := [d1, d2, d3] }
  | _ => none }
def netTruthRow : OpenClaim := { program := "ytgaplmpopgdfbaa", sum := "b27680de2e628daf624372d30bd3253f07c411527170d925747643da3f682f62", func := "stereopsis/stereopsislaw15.NetTruth", spec := "netTruth", unfollowed := true, recurses := true, plainKeys := false, apart := false }
def NetTruthSaid : Prop := netTruthRow.holds Try.pinned (OpenSpec.ofChange netTruthSpec)

/-- ITS FALSE NEIGHBOUR: 'it returns false'. Refute it at one input. -/
def netTruthWrong : ChangeSpec := { name := "netTruth", fn := fun _ => fun
  | [d1, d2, d3] => { results := [.lit (.bool false)], args := [d1, d2, d3] }
  | _ => none }
def NetTruthWrongFalsely : Prop := netTruthRow.holds Try.pinned (OpenSpec.ofChange netTruthWrong)

/-- 'stereopsislaw15.NetWords': WHATEVER THE INPUT: true; the input reads as it did. -/
def netWordsSpec : ChangeSpec := { name := "netWords", fn := fun _ => fun
  | [d1, d2] => { results := [.lit (.bool true)], args := [d1, d2] }
  | _ => none }
def netWordsRow : OpenClaim := { program := "ytgaplmpopgdfbaa", sum := "b27680de2e628daf624372d30bd3253f07c411527170d925747643da3f682f62", func := "stereopsis/stereopsislaw15.NetWords", spec := "netWords", unfollowed := true, recurses := true, loops := true, plainKeys := false, apart := false }
def NetWordsSaid : Prop := netWordsRow.holds Try.pinned (OpenSpec.ofChange netWordsSpec)

/-- ITS FALSE NEIGHBOUR: 'it returns false'. Refute it at one input. -/
def netWordsWrong : ChangeSpec := { name := "netWords", fn := fun _ => fun
  | [d1, d2] => { results := [.lit (.bool false)], args := [d1, d2] }
  | _ => none }
def NetWordsWrongFalsely : Prop := netWordsRow.holds Try.pinned (OpenSpec.ofChange netWordsWrong)

/-- 'stereopsislaw15.NetModels': WHATEVER THE INPUT: true; the input reads as it did. -/
def netModelsSpec : ChangeSpec := { name := "netModels", fn := fun _ => fun
  | [d1, d2, d3, d4] => { results := [.lit (.bool true)], args := [d1, d2, d3, d4] }
  | _ => none }
def netModelsRow : OpenClaim := { program := "ytgaplmpopgdfbaa", sum := "b27680de2e628daf624372d30bd3253f07c411527170d925747643da3f682f62", func := "stereopsis/stereopsislaw15.NetModels", spec := "netModels", unfollowed := true, recurses := true, plainKeys := false, apart := false }
def NetModelsSaid : Prop := netModelsRow.holds Try.pinned (OpenSpec.ofChange netModelsSpec)

/-- ITS FALSE NEIGHBOUR: 'it returns false'. Refute it at one input. -/
def netModelsWrong : ChangeSpec := { name := "netModels", fn := fun _ => fun
  | [d1, d2, d3, d4] => { results := [.lit (.bool false)], args := [d1, d2, d3, d4] }
  | _ => none }
def NetModelsWrongFalsely : Prop := netModelsRow.holds Try.pinned (OpenSpec.ofChange netModelsWrong)

/-- 'stereopsislaw15.NetAgrees': WHATEVER THE INPUT: true; the input reads as it did. -/
def netAgreesSpec : ChangeSpec := { name := "netAgrees", fn := fun _ => fun
  | [d1, d2] => { results := [.lit (.bool true)], args := [d1, d2] }
  | _ => none }
def netAgreesRow : OpenClaim := { program := "ytgaplmpopgdfbaa", sum := "b27680de2e628daf624372d30bd3253f07c411527170d925747643da3f682f62", func := "stereopsis/stereopsislaw15.NetAgrees", spec := "netAgrees", unfollowed := true, recurses := true, loops := true, plainKeys := false, apart := false }
def NetAgreesSaid : Prop := netAgreesRow.holds Try.pinned (OpenSpec.ofChange netAgreesSpec)

/-- ITS FALSE NEIGHBOUR: 'it returns false'. Refute it at one input. -/
def netAgreesWrong : ChangeSpec := { name := "netAgrees", fn := fun _ => fun
  | [d1, d2] => { results := [.lit (.bool false)], args := [d1, d2] }
  | _ => none }
def NetAgreesWrongFalsely : Prop := netAgreesRow.holds Try.pinned (OpenSpec.ofChange netAgreesWrong)

/-- 'stereopsislaw15.NetOwn': WHATEVER THE INPUT: true; the input reads as it did. -/
def netOwnSpec : ChangeSpec := { name := "netOwn", fn := fun _ => fun
  | [d1, d2, d3] => { results := [.lit (.bool true)], args := [d1, d2, d3] }
  | _ => none }
def netOwnRow : OpenClaim := { program := "ytgaplmpopgdfbaa", sum := "b27680de2e628daf624372d30bd3253f07c411527170d925747643da3f682f62", func := "stereopsis/stereopsislaw15.NetOwn", spec := "netOwn", unfollowed := true, recurses := true, plainKeys := false, apart := false }
def NetOwnSaid : Prop := netOwnRow.holds Try.pinned (OpenSpec.ofChange netOwnSpec)

/-- ITS FALSE NEIGHBOUR: 'it returns false'. Refute it at one input. -/
def netOwnWrong : ChangeSpec := { name := "netOwn", fn := fun _ => fun
  | [d1, d2, d3] => { results := [.lit (.bool false)], args := [d1, d2, d3] }
  | _ => none }
def NetOwnWrongFalsely : Prop := netOwnRow.holds Try.pinned (OpenSpec.ofChange netOwnWrong)

/- THE SECOND FORM. 'bulk': how many values and letters a reading holds, each counted each time it is reached (what is shared counts as often as it is met; a slice's spare places count too). A statement '..UptoSaid' is the law's where the arguments, and the package variables that the reading takes, are together of bulk at most 1048576: NARROWER than '..Said'. Prove '..Said' where nothing that the law and all that it calls make is longer than what came in: it says more and counts as full. Else prove '..UptoSaid'. A law counts once. -/
mutual
def uptoBulk {H : Type} : DataW H → Nat
  | .lit (.string bytes) => bytes.length + 1
  | .lit _ => 1
  | .nil => 1
  | .ptr d => uptoBulk d + 1
  | .slice elems spare => uptoBulkAll elems + uptoBulkAll spare + 1
  | .agg parts => uptoBulkAll parts + 1
  | .iface _ d => uptoBulk d + 1
  | .map entries => uptoBulkEntries entries + 1
  | .held _ => 1
def uptoBulkAll {H : Type} : List (DataW H) → Nat
  | [] => 0
  | d :: r => uptoBulk d + uptoBulkAll r
def uptoBulkEntries {H : Type} : List (Lit × DataW H) → Nat
  | [] => 0
  | x :: r => uptoBulkEntry x + uptoBulkEntries r
def uptoBulkEntry {H : Type} : Lit × DataW H → Nat
  | (.string bytes, d) => bytes.length + uptoBulk d + 1
  | (_, d) => uptoBulk d + 1
 end
def uptoSmall : (H : Type) → List (DataW H) → Bool := fun _ ds => decide (uptoBulkAll ds ≤ 1048576)
def OpenSpec.upto (s : _root_.Go.ChangeSpec) : _root_.Go.OpenSpec := { _root_.Go.OpenSpec.ofChange s with cond := some uptoSmall }

/-- 'stereopsislaw15.NetOf', WHERE WHAT IT READS IS OF BULK AT MOST 1048576: true; the input reads as it did. -/
def netOfUptoRow : OpenClaim := { program := "ytgaplmpopgdfbaa", sum := "b27680de2e628daf624372d30bd3253f07c411527170d925747643da3f682f62", func := "stereopsis/stereopsislaw15.NetOf", spec := "netOf", unfollowed := true, recurses := true, loops := true, plainKeys := false, apart := false, narrowed := true }
def NetOfUptoSaid : Prop := netOfUptoRow.holds Try.pinned (OpenSpec.upto netOfSpec)

/-- 'stereopsislaw15.NetForms', WHERE WHAT IT READS IS OF BULK AT MOST 1048576: true; the input reads as it did. -/
def netFormsUptoRow : OpenClaim := { program := "ytgaplmpopgdfbaa", sum := "b27680de2e628daf624372d30bd3253f07c411527170d925747643da3f682f62", func := "stereopsis/stereopsislaw15.NetForms", spec := "netForms", unfollowed := true, recurses := true, plainKeys := false, apart := false, narrowed := true }
def NetFormsUptoSaid : Prop := netFormsUptoRow.holds Try.pinned (OpenSpec.upto netFormsSpec)

/-- 'stereopsislaw15.NetTruth', WHERE WHAT IT READS IS OF BULK AT MOST 1048576: true; the input reads as it did. -/
def netTruthUptoRow : OpenClaim := { program := "ytgaplmpopgdfbaa", sum := "b27680de2e628daf624372d30bd3253f07c411527170d925747643da3f682f62", func := "stereopsis/stereopsislaw15.NetTruth", spec := "netTruth", unfollowed := true, recurses := true, plainKeys := false, apart := false, narrowed := true }
def NetTruthUptoSaid : Prop := netTruthUptoRow.holds Try.pinned (OpenSpec.upto netTruthSpec)

/-- 'stereopsislaw15.NetWords', WHERE WHAT IT READS IS OF BULK AT MOST 1048576: true; the input reads as it did. -/
def netWordsUptoRow : OpenClaim := { program := "ytgaplmpopgdfbaa", sum := "b27680de2e628daf624372d30bd3253f07c411527170d925747643da3f682f62", func := "stereopsis/stereopsislaw15.NetWords", spec := "netWords", unfollowed := true, recurses := true, loops := true, plainKeys := false, apart := false, narrowed := true }
def NetWordsUptoSaid : Prop := netWordsUptoRow.holds Try.pinned (OpenSpec.upto netWordsSpec)

/-- 'stereopsislaw15.NetModels', WHERE WHAT IT READS IS OF BULK AT MOST 1048576: true; the input reads as it did. -/
def netModelsUptoRow : OpenClaim := { program := "ytgaplmpopgdfbaa", sum := "b27680de2e628daf624372d30bd3253f07c411527170d925747643da3f682f62", func := "stereopsis/stereopsislaw15.NetModels", spec := "netModels", unfollowed := true, recurses := true, plainKeys := false, apart := false, narrowed := true }
def NetModelsUptoSaid : Prop := netModelsUptoRow.holds Try.pinned (OpenSpec.upto netModelsSpec)

/-- 'stereopsislaw15.NetAgrees', WHERE WHAT IT READS IS OF BULK AT MOST 1048576: true; the input reads as it did. -/
def netAgreesUptoRow : OpenClaim := { program := "ytgaplmpopgdfbaa", sum := "b27680de2e628daf624372d30bd3253f07c411527170d925747643da3f682f62", func := "stereopsis/stereopsislaw15.NetAgrees", spec := "netAgrees", unfollowed := true, recurses := true, loops := true, plainKeys := false, apart := false, narrowed := true }
def NetAgreesUptoSaid : Prop := netAgreesUptoRow.holds Try.pinned (OpenSpec.upto netAgreesSpec)

/-- 'stereopsislaw15.NetOwn', WHERE WHAT IT READS IS OF BULK AT MOST 1048576: true; the input reads as it did. -/
def netOwnUptoRow : OpenClaim := { program := "ytgaplmpopgdfbaa", sum := "b27680de2e628daf624372d30bd3253f07c411527170d925747643da3f682f62", func := "stereopsis/stereopsislaw15.NetOwn", spec := "netOwn", unfollowed := true, recurses := true, plainKeys := false, apart := false, narrowed := true }
def NetOwnUptoSaid : Prop := netOwnUptoRow.holds Try.pinned (OpenSpec.upto netOwnSpec)

end Rows
end Go.Proofs.Ytgaplmpopgdfbaa
