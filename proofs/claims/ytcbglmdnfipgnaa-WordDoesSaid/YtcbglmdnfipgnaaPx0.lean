/- A part of the proof of a law of the seat: Go functions as plain Lean functions, and the proofs that the machine's calls do what these do, under no condition but the row's own. Laid by this session's wip/tools/hprint.py, over the kit's print and this session's own contracts. -/
import Derived.Test.YtcbglmdnfipgnaaProg
import Derived.Below
import Derived.Deep.Draws
import Derived.Deep.AppendLies
import Derived.Maps.AppendAt
import Derived.OwnWalk
import Derived.Laws.BytesArg
import Derived.Laws.MakeOwn
import Derived.Laws.OwnMore
import Derived.Deep.OwnRows
import Derived.Tactics
import Derived.Lib.ConvBytes
import Derived.Laws.Slices
import Derived.WalkKit
import Derived.KernelRfl
import Derived.RowKit3
import Derived.Deep.LoopGhost
import Derived.Deep.QuietTactic
import Derived.BigQuiet
import Derived.WideLaws
import Derived.Deep.DeepCutAuto
import Derived.Deep.CutBlock
import Derived.Deep.RegionHeld3
import Derived.Laws.Rows
import Derived.Lib.AppendStr
import Derived.ArgAppend
import Derived.Laws.IdiomCopy
import Derived.OrdersHeld
import Derived.Laws.BitsLemmas
import Derived.RowKit
import Derived.Test.YtcbglmdnfipgnaaHMap
import Derived.Test.YtcbglmdnfipgnaaWWords
import Derived.Test.YtcbglmdnfipgnaaWLast
import Derived.Test.YtcbglmdnfipgnaaWTab
import Derived.Test.YtcbglmdnfipgnaaWFour
import Derived.Test.YtcbglmdnfipgnaaWQPut
import Derived.Test.YtcbglmdnfipgnaaWApart
import Derived.Test.YtcbglmdnfipgnaaWArr
import Derived.Test.YtcbglmdnfipgnaaWZeros
import Derived.Test.YtcbglmdnfipgnaaWFoot
import Derived.Test.YtcbglmdnfipgnaaWKept
import Derived.Test.YtcbglmdnfipgnaaWShare
import Derived.Test.YtcbglmdnfipgnaaWN
import Derived.Test.YtcbglmdnfipgnaaWFootNe
import Derived.Test.YtcbglmdnfipgnaaWAt
import Derived.Test.YtcbglmdnfipgnaaWEqStruct
import Derived.Test.YtcbglmdnfipgnaaWRepsOne
import Derived.Test.YtcbglmdnfipgnaaWInv
import Derived.Test.YtcbglmdnfipgnaaWInvWords
import Derived.Test.YtcbglmdnfipgnaaWGuard
import Derived.Test.YtcbglmdnfipgnaaWNEv
import Derived.Test.YtcbglmdnfipgnaaWMore
namespace Go.Proofs.Ytcbglmdnfipgnaa.P
open Go.RowKit Go.Proofs.YtcbglmdnfipgnaaW.PrintWords Go.Proofs.YtcbglmdnfipgnaaW.PrintLast Go.Proofs.YtcbglmdnfipgnaaW.PrintMore
attribute [local go_sem] max2_int min2_int max_two min_two max_three min_three max_four min_four   -- for this text's walks alone
set_option linter.unusedVariables false
set_option linter.unusedSimpArgs false



def errW : Option Int → Value
  | none => .nilIface
  | some c => .iface 0 (.int .i64 c)
theorem errW_none : errW none = .nilIface := rfl
theorem errW_some (c : Int) : errW (some c) = .iface 0 (.int .i64 c) := rfl

theorem info3 : (Try.prog.info? 3).map (fun i => (i.zero, i.size, i.bytes)) = some (some (.int .i64 0), 1, 8) := by kernel_rfl
-- the values' own types

end Go.Proofs.Ytcbglmdnfipgnaa.P
