-- WRITTEN FOR THIS CLAIM by wip/ownprint.py of this session: the print's way, with changes (the print itself does not take this law).
import Derived.Test.YtdipihdbplkdiaaProg
import Derived.Below
import Derived.Deep.Draws
import Derived.Deep.AppendLies
import Derived.Maps.AppendAt
import Derived.OwnWalk
import Derived.Laws.BytesArg
import Derived.Laws.MakeOwn
import Derived.Laws.OwnMore
import Derived.Deep.OwnRows
import Derived.Tactics
import Derived.Lib.ConvBytes
import Derived.Laws.Slices
import Derived.WalkKit
import Derived.KernelRfl
import Derived.RowKit3
import Derived.Deep.LoopGhost
import Derived.Deep.QuietTactic
import Derived.BigQuiet
import Derived.WideLaws
import Derived.Deep.DeepCutAuto
import Derived.Deep.CutBlock
import Derived.Deep.RegionHeld3
import Derived.Laws.Rows
import Derived.Lib.AppendStr
import Derived.ArgAppend
import Derived.Laws.IdiomCopy
import Derived.OrdersHeld
import Derived.Laws.BitsLemmas
import Derived.RowKit
import Derived.Test.YtdipihdbplkdiaaWWords
import Derived.Test.YtdipihdbplkdiaaWLast
import Derived.Test.YtdipihdbplkdiaaWTab
import Derived.Test.YtdipihdbplkdiaaWFour
import Derived.Test.YtdipihdbplkdiaaWQPut
import Derived.Test.YtdipihdbplkdiaaWApart
import Derived.Test.YtdipihdbplkdiaaWArr
import Derived.Test.YtdipihdbplkdiaaWZeros
import Derived.Test.YtdipihdbplkdiaaWFoot
import Derived.Test.YtdipihdbplkdiaaWKept
import Derived.Test.YtdipihdbplkdiaaWShare
import Derived.Test.YtdipihdbplkdiaaWN
import Derived.Test.YtdipihdbplkdiaaWFootNe
import Derived.Test.YtdipihdbplkdiaaWAt
import Derived.Test.YtdipihdbplkdiaaWEqStruct
import Derived.Test.YtdipihdbplkdiaaWRepsOne
import Derived.Test.YtdipihdbplkdiaaWInv
import Derived.Test.YtdipihdbplkdiaaWInvWords
import Derived.Test.YtdipihdbplkdiaaWGuard
import Derived.Test.YtdipihdbplkdiaaWNEv
import Derived.Test.YtdipihdbplkdiaaWMore
namespace Go.Proofs.Ytdipihdbplkdiaa.PFnBeats
open Go.RowKit Go.Proofs.YtdipihdbplkdiaaW.PrintWords Go.Proofs.YtdipihdbplkdiaaW.PrintLast Go.Proofs.YtdipihdbplkdiaaW.PrintMore
attribute [local go_sem] max2_int min2_int max_two min_two max_three min_three max_four min_four   -- for this text's walks alone
set_option linter.unusedVariables false
set_option linter.unusedSimpArgs false



def errW : Option Int → Value
  | none => .nilIface
  | some c => .iface 0 (.int .i64 c)
theorem errW_none : errW none = .nilIface := rfl
theorem errW_some (c : Int) : errW (some c) = .iface 0 (.int .i64 c) := rfl

-- the values' own types

end Go.Proofs.Ytdipihdbplkdiaa.PFnBeats
