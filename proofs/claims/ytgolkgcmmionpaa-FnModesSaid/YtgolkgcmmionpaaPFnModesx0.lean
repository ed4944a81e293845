-- WRITTEN FOR THIS CLAIM by wip/ownprint.py of this session: the print's way, with changes (the print itself does not take this law).
import Derived.Test.YtgolkgcmmionpaaProg
import Derived.Below
import Derived.Deep.Draws
import Derived.Deep.AppendLies
import Derived.Maps.AppendAt
import Derived.OwnWalk
import Derived.Laws.BytesArg
import Derived.Laws.MakeOwn
import Derived.Laws.OwnMore
import Derived.Deep.OwnRows
import Derived.Tactics
import Derived.Lib.ConvBytes
import Derived.Laws.Slices
import Derived.WalkKit
import Derived.KernelRfl
import Derived.RowKit3
import Derived.Deep.LoopGhost
import Derived.Deep.QuietTactic
import Derived.BigQuiet
import Derived.WideLaws
import Derived.Deep.DeepCutAuto
import Derived.Deep.CutBlock
import Derived.Deep.RegionHeld3
import Derived.Laws.Rows
import Derived.Lib.AppendStr
import Derived.ArgAppend
import Derived.Laws.IdiomCopy
import Derived.OrdersHeld
import Derived.Laws.BitsLemmas
import Derived.RowKit
import Derived.Maps.OwnSet
import Derived.Shelf.Sort.Plain
import Derived.Sort.OwnSortedInts
import Derived.Test.YtgolkgcmmionpaaWWords
import Derived.Test.YtgolkgcmmionpaaWLast
import Derived.Test.YtgolkgcmmionpaaWTab
import Derived.Test.YtgolkgcmmionpaaWFour
import Derived.Test.YtgolkgcmmionpaaWQPut
import Derived.Test.YtgolkgcmmionpaaWApart
import Derived.Test.YtgolkgcmmionpaaWArr
import Derived.Test.YtgolkgcmmionpaaWZeros
import Derived.Test.YtgolkgcmmionpaaWFoot
import Derived.Test.YtgolkgcmmionpaaWKept
import Derived.Test.YtgolkgcmmionpaaWShare
import Derived.Test.YtgolkgcmmionpaaWN
import Derived.Test.YtgolkgcmmionpaaWFootNe
import Derived.Test.YtgolkgcmmionpaaWAt
import Derived.Test.YtgolkgcmmionpaaWEqStruct
import Derived.Test.YtgolkgcmmionpaaWRepsOne
import Derived.Test.YtgolkgcmmionpaaWInv
import Derived.Test.YtgolkgcmmionpaaWInvWords
import Derived.Test.YtgolkgcmmionpaaWGuard
import Derived.Test.YtgolkgcmmionpaaWNEv
import Derived.Test.YtgolkgcmmionpaaWMore
namespace Go.Proofs.Ytgolkgcmmionpaa.PFnModes
open Go.RowKit Go.Proofs.YtgolkgcmmionpaaW.PrintWords Go.Proofs.YtgolkgcmmionpaaW.PrintLast Go.Proofs.YtgolkgcmmionpaaW.PrintMore
attribute [local go_sem] max2_int min2_int max_two min_two max_three min_three max_four min_four   -- for this text's walks alone
set_option linter.unusedVariables false
set_option linter.unusedSimpArgs false



def errW : Option Int → Value
  | none => .nilIface
  | some c => .iface 0 (.int .i64 c)
theorem errW_none : errW none = .nilIface := rfl
theorem errW_some (c : Int) : errW (some c) = .iface 0 (.int .i64 c) := rfl

theorem info3 : (Try.prog.info? 3).map (fun i => (i.zero, i.size, i.bytes)) = some (some (.int .i64 0), 1, 8) := by kernel_rfl
-- the values' own types

end Go.Proofs.Ytgolkgcmmionpaa.PFnModes
