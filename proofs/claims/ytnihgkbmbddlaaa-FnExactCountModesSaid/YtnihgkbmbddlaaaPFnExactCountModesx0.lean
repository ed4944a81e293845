-- WRITTEN FOR THIS CLAIM by wip/ownprint.py of this session: the print's way, with changes (the print itself does not take this law).
import Derived.Test.YtnihgkbmbddlaaaProg
import Derived.Below
import Derived.Deep.Draws
import Derived.Deep.AppendLies
import Derived.Maps.AppendAt
import Derived.OwnWalk
import Derived.Laws.BytesArg
import Derived.Laws.MakeOwn
import Derived.Laws.OwnMore
import Derived.Deep.OwnRows
import Derived.Tactics
import Derived.Lib.ConvBytes
import Derived.Laws.Slices
import Derived.WalkKit
import Derived.KernelRfl
import Derived.RowKit3
import Derived.Deep.LoopGhost
import Derived.Deep.QuietTactic
import Derived.BigQuiet
import Derived.WideLaws
import Derived.Deep.DeepCutAuto
import Derived.Deep.CutBlock
import Derived.Deep.RegionHeld3
import Derived.Laws.Rows
import Derived.Lib.AppendStr
import Derived.ArgAppend
import Derived.Laws.IdiomCopy
import Derived.OrdersHeld
import Derived.Laws.BitsLemmas
import Derived.RowKit
import Derived.Test.YtnihgkbmbddlaaaWWords
import Derived.Test.YtnihgkbmbddlaaaWLast
import Derived.Test.YtnihgkbmbddlaaaWTab
import Derived.Test.YtnihgkbmbddlaaaWFour
import Derived.Test.YtnihgkbmbddlaaaWQPut
import Derived.Test.YtnihgkbmbddlaaaWApart
import Derived.Test.YtnihgkbmbddlaaaWArr
import Derived.Test.YtnihgkbmbddlaaaWZeros
import Derived.Test.YtnihgkbmbddlaaaWFoot
import Derived.Test.YtnihgkbmbddlaaaWKept
import Derived.Test.YtnihgkbmbddlaaaWShare
import Derived.Test.YtnihgkbmbddlaaaWN
import Derived.Test.YtnihgkbmbddlaaaWFootNe
import Derived.Test.YtnihgkbmbddlaaaWAt
import Derived.Test.YtnihgkbmbddlaaaWEqStruct
import Derived.Test.YtnihgkbmbddlaaaWRepsOne
import Derived.Test.YtnihgkbmbddlaaaWInv
import Derived.Test.YtnihgkbmbddlaaaWInvWords
import Derived.Test.YtnihgkbmbddlaaaWGuard
import Derived.Test.YtnihgkbmbddlaaaWNEv
import Derived.Test.YtnihgkbmbddlaaaWMore
namespace Go.Proofs.Ytnihgkbmbddlaaa.PFnExactCountModes
open Go.RowKit Go.Proofs.YtnihgkbmbddlaaaW.PrintWords Go.Proofs.YtnihgkbmbddlaaaW.PrintLast Go.Proofs.YtnihgkbmbddlaaaW.PrintMore
attribute [local go_sem] max2_int min2_int max_two min_two max_three min_three max_four min_four   -- for this text's walks alone
set_option linter.unusedVariables false
set_option linter.unusedSimpArgs false



def errW : Option Int → Value
  | none => .nilIface
  | some c => .iface 0 (.int .i64 c)
theorem errW_none : errW none = .nilIface := rfl
theorem errW_some (c : Int) : errW (some c) = .iface 0 (.int .i64 c) := rfl

theorem info3 : (Try.prog.info? 3).map (fun i => (i.zero, i.size, i.bytes)) = some (some (.int .i64 0), 1, 8) := by kernel_rfl
-- the values' own types

end Go.Proofs.Ytnihgkbmbddlaaa.PFnExactCountModes
