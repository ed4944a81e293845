/-
  No cell of these rows narrows 'for every input' (looked for: loops, veiled, ifaces, maps, wideKeys, modest, calm, conditions, laid).
  DERIVED. THE GIVEN ROWS OF THIS SEAT. 12 by the template 'for every input the law returns true; each argument reads behind the call as it read before'; 0 by the template 'total and deterministic' (their statements: YthhcpfaabnanoaaTotals.lean).
  GIVEN WITH THE SEED: the statements are not yours to turn. If you find one false, say at which input.
  Laid BY PROGRAM, IN A SANDBOX (cutbox-rows.mjs): the forced cells as the released guide's own fill.sh prints them over the translation 5af76f51dd92b3e7… (all of the seat's roots in one cut). By AI agents, Wed Nov 11 2026. No macro, syntax, notation, axiom, sorry.
-/
import Derived.Test.YthhcpfaabnanoaaChecked
import GoSem.Claim
import GoSem.ClaimJoined
import GoSem.ClaimMapViews
import Derived.JoinedTies
import Derived.KernelRfl
namespace Go.Proofs.Ythhcpfaabnanoaa
/- THE CELL 'sum', in the pinned program and in every row, IS THE sha256 OF THE DUMP (.gsa) THAT YthhcpfaabnanoaaProg.lean LOADS. Nothing in Lean hashes anything: it is a label: what it is worth is what the hold of that sum in a sandbox is worth. -/
noncomputable def Try.pinned : Pinned := { name := "ythhcpfaabnanoaa", sum := "5af76f51dd92b3e72ce7a8dd84c0574a1729540c59c62b24dabc7ee03cca058e", checked := Try.checked }
namespace Rows
def none {H : Type} : Left H := { results := [], args := [] }

/-- 'laws.FnSpread': WHATEVER THE INPUT: true; the input reads as it did. -/
def fnSpreadSpec : ChangeSpec := { name := "fnSpread", fn := fun _ => fun
  | [d] => { results := [.lit (.bool true)], args := [d] }
  | _ => none }
def fnSpreadRow : OpenClaim := { program := "ythhcpfaabnanoaa", sum := "5af76f51dd92b3e72ce7a8dd84c0574a1729540c59c62b24dabc7ee03cca058e", func := "loop.example/g00989/laws.FnSpread", spec := "fnSpread", recurses := true, apart := false }
def FnSpreadSaid : Prop := fnSpreadRow.holds Try.pinned (OpenSpec.ofChange fnSpreadSpec)

/-- ITS FALSE NEIGHBOUR: 'it returns false'. Refute it at one input. -/
def fnSpreadWrong : ChangeSpec := { name := "fnSpread", fn := fun _ => fun
  | [d] => { results := [.lit (.bool false)], args := [d] }
  | _ => none }
def FnSpreadWrongFalsely : Prop := fnSpreadRow.holds Try.pinned (OpenSpec.ofChange fnSpreadWrong)

/-- 'laws.FnExactPlanOk': WHATEVER THE INPUT: true; the input reads as it did. -/
def fnExactPlanOkSpec : ChangeSpec := { name := "fnExactPlanOk", fn := fun _ => fun
  | [d] => { results := [.lit (.bool true)], args := [d] }
  | _ => none }
def fnExactPlanOkRow : OpenClaim := { program := "ythhcpfaabnanoaa", sum := "5af76f51dd92b3e72ce7a8dd84c0574a1729540c59c62b24dabc7ee03cca058e", func := "loop.example/g00989/laws.FnExactPlanOk", spec := "fnExactPlanOk", apart := false }
def FnExactPlanOkSaid : Prop := fnExactPlanOkRow.holds Try.pinned (OpenSpec.ofChange fnExactPlanOkSpec)

/-- ITS FALSE NEIGHBOUR: 'it returns false'. Refute it at one input. -/
def fnExactPlanOkWrong : ChangeSpec := { name := "fnExactPlanOk", fn := fun _ => fun
  | [d] => { results := [.lit (.bool false)], args := [d] }
  | _ => none }
def FnExactPlanOkWrongFalsely : Prop := fnExactPlanOkRow.holds Try.pinned (OpenSpec.ofChange fnExactPlanOkWrong)

/-- 'laws.FnExactDepthOf': WHATEVER THE INPUT: true; the input reads as it did. -/
def fnExactDepthOfSpec : ChangeSpec := { name := "fnExactDepthOf", fn := fun _ => fun
  | [d1, d2] => { results := [.lit (.bool true)], args := [d1, d2] }
  | _ => none }
def fnExactDepthOfRow : OpenClaim := { program := "ythhcpfaabnanoaa", sum := "5af76f51dd92b3e72ce7a8dd84c0574a1729540c59c62b24dabc7ee03cca058e", func := "loop.example/g00989/laws.FnExactDepthOf", spec := "fnExactDepthOf", recurses := true, apart := false }
def FnExactDepthOfSaid : Prop := fnExactDepthOfRow.holds Try.pinned (OpenSpec.ofChange fnExactDepthOfSpec)

/-- ITS FALSE NEIGHBOUR: 'it returns false'. Refute it at one input. -/
def fnExactDepthOfWrong : ChangeSpec := { name := "fnExactDepthOf", fn := fun _ => fun
  | [d1, d2] => { results := [.lit (.bool false)], args := [d1, d2] }
  | _ => none }
def FnExactDepthOfWrongFalsely : Prop := fnExactDepthOfRow.holds Try.pinned (OpenSpec.ofChange fnExactDepthOfWrong)

/-- 'laws.FnExactMistune': WHATEVER THE INPUT: true; the input reads as it did. -/
def fnExactMistuneSpec : ChangeSpec := { name := "fnExactMistune", fn := fun _ => fun
  | [d1, d2, d3] => { results := [.lit (.bool true)], args := [d1, d2, d3] }
  | _ => none }
def fnExactMistuneRow : OpenClaim := { program := "ythhcpfaabnanoaa", sum := "5af76f51dd92b3e72ce7a8dd84c0574a1729540c59c62b24dabc7ee03cca058e", func := "loop.example/g00989/laws.FnExactMistune", spec := "fnExactMistune", apart := false }
def FnExactMistuneSaid : Prop := fnExactMistuneRow.holds Try.pinned (OpenSpec.ofChange fnExactMistuneSpec)

/-- ITS FALSE NEIGHBOUR: 'it returns false'. Refute it at one input. -/
def fnExactMistuneWrong : ChangeSpec := { name := "fnExactMistune", fn := fun _ => fun
  | [d1, d2, d3] => { results := [.lit (.bool false)], args := [d1, d2, d3] }
  | _ => none }
def FnExactMistuneWrongFalsely : Prop := fnExactMistuneRow.holds Try.pinned (OpenSpec.ofChange fnExactMistuneWrong)

/-- 'laws.FnExactErrorBound': WHATEVER THE INPUT: true; the input reads as it did. -/
def fnExactErrorBoundSpec : ChangeSpec := { name := "fnExactErrorBound", fn := fun _ => fun
  | [d1, d2, d3] => { results := [.lit (.bool true)], args := [d1, d2, d3] }
  | _ => none }
def fnExactErrorBoundRow : OpenClaim := { program := "ythhcpfaabnanoaa", sum := "5af76f51dd92b3e72ce7a8dd84c0574a1729540c59c62b24dabc7ee03cca058e", func := "loop.example/g00989/laws.FnExactErrorBound", spec := "fnExactErrorBound", recurses := true, apart := false }
def FnExactErrorBoundSaid : Prop := fnExactErrorBoundRow.holds Try.pinned (OpenSpec.ofChange fnExactErrorBoundSpec)

/-- ITS FALSE NEIGHBOUR: 'it returns false'. Refute it at one input. -/
def fnExactErrorBoundWrong : ChangeSpec := { name := "fnExactErrorBound", fn := fun _ => fun
  | [d1, d2, d3] => { results := [.lit (.bool false)], args := [d1, d2, d3] }
  | _ => none }
def FnExactErrorBoundWrongFalsely : Prop := fnExactErrorBoundRow.holds Try.pinned (OpenSpec.ofChange fnExactErrorBoundWrong)

/-- 'laws.FnExactClosingBeats': WHATEVER THE INPUT: true; the input reads as it did. -/
def fnExactClosingBeatsSpec : ChangeSpec := { name := "fnExactClosingBeats", fn := fun _ => fun
  | [d1, d2] => { results := [.lit (.bool true)], args := [d1, d2] }
  | _ => none }
def fnExactClosingBeatsRow : OpenClaim := { program := "ythhcpfaabnanoaa", sum := "5af76f51dd92b3e72ce7a8dd84c0574a1729540c59c62b24dabc7ee03cca058e", func := "loop.example/g00989/laws.FnExactClosingBeats", spec := "fnExactClosingBeats", apart := false }
def FnExactClosingBeatsSaid : Prop := fnExactClosingBeatsRow.holds Try.pinned (OpenSpec.ofChange fnExactClosingBeatsSpec)

/-- ITS FALSE NEIGHBOUR: 'it returns false'. Refute it at one input. -/
def fnExactClosingBeatsWrong : ChangeSpec := { name := "fnExactClosingBeats", fn := fun _ => fun
  | [d1, d2] => { results := [.lit (.bool false)], args := [d1, d2] }
  | _ => none }
def FnExactClosingBeatsWrongFalsely : Prop := fnExactClosingBeatsRow.holds Try.pinned (OpenSpec.ofChange fnExactClosingBeatsWrong)

/-- 'laws.FnExactRunPlan': WHATEVER THE INPUT: true; the input reads as it did. -/
def fnExactRunPlanSpec : ChangeSpec := { name := "fnExactRunPlan", fn := fun _ => fun
  | [d1, d2] => { results := [.lit (.bool true)], args := [d1, d2] }
  | _ => none }
def fnExactRunPlanRow : OpenClaim := { program := "ythhcpfaabnanoaa", sum := "5af76f51dd92b3e72ce7a8dd84c0574a1729540c59c62b24dabc7ee03cca058e", func := "loop.example/g00989/laws.FnExactRunPlan", spec := "fnExactRunPlan", apart := false }
def FnExactRunPlanSaid : Prop := fnExactRunPlanRow.holds Try.pinned (OpenSpec.ofChange fnExactRunPlanSpec)

/-- ITS FALSE NEIGHBOUR: 'it returns false'. Refute it at one input. -/
def fnExactRunPlanWrong : ChangeSpec := { name := "fnExactRunPlan", fn := fun _ => fun
  | [d1, d2] => { results := [.lit (.bool false)], args := [d1, d2] }
  | _ => none }
def FnExactRunPlanWrongFalsely : Prop := fnExactRunPlanRow.holds Try.pinned (OpenSpec.ofChange fnExactRunPlanWrong)

/-- 'laws.FnDepths': WHATEVER THE INPUT: true; the input reads as it did. -/
def fnDepthsSpec : ChangeSpec := { name := "fnDepths", fn := fun _ => fun
  | [d] => { results := [.lit (.bool true)], args := [d] }
  | _ => none }
def fnDepthsRow : OpenClaim := { program := "ythhcpfaabnanoaa", sum := "5af76f51dd92b3e72ce7a8dd84c0574a1729540c59c62b24dabc7ee03cca058e", func := "loop.example/g00989/laws.FnDepths", spec := "fnDepths", recurses := true, apart := false }
def FnDepthsSaid : Prop := fnDepthsRow.holds Try.pinned (OpenSpec.ofChange fnDepthsSpec)

/-- ITS FALSE NEIGHBOUR: 'it returns false'. Refute it at one input. -/
def fnDepthsWrong : ChangeSpec := { name := "fnDepths", fn := fun _ => fun
  | [d] => { results := [.lit (.bool false)], args := [d] }
  | _ => none }
def FnDepthsWrongFalsely : Prop := fnDepthsRow.holds Try.pinned (OpenSpec.ofChange fnDepthsWrong)

/-- 'laws.FnExactKeysTuned': WHATEVER THE INPUT: true; the input reads as it did. -/
def fnExactKeysTunedSpec : ChangeSpec := { name := "fnExactKeysTuned", fn := fun _ => fun
  | [d] => { results := [.lit (.bool true)], args := [d] }
  | _ => none }
def fnExactKeysTunedRow : OpenClaim := { program := "ythhcpfaabnanoaa", sum := "5af76f51dd92b3e72ce7a8dd84c0574a1729540c59c62b24dabc7ee03cca058e", func := "loop.example/g00989/laws.FnExactKeysTuned", spec := "fnExactKeysTuned", recurses := true, apart := false }
def FnExactKeysTunedSaid : Prop := fnExactKeysTunedRow.holds Try.pinned (OpenSpec.ofChange fnExactKeysTunedSpec)

/-- ITS FALSE NEIGHBOUR: 'it returns false'. Refute it at one input. -/
def fnExactKeysTunedWrong : ChangeSpec := { name := "fnExactKeysTuned", fn := fun _ => fun
  | [d] => { results := [.lit (.bool false)], args := [d] }
  | _ => none }
def FnExactKeysTunedWrongFalsely : Prop := fnExactKeysTunedRow.holds Try.pinned (OpenSpec.ofChange fnExactKeysTunedWrong)

/-- 'laws.FnExactAffectedKeys': WHATEVER THE INPUT: true; the input reads as it did. -/
def fnExactAffectedKeysSpec : ChangeSpec := { name := "fnExactAffectedKeys", fn := fun _ => fun
  | [d1, d2] => { results := [.lit (.bool true)], args := [d1, d2] }
  | _ => none }
def fnExactAffectedKeysRow : OpenClaim := { program := "ythhcpfaabnanoaa", sum := "5af76f51dd92b3e72ce7a8dd84c0574a1729540c59c62b24dabc7ee03cca058e", func := "loop.example/g00989/laws.FnExactAffectedKeys", spec := "fnExactAffectedKeys", recurses := true, apart := false }
def FnExactAffectedKeysSaid : Prop := fnExactAffectedKeysRow.holds Try.pinned (OpenSpec.ofChange fnExactAffectedKeysSpec)

/-- ITS FALSE NEIGHBOUR: 'it returns false'. Refute it at one input. -/
def fnExactAffectedKeysWrong : ChangeSpec := { name := "fnExactAffectedKeys", fn := fun _ => fun
  | [d1, d2] => { results := [.lit (.bool false)], args := [d1, d2] }
  | _ => none }
def FnExactAffectedKeysWrongFalsely : Prop := fnExactAffectedKeysRow.holds Try.pinned (OpenSpec.ofChange fnExactAffectedKeysWrong)

/-- 'laws.FnExactDeepestKey': WHATEVER THE INPUT: true; the input reads as it did. -/
def fnExactDeepestKeySpec : ChangeSpec := { name := "fnExactDeepestKey", fn := fun _ => fun
  | [d] => { results := [.lit (.bool true)], args := [d] }
  | _ => none }
def fnExactDeepestKeyRow : OpenClaim := { program := "ythhcpfaabnanoaa", sum := "5af76f51dd92b3e72ce7a8dd84c0574a1729540c59c62b24dabc7ee03cca058e", func := "loop.example/g00989/laws.FnExactDeepestKey", spec := "fnExactDeepestKey", recurses := true, apart := false }
def FnExactDeepestKeySaid : Prop := fnExactDeepestKeyRow.holds Try.pinned (OpenSpec.ofChange fnExactDeepestKeySpec)

/-- ITS FALSE NEIGHBOUR: 'it returns false'. Refute it at one input. -/
def fnExactDeepestKeyWrong : ChangeSpec := { name := "fnExactDeepestKey", fn := fun _ => fun
  | [d] => { results := [.lit (.bool false)], args := [d] }
  | _ => none }
def FnExactDeepestKeyWrongFalsely : Prop := fnExactDeepestKeyRow.holds Try.pinned (OpenSpec.ofChange fnExactDeepestKeyWrong)

/-- 'laws.FnPlans': WHATEVER THE INPUT: true; the input reads as it did. -/
def fnPlansSpec : ChangeSpec := { name := "fnPlans", fn := fun _ => fun
  | [d] => { results := [.lit (.bool true)], args := [d] }
  | _ => none }
def fnPlansRow : OpenClaim := { program := "ythhcpfaabnanoaa", sum := "5af76f51dd92b3e72ce7a8dd84c0574a1729540c59c62b24dabc7ee03cca058e", func := "loop.example/g00989/laws.FnPlans", spec := "fnPlans", recurses := true, apart := false }
def FnPlansSaid : Prop := fnPlansRow.holds Try.pinned (OpenSpec.ofChange fnPlansSpec)

/-- ITS FALSE NEIGHBOUR: 'it returns false'. Refute it at one input. -/
def fnPlansWrong : ChangeSpec := { name := "fnPlans", fn := fun _ => fun
  | [d] => { results := [.lit (.bool false)], args := [d] }
  | _ => none }
def FnPlansWrongFalsely : Prop := fnPlansRow.holds Try.pinned (OpenSpec.ofChange fnPlansWrong)

/- THE SECOND FORM. 'bulk': how many values and letters a reading holds, each counted each time it is reached (what is shared counts as often as it is met; a slice's spare places count too). A statement '..UptoSaid' is the law's where the arguments, and the package variables that the reading takes, are together of bulk at most 1048576: NARROWER than '..Said'. Prove '..Said' where nothing that the law and all that it calls make is longer than what came in: it says more and counts as full. Else prove '..UptoSaid'. A law counts once. -/
mutual
def uptoBulk {H : Type} : DataW H → Nat
  | .lit (.string bytes) => bytes.length + 1
  | .lit _ => 1
  | .nil => 1
  | .ptr d => uptoBulk d + 1
  | .slice elems spare => uptoBulkAll elems + uptoBulkAll spare + 1
  | .agg parts => uptoBulkAll parts + 1
  | .iface _ d => uptoBulk d + 1
  | .map entries => uptoBulkEntries entries + 1
  | .held _ => 1
def uptoBulkAll {H : Type} : List (DataW H) → Nat
  | [] => 0
  | d :: r => uptoBulk d + uptoBulkAll r
def uptoBulkEntries {H : Type} : List (Lit × DataW H) → Nat
  | [] => 0
  | x :: r => uptoBulkEntry x + uptoBulkEntries r
def uptoBulkEntry {H : Type} : Lit × DataW H → Nat
  | (.string bytes, d) => bytes.length + uptoBulk d + 1
  | (_, d) => uptoBulk d + 1
 end
def uptoSmall : (H : Type) → List (DataW H) → Bool := fun _ ds => decide (uptoBulkAll ds ≤ 1048576)
def OpenSpec.upto (s : _root_.Go.ChangeSpec) : _root_.Go.OpenSpec := { _root_.Go.OpenSpec.ofChange s with cond := some uptoSmall }

/-- 'laws.FnSpread', WHERE WHAT IT READS IS OF BULK AT MOST 1048576: true; the input reads as it did. -/
def fnSpreadUptoRow : OpenClaim := { program := "ythhcpfaabnanoaa", sum := "5af76f51dd92b3e72ce7a8dd84c0574a1729540c59c62b24dabc7ee03cca058e", func := "loop.example/g00989/laws.FnSpread", spec := "fnSpread", recurses := true, apart := false, narrowed := true }
def FnSpreadUptoSaid : Prop := fnSpreadUptoRow.holds Try.pinned (OpenSpec.upto fnSpreadSpec)

/-- 'laws.FnExactPlanOk', WHERE WHAT IT READS IS OF BULK AT MOST 1048576: true; the input reads as it did. -/
def fnExactPlanOkUptoRow : OpenClaim := { program := "ythhcpfaabnanoaa", sum := "5af76f51dd92b3e72ce7a8dd84c0574a1729540c59c62b24dabc7ee03cca058e", func := "loop.example/g00989/laws.FnExactPlanOk", spec := "fnExactPlanOk", apart := false, narrowed := true }
def FnExactPlanOkUptoSaid : Prop := fnExactPlanOkUptoRow.holds Try.pinned (OpenSpec.upto fnExactPlanOkSpec)

/-- 'laws.FnExactDepthOf', WHERE WHAT IT READS IS OF BULK AT MOST 1048576: true; the input reads as it did. -/
def fnExactDepthOfUptoRow : OpenClaim := { program := "ythhcpfaabnanoaa", sum := "5af76f51dd92b3e72ce7a8dd84c0574a1729540c59c62b24dabc7ee03cca058e", func := "loop.example/g00989/laws.FnExactDepthOf", spec := "fnExactDepthOf", recurses := true, apart := false, narrowed := true }
def FnExactDepthOfUptoSaid : Prop := fnExactDepthOfUptoRow.holds Try.pinned (OpenSpec.upto fnExactDepthOfSpec)

/-- 'laws.FnExactMistune', WHERE WHAT IT READS IS OF BULK AT MOST 1048576: true; the input reads as it did. -/
def fnExactMistuneUptoRow : OpenClaim := { program := "ythhcpfaabnanoaa", sum := "5af76f51dd92b3e72ce7a8dd84c0574a1729540c59c62b24dabc7ee03cca058e", func := "loop.example/g00989/laws.FnExactMistune", spec := "fnExactMistune", apart := false, narrowed := true }
def FnExactMistuneUptoSaid : Prop := fnExactMistuneUptoRow.holds Try.pinned (OpenSpec.upto fnExactMistuneSpec)

/-- 'laws.FnExactErrorBound', WHERE WHAT IT READS IS OF BULK AT MOST 1048576: true; the input reads as it did. -/
def fnExactErrorBoundUptoRow : OpenClaim := { program := "ythhcpfaabnanoaa", sum := "5af76f51dd92b3e72ce7a8dd84c0574a1729540c59c62b24dabc7ee03cca058e", func := "loop.example/g00989/laws.FnExactErrorBound", spec := "fnExactErrorBound", recurses := true, apart := false, narrowed := true }
def FnExactErrorBoundUptoSaid : Prop := fnExactErrorBoundUptoRow.holds Try.pinned (OpenSpec.upto fnExactErrorBoundSpec)

/-- 'laws.FnExactClosingBeats', WHERE WHAT IT READS IS OF BULK AT MOST 1048576: true; the input reads as it did. -/
def fnExactClosingBeatsUptoRow : OpenClaim := { program := "ythhcpfaabnanoaa", sum := "5af76f51dd92b3e72ce7a8dd84c0574a1729540c59c62b24dabc7ee03cca058e", func := "loop.example/g00989/laws.FnExactClosingBeats", spec := "fnExactClosingBeats", apart := false, narrowed := true }
def FnExactClosingBeatsUptoSaid : Prop := fnExactClosingBeatsUptoRow.holds Try.pinned (OpenSpec.upto fnExactClosingBeatsSpec)

/-- 'laws.FnExactRunPlan', WHERE WHAT IT READS IS OF BULK AT MOST 1048576: true; the input reads as it did. -/
def fnExactRunPlanUptoRow : OpenClaim := { program := "ythhcpfaabnanoaa", sum := "5af76f51dd92b3e72ce7a8dd84c0574a1729540c59c62b24dabc7ee03cca058e", func := "loop.example/g00989/laws.FnExactRunPlan", spec := "fnExactRunPlan", apart := false, narrowed := true }
def FnExactRunPlanUptoSaid : Prop := fnExactRunPlanUptoRow.holds Try.pinned (OpenSpec.upto fnExactRunPlanSpec)

/-- 'laws.FnDepths', WHERE WHAT IT READS IS OF BULK AT MOST 1048576: true; the input reads as it did. -/
def fnDepthsUptoRow : OpenClaim := { program := "ythhcpfaabnanoaa", sum := "5af76f51dd92b3e72ce7a8dd84c0574a1729540c59c62b24dabc7ee03cca058e", func := "loop.example/g00989/laws.FnDepths", spec := "fnDepths", recurses := true, apart := false, narrowed := true }
def FnDepthsUptoSaid : Prop := fnDepthsUptoRow.holds Try.pinned (OpenSpec.upto fnDepthsSpec)

/-- 'laws.FnExactKeysTuned', WHERE WHAT IT READS IS OF BULK AT MOST 1048576: true; the input reads as it did. -/
def fnExactKeysTunedUptoRow : OpenClaim := { program := "ythhcpfaabnanoaa", sum := "5af76f51dd92b3e72ce7a8dd84c0574a1729540c59c62b24dabc7ee03cca058e", func := "loop.example/g00989/laws.FnExactKeysTuned", spec := "fnExactKeysTuned", recurses := true, apart := false, narrowed := true }
def FnExactKeysTunedUptoSaid : Prop := fnExactKeysTunedUptoRow.holds Try.pinned (OpenSpec.upto fnExactKeysTunedSpec)

/-- 'laws.FnExactAffectedKeys', WHERE WHAT IT READS IS OF BULK AT MOST 1048576: true; the input reads as it did. -/
def fnExactAffectedKeysUptoRow : OpenClaim := { program := "ythhcpfaabnanoaa", sum := "5af76f51dd92b3e72ce7a8dd84c0574a1729540c59c62b24dabc7ee03cca058e", func := "loop.example/g00989/laws.FnExactAffectedKeys", spec := "fnExactAffectedKeys", recurses := true, apart := false, narrowed := true }
def FnExactAffectedKeysUptoSaid : Prop := fnExactAffectedKeysUptoRow.holds Try.pinned (OpenSpec.upto fnExactAffectedKeysSpec)

/-- 'laws.FnExactDeepestKey', WHERE WHAT IT READS IS OF BULK AT MOST 1048576: true; the input reads as it did. -/
def fnExactDeepestKeyUptoRow : OpenClaim := { program := "ythhcpfaabnanoaa", sum := "5af76f51dd92b3e72ce7a8dd84c0574a1729540c59c62b24dabc7ee03cca058e", func := "loop.example/g00989/laws.FnExactDeepestKey", spec := "fnExactDeepestKey", recurses := true, apart := false, narrowed := true }
def FnExactDeepestKeyUptoSaid : Prop := fnExactDeepestKeyUptoRow.holds Try.pinned (OpenSpec.upto fnExactDeepestKeySpec)

/-- 'laws.FnPlans', WHERE WHAT IT READS IS OF BULK AT MOST 1048576: true; the input reads as it did. -/
def fnPlansUptoRow : OpenClaim := { program := "ythhcpfaabnanoaa", sum := "5af76f51dd92b3e72ce7a8dd84c0574a1729540c59c62b24dabc7ee03cca058e", func := "loop.example/g00989/laws.FnPlans", spec := "fnPlans", recurses := true, apart := false, narrowed := true }
def FnPlansUptoSaid : Prop := fnPlansUptoRow.holds Try.pinned (OpenSpec.upto fnPlansSpec)

end Rows
end Go.Proofs.Ythhcpfaabnanoaa
