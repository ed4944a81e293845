/-
  No cell of these rows narrows 'for every input' (looked for: loops, veiled, ifaces, maps, wideKeys, modest, calm, conditions, laid).
  DERIVED. THE GIVEN ROWS OF THIS SEAT. 11 by the template 'for every input the law returns true; each argument reads behind the call as it read before'; 0 by the template 'total and deterministic' (their statements: YtnihgkbmbddlaaaTotals.lean).
  GIVEN WITH THE SEED: the statements are not yours to turn. If you find one false, say at which input.
  Laid BY PROGRAM, IN A SANDBOX (cutbox-rows.mjs): the forced cells as the released guide's own fill.sh prints them over the translation 7378b8a879bf9f85… (all of the seat's roots in one cut). By AI agents, Wed Nov 11 2026. No macro, syntax, notation, axiom, sorry.
-/
import Derived.Test.YtnihgkbmbddlaaaChecked
import GoSem.Claim
import GoSem.ClaimJoined
import GoSem.ClaimMapViews
import Derived.JoinedTies
import Derived.KernelRfl
namespace Go.Proofs.Ytnihgkbmbddlaaa
/- THE CELL 'sum', in the pinned program and in every row, IS THE sha256 OF THE DUMP (.gsa) THAT YtnihgkbmbddlaaaProg.lean LOADS. Nothing in Lean hashes anything: it is a label: what it is worth is what the hold of that sum in a sandbox is worth. -/
noncomputable def Try.pinned : Pinned := { name := "ytnihgkbmbddlaaa", sum := "7378b8a879bf9f85febc7786f50369855b550e6c68c1034d0caab4964f538126", checked := Try.checked }
namespace Rows
def none {H : Type} : Left H := { results := [], args := [] }

/-- 'laws.FnExactEvenPlaces': WHATEVER THE INPUT: true; the input reads as it did. -/
def fnExactEvenPlacesSpec : ChangeSpec := { name := "fnExactEvenPlaces", fn := fun _ => fun
  | [d1, d2] => { results := [.lit (.bool true)], args := [d1, d2] }
  | _ => none }
def fnExactEvenPlacesRow : OpenClaim := { program := "ytnihgkbmbddlaaa", sum := "7378b8a879bf9f85febc7786f50369855b550e6c68c1034d0caab4964f538126", func := "loop.example/g00989/laws.FnExactEvenPlaces", spec := "fnExactEvenPlaces", apart := false }
def FnExactEvenPlacesSaid : Prop := fnExactEvenPlacesRow.holds Try.pinned (OpenSpec.ofChange fnExactEvenPlacesSpec)

/-- ITS FALSE NEIGHBOUR: 'it returns false'. Refute it at one input. -/
def fnExactEvenPlacesWrong : ChangeSpec := { name := "fnExactEvenPlaces", fn := fun _ => fun
  | [d1, d2] => { results := [.lit (.bool false)], args := [d1, d2] }
  | _ => none }
def FnExactEvenPlacesWrongFalsely : Prop := fnExactEvenPlacesRow.holds Try.pinned (OpenSpec.ofChange fnExactEvenPlacesWrong)

/-- 'laws.FnExactMajorScale': WHATEVER THE INPUT: true; the input reads as it did. -/
def fnExactMajorScaleSpec : ChangeSpec := { name := "fnExactMajorScale", fn := fun _ => fun
  | [] => { results := [.lit (.bool true)], args := [] }
  | _ => none }
def fnExactMajorScaleRow : OpenClaim := { program := "ytnihgkbmbddlaaa", sum := "7378b8a879bf9f85febc7786f50369855b550e6c68c1034d0caab4964f538126", func := "loop.example/g00989/laws.FnExactMajorScale", spec := "fnExactMajorScale", apart := false }
def FnExactMajorScaleSaid : Prop := fnExactMajorScaleRow.holds Try.pinned (OpenSpec.ofChange fnExactMajorScaleSpec)

/-- ITS FALSE NEIGHBOUR: 'it returns false'. Refute it at one input. -/
def fnExactMajorScaleWrong : ChangeSpec := { name := "fnExactMajorScale", fn := fun _ => fun
  | [] => { results := [.lit (.bool false)], args := [] }
  | _ => none }
def FnExactMajorScaleWrongFalsely : Prop := fnExactMajorScaleRow.holds Try.pinned (OpenSpec.ofChange fnExactMajorScaleWrong)

/-- 'laws.FnExactScaleOk': WHATEVER THE INPUT: true; the input reads as it did. -/
def fnExactScaleOkSpec : ChangeSpec := { name := "fnExactScaleOk", fn := fun _ => fun
  | [d] => { results := [.lit (.bool true)], args := [d] }
  | _ => none }
def fnExactScaleOkRow : OpenClaim := { program := "ytnihgkbmbddlaaa", sum := "7378b8a879bf9f85febc7786f50369855b550e6c68c1034d0caab4964f538126", func := "loop.example/g00989/laws.FnExactScaleOk", spec := "fnExactScaleOk", apart := false }
def FnExactScaleOkSaid : Prop := fnExactScaleOkRow.holds Try.pinned (OpenSpec.ofChange fnExactScaleOkSpec)

/-- ITS FALSE NEIGHBOUR: 'it returns false'. Refute it at one input. -/
def fnExactScaleOkWrong : ChangeSpec := { name := "fnExactScaleOk", fn := fun _ => fun
  | [d] => { results := [.lit (.bool false)], args := [d] }
  | _ => none }
def FnExactScaleOkWrongFalsely : Prop := fnExactScaleOkRow.holds Try.pinned (OpenSpec.ofChange fnExactScaleOkWrong)

/-- 'laws.FnExactUsualPlan': WHATEVER THE INPUT: true; the input reads as it did. -/
def fnExactUsualPlanSpec : ChangeSpec := { name := "fnExactUsualPlan", fn := fun _ => fun
  | [d] => { results := [.lit (.bool true)], args := [d] }
  | _ => none }
def fnExactUsualPlanRow : OpenClaim := { program := "ytnihgkbmbddlaaa", sum := "7378b8a879bf9f85febc7786f50369855b550e6c68c1034d0caab4964f538126", func := "loop.example/g00989/laws.FnExactUsualPlan", spec := "fnExactUsualPlan", apart := false }
def FnExactUsualPlanSaid : Prop := fnExactUsualPlanRow.holds Try.pinned (OpenSpec.ofChange fnExactUsualPlanSpec)

/-- ITS FALSE NEIGHBOUR: 'it returns false'. Refute it at one input. -/
def fnExactUsualPlanWrong : ChangeSpec := { name := "fnExactUsualPlan", fn := fun _ => fun
  | [d] => { results := [.lit (.bool false)], args := [d] }
  | _ => none }
def FnExactUsualPlanWrongFalsely : Prop := fnExactUsualPlanRow.holds Try.pinned (OpenSpec.ofChange fnExactUsualPlanWrong)

/-- 'laws.FnExactSpanAt': WHATEVER THE INPUT: true; the input reads as it did. -/
def fnExactSpanAtSpec : ChangeSpec := { name := "fnExactSpanAt", fn := fun _ => fun
  | [d1, d2, d3] => { results := [.lit (.bool true)], args := [d1, d2, d3] }
  | _ => none }
def fnExactSpanAtRow : OpenClaim := { program := "ytnihgkbmbddlaaa", sum := "7378b8a879bf9f85febc7786f50369855b550e6c68c1034d0caab4964f538126", func := "loop.example/g00989/laws.FnExactSpanAt", spec := "fnExactSpanAt", apart := false }
def FnExactSpanAtSaid : Prop := fnExactSpanAtRow.holds Try.pinned (OpenSpec.ofChange fnExactSpanAtSpec)

/-- ITS FALSE NEIGHBOUR: 'it returns false'. Refute it at one input. -/
def fnExactSpanAtWrong : ChangeSpec := { name := "fnExactSpanAt", fn := fun _ => fun
  | [d1, d2, d3] => { results := [.lit (.bool false)], args := [d1, d2, d3] }
  | _ => none }
def FnExactSpanAtWrongFalsely : Prop := fnExactSpanAtRow.holds Try.pinned (OpenSpec.ofChange fnExactSpanAtWrong)

/-- 'laws.FnExactScaleSum': WHATEVER THE INPUT: true; the input reads as it did. -/
def fnExactScaleSumSpec : ChangeSpec := { name := "fnExactScaleSum", fn := fun _ => fun
  | [d] => { results := [.lit (.bool true)], args := [d] }
  | _ => none }
def fnExactScaleSumRow : OpenClaim := { program := "ytnihgkbmbddlaaa", sum := "7378b8a879bf9f85febc7786f50369855b550e6c68c1034d0caab4964f538126", func := "loop.example/g00989/laws.FnExactScaleSum", spec := "fnExactScaleSum", apart := false }
def FnExactScaleSumSaid : Prop := fnExactScaleSumRow.holds Try.pinned (OpenSpec.ofChange fnExactScaleSumSpec)

/-- ITS FALSE NEIGHBOUR: 'it returns false'. Refute it at one input. -/
def fnExactScaleSumWrong : ChangeSpec := { name := "fnExactScaleSum", fn := fun _ => fun
  | [d] => { results := [.lit (.bool false)], args := [d] }
  | _ => none }
def FnExactScaleSumWrongFalsely : Prop := fnExactScaleSumRow.holds Try.pinned (OpenSpec.ofChange fnExactScaleSumWrong)

/-- 'laws.FnExactEvenScale': WHATEVER THE INPUT: true; the input reads as it did. -/
def fnExactEvenScaleSpec : ChangeSpec := { name := "fnExactEvenScale", fn := fun _ => fun
  | [d1, d2] => { results := [.lit (.bool true)], args := [d1, d2] }
  | _ => none }
def fnExactEvenScaleRow : OpenClaim := { program := "ytnihgkbmbddlaaa", sum := "7378b8a879bf9f85febc7786f50369855b550e6c68c1034d0caab4964f538126", func := "loop.example/g00989/laws.FnExactEvenScale", spec := "fnExactEvenScale", apart := false }
def FnExactEvenScaleSaid : Prop := fnExactEvenScaleRow.holds Try.pinned (OpenSpec.ofChange fnExactEvenScaleSpec)

/-- ITS FALSE NEIGHBOUR: 'it returns false'. Refute it at one input. -/
def fnExactEvenScaleWrong : ChangeSpec := { name := "fnExactEvenScale", fn := fun _ => fun
  | [d1, d2] => { results := [.lit (.bool false)], args := [d1, d2] }
  | _ => none }
def FnExactEvenScaleWrongFalsely : Prop := fnExactEvenScaleRow.holds Try.pinned (OpenSpec.ofChange fnExactEvenScaleWrong)

/-- 'laws.FnExactModeOf': WHATEVER THE INPUT: true; the input reads as it did. -/
def fnExactModeOfSpec : ChangeSpec := { name := "fnExactModeOf", fn := fun _ => fun
  | [d1, d2] => { results := [.lit (.bool true)], args := [d1, d2] }
  | _ => none }
def fnExactModeOfRow : OpenClaim := { program := "ytnihgkbmbddlaaa", sum := "7378b8a879bf9f85febc7786f50369855b550e6c68c1034d0caab4964f538126", func := "loop.example/g00989/laws.FnExactModeOf", spec := "fnExactModeOf", apart := false }
def FnExactModeOfSaid : Prop := fnExactModeOfRow.holds Try.pinned (OpenSpec.ofChange fnExactModeOfSpec)

/-- ITS FALSE NEIGHBOUR: 'it returns false'. Refute it at one input. -/
def fnExactModeOfWrong : ChangeSpec := { name := "fnExactModeOf", fn := fun _ => fun
  | [d1, d2] => { results := [.lit (.bool false)], args := [d1, d2] }
  | _ => none }
def FnExactModeOfWrongFalsely : Prop := fnExactModeOfRow.holds Try.pinned (OpenSpec.ofChange fnExactModeOfWrong)

/-- 'laws.FnExactReverseScale': WHATEVER THE INPUT: true; the input reads as it did. -/
def fnExactReverseScaleSpec : ChangeSpec := { name := "fnExactReverseScale", fn := fun _ => fun
  | [d] => { results := [.lit (.bool true)], args := [d] }
  | _ => none }
def fnExactReverseScaleRow : OpenClaim := { program := "ytnihgkbmbddlaaa", sum := "7378b8a879bf9f85febc7786f50369855b550e6c68c1034d0caab4964f538126", func := "loop.example/g00989/laws.FnExactReverseScale", spec := "fnExactReverseScale", apart := false }
def FnExactReverseScaleSaid : Prop := fnExactReverseScaleRow.holds Try.pinned (OpenSpec.ofChange fnExactReverseScaleSpec)

/-- ITS FALSE NEIGHBOUR: 'it returns false'. Refute it at one input. -/
def fnExactReverseScaleWrong : ChangeSpec := { name := "fnExactReverseScale", fn := fun _ => fun
  | [d] => { results := [.lit (.bool false)], args := [d] }
  | _ => none }
def FnExactReverseScaleWrongFalsely : Prop := fnExactReverseScaleRow.holds Try.pinned (OpenSpec.ofChange fnExactReverseScaleWrong)

/-- 'laws.FnExactBrightestMode': WHATEVER THE INPUT: true; the input reads as it did. -/
def fnExactBrightestModeSpec : ChangeSpec := { name := "fnExactBrightestMode", fn := fun _ => fun
  | [d] => { results := [.lit (.bool true)], args := [d] }
  | _ => none }
def fnExactBrightestModeRow : OpenClaim := { program := "ytnihgkbmbddlaaa", sum := "7378b8a879bf9f85febc7786f50369855b550e6c68c1034d0caab4964f538126", func := "loop.example/g00989/laws.FnExactBrightestMode", spec := "fnExactBrightestMode", apart := false }
def FnExactBrightestModeSaid : Prop := fnExactBrightestModeRow.holds Try.pinned (OpenSpec.ofChange fnExactBrightestModeSpec)

/-- ITS FALSE NEIGHBOUR: 'it returns false'. Refute it at one input. -/
def fnExactBrightestModeWrong : ChangeSpec := { name := "fnExactBrightestMode", fn := fun _ => fun
  | [d] => { results := [.lit (.bool false)], args := [d] }
  | _ => none }
def FnExactBrightestModeWrongFalsely : Prop := fnExactBrightestModeRow.holds Try.pinned (OpenSpec.ofChange fnExactBrightestModeWrong)

/-- 'laws.FnExactCountModes': WHATEVER THE INPUT: true; the input reads as it did. -/
def fnExactCountModesSpec : ChangeSpec := { name := "fnExactCountModes", fn := fun _ => fun
  | [d] => { results := [.lit (.bool true)], args := [d] }
  | _ => none }
def fnExactCountModesRow : OpenClaim := { program := "ytnihgkbmbddlaaa", sum := "7378b8a879bf9f85febc7786f50369855b550e6c68c1034d0caab4964f538126", func := "loop.example/g00989/laws.FnExactCountModes", spec := "fnExactCountModes", apart := false }
def FnExactCountModesSaid : Prop := fnExactCountModesRow.holds Try.pinned (OpenSpec.ofChange fnExactCountModesSpec)

/-- ITS FALSE NEIGHBOUR: 'it returns false'. Refute it at one input. -/
def fnExactCountModesWrong : ChangeSpec := { name := "fnExactCountModes", fn := fun _ => fun
  | [d] => { results := [.lit (.bool false)], args := [d] }
  | _ => none }
def FnExactCountModesWrongFalsely : Prop := fnExactCountModesRow.holds Try.pinned (OpenSpec.ofChange fnExactCountModesWrong)

/- THE SECOND FORM. 'bulk': how many values and letters a reading holds, each counted each time it is reached (what is shared counts as often as it is met; a slice's spare places count too). A statement '..UptoSaid' is the law's where the arguments, and the package variables that the reading takes, are together of bulk at most 1048576: NARROWER than '..Said'. Prove '..Said' where nothing that the law and all that it calls make is longer than what came in: it says more and counts as full. Else prove '..UptoSaid'. A law counts once. -/
mutual
def uptoBulk {H : Type} : DataW H → Nat
  | .lit (.string bytes) => bytes.length + 1
  | .lit _ => 1
  | .nil => 1
  | .ptr d => uptoBulk d + 1
  | .slice elems spare => uptoBulkAll elems + uptoBulkAll spare + 1
  | .agg parts => uptoBulkAll parts + 1
  | .iface _ d => uptoBulk d + 1
  | .map entries => uptoBulkEntries entries + 1
  | .held _ => 1
def uptoBulkAll {H : Type} : List (DataW H) → Nat
  | [] => 0
  | d :: r => uptoBulk d + uptoBulkAll r
def uptoBulkEntries {H : Type} : List (Lit × DataW H) → Nat
  | [] => 0
  | x :: r => uptoBulkEntry x + uptoBulkEntries r
def uptoBulkEntry {H : Type} : Lit × DataW H → Nat
  | (.string bytes, d) => bytes.length + uptoBulk d + 1
  | (_, d) => uptoBulk d + 1
 end
def uptoSmall : (H : Type) → List (DataW H) → Bool := fun _ ds => decide (uptoBulkAll ds ≤ 1048576)
def OpenSpec.upto (s : _root_.Go.ChangeSpec) : _root_.Go.OpenSpec := { _root_.Go.OpenSpec.ofChange s with cond := some uptoSmall }

/-- 'laws.FnExactEvenPlaces', WHERE WHAT IT READS IS OF BULK AT MOST 1048576: true; the input reads as it did. -/
def fnExactEvenPlacesUptoRow : OpenClaim := { program := "ytnihgkbmbddlaaa", sum := "7378b8a879bf9f85febc7786f50369855b550e6c68c1034d0caab4964f538126", func := "loop.example/g00989/laws.FnExactEvenPlaces", spec := "fnExactEvenPlaces", apart := false, narrowed := true }
def FnExactEvenPlacesUptoSaid : Prop := fnExactEvenPlacesUptoRow.holds Try.pinned (OpenSpec.upto fnExactEvenPlacesSpec)

/-- 'laws.FnExactMajorScale', WHERE WHAT IT READS IS OF BULK AT MOST 1048576: true; the input reads as it did. -/
def fnExactMajorScaleUptoRow : OpenClaim := { program := "ytnihgkbmbddlaaa", sum := "7378b8a879bf9f85febc7786f50369855b550e6c68c1034d0caab4964f538126", func := "loop.example/g00989/laws.FnExactMajorScale", spec := "fnExactMajorScale", apart := false, narrowed := true }
def FnExactMajorScaleUptoSaid : Prop := fnExactMajorScaleUptoRow.holds Try.pinned (OpenSpec.upto fnExactMajorScaleSpec)

/-- 'laws.FnExactScaleOk', WHERE WHAT IT READS IS OF BULK AT MOST 1048576: true; the input reads as it did. -/
def fnExactScaleOkUptoRow : OpenClaim := { program := "ytnihgkbmbddlaaa", sum := "7378b8a879bf9f85febc7786f50369855b550e6c68c1034d0caab4964f538126", func := "loop.example/g00989/laws.FnExactScaleOk", spec := "fnExactScaleOk", apart := false, narrowed := true }
def FnExactScaleOkUptoSaid : Prop := fnExactScaleOkUptoRow.holds Try.pinned (OpenSpec.upto fnExactScaleOkSpec)

/-- 'laws.FnExactUsualPlan', WHERE WHAT IT READS IS OF BULK AT MOST 1048576: true; the input reads as it did. -/
def fnExactUsualPlanUptoRow : OpenClaim := { program := "ytnihgkbmbddlaaa", sum := "7378b8a879bf9f85febc7786f50369855b550e6c68c1034d0caab4964f538126", func := "loop.example/g00989/laws.FnExactUsualPlan", spec := "fnExactUsualPlan", apart := false, narrowed := true }
def FnExactUsualPlanUptoSaid : Prop := fnExactUsualPlanUptoRow.holds Try.pinned (OpenSpec.upto fnExactUsualPlanSpec)

/-- 'laws.FnExactSpanAt', WHERE WHAT IT READS IS OF BULK AT MOST 1048576: true; the input reads as it did. -/
def fnExactSpanAtUptoRow : OpenClaim := { program := "ytnihgkbmbddlaaa", sum := "7378b8a879bf9f85febc7786f50369855b550e6c68c1034d0caab4964f538126", func := "loop.example/g00989/laws.FnExactSpanAt", spec := "fnExactSpanAt", apart := false, narrowed := true }
def FnExactSpanAtUptoSaid : Prop := fnExactSpanAtUptoRow.holds Try.pinned (OpenSpec.upto fnExactSpanAtSpec)

/-- 'laws.FnExactScaleSum', WHERE WHAT IT READS IS OF BULK AT MOST 1048576: true; the input reads as it did. -/
def fnExactScaleSumUptoRow : OpenClaim := { program := "ytnihgkbmbddlaaa", sum := "7378b8a879bf9f85febc7786f50369855b550e6c68c1034d0caab4964f538126", func := "loop.example/g00989/laws.FnExactScaleSum", spec := "fnExactScaleSum", apart := false, narrowed := true }
def FnExactScaleSumUptoSaid : Prop := fnExactScaleSumUptoRow.holds Try.pinned (OpenSpec.upto fnExactScaleSumSpec)

/-- 'laws.FnExactEvenScale', WHERE WHAT IT READS IS OF BULK AT MOST 1048576: true; the input reads as it did. -/
def fnExactEvenScaleUptoRow : OpenClaim := { program := "ytnihgkbmbddlaaa", sum := "7378b8a879bf9f85febc7786f50369855b550e6c68c1034d0caab4964f538126", func := "loop.example/g00989/laws.FnExactEvenScale", spec := "fnExactEvenScale", apart := false, narrowed := true }
def FnExactEvenScaleUptoSaid : Prop := fnExactEvenScaleUptoRow.holds Try.pinned (OpenSpec.upto fnExactEvenScaleSpec)

/-- 'laws.FnExactModeOf', WHERE WHAT IT READS IS OF BULK AT MOST 1048576: true; the input reads as it did. -/
def fnExactModeOfUptoRow : OpenClaim := { program := "ytnihgkbmbddlaaa", sum := "7378b8a879bf9f85febc7786f50369855b550e6c68c1034d0caab4964f538126", func := "loop.example/g00989/laws.FnExactModeOf", spec := "fnExactModeOf", apart := false, narrowed := true }
def FnExactModeOfUptoSaid : Prop := fnExactModeOfUptoRow.holds Try.pinned (OpenSpec.upto fnExactModeOfSpec)

/-- 'laws.FnExactReverseScale', WHERE WHAT IT READS IS OF BULK AT MOST 1048576: true; the input reads as it did. -/
def fnExactReverseScaleUptoRow : OpenClaim := { program := "ytnihgkbmbddlaaa", sum := "7378b8a879bf9f85febc7786f50369855b550e6c68c1034d0caab4964f538126", func := "loop.example/g00989/laws.FnExactReverseScale", spec := "fnExactReverseScale", apart := false, narrowed := true }
def FnExactReverseScaleUptoSaid : Prop := fnExactReverseScaleUptoRow.holds Try.pinned (OpenSpec.upto fnExactReverseScaleSpec)

/-- 'laws.FnExactBrightestMode', WHERE WHAT IT READS IS OF BULK AT MOST 1048576: true; the input reads as it did. -/
def fnExactBrightestModeUptoRow : OpenClaim := { program := "ytnihgkbmbddlaaa", sum := "7378b8a879bf9f85febc7786f50369855b550e6c68c1034d0caab4964f538126", func := "loop.example/g00989/laws.FnExactBrightestMode", spec := "fnExactBrightestMode", apart := false, narrowed := true }
def FnExactBrightestModeUptoSaid : Prop := fnExactBrightestModeUptoRow.holds Try.pinned (OpenSpec.upto fnExactBrightestModeSpec)

/-- 'laws.FnExactCountModes', WHERE WHAT IT READS IS OF BULK AT MOST 1048576: true; the input reads as it did. -/
def fnExactCountModesUptoRow : OpenClaim := { program := "ytnihgkbmbddlaaa", sum := "7378b8a879bf9f85febc7786f50369855b550e6c68c1034d0caab4964f538126", func := "loop.example/g00989/laws.FnExactCountModes", spec := "fnExactCountModes", apart := false, narrowed := true }
def FnExactCountModesUptoSaid : Prop := fnExactCountModesUptoRow.holds Try.pinned (OpenSpec.upto fnExactCountModesSpec)

end Rows
end Go.Proofs.Ytnihgkbmbddlaaa
