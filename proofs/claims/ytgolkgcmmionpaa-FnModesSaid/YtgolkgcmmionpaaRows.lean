/-
  No cell of these rows narrows 'for every input' (looked for: loops, veiled, ifaces, maps, wideKeys, modest, calm, conditions, laid).
  DERIVED. THE GIVEN ROWS OF THIS SEAT. 7 by the template 'for every input the law returns true; each argument reads behind the call as it read before'; 0 by the template 'total and deterministic' (their statements: YtgolkgcmmionpaaTotals.lean).
  GIVEN WITH THE SEED: the statements are not yours to turn. If you find one false, say at which input.
  Laid BY PROGRAM, IN A SANDBOX (cutbox-rows.mjs): the forced cells as the released guide's own fill.sh prints them over the translation 6911835de96b08b0… (all of the seat's roots in one cut). By AI agents, Wed Nov 11 2026. No macro, syntax, notation, axiom, sorry.
-/
import Derived.Test.YtgolkgcmmionpaaChecked
import GoSem.Claim
import GoSem.ClaimJoined
import GoSem.ClaimMapViews
import Derived.JoinedTies
import Derived.KernelRfl
namespace Go.Proofs.Ytgolkgcmmionpaa
/- THE CELL 'sum', in the pinned program and in every row, IS THE sha256 OF THE DUMP (.gsa) THAT YtgolkgcmmionpaaProg.lean LOADS. Nothing in Lean hashes anything: it is a label: what it is worth is what the hold of that sum in a sandbox is worth. -/
noncomputable def Try.pinned : Pinned := { name := "ytgolkgcmmionpaa", sum := "6911835de96b08b0e1bcaacf222fef62135e28491c309a8c9ec3d59a99ca2cc0", checked := Try.checked }
namespace Rows
def none {H : Type} : Left H := { results := [], args := [] }

/-- 'laws.FnEven': WHATEVER THE INPUT: true; the input reads as it did. -/
def fnEvenSpec : ChangeSpec := { name := "fnEven", fn := fun _ => fun
  | [d] => { results := [.lit (.bool true)], args := [d] }
  | _ => none }
def fnEvenRow : OpenClaim := { program := "ytgolkgcmmionpaa", sum := "6911835de96b08b0e1bcaacf222fef62135e28491c309a8c9ec3d59a99ca2cc0", func := "loop.example/g00989/laws.FnEven", spec := "fnEven", recurses := true, apart := false }
def FnEvenSaid : Prop := fnEvenRow.holds Try.pinned (OpenSpec.ofChange fnEvenSpec)

/-- ITS FALSE NEIGHBOUR: 'it returns false'. Refute it at one input. -/
def fnEvenWrong : ChangeSpec := { name := "fnEven", fn := fun _ => fun
  | [d] => { results := [.lit (.bool false)], args := [d] }
  | _ => none }
def FnEvenWrongFalsely : Prop := fnEvenRow.holds Try.pinned (OpenSpec.ofChange fnEvenWrong)

/-- 'laws.FnSpans': WHATEVER THE INPUT: true; the input reads as it did. -/
def fnSpansSpec : ChangeSpec := { name := "fnSpans", fn := fun _ => fun
  | [d] => { results := [.lit (.bool true)], args := [d] }
  | _ => none }
def fnSpansRow : OpenClaim := { program := "ytgolkgcmmionpaa", sum := "6911835de96b08b0e1bcaacf222fef62135e28491c309a8c9ec3d59a99ca2cc0", func := "loop.example/g00989/laws.FnSpans", spec := "fnSpans", recurses := true, apart := false }
def FnSpansSaid : Prop := fnSpansRow.holds Try.pinned (OpenSpec.ofChange fnSpansSpec)

/-- ITS FALSE NEIGHBOUR: 'it returns false'. Refute it at one input. -/
def fnSpansWrong : ChangeSpec := { name := "fnSpans", fn := fun _ => fun
  | [d] => { results := [.lit (.bool false)], args := [d] }
  | _ => none }
def FnSpansWrongFalsely : Prop := fnSpansRow.holds Try.pinned (OpenSpec.ofChange fnSpansWrong)

/-- 'laws.FnExactHasTwoSizes': WHATEVER THE INPUT: true; the input reads as it did. -/
def fnExactHasTwoSizesSpec : ChangeSpec := { name := "fnExactHasTwoSizes", fn := fun _ => fun
  | [d] => { results := [.lit (.bool true)], args := [d] }
  | _ => none }
def fnExactHasTwoSizesRow : OpenClaim := { program := "ytgolkgcmmionpaa", sum := "6911835de96b08b0e1bcaacf222fef62135e28491c309a8c9ec3d59a99ca2cc0", func := "loop.example/g00989/laws.FnExactHasTwoSizes", spec := "fnExactHasTwoSizes", recurses := true, apart := false }
def FnExactHasTwoSizesSaid : Prop := fnExactHasTwoSizesRow.holds Try.pinned (OpenSpec.ofChange fnExactHasTwoSizesSpec)

/-- ITS FALSE NEIGHBOUR: 'it returns false'. Refute it at one input. -/
def fnExactHasTwoSizesWrong : ChangeSpec := { name := "fnExactHasTwoSizes", fn := fun _ => fun
  | [d] => { results := [.lit (.bool false)], args := [d] }
  | _ => none }
def FnExactHasTwoSizesWrongFalsely : Prop := fnExactHasTwoSizesRow.holds Try.pinned (OpenSpec.ofChange fnExactHasTwoSizesWrong)

/-- 'laws.FnExactIsEven': WHATEVER THE INPUT: true; the input reads as it did. -/
def fnExactIsEvenSpec : ChangeSpec := { name := "fnExactIsEven", fn := fun _ => fun
  | [d] => { results := [.lit (.bool true)], args := [d] }
  | _ => none }
def fnExactIsEvenRow : OpenClaim := { program := "ytgolkgcmmionpaa", sum := "6911835de96b08b0e1bcaacf222fef62135e28491c309a8c9ec3d59a99ca2cc0", func := "loop.example/g00989/laws.FnExactIsEven", spec := "fnExactIsEven", recurses := true, apart := false }
def FnExactIsEvenSaid : Prop := fnExactIsEvenRow.holds Try.pinned (OpenSpec.ofChange fnExactIsEvenSpec)

/-- ITS FALSE NEIGHBOUR: 'it returns false'. Refute it at one input. -/
def fnExactIsEvenWrong : ChangeSpec := { name := "fnExactIsEven", fn := fun _ => fun
  | [d] => { results := [.lit (.bool false)], args := [d] }
  | _ => none }
def FnExactIsEvenWrongFalsely : Prop := fnExactIsEvenRow.holds Try.pinned (OpenSpec.ofChange fnExactIsEvenWrong)

/-- 'laws.FnExactUnevenness': WHATEVER THE INPUT: true; the input reads as it did. -/
def fnExactUnevennessSpec : ChangeSpec := { name := "fnExactUnevenness", fn := fun _ => fun
  | [d] => { results := [.lit (.bool true)], args := [d] }
  | _ => none }
def fnExactUnevennessRow : OpenClaim := { program := "ytgolkgcmmionpaa", sum := "6911835de96b08b0e1bcaacf222fef62135e28491c309a8c9ec3d59a99ca2cc0", func := "loop.example/g00989/laws.FnExactUnevenness", spec := "fnExactUnevenness", recurses := true, apart := false }
def FnExactUnevennessSaid : Prop := fnExactUnevennessRow.holds Try.pinned (OpenSpec.ofChange fnExactUnevennessSpec)

/-- ITS FALSE NEIGHBOUR: 'it returns false'. Refute it at one input. -/
def fnExactUnevennessWrong : ChangeSpec := { name := "fnExactUnevenness", fn := fun _ => fun
  | [d] => { results := [.lit (.bool false)], args := [d] }
  | _ => none }
def FnExactUnevennessWrongFalsely : Prop := fnExactUnevennessRow.holds Try.pinned (OpenSpec.ofChange fnExactUnevennessWrong)

/-- 'laws.FnExactSpansOf': WHATEVER THE INPUT: true; the input reads as it did. -/
def fnExactSpansOfSpec : ChangeSpec := { name := "fnExactSpansOf", fn := fun _ => fun
  | [d1, d2] => { results := [.lit (.bool true)], args := [d1, d2] }
  | _ => none }
def fnExactSpansOfRow : OpenClaim := { program := "ytgolkgcmmionpaa", sum := "6911835de96b08b0e1bcaacf222fef62135e28491c309a8c9ec3d59a99ca2cc0", func := "loop.example/g00989/laws.FnExactSpansOf", spec := "fnExactSpansOf", recurses := true, apart := false }
def FnExactSpansOfSaid : Prop := fnExactSpansOfRow.holds Try.pinned (OpenSpec.ofChange fnExactSpansOfSpec)

/-- ITS FALSE NEIGHBOUR: 'it returns false'. Refute it at one input. -/
def fnExactSpansOfWrong : ChangeSpec := { name := "fnExactSpansOf", fn := fun _ => fun
  | [d1, d2] => { results := [.lit (.bool false)], args := [d1, d2] }
  | _ => none }
def FnExactSpansOfWrongFalsely : Prop := fnExactSpansOfRow.holds Try.pinned (OpenSpec.ofChange fnExactSpansOfWrong)

/-- 'laws.FnModes': WHATEVER THE INPUT: true; the input reads as it did. -/
def fnModesSpec : ChangeSpec := { name := "fnModes", fn := fun _ => fun
  | [d] => { results := [.lit (.bool true)], args := [d] }
  | _ => none }
def fnModesRow : OpenClaim := { program := "ytgolkgcmmionpaa", sum := "6911835de96b08b0e1bcaacf222fef62135e28491c309a8c9ec3d59a99ca2cc0", func := "loop.example/g00989/laws.FnModes", spec := "fnModes", recurses := true, apart := false }
def FnModesSaid : Prop := fnModesRow.holds Try.pinned (OpenSpec.ofChange fnModesSpec)

/-- ITS FALSE NEIGHBOUR: 'it returns false'. Refute it at one input. -/
def fnModesWrong : ChangeSpec := { name := "fnModes", fn := fun _ => fun
  | [d] => { results := [.lit (.bool false)], args := [d] }
  | _ => none }
def FnModesWrongFalsely : Prop := fnModesRow.holds Try.pinned (OpenSpec.ofChange fnModesWrong)

/- THE SECOND FORM. 'bulk': how many values and letters a reading holds, each counted each time it is reached (what is shared counts as often as it is met; a slice's spare places count too). A statement '..UptoSaid' is the law's where the arguments, and the package variables that the reading takes, are together of bulk at most 1048576: NARROWER than '..Said'. Prove '..Said' where nothing that the law and all that it calls make is longer than what came in: it says more and counts as full. Else prove '..UptoSaid'. A law counts once. -/
mutual
def uptoBulk {H : Type} : DataW H → Nat
  | .lit (.string bytes) => bytes.length + 1
  | .lit _ => 1
  | .nil => 1
  | .ptr d => uptoBulk d + 1
  | .slice elems spare => uptoBulkAll elems + uptoBulkAll spare + 1
  | .agg parts => uptoBulkAll parts + 1
  | .iface _ d => uptoBulk d + 1
  | .map entries => uptoBulkEntries entries + 1
  | .held _ => 1
def uptoBulkAll {H : Type} : List (DataW H) → Nat
  | [] => 0
  | d :: r => uptoBulk d + uptoBulkAll r
def uptoBulkEntries {H : Type} : List (Lit × DataW H) → Nat
  | [] => 0
  | x :: r => uptoBulkEntry x + uptoBulkEntries r
def uptoBulkEntry {H : Type} : Lit × DataW H → Nat
  | (.string bytes, d) => bytes.length + uptoBulk d + 1
  | (_, d) => uptoBulk d + 1
 end
def uptoSmall : (H : Type) → List (DataW H) → Bool := fun _ ds => decide (uptoBulkAll ds ≤ 1048576)
def OpenSpec.upto (s : _root_.Go.ChangeSpec) : _root_.Go.OpenSpec := { _root_.Go.OpenSpec.ofChange s with cond := some uptoSmall }

/-- 'laws.FnEven', WHERE WHAT IT READS IS OF BULK AT MOST 1048576: true; the input reads as it did. -/
def fnEvenUptoRow : OpenClaim := { program := "ytgolkgcmmionpaa", sum := "6911835de96b08b0e1bcaacf222fef62135e28491c309a8c9ec3d59a99ca2cc0", func := "loop.example/g00989/laws.FnEven", spec := "fnEven", recurses := true, apart := false, narrowed := true }
def FnEvenUptoSaid : Prop := fnEvenUptoRow.holds Try.pinned (OpenSpec.upto fnEvenSpec)

/-- 'laws.FnSpans', WHERE WHAT IT READS IS OF BULK AT MOST 1048576: true; the input reads as it did. -/
def fnSpansUptoRow : OpenClaim := { program := "ytgolkgcmmionpaa", sum := "6911835de96b08b0e1bcaacf222fef62135e28491c309a8c9ec3d59a99ca2cc0", func := "loop.example/g00989/laws.FnSpans", spec := "fnSpans", recurses := true, apart := false, narrowed := true }
def FnSpansUptoSaid : Prop := fnSpansUptoRow.holds Try.pinned (OpenSpec.upto fnSpansSpec)

/-- 'laws.FnExactHasTwoSizes', WHERE WHAT IT READS IS OF BULK AT MOST 1048576: true; the input reads as it did. -/
def fnExactHasTwoSizesUptoRow : OpenClaim := { program := "ytgolkgcmmionpaa", sum := "6911835de96b08b0e1bcaacf222fef62135e28491c309a8c9ec3d59a99ca2cc0", func := "loop.example/g00989/laws.FnExactHasTwoSizes", spec := "fnExactHasTwoSizes", recurses := true, apart := false, narrowed := true }
def FnExactHasTwoSizesUptoSaid : Prop := fnExactHasTwoSizesUptoRow.holds Try.pinned (OpenSpec.upto fnExactHasTwoSizesSpec)

/-- 'laws.FnExactIsEven', WHERE WHAT IT READS IS OF BULK AT MOST 1048576: true; the input reads as it did. -/
def fnExactIsEvenUptoRow : OpenClaim := { program := "ytgolkgcmmionpaa", sum := "6911835de96b08b0e1bcaacf222fef62135e28491c309a8c9ec3d59a99ca2cc0", func := "loop.example/g00989/laws.FnExactIsEven", spec := "fnExactIsEven", recurses := true, apart := false, narrowed := true }
def FnExactIsEvenUptoSaid : Prop := fnExactIsEvenUptoRow.holds Try.pinned (OpenSpec.upto fnExactIsEvenSpec)

/-- 'laws.FnExactUnevenness', WHERE WHAT IT READS IS OF BULK AT MOST 1048576: true; the input reads as it did. -/
def fnExactUnevennessUptoRow : OpenClaim := { program := "ytgolkgcmmionpaa", sum := "6911835de96b08b0e1bcaacf222fef62135e28491c309a8c9ec3d59a99ca2cc0", func := "loop.example/g00989/laws.FnExactUnevenness", spec := "fnExactUnevenness", recurses := true, apart := false, narrowed := true }
def FnExactUnevennessUptoSaid : Prop := fnExactUnevennessUptoRow.holds Try.pinned (OpenSpec.upto fnExactUnevennessSpec)

/-- 'laws.FnExactSpansOf', WHERE WHAT IT READS IS OF BULK AT MOST 1048576: true; the input reads as it did. -/
def fnExactSpansOfUptoRow : OpenClaim := { program := "ytgolkgcmmionpaa", sum := "6911835de96b08b0e1bcaacf222fef62135e28491c309a8c9ec3d59a99ca2cc0", func := "loop.example/g00989/laws.FnExactSpansOf", spec := "fnExactSpansOf", recurses := true, apart := false, narrowed := true }
def FnExactSpansOfUptoSaid : Prop := fnExactSpansOfUptoRow.holds Try.pinned (OpenSpec.upto fnExactSpansOfSpec)

/-- 'laws.FnModes', WHERE WHAT IT READS IS OF BULK AT MOST 1048576: true; the input reads as it did. -/
def fnModesUptoRow : OpenClaim := { program := "ytgolkgcmmionpaa", sum := "6911835de96b08b0e1bcaacf222fef62135e28491c309a8c9ec3d59a99ca2cc0", func := "loop.example/g00989/laws.FnModes", spec := "fnModes", recurses := true, apart := false, narrowed := true }
def FnModesUptoSaid : Prop := fnModesUptoRow.holds Try.pinned (OpenSpec.upto fnModesSpec)

end Rows
end Go.Proofs.Ytgolkgcmmionpaa
