/-
  No cell of these rows narrows 'for every input' (looked for: loops, veiled, ifaces, maps, wideKeys, modest, calm, conditions, laid).
  DERIVED. THE GIVEN ROWS OF THIS SEAT. 11 by the template 'for every input the law returns true; each argument reads behind the call as it read before'; 0 by the template 'total and deterministic' (their statements: YtdipihdbplkdiaaTotals.lean).
  GIVEN WITH THE SEED: the statements are not yours to turn. If you find one false, say at which input.
  Laid BY PROGRAM, IN A SANDBOX (cutbox-rows.mjs): the forced cells as the released guide's own fill.sh prints them over the translation 6e4e87c070e151c6… (all of the seat's roots in one cut). By AI agents, Wed Nov 11 2026. No macro, syntax, notation, axiom, sorry.
-/
import Derived.Test.YtdipihdbplkdiaaChecked
import GoSem.Claim
import GoSem.ClaimJoined
import GoSem.ClaimMapViews
import Derived.JoinedTies
import Derived.KernelRfl
namespace Go.Proofs.Ytdipihdbplkdiaa
/- THE CELL 'sum', in the pinned program and in every row, IS THE sha256 OF THE DUMP (.gsa) THAT YtdipihdbplkdiaaProg.lean LOADS. Nothing in Lean hashes anything: it is a label: what it is worth is what the hold of that sum in a sandbox is worth. -/
noncomputable def Try.pinned : Pinned := { name := "ytdipihdbplkdiaa", sum := "6e4e87c070e151c6ace8584706c0aa5d3a4e42054e788aba3ca7438a45dc8a41", checked := Try.checked }
namespace Rows
def none {H : Type} : Left H := { results := [], args := [] }

/-- 'laws.FnExactKindText': WHATEVER THE INPUT: true; the input reads as it did. -/
def fnExactKindTextSpec : ChangeSpec := { name := "fnExactKindText", fn := fun _ => fun
  | [d] => { results := [.lit (.bool true)], args := [d] }
  | _ => none }
def fnExactKindTextRow : OpenClaim := { program := "ytdipihdbplkdiaa", sum := "6e4e87c070e151c6ace8584706c0aa5d3a4e42054e788aba3ca7438a45dc8a41", func := "loop.example/g00989/laws.FnExactKindText", spec := "fnExactKindText", apart := false }
def FnExactKindTextSaid : Prop := fnExactKindTextRow.holds Try.pinned (OpenSpec.ofChange fnExactKindTextSpec)

/-- ITS FALSE NEIGHBOUR: 'it returns false'. Refute it at one input. -/
def fnExactKindTextWrong : ChangeSpec := { name := "fnExactKindText", fn := fun _ => fun
  | [d] => { results := [.lit (.bool false)], args := [d] }
  | _ => none }
def FnExactKindTextWrongFalsely : Prop := fnExactKindTextRow.holds Try.pinned (OpenSpec.ofChange fnExactKindTextWrong)

/-- 'laws.FnExactBeatsHeard': WHATEVER THE INPUT: true; the input reads as it did. -/
def fnExactBeatsHeardSpec : ChangeSpec := { name := "fnExactBeatsHeard", fn := fun _ => fun
  | [d1, d2, d3] => { results := [.lit (.bool true)], args := [d1, d2, d3] }
  | _ => none }
def fnExactBeatsHeardRow : OpenClaim := { program := "ytdipihdbplkdiaa", sum := "6e4e87c070e151c6ace8584706c0aa5d3a4e42054e788aba3ca7438a45dc8a41", func := "loop.example/g00989/laws.FnExactBeatsHeard", spec := "fnExactBeatsHeard", apart := false }
def FnExactBeatsHeardSaid : Prop := fnExactBeatsHeardRow.holds Try.pinned (OpenSpec.ofChange fnExactBeatsHeardSpec)

/-- ITS FALSE NEIGHBOUR: 'it returns false'. Refute it at one input. -/
def fnExactBeatsHeardWrong : ChangeSpec := { name := "fnExactBeatsHeard", fn := fun _ => fun
  | [d1, d2, d3] => { results := [.lit (.bool false)], args := [d1, d2, d3] }
  | _ => none }
def FnExactBeatsHeardWrongFalsely : Prop := fnExactBeatsHeardRow.holds Try.pinned (OpenSpec.ofChange fnExactBeatsHeardWrong)

/-- 'laws.FnExactPitchOk': WHATEVER THE INPUT: true; the input reads as it did. -/
def fnExactPitchOkSpec : ChangeSpec := { name := "fnExactPitchOk", fn := fun _ => fun
  | [d] => { results := [.lit (.bool true)], args := [d] }
  | _ => none }
def fnExactPitchOkRow : OpenClaim := { program := "ytdipihdbplkdiaa", sum := "6e4e87c070e151c6ace8584706c0aa5d3a4e42054e788aba3ca7438a45dc8a41", func := "loop.example/g00989/laws.FnExactPitchOk", spec := "fnExactPitchOk", apart := false }
def FnExactPitchOkSaid : Prop := fnExactPitchOkRow.holds Try.pinned (OpenSpec.ofChange fnExactPitchOkSpec)

/-- ITS FALSE NEIGHBOUR: 'it returns false'. Refute it at one input. -/
def fnExactPitchOkWrong : ChangeSpec := { name := "fnExactPitchOk", fn := fun _ => fun
  | [d] => { results := [.lit (.bool false)], args := [d] }
  | _ => none }
def FnExactPitchOkWrongFalsely : Prop := fnExactPitchOkRow.holds Try.pinned (OpenSpec.ofChange fnExactPitchOkWrong)

/-- 'laws.FnExactCloses': WHATEVER THE INPUT: true; the input reads as it did. -/
def fnExactClosesSpec : ChangeSpec := { name := "fnExactCloses", fn := fun _ => fun
  | [d] => { results := [.lit (.bool true)], args := [d] }
  | _ => none }
def fnExactClosesRow : OpenClaim := { program := "ytdipihdbplkdiaa", sum := "6e4e87c070e151c6ace8584706c0aa5d3a4e42054e788aba3ca7438a45dc8a41", func := "loop.example/g00989/laws.FnExactCloses", spec := "fnExactCloses", apart := false }
def FnExactClosesSaid : Prop := fnExactClosesRow.holds Try.pinned (OpenSpec.ofChange fnExactClosesSpec)

/-- ITS FALSE NEIGHBOUR: 'it returns false'. Refute it at one input. -/
def fnExactClosesWrong : ChangeSpec := { name := "fnExactCloses", fn := fun _ => fun
  | [d] => { results := [.lit (.bool false)], args := [d] }
  | _ => none }
def FnExactClosesWrongFalsely : Prop := fnExactClosesRow.holds Try.pinned (OpenSpec.ofChange fnExactClosesWrong)

/-- 'laws.FnExactIsNarrow': WHATEVER THE INPUT: true; the input reads as it did. -/
def fnExactIsNarrowSpec : ChangeSpec := { name := "fnExactIsNarrow", fn := fun _ => fun
  | [d1, d2, d3] => { results := [.lit (.bool true)], args := [d1, d2, d3] }
  | _ => none }
def fnExactIsNarrowRow : OpenClaim := { program := "ytdipihdbplkdiaa", sum := "6e4e87c070e151c6ace8584706c0aa5d3a4e42054e788aba3ca7438a45dc8a41", func := "loop.example/g00989/laws.FnExactIsNarrow", spec := "fnExactIsNarrow", apart := false }
def FnExactIsNarrowSaid : Prop := fnExactIsNarrowRow.holds Try.pinned (OpenSpec.ofChange fnExactIsNarrowSpec)

/-- ITS FALSE NEIGHBOUR: 'it returns false'. Refute it at one input. -/
def fnExactIsNarrowWrong : ChangeSpec := { name := "fnExactIsNarrow", fn := fun _ => fun
  | [d1, d2, d3] => { results := [.lit (.bool false)], args := [d1, d2, d3] }
  | _ => none }
def FnExactIsNarrowWrongFalsely : Prop := fnExactIsNarrowRow.holds Try.pinned (OpenSpec.ofChange fnExactIsNarrowWrong)

/-- 'laws.FnExactTunedPitch': WHATEVER THE INPUT: true; the input reads as it did. -/
def fnExactTunedPitchSpec : ChangeSpec := { name := "fnExactTunedPitch", fn := fun _ => fun
  | [d1, d2, d3] => { results := [.lit (.bool true)], args := [d1, d2, d3] }
  | _ => none }
def fnExactTunedPitchRow : OpenClaim := { program := "ytdipihdbplkdiaa", sum := "6e4e87c070e151c6ace8584706c0aa5d3a4e42054e788aba3ca7438a45dc8a41", func := "loop.example/g00989/laws.FnExactTunedPitch", spec := "fnExactTunedPitch", apart := false }
def FnExactTunedPitchSaid : Prop := fnExactTunedPitchRow.holds Try.pinned (OpenSpec.ofChange fnExactTunedPitchSpec)

/-- ITS FALSE NEIGHBOUR: 'it returns false'. Refute it at one input. -/
def fnExactTunedPitchWrong : ChangeSpec := { name := "fnExactTunedPitch", fn := fun _ => fun
  | [d1, d2, d3] => { results := [.lit (.bool false)], args := [d1, d2, d3] }
  | _ => none }
def FnExactTunedPitchWrongFalsely : Prop := fnExactTunedPitchRow.holds Try.pinned (OpenSpec.ofChange fnExactTunedPitchWrong)

/-- 'laws.FnExactMakePitch': WHATEVER THE INPUT: true; the input reads as it did. -/
def fnExactMakePitchSpec : ChangeSpec := { name := "fnExactMakePitch", fn := fun _ => fun
  | [d1, d2] => { results := [.lit (.bool true)], args := [d1, d2] }
  | _ => none }
def fnExactMakePitchRow : OpenClaim := { program := "ytdipihdbplkdiaa", sum := "6e4e87c070e151c6ace8584706c0aa5d3a4e42054e788aba3ca7438a45dc8a41", func := "loop.example/g00989/laws.FnExactMakePitch", spec := "fnExactMakePitch", apart := false }
def FnExactMakePitchSaid : Prop := fnExactMakePitchRow.holds Try.pinned (OpenSpec.ofChange fnExactMakePitchSpec)

/-- ITS FALSE NEIGHBOUR: 'it returns false'. Refute it at one input. -/
def fnExactMakePitchWrong : ChangeSpec := { name := "fnExactMakePitch", fn := fun _ => fun
  | [d1, d2] => { results := [.lit (.bool false)], args := [d1, d2] }
  | _ => none }
def FnExactMakePitchWrongFalsely : Prop := fnExactMakePitchRow.holds Try.pinned (OpenSpec.ofChange fnExactMakePitchWrong)

/-- 'laws.FnExactComparePitches': WHATEVER THE INPUT: true; the input reads as it did. -/
def fnExactComparePitchesSpec : ChangeSpec := { name := "fnExactComparePitches", fn := fun _ => fun
  | [d1, d2] => { results := [.lit (.bool true)], args := [d1, d2] }
  | _ => none }
def fnExactComparePitchesRow : OpenClaim := { program := "ytdipihdbplkdiaa", sum := "6e4e87c070e151c6ace8584706c0aa5d3a4e42054e788aba3ca7438a45dc8a41", func := "loop.example/g00989/laws.FnExactComparePitches", spec := "fnExactComparePitches", apart := false }
def FnExactComparePitchesSaid : Prop := fnExactComparePitchesRow.holds Try.pinned (OpenSpec.ofChange fnExactComparePitchesSpec)

/-- ITS FALSE NEIGHBOUR: 'it returns false'. Refute it at one input. -/
def fnExactComparePitchesWrong : ChangeSpec := { name := "fnExactComparePitches", fn := fun _ => fun
  | [d1, d2] => { results := [.lit (.bool false)], args := [d1, d2] }
  | _ => none }
def FnExactComparePitchesWrongFalsely : Prop := fnExactComparePitchesRow.holds Try.pinned (OpenSpec.ofChange fnExactComparePitchesWrong)

/-- 'laws.FnExactTimesPitch': WHATEVER THE INPUT: true; the input reads as it did. -/
def fnExactTimesPitchSpec : ChangeSpec := { name := "fnExactTimesPitch", fn := fun _ => fun
  | [d1, d2, d3] => { results := [.lit (.bool true)], args := [d1, d2, d3] }
  | _ => none }
def fnExactTimesPitchRow : OpenClaim := { program := "ytdipihdbplkdiaa", sum := "6e4e87c070e151c6ace8584706c0aa5d3a4e42054e788aba3ca7438a45dc8a41", func := "loop.example/g00989/laws.FnExactTimesPitch", spec := "fnExactTimesPitch", apart := false }
def FnExactTimesPitchSaid : Prop := fnExactTimesPitchRow.holds Try.pinned (OpenSpec.ofChange fnExactTimesPitchSpec)

/-- ITS FALSE NEIGHBOUR: 'it returns false'. Refute it at one input. -/
def fnExactTimesPitchWrong : ChangeSpec := { name := "fnExactTimesPitch", fn := fun _ => fun
  | [d1, d2, d3] => { results := [.lit (.bool false)], args := [d1, d2, d3] }
  | _ => none }
def FnExactTimesPitchWrongFalsely : Prop := fnExactTimesPitchRow.holds Try.pinned (OpenSpec.ofChange fnExactTimesPitchWrong)

/-- 'laws.FnTuned': WHATEVER THE INPUT: true; the input reads as it did. -/
def fnTunedSpec : ChangeSpec := { name := "fnTuned", fn := fun _ => fun
  | [d] => { results := [.lit (.bool true)], args := [d] }
  | _ => none }
def fnTunedRow : OpenClaim := { program := "ytdipihdbplkdiaa", sum := "6e4e87c070e151c6ace8584706c0aa5d3a4e42054e788aba3ca7438a45dc8a41", func := "loop.example/g00989/laws.FnTuned", spec := "fnTuned", apart := false }
def FnTunedSaid : Prop := fnTunedRow.holds Try.pinned (OpenSpec.ofChange fnTunedSpec)

/-- ITS FALSE NEIGHBOUR: 'it returns false'. Refute it at one input. -/
def fnTunedWrong : ChangeSpec := { name := "fnTuned", fn := fun _ => fun
  | [d] => { results := [.lit (.bool false)], args := [d] }
  | _ => none }
def FnTunedWrongFalsely : Prop := fnTunedRow.holds Try.pinned (OpenSpec.ofChange fnTunedWrong)

/-- 'laws.FnBeats': WHATEVER THE INPUT: true; the input reads as it did. -/
def fnBeatsSpec : ChangeSpec := { name := "fnBeats", fn := fun _ => fun
  | [d] => { results := [.lit (.bool true)], args := [d] }
  | _ => none }
def fnBeatsRow : OpenClaim := { program := "ytdipihdbplkdiaa", sum := "6e4e87c070e151c6ace8584706c0aa5d3a4e42054e788aba3ca7438a45dc8a41", func := "loop.example/g00989/laws.FnBeats", spec := "fnBeats", apart := false }
def FnBeatsSaid : Prop := fnBeatsRow.holds Try.pinned (OpenSpec.ofChange fnBeatsSpec)

/-- ITS FALSE NEIGHBOUR: 'it returns false'. Refute it at one input. -/
def fnBeatsWrong : ChangeSpec := { name := "fnBeats", fn := fun _ => fun
  | [d] => { results := [.lit (.bool false)], args := [d] }
  | _ => none }
def FnBeatsWrongFalsely : Prop := fnBeatsRow.holds Try.pinned (OpenSpec.ofChange fnBeatsWrong)

/- THE SECOND FORM. 'bulk': how many values and letters a reading holds, each counted each time it is reached (what is shared counts as often as it is met; a slice's spare places count too). A statement '..UptoSaid' is the law's where the arguments, and the package variables that the reading takes, are together of bulk at most 1048576: NARROWER than '..Said'. Prove '..Said' where nothing that the law and all that it calls make is longer than what came in: it says more and counts as full. Else prove '..UptoSaid'. A law counts once. -/
mutual
def uptoBulk {H : Type} : DataW H → Nat
  | .lit (.string bytes) => bytes.length + 1
  | .lit _ => 1
  | .nil => 1
  | .ptr d => uptoBulk d + 1
  | .slice elems spare => uptoBulkAll elems + uptoBulkAll spare + 1
  | .agg parts => uptoBulkAll parts + 1
  | .iface _ d => uptoBulk d + 1
  | .map entries => uptoBulkEntries entries + 1
  | .held _ => 1
def uptoBulkAll {H : Type} : List (DataW H) → Nat
  | [] => 0
  | d :: r => uptoBulk d + uptoBulkAll r
def uptoBulkEntries {H : Type} : List (Lit × DataW H) → Nat
  | [] => 0
  | x :: r => uptoBulkEntry x + uptoBulkEntries r
def uptoBulkEntry {H : Type} : Lit × DataW H → Nat
  | (.string bytes, d) => bytes.length + uptoBulk d + 1
  | (_, d) => uptoBulk d + 1
 end
def uptoSmall : (H : Type) → List (DataW H) → Bool := fun _ ds => decide (uptoBulkAll ds ≤ 1048576)
def OpenSpec.upto (s : _root_.Go.ChangeSpec) : _root_.Go.OpenSpec := { _root_.Go.OpenSpec.ofChange s with cond := some uptoSmall }

/-- 'laws.FnExactKindText', WHERE WHAT IT READS IS OF BULK AT MOST 1048576: true; the input reads as it did. -/
def fnExactKindTextUptoRow : OpenClaim := { program := "ytdipihdbplkdiaa", sum := "6e4e87c070e151c6ace8584706c0aa5d3a4e42054e788aba3ca7438a45dc8a41", func := "loop.example/g00989/laws.FnExactKindText", spec := "fnExactKindText", apart := false, narrowed := true }
def FnExactKindTextUptoSaid : Prop := fnExactKindTextUptoRow.holds Try.pinned (OpenSpec.upto fnExactKindTextSpec)

/-- 'laws.FnExactBeatsHeard', WHERE WHAT IT READS IS OF BULK AT MOST 1048576: true; the input reads as it did. -/
def fnExactBeatsHeardUptoRow : OpenClaim := { program := "ytdipihdbplkdiaa", sum := "6e4e87c070e151c6ace8584706c0aa5d3a4e42054e788aba3ca7438a45dc8a41", func := "loop.example/g00989/laws.FnExactBeatsHeard", spec := "fnExactBeatsHeard", apart := false, narrowed := true }
def FnExactBeatsHeardUptoSaid : Prop := fnExactBeatsHeardUptoRow.holds Try.pinned (OpenSpec.upto fnExactBeatsHeardSpec)

/-- 'laws.FnExactPitchOk', WHERE WHAT IT READS IS OF BULK AT MOST 1048576: true; the input reads as it did. -/
def fnExactPitchOkUptoRow : OpenClaim := { program := "ytdipihdbplkdiaa", sum := "6e4e87c070e151c6ace8584706c0aa5d3a4e42054e788aba3ca7438a45dc8a41", func := "loop.example/g00989/laws.FnExactPitchOk", spec := "fnExactPitchOk", apart := false, narrowed := true }
def FnExactPitchOkUptoSaid : Prop := fnExactPitchOkUptoRow.holds Try.pinned (OpenSpec.upto fnExactPitchOkSpec)

/-- 'laws.FnExactCloses', WHERE WHAT IT READS IS OF BULK AT MOST 1048576: true; the input reads as it did. -/
def fnExactClosesUptoRow : OpenClaim := { program := "ytdipihdbplkdiaa", sum := "6e4e87c070e151c6ace8584706c0aa5d3a4e42054e788aba3ca7438a45dc8a41", func := "loop.example/g00989/laws.FnExactCloses", spec := "fnExactCloses", apart := false, narrowed := true }
def FnExactClosesUptoSaid : Prop := fnExactClosesUptoRow.holds Try.pinned (OpenSpec.upto fnExactClosesSpec)

/-- 'laws.FnExactIsNarrow', WHERE WHAT IT READS IS OF BULK AT MOST 1048576: true; the input reads as it did. -/
def fnExactIsNarrowUptoRow : OpenClaim := { program := "ytdipihdbplkdiaa", sum := "6e4e87c070e151c6ace8584706c0aa5d3a4e42054e788aba3ca7438a45dc8a41", func := "loop.example/g00989/laws.FnExactIsNarrow", spec := "fnExactIsNarrow", apart := false, narrowed := true }
def FnExactIsNarrowUptoSaid : Prop := fnExactIsNarrowUptoRow.holds Try.pinned (OpenSpec.upto fnExactIsNarrowSpec)

/-- 'laws.FnExactTunedPitch', WHERE WHAT IT READS IS OF BULK AT MOST 1048576: true; the input reads as it did. -/
def fnExactTunedPitchUptoRow : OpenClaim := { program := "ytdipihdbplkdiaa", sum := "6e4e87c070e151c6ace8584706c0aa5d3a4e42054e788aba3ca7438a45dc8a41", func := "loop.example/g00989/laws.FnExactTunedPitch", spec := "fnExactTunedPitch", apart := false, narrowed := true }
def FnExactTunedPitchUptoSaid : Prop := fnExactTunedPitchUptoRow.holds Try.pinned (OpenSpec.upto fnExactTunedPitchSpec)

/-- 'laws.FnExactMakePitch', WHERE WHAT IT READS IS OF BULK AT MOST 1048576: true; the input reads as it did. -/
def fnExactMakePitchUptoRow : OpenClaim := { program := "ytdipihdbplkdiaa", sum := "6e4e87c070e151c6ace8584706c0aa5d3a4e42054e788aba3ca7438a45dc8a41", func := "loop.example/g00989/laws.FnExactMakePitch", spec := "fnExactMakePitch", apart := false, narrowed := true }
def FnExactMakePitchUptoSaid : Prop := fnExactMakePitchUptoRow.holds Try.pinned (OpenSpec.upto fnExactMakePitchSpec)

/-- 'laws.FnExactComparePitches', WHERE WHAT IT READS IS OF BULK AT MOST 1048576: true; the input reads as it did. -/
def fnExactComparePitchesUptoRow : OpenClaim := { program := "ytdipihdbplkdiaa", sum := "6e4e87c070e151c6ace8584706c0aa5d3a4e42054e788aba3ca7438a45dc8a41", func := "loop.example/g00989/laws.FnExactComparePitches", spec := "fnExactComparePitches", apart := false, narrowed := true }
def FnExactComparePitchesUptoSaid : Prop := fnExactComparePitchesUptoRow.holds Try.pinned (OpenSpec.upto fnExactComparePitchesSpec)

/-- 'laws.FnExactTimesPitch', WHERE WHAT IT READS IS OF BULK AT MOST 1048576: true; the input reads as it did. -/
def fnExactTimesPitchUptoRow : OpenClaim := { program := "ytdipihdbplkdiaa", sum := "6e4e87c070e151c6ace8584706c0aa5d3a4e42054e788aba3ca7438a45dc8a41", func := "loop.example/g00989/laws.FnExactTimesPitch", spec := "fnExactTimesPitch", apart := false, narrowed := true }
def FnExactTimesPitchUptoSaid : Prop := fnExactTimesPitchUptoRow.holds Try.pinned (OpenSpec.upto fnExactTimesPitchSpec)

/-- 'laws.FnTuned', WHERE WHAT IT READS IS OF BULK AT MOST 1048576: true; the input reads as it did. -/
def fnTunedUptoRow : OpenClaim := { program := "ytdipihdbplkdiaa", sum := "6e4e87c070e151c6ace8584706c0aa5d3a4e42054e788aba3ca7438a45dc8a41", func := "loop.example/g00989/laws.FnTuned", spec := "fnTuned", apart := false, narrowed := true }
def FnTunedUptoSaid : Prop := fnTunedUptoRow.holds Try.pinned (OpenSpec.upto fnTunedSpec)

/-- 'laws.FnBeats', WHERE WHAT IT READS IS OF BULK AT MOST 1048576: true; the input reads as it did. -/
def fnBeatsUptoRow : OpenClaim := { program := "ytdipihdbplkdiaa", sum := "6e4e87c070e151c6ace8584706c0aa5d3a4e42054e788aba3ca7438a45dc8a41", func := "loop.example/g00989/laws.FnBeats", spec := "fnBeats", apart := false, narrowed := true }
def FnBeatsUptoSaid : Prop := fnBeatsUptoRow.holds Try.pinned (OpenSpec.upto fnBeatsSpec)

end Rows
end Go.Proofs.Ytdipihdbplkdiaa
