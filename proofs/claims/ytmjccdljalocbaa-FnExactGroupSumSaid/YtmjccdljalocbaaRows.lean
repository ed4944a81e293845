/-
  No cell of these rows narrows 'for every input' (looked for: loops, veiled, ifaces, maps, wideKeys, modest, calm, conditions, laid).
  DERIVED. THE GIVEN ROWS OF THIS SEAT. 9 by the template 'for every input the law returns true; each argument reads behind the call as it read before'; 0 by the template 'total and deterministic' (their statements: YtmjccdljalocbaaTotals.lean).
  GIVEN WITH THE SEED: the statements are not yours to turn. If you find one false, say at which input.
  Laid BY PROGRAM, IN A SANDBOX (cutbox-rows.mjs): the forced cells as the released guide's own fill.sh prints them over the translation 19203e5d48494277… (all of the seat's roots in one cut). By AI agents, Wed Nov 11 2026. No macro, syntax, notation, axiom, sorry.
-/
import Derived.Test.YtmjccdljalocbaaChecked
import GoSem.Claim
import GoSem.ClaimJoined
import GoSem.ClaimMapViews
import Derived.JoinedTies
import Derived.KernelRfl
namespace Go.Proofs.Ytmjccdljalocbaa
/- THE CELL 'sum', in the pinned program and in every row, IS THE sha256 OF THE DUMP (.gsa) THAT YtmjccdljalocbaaProg.lean LOADS. Nothing in Lean hashes anything: it is a label: what it is worth is what the hold of that sum in a sandbox is worth. -/
noncomputable def Try.pinned : Pinned := { name := "ytmjccdljalocbaa", sum := "19203e5d484942770150bf358fd5b14407ca2d1e9867e20d766da7aa65456966", checked := Try.checked }
namespace Rows
def none {H : Type} : Left H := { results := [], args := [] }

/-- 'laws.FnExactTonicNotes': WHATEVER THE INPUT: true; the input reads as it did. -/
def fnExactTonicNotesSpec : ChangeSpec := { name := "fnExactTonicNotes", fn := fun _ => fun
  | [d] => { results := [.lit (.bool true)], args := [d] }
  | _ => none }
def fnExactTonicNotesRow : OpenClaim := { program := "ytmjccdljalocbaa", sum := "19203e5d484942770150bf358fd5b14407ca2d1e9867e20d766da7aa65456966", func := "loop.example/g00989/laws.FnExactTonicNotes", spec := "fnExactTonicNotes", apart := false }
def FnExactTonicNotesSaid : Prop := fnExactTonicNotesRow.holds Try.pinned (OpenSpec.ofChange fnExactTonicNotesSpec)

/-- ITS FALSE NEIGHBOUR: 'it returns false'. Refute it at one input. -/
def fnExactTonicNotesWrong : ChangeSpec := { name := "fnExactTonicNotes", fn := fun _ => fun
  | [d] => { results := [.lit (.bool false)], args := [d] }
  | _ => none }
def FnExactTonicNotesWrongFalsely : Prop := fnExactTonicNotesRow.holds Try.pinned (OpenSpec.ofChange fnExactTonicNotesWrong)

/-- 'laws.FnExactKeyboardOk': WHATEVER THE INPUT: true; the input reads as it did. -/
def fnExactKeyboardOkSpec : ChangeSpec := { name := "fnExactKeyboardOk", fn := fun _ => fun
  | [d] => { results := [.lit (.bool true)], args := [d] }
  | _ => none }
def fnExactKeyboardOkRow : OpenClaim := { program := "ytmjccdljalocbaa", sum := "19203e5d484942770150bf358fd5b14407ca2d1e9867e20d766da7aa65456966", func := "loop.example/g00989/laws.FnExactKeyboardOk", spec := "fnExactKeyboardOk", apart := false }
def FnExactKeyboardOkSaid : Prop := fnExactKeyboardOkRow.holds Try.pinned (OpenSpec.ofChange fnExactKeyboardOkSpec)

/-- ITS FALSE NEIGHBOUR: 'it returns false'. Refute it at one input. -/
def fnExactKeyboardOkWrong : ChangeSpec := { name := "fnExactKeyboardOk", fn := fun _ => fun
  | [d] => { results := [.lit (.bool false)], args := [d] }
  | _ => none }
def FnExactKeyboardOkWrongFalsely : Prop := fnExactKeyboardOkRow.holds Try.pinned (OpenSpec.ofChange fnExactKeyboardOkWrong)

/-- 'laws.FnExactHasNote': WHATEVER THE INPUT: true; the input reads as it did. -/
def fnExactHasNoteSpec : ChangeSpec := { name := "fnExactHasNote", fn := fun _ => fun
  | [d1, d2] => { results := [.lit (.bool true)], args := [d1, d2] }
  | _ => none }
def fnExactHasNoteRow : OpenClaim := { program := "ytmjccdljalocbaa", sum := "19203e5d484942770150bf358fd5b14407ca2d1e9867e20d766da7aa65456966", func := "loop.example/g00989/laws.FnExactHasNote", spec := "fnExactHasNote", apart := false }
def FnExactHasNoteSaid : Prop := fnExactHasNoteRow.holds Try.pinned (OpenSpec.ofChange fnExactHasNoteSpec)

/-- ITS FALSE NEIGHBOUR: 'it returns false'. Refute it at one input. -/
def fnExactHasNoteWrong : ChangeSpec := { name := "fnExactHasNote", fn := fun _ => fun
  | [d1, d2] => { results := [.lit (.bool false)], args := [d1, d2] }
  | _ => none }
def FnExactHasNoteWrongFalsely : Prop := fnExactHasNoteRow.holds Try.pinned (OpenSpec.ofChange fnExactHasNoteWrong)

/-- 'laws.FnExactGroupThirds': WHATEVER THE INPUT: true; the input reads as it did. -/
def fnExactGroupThirdsSpec : ChangeSpec := { name := "fnExactGroupThirds", fn := fun _ => fun
  | [d1, d2] => { results := [.lit (.bool true)], args := [d1, d2] }
  | _ => none }
def fnExactGroupThirdsRow : OpenClaim := { program := "ytmjccdljalocbaa", sum := "19203e5d484942770150bf358fd5b14407ca2d1e9867e20d766da7aa65456966", func := "loop.example/g00989/laws.FnExactGroupThirds", spec := "fnExactGroupThirds", apart := false }
def FnExactGroupThirdsSaid : Prop := fnExactGroupThirdsRow.holds Try.pinned (OpenSpec.ofChange fnExactGroupThirdsSpec)

/-- ITS FALSE NEIGHBOUR: 'it returns false'. Refute it at one input. -/
def fnExactGroupThirdsWrong : ChangeSpec := { name := "fnExactGroupThirds", fn := fun _ => fun
  | [d1, d2] => { results := [.lit (.bool false)], args := [d1, d2] }
  | _ => none }
def FnExactGroupThirdsWrongFalsely : Prop := fnExactGroupThirdsRow.holds Try.pinned (OpenSpec.ofChange fnExactGroupThirdsWrong)

/-- 'laws.FnExactWolfAt': WHATEVER THE INPUT: true; the input reads as it did. -/
def fnExactWolfAtSpec : ChangeSpec := { name := "fnExactWolfAt", fn := fun _ => fun
  | [d] => { results := [.lit (.bool true)], args := [d] }
  | _ => none }
def fnExactWolfAtRow : OpenClaim := { program := "ytmjccdljalocbaa", sum := "19203e5d484942770150bf358fd5b14407ca2d1e9867e20d766da7aa65456966", func := "loop.example/g00989/laws.FnExactWolfAt", spec := "fnExactWolfAt", apart := false }
def FnExactWolfAtSaid : Prop := fnExactWolfAtRow.holds Try.pinned (OpenSpec.ofChange fnExactWolfAtSpec)

/-- ITS FALSE NEIGHBOUR: 'it returns false'. Refute it at one input. -/
def fnExactWolfAtWrong : ChangeSpec := { name := "fnExactWolfAt", fn := fun _ => fun
  | [d] => { results := [.lit (.bool false)], args := [d] }
  | _ => none }
def FnExactWolfAtWrongFalsely : Prop := fnExactWolfAtRow.holds Try.pinned (OpenSpec.ofChange fnExactWolfAtWrong)

/-- 'laws.FnExactIsRegular': WHATEVER THE INPUT: true; the input reads as it did. -/
def fnExactIsRegularSpec : ChangeSpec := { name := "fnExactIsRegular", fn := fun _ => fun
  | [d] => { results := [.lit (.bool true)], args := [d] }
  | _ => none }
def fnExactIsRegularRow : OpenClaim := { program := "ytmjccdljalocbaa", sum := "19203e5d484942770150bf358fd5b14407ca2d1e9867e20d766da7aa65456966", func := "loop.example/g00989/laws.FnExactIsRegular", spec := "fnExactIsRegular", apart := false }
def FnExactIsRegularSaid : Prop := fnExactIsRegularRow.holds Try.pinned (OpenSpec.ofChange fnExactIsRegularSpec)

/-- ITS FALSE NEIGHBOUR: 'it returns false'. Refute it at one input. -/
def fnExactIsRegularWrong : ChangeSpec := { name := "fnExactIsRegular", fn := fun _ => fun
  | [d] => { results := [.lit (.bool false)], args := [d] }
  | _ => none }
def FnExactIsRegularWrongFalsely : Prop := fnExactIsRegularRow.holds Try.pinned (OpenSpec.ofChange fnExactIsRegularWrong)

/-- 'laws.FnExactIsPlayable': WHATEVER THE INPUT: true; the input reads as it did. -/
def fnExactIsPlayableSpec : ChangeSpec := { name := "fnExactIsPlayable", fn := fun _ => fun
  | [d1, d2] => { results := [.lit (.bool true)], args := [d1, d2] }
  | _ => none }
def fnExactIsPlayableRow : OpenClaim := { program := "ytmjccdljalocbaa", sum := "19203e5d484942770150bf358fd5b14407ca2d1e9867e20d766da7aa65456966", func := "loop.example/g00989/laws.FnExactIsPlayable", spec := "fnExactIsPlayable", apart := false }
def FnExactIsPlayableSaid : Prop := fnExactIsPlayableRow.holds Try.pinned (OpenSpec.ofChange fnExactIsPlayableSpec)

/-- ITS FALSE NEIGHBOUR: 'it returns false'. Refute it at one input. -/
def fnExactIsPlayableWrong : ChangeSpec := { name := "fnExactIsPlayable", fn := fun _ => fun
  | [d1, d2] => { results := [.lit (.bool false)], args := [d1, d2] }
  | _ => none }
def FnExactIsPlayableWrongFalsely : Prop := fnExactIsPlayableRow.holds Try.pinned (OpenSpec.ofChange fnExactIsPlayableWrong)

/-- 'laws.FnExactGroupSum': WHATEVER THE INPUT: true; the input reads as it did. -/
def fnExactGroupSumSpec : ChangeSpec := { name := "fnExactGroupSum", fn := fun _ => fun
  | [d1, d2] => { results := [.lit (.bool true)], args := [d1, d2] }
  | _ => none }
def fnExactGroupSumRow : OpenClaim := { program := "ytmjccdljalocbaa", sum := "19203e5d484942770150bf358fd5b14407ca2d1e9867e20d766da7aa65456966", func := "loop.example/g00989/laws.FnExactGroupSum", spec := "fnExactGroupSum", apart := false }
def FnExactGroupSumSaid : Prop := fnExactGroupSumRow.holds Try.pinned (OpenSpec.ofChange fnExactGroupSumSpec)

/-- ITS FALSE NEIGHBOUR: 'it returns false'. Refute it at one input. -/
def fnExactGroupSumWrong : ChangeSpec := { name := "fnExactGroupSum", fn := fun _ => fun
  | [d1, d2] => { results := [.lit (.bool false)], args := [d1, d2] }
  | _ => none }
def FnExactGroupSumWrongFalsely : Prop := fnExactGroupSumRow.holds Try.pinned (OpenSpec.ofChange fnExactGroupSumWrong)

/-- 'laws.FnClosing': WHATEVER THE INPUT: true; the input reads as it did. -/
def fnClosingSpec : ChangeSpec := { name := "fnClosing", fn := fun _ => fun
  | [d] => { results := [.lit (.bool true)], args := [d] }
  | _ => none }
def fnClosingRow : OpenClaim := { program := "ytmjccdljalocbaa", sum := "19203e5d484942770150bf358fd5b14407ca2d1e9867e20d766da7aa65456966", func := "loop.example/g00989/laws.FnClosing", spec := "fnClosing", apart := false }
def FnClosingSaid : Prop := fnClosingRow.holds Try.pinned (OpenSpec.ofChange fnClosingSpec)

/-- ITS FALSE NEIGHBOUR: 'it returns false'. Refute it at one input. -/
def fnClosingWrong : ChangeSpec := { name := "fnClosing", fn := fun _ => fun
  | [d] => { results := [.lit (.bool false)], args := [d] }
  | _ => none }
def FnClosingWrongFalsely : Prop := fnClosingRow.holds Try.pinned (OpenSpec.ofChange fnClosingWrong)

/- THE SECOND FORM. 'bulk': how many values and letters a reading holds, each counted each time it is reached (what is shared counts as often as it is met; a slice's spare places count too). A statement '..UptoSaid' is the law's where the arguments, and the package variables that the reading takes, are together of bulk at most 1048576: NARROWER than '..Said'. Prove '..Said' where nothing that the law and all that it calls make is longer than what came in: it says more and counts as full. Else prove '..UptoSaid'. A law counts once. -/
mutual
def uptoBulk {H : Type} : DataW H → Nat
  | .lit (.string bytes) => bytes.length + 1
  | .lit _ => 1
  | .nil => 1
  | .ptr d => uptoBulk d + 1
  | .slice elems spare => uptoBulkAll elems + uptoBulkAll spare + 1
  | .agg parts => uptoBulkAll parts + 1
  | .iface _ d => uptoBulk d + 1
  | .map entries => uptoBulkEntries entries + 1
  | .held _ => 1
def uptoBulkAll {H : Type} : List (DataW H) → Nat
  | [] => 0
  | d :: r => uptoBulk d + uptoBulkAll r
def uptoBulkEntries {H : Type} : List (Lit × DataW H) → Nat
  | [] => 0
  | x :: r => uptoBulkEntry x + uptoBulkEntries r
def uptoBulkEntry {H : Type} : Lit × DataW H → Nat
  | (.string bytes, d) => bytes.length + uptoBulk d + 1
  | (_, d) => uptoBulk d + 1
 end
def uptoSmall : (H : Type) → List (DataW H) → Bool := fun _ ds => decide (uptoBulkAll ds ≤ 1048576)
def OpenSpec.upto (s : _root_.Go.ChangeSpec) : _root_.Go.OpenSpec := { _root_.Go.OpenSpec.ofChange s with cond := some uptoSmall }

/-- 'laws.FnExactTonicNotes', WHERE WHAT IT READS IS OF BULK AT MOST 1048576: true; the input reads as it did. -/
def fnExactTonicNotesUptoRow : OpenClaim := { program := "ytmjccdljalocbaa", sum := "19203e5d484942770150bf358fd5b14407ca2d1e9867e20d766da7aa65456966", func := "loop.example/g00989/laws.FnExactTonicNotes", spec := "fnExactTonicNotes", apart := false, narrowed := true }
def FnExactTonicNotesUptoSaid : Prop := fnExactTonicNotesUptoRow.holds Try.pinned (OpenSpec.upto fnExactTonicNotesSpec)

/-- 'laws.FnExactKeyboardOk', WHERE WHAT IT READS IS OF BULK AT MOST 1048576: true; the input reads as it did. -/
def fnExactKeyboardOkUptoRow : OpenClaim := { program := "ytmjccdljalocbaa", sum := "19203e5d484942770150bf358fd5b14407ca2d1e9867e20d766da7aa65456966", func := "loop.example/g00989/laws.FnExactKeyboardOk", spec := "fnExactKeyboardOk", apart := false, narrowed := true }
def FnExactKeyboardOkUptoSaid : Prop := fnExactKeyboardOkUptoRow.holds Try.pinned (OpenSpec.upto fnExactKeyboardOkSpec)

/-- 'laws.FnExactHasNote', WHERE WHAT IT READS IS OF BULK AT MOST 1048576: true; the input reads as it did. -/
def fnExactHasNoteUptoRow : OpenClaim := { program := "ytmjccdljalocbaa", sum := "19203e5d484942770150bf358fd5b14407ca2d1e9867e20d766da7aa65456966", func := "loop.example/g00989/laws.FnExactHasNote", spec := "fnExactHasNote", apart := false, narrowed := true }
def FnExactHasNoteUptoSaid : Prop := fnExactHasNoteUptoRow.holds Try.pinned (OpenSpec.upto fnExactHasNoteSpec)

/-- 'laws.FnExactGroupThirds', WHERE WHAT IT READS IS OF BULK AT MOST 1048576: true; the input reads as it did. -/
def fnExactGroupThirdsUptoRow : OpenClaim := { program := "ytmjccdljalocbaa", sum := "19203e5d484942770150bf358fd5b14407ca2d1e9867e20d766da7aa65456966", func := "loop.example/g00989/laws.FnExactGroupThirds", spec := "fnExactGroupThirds", apart := false, narrowed := true }
def FnExactGroupThirdsUptoSaid : Prop := fnExactGroupThirdsUptoRow.holds Try.pinned (OpenSpec.upto fnExactGroupThirdsSpec)

/-- 'laws.FnExactWolfAt', WHERE WHAT IT READS IS OF BULK AT MOST 1048576: true; the input reads as it did. -/
def fnExactWolfAtUptoRow : OpenClaim := { program := "ytmjccdljalocbaa", sum := "19203e5d484942770150bf358fd5b14407ca2d1e9867e20d766da7aa65456966", func := "loop.example/g00989/laws.FnExactWolfAt", spec := "fnExactWolfAt", apart := false, narrowed := true }
def FnExactWolfAtUptoSaid : Prop := fnExactWolfAtUptoRow.holds Try.pinned (OpenSpec.upto fnExactWolfAtSpec)

/-- 'laws.FnExactIsRegular', WHERE WHAT IT READS IS OF BULK AT MOST 1048576: true; the input reads as it did. -/
def fnExactIsRegularUptoRow : OpenClaim := { program := "ytmjccdljalocbaa", sum := "19203e5d484942770150bf358fd5b14407ca2d1e9867e20d766da7aa65456966", func := "loop.example/g00989/laws.FnExactIsRegular", spec := "fnExactIsRegular", apart := false, narrowed := true }
def FnExactIsRegularUptoSaid : Prop := fnExactIsRegularUptoRow.holds Try.pinned (OpenSpec.upto fnExactIsRegularSpec)

/-- 'laws.FnExactIsPlayable', WHERE WHAT IT READS IS OF BULK AT MOST 1048576: true; the input reads as it did. -/
def fnExactIsPlayableUptoRow : OpenClaim := { program := "ytmjccdljalocbaa", sum := "19203e5d484942770150bf358fd5b14407ca2d1e9867e20d766da7aa65456966", func := "loop.example/g00989/laws.FnExactIsPlayable", spec := "fnExactIsPlayable", apart := false, narrowed := true }
def FnExactIsPlayableUptoSaid : Prop := fnExactIsPlayableUptoRow.holds Try.pinned (OpenSpec.upto fnExactIsPlayableSpec)

/-- 'laws.FnExactGroupSum', WHERE WHAT IT READS IS OF BULK AT MOST 1048576: true; the input reads as it did. -/
def fnExactGroupSumUptoRow : OpenClaim := { program := "ytmjccdljalocbaa", sum := "19203e5d484942770150bf358fd5b14407ca2d1e9867e20d766da7aa65456966", func := "loop.example/g00989/laws.FnExactGroupSum", spec := "fnExactGroupSum", apart := false, narrowed := true }
def FnExactGroupSumUptoSaid : Prop := fnExactGroupSumUptoRow.holds Try.pinned (OpenSpec.upto fnExactGroupSumSpec)

/-- 'laws.FnClosing', WHERE WHAT IT READS IS OF BULK AT MOST 1048576: true; the input reads as it did. -/
def fnClosingUptoRow : OpenClaim := { program := "ytmjccdljalocbaa", sum := "19203e5d484942770150bf358fd5b14407ca2d1e9867e20d766da7aa65456966", func := "loop.example/g00989/laws.FnClosing", spec := "fnClosing", apart := false, narrowed := true }
def FnClosingUptoSaid : Prop := fnClosingUptoRow.holds Try.pinned (OpenSpec.upto fnClosingSpec)

end Rows
end Go.Proofs.Ytmjccdljalocbaa
