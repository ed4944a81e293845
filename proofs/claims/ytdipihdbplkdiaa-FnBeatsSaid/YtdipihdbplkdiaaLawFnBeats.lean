/- The row of FnBeats: for every input the law returns true and the input reads as it did: out of the pure statement and the walk's contract. No condition. -/
import Derived.Test.YtdipihdbplkdiaaRows
import Derived.Test.YtdipihdbplkdiaaPFnBeatsx6
import Derived.Test.YtdipihdbplkdiaaPureFnBeats
import Derived.Test.YtdipihdbplkdiaaOpenWords
import Derived.Test.YtdipihdbplkdiaaWSized
import Derived.WalkKit
import Derived.ProofKit
import Derived.OpenShut
import Derived.ShutString
import Derived.ChangeOld
import Derived.Below
import Derived.SizedLaws
namespace Go.Proofs.Ytdipihdbplkdiaa.fnBeats
open Go.ChangeShapes Go.WideShapes Go.ChangeAt Go.RowKit Go.Proofs.YtdipihdbplkdiaaW.PrintWords
set_option linter.unusedVariables false
theorem own : ownKnob Try.prog.godebug = none := by kernel_rfl
theorem laidOut : laidOutB Try.prog = true := by kernel_rfl
set_option maxRecDepth 100000 in
theorem lifted (os : Os) (started : os.Started) (H : Type) (enc : TypeId × Value → H) :
    ReturnsInHanded {} Try.checked os 13 .any (Rows.fnBeatsSpec.pre6 enc Try.prog Try.f13 Rows.fnBeatsRow.domain false) (Rows.fnBeatsSpec.post enc Try.prog Try.f13 false true false false) := by
  refine returnsInHanded_of_change_sized (C := Try.checked) own started (by kernel_rfl) Try.func13
    (ChangeSpec.witness6 (enc := enc) (C := Try.checked) false ⟨#[], #[.slice none 0 0], []⟩ 8 (by kernel_rfl) (by kernel_rfl) (by kernel_rfl) (by kernel_rfl)) ?_
  intro W base args ds gs before hval0 hW hcnd hsz0 _
  have hsz : (DataW.weightsEach Try.prog (Try.f13.params.toList ++ Rows.fnBeatsSpec.plain.varTypes Try.prog) (ds ++ gs)).all (· ≤ reachBytes) = true := hsz0
  have hval : ∀ (j : Nat) t v, Try.f13.params[j]? = some t → args[j]? = some v → Value.okWide Try.prog W .any base t v := hval0
  have hW' := hW
  obtain ⟨p, q, hA0, hV, rfl, hfz, hnd⟩ := hW
  have hA : DataW.TrodAll enc Try.prog W 0 (fun _ => true) true Try.f13.params.toList args.toList ds p := hA0
  rw [Try.params13] at hA hval hsz
  obtain ⟨v0, vs0, d0, ds0, p0, q0, hargs, rfl, rfl, h0, r0⟩ := trodAll_cons hA
  obtain ⟨rfl, rfl, rfl⟩ := trodAll_nil r0
  obtain rfl : args = #[v0] := by cases args; simp_all
  obtain ⟨rfl, rfl⟩ := trodVars_none hV
  have k0 := h0
  have lt0 : ∀ x ∈ p0, x.block < W.heap.size := by obtain ⟨m, hm⟩ := k0; exact DataW.trod_lt m _ _ _ hm
  obtain ⟨aa0, len0, cap0, rfl⟩ := okWide_slice Try.underlying44 (hval 0 44 v0 rfl rfl)
  have y0 : len0 * 1 ≤ 140737488351232 := Go.Proofs.YtdipihdbplkdiaaW.PrintWords.sized_ints hsz (j := 0) (t := 44) rfl rfl Try.underlying44 Try.underlying5 (by kernel_rfl) (by kernel_rfl) h0
  obtain ⟨A0, c0, l0, e0, hr0, hm0, hw0, hc0⟩ : ∃ (a : Option Addr) (c : Nat) (l : List Int), Value.slice aa0 len0 cap0 = .slice a l.length c ∧ Kd.C (Kd.int .u8) W a l.length l ∧ l.length ≤ maxLen ∧ (∀ x ∈ l, (Lit.int .u8 x).wf = true) ∧ l.length ≤ c := by
    obtain ⟨fuel, hf⟩ := h0
    exact Own.own_ints Try.underlying44 Try.underlying5 (by kernel_rfl) (by simpa [Value.cells] using hf)
  obtain ⟨rfl, rfl, rfl⟩ : aa0 = A0 ∧ len0 = l0.length ∧ cap0 = c0 := by simpa using e0
  clear hA0 hval0 hsz0 hsz
  obtain ⟨k, hk⟩ := Pure.FnBeats l0 hm0 y0 hw0
  refine (PFnBeats.laws_FnBeats.calls k _ _ l0 true W hr0 hc0 hk rfl).mono fun e W' hp => ?_
  obtain ⟨rfl, hd⟩ := hp
  have bel : Below W.heap.size W W' := by first | exact hd | exact Drawn0.below hd | exact Drawn0.below ⟨hd⟩ | exact (by rw [hd]; exact Below.refl _ _) | exact (by rw [← hd]; exact Below.refl _ _)
  exact ⟨_, rfl, _, _, _, [], _, [], hW', trodAll_mk1 (shut_bool Try.underlying4 _), (trodAll_cons_mk (Below.trod laidOut (by kernel_rfl) (of_decide_eq_true (by kernel_rfl)) k0 bel lt0) trodAll_mk0), rfl, bel.frame _, fun h => by cases h⟩
theorem over : Rows.fnBeatsRow.holds Try.pinned (OpenSpec.ofChange Rows.fnBeatsSpec) :=
  OpenClaim.holds_of_wide 13 Try.f13 rfl rfl rfl rfl rfl rfl rfl ⟨rfl, rfl, rfl, rfl, rfl⟩ rfl rfl rfl rfl rfl (by kernel_rfl) Try.func13 (by kernel_rfl)
    (of_decide_eq_true (by kernel_rfl)) (by unfold Func.isWrapper; first | (rw [if_pos (by decide +kernel)]; kernel_rfl) | (rw [if_neg (by decide +kernel)]; exact ⟨rfl, rfl⟩))
    (fun os started H enc _ => lifted os started H enc)
theorem proved : Rows.FnBeatsSaid := over
#print axioms proved
end Go.Proofs.Ytdipihdbplkdiaa.fnBeats
namespace Go.Proofs.Ytdipihdbplkdiaa
/-- The row, under a short name, for the claim. -/
theorem fnBeats_holds : Rows.FnBeatsSaid := fnBeats.proved
end Go.Proofs.Ytdipihdbplkdiaa
