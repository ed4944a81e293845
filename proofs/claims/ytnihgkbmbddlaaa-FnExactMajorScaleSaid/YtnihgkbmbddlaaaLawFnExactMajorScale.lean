/- The row of FnExactMajorScale: for every input the law returns true and the input reads as it did: out of the pure statement and the walk's contract. No condition. -/
import Derived.Test.YtnihgkbmbddlaaaRows
import Derived.Test.YtnihgkbmbddlaaaPFnExactMajorScalex1
import Derived.Test.YtnihgkbmbddlaaaPureFnExactMajorScale
import Derived.Test.YtnihgkbmbddlaaaOpenWords
import Derived.Test.YtnihgkbmbddlaaaWSized
import Derived.WalkKit
import Derived.ProofKit
import Derived.OpenShut
import Derived.ShutString
import Derived.ChangeOld
import Derived.Below
import Derived.SizedLaws
namespace Go.Proofs.Ytnihgkbmbddlaaa.fnExactMajorScale
open Go.ChangeShapes Go.WideShapes Go.ChangeAt Go.RowKit Go.Proofs.YtnihgkbmbddlaaaW.PrintWords
set_option linter.unusedVariables false
theorem own : ownKnob Try.prog.godebug = none := by kernel_rfl
theorem laidOut : laidOutB Try.prog = true := by kernel_rfl
set_option maxRecDepth 100000 in
theorem lifted (os : Os) (started : os.Started) (H : Type) (enc : TypeId × Value → H) :
    ReturnsInHanded {} Try.checked os 4 .any (Rows.fnExactMajorScaleSpec.pre6 enc Try.prog Try.f4 Rows.fnExactMajorScaleRow.domain false) (Rows.fnExactMajorScaleSpec.post enc Try.prog Try.f4 false true false false) := by
  refine returnsInHanded_of_change_sized (C := Try.checked) own started (by kernel_rfl) Try.func4
    (ChangeSpec.witness6 (enc := enc) (C := Try.checked) false ⟨#[], #[], []⟩ 8 (by kernel_rfl) (by kernel_rfl) (by kernel_rfl) (by kernel_rfl)) ?_
  intro W base args ds gs before hval0 hW hcnd hsz0 _
  have hsz : (DataW.weightsEach Try.prog (Try.f4.params.toList ++ Rows.fnExactMajorScaleSpec.plain.varTypes Try.prog) (ds ++ gs)).all (· ≤ reachBytes) = true := hsz0
  have hval : ∀ (j : Nat) t v, Try.f4.params[j]? = some t → args[j]? = some v → Value.okWide Try.prog W .any base t v := hval0
  have hW' := hW
  obtain ⟨p, q, hA0, hV, rfl, hfz, hnd⟩ := hW
  have hA : DataW.TrodAll enc Try.prog W 0 (fun _ => true) true Try.f4.params.toList args.toList ds p := hA0
  rw [Try.params4] at hA hval hsz
  obtain ⟨rfl, rfl, rfl⟩ := trodAll_none hA
  obtain ⟨rfl, rfl⟩ := trodVars_none hV
  clear hA0 hval0 hsz0 hsz
  obtain ⟨k, hk⟩ := Pure.FnExactMajorScale
  refine (PFnExactMajorScale.laws_FnExactMajorScale.calls k  true W hk).mono fun e W' hp => ?_
  obtain ⟨rfl, hd⟩ := hp
  have bel : Below W.heap.size W W' := by first | exact hd | exact Drawn0.below hd | exact Drawn0.below ⟨hd⟩ | exact (by rw [hd]; exact Below.refl _ _) | exact (by rw [← hd]; exact Below.refl _ _)
  exact ⟨_, rfl, _, _, _, [], _, [], hW', trodAll_mk1 (shut_bool Try.underlying4 _), trodAll_mk0, rfl, bel.frame _, fun h => by cases h⟩
theorem over : Rows.fnExactMajorScaleRow.holds Try.pinned (OpenSpec.ofChange Rows.fnExactMajorScaleSpec) :=
  OpenClaim.holds_of_wide 4 Try.f4 rfl rfl rfl rfl rfl rfl rfl ⟨rfl, rfl, rfl, rfl, rfl⟩ rfl rfl rfl rfl rfl (by kernel_rfl) Try.func4 (by kernel_rfl)
    (of_decide_eq_true (by kernel_rfl)) (by unfold Func.isWrapper; first | (rw [if_pos (by decide +kernel)]; kernel_rfl) | (rw [if_neg (by decide +kernel)]; exact ⟨rfl, rfl⟩))
    (fun os started H enc _ => lifted os started H enc)
theorem proved : Rows.FnExactMajorScaleSaid := over
#print axioms proved
end Go.Proofs.Ytnihgkbmbddlaaa.fnExactMajorScale
namespace Go.Proofs.Ytnihgkbmbddlaaa
/-- The row, under a short name, for the claim. -/
theorem fnExactMajorScale_holds : Rows.FnExactMajorScaleSaid := fnExactMajorScale.proved
end Go.Proofs.Ytnihgkbmbddlaaa
