/- The row of FnExactGroupSum: for every input the law returns true and the input reads as it did: out of the pure statement and the walk's contract. No condition. -/
import Derived.Test.YtmjccdljalocbaaRows
import Derived.Test.YtmjccdljalocbaaPFnExactGroupSumx7
import Derived.Test.YtmjccdljalocbaaPureFnExactGroupSum
import Derived.Test.YtmjccdljalocbaaOpenSlim
import Derived.Test.YtmjccdljalocbaaWSized
import Derived.WalkKit
import Derived.ProofKit
import Derived.OpenShut
import Derived.ShutString
import Derived.ChangeOld
import Derived.Below
import Derived.SizedLaws
namespace Go.Proofs.Ytmjccdljalocbaa.fnExactGroupSum
open Go.ChangeShapes Go.WideShapes Go.ChangeAt Go.RowKit Go.Proofs.YtmjccdljalocbaaW.PrintWords
set_option linter.unusedVariables false
theorem own : ownKnob Try.prog.godebug = none := by kernel_rfl
theorem laidOut : laidOutB Try.prog = true := by kernel_rfl
set_option maxRecDepth 100000 in
theorem lifted (os : Os) (started : os.Started) (H : Type) (enc : TypeId × Value → H) :
    ReturnsInHanded {} Try.checked os 10 .any (Rows.fnExactGroupSumSpec.pre6 enc Try.prog Try.f10 Rows.fnExactGroupSumRow.domain false) (Rows.fnExactGroupSumSpec.post enc Try.prog Try.f10 false true false false) := by
  refine returnsInHanded_of_change_sized (C := Try.checked) own started (by kernel_rfl) Try.func10
    (ChangeSpec.witness6 (enc := enc) (C := Try.checked) false ⟨#[], #[.agg #[.slice none 0 0], .int .i64 0], []⟩ 8 (by kernel_rfl) (by kernel_rfl) (by kernel_rfl) (by kernel_rfl)) ?_
  intro W base args ds gs before hval0 hW hcnd hsz0 _
  have hsz : (DataW.weightsEach Try.prog (Try.f10.params.toList ++ Rows.fnExactGroupSumSpec.plain.varTypes Try.prog) (ds ++ gs)).all (· ≤ reachBytes) = true := hsz0
  have hval : ∀ (j : Nat) t v, Try.f10.params[j]? = some t → args[j]? = some v → Value.okWide Try.prog W .any base t v := hval0
  have hW' := hW
  obtain ⟨p, q, hA0, hV, rfl, hfz, hnd⟩ := hW
  have hA : DataW.TrodAll enc Try.prog W 0 (fun _ => true) true Try.f10.params.toList args.toList ds p := hA0
  rw [Try.params10] at hA hval hsz
  obtain ⟨v0, vs0, d0, ds0, p0, q0, hargs, rfl, rfl, h0, r0⟩ := trodAll_cons hA
  obtain ⟨v1, vs1, d1, ds1, p1, q1, rfl, rfl, rfl, h1, r1⟩ := trodAll_cons r0
  obtain ⟨rfl, rfl, rfl⟩ := trodAll_nil r1
  obtain rfl : args = #[v0, v1] := by cases args; simp_all
  obtain ⟨rfl, rfl⟩ := trodVars_none hV
  have k0 := h0
  have lt0 : ∀ x ∈ p0, x.block < W.heap.size := by obtain ⟨m, hm⟩ := k0; exact DataW.trod_lt m _ _ _ hm
  obtain ⟨u0, z0, n0, rfl, _, _, t0⟩ := Own.own_agg1 Try.underlying38 (by kernel_rfl) (by kernel_rfl) (hval 0 38 v0 rfl rfl) h0
  obtain ⟨A0, c0, l0_0, rfl, hr0, hm0, hw0, hc0⟩ := Own.own_ints Try.underlying22 Try.underlying3 (by kernel_rfl) t0
  obtain ⟨a1, rfl, rfl, rfl, w1⟩ := open_int Try.underlying3 (hval 1 3 v1 rfl rfl) h1
  clear hA0 hval0 hsz0 hsz
  obtain ⟨k, hk⟩ := Pure.FnExactGroupSum l0_0 a1 hm0 hw0 w1
  refine (PFnExactGroupSum.laws_FnExactGroupSum.calls k _ _ l0_0 a1 true W hr0 hc0 hk).mono fun e W' hp => ?_
  obtain ⟨rfl, hd⟩ := hp
  have bel : Below W.heap.size W W' := by first | exact hd | exact Drawn0.below hd | exact Drawn0.below ⟨hd⟩ | exact (by rw [hd]; exact Below.refl _ _) | exact (by rw [← hd]; exact Below.refl _ _)
  exact ⟨_, rfl, _, _, _, [], _, [], hW', trodAll_mk1 (shut_bool Try.underlying4 _), (trodAll_cons_mk (Below.trod laidOut (by kernel_rfl) (of_decide_eq_true (by kernel_rfl)) k0 bel lt0) (trodAll_cons_mk (shut_int Try.underlying3 w1) trodAll_mk0)), rfl, bel.frame _, fun h => by cases h⟩
theorem over : Rows.fnExactGroupSumRow.holds Try.pinned (OpenSpec.ofChange Rows.fnExactGroupSumSpec) :=
  OpenClaim.holds_of_wide 10 Try.f10 rfl rfl rfl rfl rfl rfl rfl ⟨rfl, rfl, rfl, rfl, rfl⟩ rfl rfl rfl rfl rfl (by kernel_rfl) Try.func10 (by kernel_rfl)
    (of_decide_eq_true (by kernel_rfl)) (by unfold Func.isWrapper; first | (rw [if_pos (by decide +kernel)]; kernel_rfl) | (rw [if_neg (by decide +kernel)]; exact ⟨rfl, rfl⟩))
    (fun os started H enc _ => lifted os started H enc)
theorem proved : Rows.FnExactGroupSumSaid := over
#print axioms proved
end Go.Proofs.Ytmjccdljalocbaa.fnExactGroupSum
namespace Go.Proofs.Ytmjccdljalocbaa
/-- The row, under a short name, for the claim. -/
theorem fnExactGroupSum_holds : Rows.FnExactGroupSumSaid := fnExactGroupSum.proved
end Go.Proofs.Ytmjccdljalocbaa
