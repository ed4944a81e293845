/- The row of FnExactRunPlan: for every input the law returns true and the input reads as it did: out of the pure statement and the walk's contract. No condition. -/
import Derived.Test.YthhcpfaabnanoaaRows
import Derived.Test.YthhcpfaabnanoaaPFnExactRunPlanx7
import Derived.Test.YthhcpfaabnanoaaPureFnExactRunPlan
import Derived.Test.YthhcpfaabnanoaaOpenWords
import Derived.Test.YthhcpfaabnanoaaWSized
import Derived.WalkKit
import Derived.ProofKit
import Derived.OpenShut
import Derived.ShutString
import Derived.ChangeOld
import Derived.Below
import Derived.SizedLaws
namespace Go.Proofs.Ythhcpfaabnanoaa.fnExactRunPlan
open Go.ChangeShapes Go.WideShapes Go.ChangeAt Go.RowKit Go.Proofs.YthhcpfaabnanoaaW.PrintWords
set_option linter.unusedVariables false
theorem own : ownKnob Try.prog.godebug = none := by kernel_rfl
theorem laidOut : laidOutB Try.prog = true := by kernel_rfl
set_option maxRecDepth 100000 in
theorem lifted (os : Os) (started : os.Started) (H : Type) (enc : TypeId × Value → H) :
    ReturnsInHanded {} Try.checked os 9 .any (Rows.fnExactRunPlanSpec.pre6 enc Try.prog Try.f9 Rows.fnExactRunPlanRow.domain false) (Rows.fnExactRunPlanSpec.post enc Try.prog Try.f9 false true false false) := by
  refine returnsInHanded_of_change_sized (C := Try.checked) own started (by kernel_rfl) Try.func9
    (ChangeSpec.witness6 (enc := enc) (C := Try.checked) false ⟨#[], #[.int .i64 0, .slice none 0 0], []⟩ 8 (by kernel_rfl) (by kernel_rfl) (by kernel_rfl) (by kernel_rfl)) ?_
  intro W base args ds gs before hval0 hW hcnd hsz0 _
  have hsz : (DataW.weightsEach Try.prog (Try.f9.params.toList ++ Rows.fnExactRunPlanSpec.plain.varTypes Try.prog) (ds ++ gs)).all (· ≤ reachBytes) = true := hsz0
  have hval : ∀ (j : Nat) t v, Try.f9.params[j]? = some t → args[j]? = some v → Value.okWide Try.prog W .any base t v := hval0
  have hW' := hW
  obtain ⟨p, q, hA0, hV, rfl, hfz, hnd⟩ := hW
  have hA : DataW.TrodAll enc Try.prog W 0 (fun _ => true) true Try.f9.params.toList args.toList ds p := hA0
  rw [Try.params9] at hA hval hsz
  obtain ⟨v0, vs0, d0, ds0, p0, q0, hargs, rfl, rfl, h0, r0⟩ := trodAll_cons hA
  obtain ⟨v1, vs1, d1, ds1, p1, q1, rfl, rfl, rfl, h1, r1⟩ := trodAll_cons r0
  obtain ⟨rfl, rfl, rfl⟩ := trodAll_nil r1
  obtain rfl : args = #[v0, v1] := by cases args; simp_all
  obtain ⟨rfl, rfl⟩ := trodVars_none hV
  obtain ⟨a0, rfl, rfl, rfl, w0⟩ := open_int Try.underlying3 (hval 0 3 v0 rfl rfl) h0
  have k1 := h1
  have lt1 : ∀ x ∈ p1, x.block < W.heap.size := by obtain ⟨m, hm⟩ := k1; exact DataW.trod_lt m _ _ _ hm
  obtain ⟨aa1, len1, cap1, rfl⟩ := okWide_slice Try.underlying40 (hval 1 40 v1 rfl rfl)
  obtain ⟨A1, c1, l1, e1, hr1, hm1, hw1, hc1⟩ : ∃ (a : Option Addr) (c : Nat) (l : List PFnExactRunPlan.S66), Value.slice aa1 len1 cap1 = .slice a l.length c ∧ Kd.C PFnExactRunPlan.k66 W a l.length l ∧ l.length ≤ maxLen ∧ (∀ x ∈ l, (fun x : PFnExactRunPlan.S66 => (Lit.int .i64 x.f0).wf = true ∧ (Lit.int .i64 x.f1).wf = true ∧ (Lit.int .i64 x.f2).wf = true ∧ (Lit.int .i64 x.f3).wf = true) x) ∧ l.length ≤ c := by
    obtain ⟨fuel, hf⟩ := h1
    exact Own.own_fours (D := PFnExactRunPlan.k66) (mk := fun a b c d => ⟨a, b, c, d⟩) rfl (fun w a b c d => PFnExactRunPlan.k66_mk w ⟨a, b, c, d⟩) _ (fun _ _ _ _ q0 q1 q2 q3 => ⟨q0, q1, q2, q3⟩) Try.underlying40 Try.underlying66 (by kernel_rfl) (by kernel_rfl) Try.underlying3 Try.underlying3 Try.underlying3 Try.underlying3 (by simpa [Value.cells] using hf)
  obtain ⟨rfl, rfl, rfl⟩ : aa1 = A1 ∧ len1 = l1.length ∧ cap1 = c1 := by simpa using e1
  clear hA0 hval0 hsz0 hsz
  obtain ⟨k, hk⟩ := Pure.FnExactRunPlan a0 l1 w0 hm1 hw1
  refine (PFnExactRunPlan.laws_FnExactRunPlan.calls k a0 _ _ l1 true W hr1 hc1 hk).mono fun e W' hp => ?_
  obtain ⟨rfl, hd⟩ := hp
  have bel : Below W.heap.size W W' := by first | exact hd | exact Drawn0.below hd | exact Drawn0.below ⟨hd⟩ | exact (by rw [hd]; exact Below.refl _ _) | exact (by rw [← hd]; exact Below.refl _ _)
  exact ⟨_, rfl, _, _, _, [], _, [], hW', trodAll_mk1 (shut_bool Try.underlying4 _), (trodAll_cons_mk (shut_int Try.underlying3 w0) (trodAll_cons_mk (Below.trod laidOut (by kernel_rfl) (of_decide_eq_true (by kernel_rfl)) k1 bel lt1) trodAll_mk0)), rfl, bel.frame _, fun h => by cases h⟩
theorem over : Rows.fnExactRunPlanRow.holds Try.pinned (OpenSpec.ofChange Rows.fnExactRunPlanSpec) :=
  OpenClaim.holds_of_wide 9 Try.f9 rfl rfl rfl rfl rfl rfl rfl ⟨rfl, rfl, rfl, rfl, rfl⟩ rfl rfl rfl rfl rfl (by kernel_rfl) Try.func9 (by kernel_rfl)
    (of_decide_eq_true (by kernel_rfl)) (by unfold Func.isWrapper; first | (rw [if_pos (by decide +kernel)]; kernel_rfl) | (rw [if_neg (by decide +kernel)]; exact ⟨rfl, rfl⟩))
    (fun os started H enc _ => lifted os started H enc)
theorem proved : Rows.FnExactRunPlanSaid := over
#print axioms proved
end Go.Proofs.Ythhcpfaabnanoaa.fnExactRunPlan
namespace Go.Proofs.Ythhcpfaabnanoaa
/-- The row, under a short name, for the claim. -/
theorem fnExactRunPlan_holds : Rows.FnExactRunPlanSaid := fnExactRunPlan.proved
end Go.Proofs.Ythhcpfaabnanoaa
