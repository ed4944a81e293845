-- WRITTEN FOR THIS CLAIM by wip/ownprint.py of this session: the print's way, with changes (the print itself does not take this law).
import Derived.Test.YtgolkgcmmionpaaPFnSpansx0
import Derived.Test.YtgolkgcmmionpaaPFnSpansx1
import Derived.Test.YtgolkgcmmionpaaPFnSpansx2
import Derived.Test.YtgolkgcmmionpaaPFnSpansx3
namespace Go.Proofs.Ytgolkgcmmionpaa.PFnSpans
open Go.RowKit Go.Proofs.YtgolkgcmmionpaaW.PrintWords Go.Proofs.YtgolkgcmmionpaaW.PrintLast Go.Proofs.YtgolkgcmmionpaaW.PrintMore
attribute [local go_sem] max2_int min2_int max_two min_two max_three min_three max_four min_four   -- for this text's walks alone
set_option linter.unusedVariables false
set_option linter.unusedSimpArgs false

private abbrev tT := true
private abbrev fF := false
private abbrev lS := @List.setIfInBounds_toArray
private abbrev lZ := @List.set_cons_zero
private abbrev lC := @List.set_cons_succ
private abbrev bD := @pw_below_drewN
private abbrev bA := @below_alloc
private abbrev bE := @below_drew1
/-! ### laws_FnSpans: function 4 -/
def laws_FnSpans.f (k : Nat) (l0 : List Int) : Option (Bool):=(laws_big.f l0).bind fun t184 => (if t184 = true then (some true) else ((spec_DrawScale.f k l0).bind fun t185 => ((laws_at.f l0 0).bind fun t189 => (if (t185.length : Int) = 0 then (none) else ((laws_at.f l0 1).bind fun t190 => (if (wrap64 ((t185.length : Int) + 1)) = 0 then (none) else ((laws_at.f l0 2).bind fun t191 => (if (wrap64 ((wrap64 ((t185.length : Int) + 1)) - (Int.tmod t190 (wrap64 ((t185.length : Int) + 1))))) = 0 then (none) else ((impl_SpansOf.f k t185 (Int.tmod t190 (wrap64 ((t185.length : Int) + 1)))).bind fun t192 => ((impl_SpanAt.f k t185 (Int.tmod t189 (t185.length : Int)) (Int.tmod t190 (wrap64 ((t185.length : Int) + 1)))).bind fun t195 => ((impl_SpanAt.f k t185 (Int.tmod (wrap64 ((Int.tmod t189 (t185.length : Int)) + (Int.tmod t190 (wrap64 ((t185.length : Int) + 1))))) (t185.length : Int)) (Int.tmod t191 (wrap64 ((wrap64 ((t185.length : Int) + 1)) - (Int.tmod t190 (wrap64 ((t185.length : Int) + 1))))))).bind fun t196 => ((impl_SpanAt.f k t185 (Int.tmod t189 (t185.length : Int)) (wrap64 ((Int.tmod t190 (wrap64 ((t185.length : Int) + 1))) + (Int.tmod t191 (wrap64 ((wrap64 ((t185.length : Int) + 1)) - (Int.tmod t190 (wrap64 ((t185.length : Int) + 1))))))))).bind fun t197 => (if (wrap64 (t195 + t196)) = t197 then ((impl_SpanAt.f k t185 (Int.tmod t189 (t185.length : Int)) (t185.length : Int)).bind fun t198 => ((impl_ScaleSum.f k t185).bind fun t199 => (if t198 = t199 then ((impl_SpanAt.f k t185 (Int.tmod t189 (t185.length : Int)) (Int.tmod t190 (wrap64 ((t185.length : Int) + 1)))).bind fun t200 => ((laws_has.f k t192 t200).bind fun t201 => (if t201 = true then ((impl_MajorScale.f).bind fun t202 => ((impl_HasTwoSizes.f k t202).bind fun t205 => (if t205 = true then ((impl_SpansOf.f k t185 (t185.length : Int)).bind fun t206 => (some ((t206.length : Int) == 1))) else (some false)))) else (some false)))) else (some false)))) else (some false))))))))))))))
theorem laws_FnSpans.mono : ∀ a0 k,LeO (laws_FnSpans.f k a0) (laws_FnSpans.f (k + 1) a0):=by
 intro a0 k
 unfold laws_FnSpans.f
 repeat' first
   | (with_reducible exact impl_HasTwoSizes.mono _ _)
   | (with_reducible exact impl_ScaleSum.mono _ _)
   | (with_reducible exact impl_SpanAt.mono _ _ _ _)
   | (with_reducible exact impl_SpansOf.mono _ _ _)
   | (with_reducible exact laws_has.mono _ _ _)
   | (with_reducible exact spec_DrawScale.mono _ _)
   | (with_reducible exact LeO.refl _)
   | (with_reducible exact LeO.none _)
   | (with_reducible refine LeO.ite ?_ ?_)
   | (with_reducible refine LeO.bind ?_ (fun _ => ?_))
   | exact impl_HasTwoSizes.mono _ _
   | exact impl_ScaleSum.mono _ _
   | exact impl_SpanAt.mono _ _ _ _
   | exact impl_SpansOf.mono _ _ _
   | exact laws_has.mono _ _ _
   | exact spec_DrawScale.mono _ _
   | exact LeO.none _
   | refine LeO.ite ?_ ?_
   | refine LeO.bind ?_ (fun _ => ?_)
def laws_FnSpans.T9 : Bool × List (List Nat × List Nat):=(true,[([],[]),([],[]),([],[]),([0,1,2],[0,1,2]),([],[]),([],[]),([],[]),([5,6],[5,6]),([],[]),([7,8],[7,8]),([],[]),([4,9,10,3],[4,9,10]),([3,11],[3,11]),([],[]),([],[]),([],[]),([],[]),([15,16],[15,16]),([13,14,17,11],[13,14,17]),([12,18],[12,18]),([19,18],[19]),([20],[20]),([20],[20]),([20],[20]),([21,22,23,20,20],[20,21,22,23]),([20],[20]),([25,24,20],[20,25]),([24,26,20],[20,24,26]),([20,27],[20,27]),([28,26],[28]),([29],[29]),([29],[29]),([29],[29]),([29],[29]),([31,32,33,29,29],[29,31,32,33]),([30,34,34,29],[29,30,34]),([29,35],[29,35]),([36,35],[36]),([37,37],[37]),([38,38,37],[37,38]),([37,39],[37,39]),([40,39],[40]),([41],[41]),([41],[41]),([42,43,41,41],[41,42,43]),([44,41],[41,44]),([45,41],[41,45]),([41,46],[41,46]),([47,44,0,1,2,3,4,5,6,7,8,9,10,11,12,13,14,15,16,17,18,19,20,21,22,23,24,25,26,27,28,29,30,31,32,33,34,35,36,37,38,39,40,41,42,43,44,45,46,47],[47])])
def laws_FnSpans.B9 : List Nat:=[0,0,0,7,0,0,0,96,0,480,0,2047,4095,0,0,0,0,98304,258047,524287,1048575,2097151,2097151,2097151,16777215,2097151,67108863,134217727,268435455,536870911,1073741823,1073741823,1073741823,1073741823,16106127359,34359738367,68719476735,137438953471,274877906943,549755813887,1099511627775,2199023255551,4398046511103,4398046511103,17592186044415,35184372088831,70368744177663,140737488355327,281474976710655]
theorem laws_FnSpans.tab9 : rtab .any (opsOf Try.f4 9) = laws_FnSpans.T9:=by kernel_rfl
theorem laws_FnSpans.bits9 : waitsOk laws_FnSpans.T9.2 laws_FnSpans.B9 = true:=by kernel_rfl
set_option maxHeartbeats 8000000 in
set_option maxRecDepth 100000 in
theorem laws_FnSpans.calls (k : Nat) (A0 : Option Addr) (c0 : Nat) (l0 : List Int) (r : Bool) (w : World) (hr0 : Kd.C (Kd.int .u8) w A0 l0.length l0) (hc0 : l0.length ≤ c0) (h : laws_FnSpans.f k l0 = some r) :
  Calls Try.prog 4 #[.slice A0 l0.length c0] w fun e w' => e = .returned (.bool r) ∧ Below w.heap.size w w':=by
 have hu26:=Try.underlying26
 have HR0:=Aside0.mk hr0
 have HC0:=Aside0.mk hc0
 clear hr0 hc0
 have HB:=Aside0.mk (Below.refl w.heap.size w)
 have H : ((laws_big.f l0).bind fun t184 => (if t184 = true then (some true) else ((spec_DrawScale.f k l0).bind fun t185 => ((laws_at.f l0 0).bind fun t189 => (if (t185.length : Int) = 0 then (none) else ((laws_at.f l0 1).bind fun t190 => (if (wrap64 ((t185.length : Int) + 1)) = 0 then (none) else ((laws_at.f l0 2).bind fun t191 => (if (wrap64 ((wrap64 ((t185.length : Int) + 1)) - (Int.tmod t190 (wrap64 ((t185.length : Int) + 1))))) = 0 then (none) else ((impl_SpansOf.f k t185 (Int.tmod t190 (wrap64 ((t185.length : Int) + 1)))).bind fun t192 => ((impl_SpanAt.f k t185 (Int.tmod t189 (t185.length : Int)) (Int.tmod t190 (wrap64 ((t185.length : Int) + 1)))).bind fun t195 => ((impl_SpanAt.f k t185 (Int.tmod (wrap64 ((Int.tmod t189 (t185.length : Int)) + (Int.tmod t190 (wrap64 ((t185.length : Int) + 1))))) (t185.length : Int)) (Int.tmod t191 (wrap64 ((wrap64 ((t185.length : Int) + 1)) - (Int.tmod t190 (wrap64 ((t185.length : Int) + 1))))))).bind fun t196 => ((impl_SpanAt.f k t185 (Int.tmod t189 (t185.length : Int)) (wrap64 ((Int.tmod t190 (wrap64 ((t185.length : Int) + 1))) + (Int.tmod t191 (wrap64 ((wrap64 ((t185.length : Int) + 1)) - (Int.tmod t190 (wrap64 ((t185.length : Int) + 1))))))))).bind fun t197 => (if (wrap64 (t195 + t196)) = t197 then ((impl_SpanAt.f k t185 (Int.tmod t189 (t185.length : Int)) (t185.length : Int)).bind fun t198 => ((impl_ScaleSum.f k t185).bind fun t199 => (if t198 = t199 then ((impl_SpanAt.f k t185 (Int.tmod t189 (t185.length : Int)) (Int.tmod t190 (wrap64 ((t185.length : Int) + 1)))).bind fun t200 => ((laws_has.f k t192 t200).bind fun t201 => (if t201 = true then ((impl_MajorScale.f).bind fun t202 => ((impl_HasTwoSizes.f k t202).bind fun t205 => (if t205 = true then ((impl_SpansOf.f k t185 (t185.length : Int)).bind fun t206 => (some ((t206.length : Int) == 1))) else (some false)))) else (some false)))) else (some false)))) else (some false))))))))))))))) = some r:=h
 clear h
 replace H:=Option.bind_eq_some_iff.mp H
 obtain ⟨t184,A20,H⟩:=H
 replace H : (if t184 = true then (some true) else ((spec_DrawScale.f k l0).bind fun t185 => ((laws_at.f l0 0).bind fun t189 => (if (t185.length : Int) = 0 then (none) else ((laws_at.f l0 1).bind fun t190 => (if (wrap64 ((t185.length : Int) + 1)) = 0 then (none) else ((laws_at.f l0 2).bind fun t191 => (if (wrap64 ((wrap64 ((t185.length : Int) + 1)) - (Int.tmod t190 (wrap64 ((t185.length : Int) + 1))))) = 0 then (none) else ((impl_SpansOf.f k t185 (Int.tmod t190 (wrap64 ((t185.length : Int) + 1)))).bind fun t192 => ((impl_SpanAt.f k t185 (Int.tmod t189 (t185.length : Int)) (Int.tmod t190 (wrap64 ((t185.length : Int) + 1)))).bind fun t195 => ((impl_SpanAt.f k t185 (Int.tmod (wrap64 ((Int.tmod t189 (t185.length : Int)) + (Int.tmod t190 (wrap64 ((t185.length : Int) + 1))))) (t185.length : Int)) (Int.tmod t191 (wrap64 ((wrap64 ((t185.length : Int) + 1)) - (Int.tmod t190 (wrap64 ((t185.length : Int) + 1))))))).bind fun t196 => ((impl_SpanAt.f k t185 (Int.tmod t189 (t185.length : Int)) (wrap64 ((Int.tmod t190 (wrap64 ((t185.length : Int) + 1))) + (Int.tmod t191 (wrap64 ((wrap64 ((t185.length : Int) + 1)) - (Int.tmod t190 (wrap64 ((t185.length : Int) + 1))))))))).bind fun t197 => (if (wrap64 (t195 + t196)) = t197 then ((impl_SpanAt.f k t185 (Int.tmod t189 (t185.length : Int)) (t185.length : Int)).bind fun t198 => ((impl_ScaleSum.f k t185).bind fun t199 => (if t198 = t199 then ((impl_SpanAt.f k t185 (Int.tmod t189 (t185.length : Int)) (Int.tmod t190 (wrap64 ((t185.length : Int) + 1)))).bind fun t200 => ((laws_has.f k t192 t200).bind fun t201 => (if t201 = true then ((impl_MajorScale.f).bind fun t202 => ((impl_HasTwoSizes.f k t202).bind fun t205 => (if t205 = true then ((impl_SpansOf.f k t185 (t185.length : Int)).bind fun t206 => (some ((t206.length : Int) == 1))) else (some false)))) else (some false)))) else (some false)))) else (some false)))))))))))))) = some r:=H
 have A2:=Aside0.mk A20
 clear A20
 by_cases c3 : t184 = true
 ·subst c3
  have H1 : (some true) = some r:=by rw [if_pos rfl] at H; exact H
  clear H
  have H:=H1
  clear H1
  obtain rfl:=Option.some.inj H
  go_enter Try.func4,Try.ntmps4
  go_wp2_with (first|((with_reducible refine gate_callee (f:=10) rfl ?_); refine goesL_ (some 10) rfl rfl Try.func10 (by kernel_rfl) rfl #[.slice A0 l0.length c0] rfl (by (try simp only [List.map_toArray,List.map_cons,List.map_nil]); first|done|rfl|(simp only [List.length_drop,List.length_take]; rfl)) ?_; (with_reducible refine (laws_big.calls _ _ l0 true _ ?side1 ?side2 A2.out).mono ?_); (case side1 => repeat (first|exact HR0.out|(with_reducible refine Kd.C_alloc ?_ _)|(with_reducible refine Kd.C_drewN ?_ _)|(with_reducible refine Kd.C_drew ?_))); (case side2 => exact HC0.out); rintro e w' ⟨rfl,⟨nd,rfl⟩⟩; refine ⟨_,rfl,?_⟩))
  go_ret
  exact ⟨by first|rfl|(simp [errW_none,errW_some] <;> rfl)|(simp [*,errW_none,errW_some] <;> rfl),by repeat (first|(with_reducible first|exact HB.out|apply bA|apply bD|apply bE)|exact HB.out)⟩
 replace c3:=Bool.eq_false_iff.mpr c3
 subst c3
 have H1 : ((spec_DrawScale.f k l0).bind fun t185 => ((laws_at.f l0 0).bind fun t189 => (if (t185.length : Int) = 0 then (none) else ((laws_at.f l0 1).bind fun t190 => (if (wrap64 ((t185.length : Int) + 1)) = 0 then (none) else ((laws_at.f l0 2).bind fun t191 => (if (wrap64 ((wrap64 ((t185.length : Int) + 1)) - (Int.tmod t190 (wrap64 ((t185.length : Int) + 1))))) = 0 then (none) else ((impl_SpansOf.f k t185 (Int.tmod t190 (wrap64 ((t185.length : Int) + 1)))).bind fun t192 => ((impl_SpanAt.f k t185 (Int.tmod t189 (t185.length : Int)) (Int.tmod t190 (wrap64 ((t185.length : Int) + 1)))).bind fun t195 => ((impl_SpanAt.f k t185 (Int.tmod (wrap64 ((Int.tmod t189 (t185.length : Int)) + (Int.tmod t190 (wrap64 ((t185.length : Int) + 1))))) (t185.length : Int)) (Int.tmod t191 (wrap64 ((wrap64 ((t185.length : Int) + 1)) - (Int.tmod t190 (wrap64 ((t185.length : Int) + 1))))))).bind fun t196 => ((impl_SpanAt.f k t185 (Int.tmod t189 (t185.length : Int)) (wrap64 ((Int.tmod t190 (wrap64 ((t185.length : Int) + 1))) + (Int.tmod t191 (wrap64 ((wrap64 ((t185.length : Int) + 1)) - (Int.tmod t190 (wrap64 ((t185.length : Int) + 1))))))))).bind fun t197 => (if (wrap64 (t195 + t196)) = t197 then ((impl_SpanAt.f k t185 (Int.tmod t189 (t185.length : Int)) (t185.length : Int)).bind fun t198 => ((impl_ScaleSum.f k t185).bind fun t199 => (if t198 = t199 then ((impl_SpanAt.f k t185 (Int.tmod t189 (t185.length : Int)) (Int.tmod t190 (wrap64 ((t185.length : Int) + 1)))).bind fun t200 => ((laws_has.f k t192 t200).bind fun t201 => (if t201 = true then ((impl_MajorScale.f).bind fun t202 => ((impl_HasTwoSizes.f k t202).bind fun t205 => (if t205 = true then ((impl_SpansOf.f k t185 (t185.length : Int)).bind fun t206 => (some ((t206.length : Int) == 1))) else (some false)))) else (some false)))) else (some false)))) else (some false))))))))))))) = some r:=by rw [if_neg (show ¬ (false = true) by decide)] at H; exact H
 clear H
 have H:=H1
 clear H1
 replace H:=Option.bind_eq_some_iff.mp H
 obtain ⟨t185,A40,H⟩:=H
 replace H : ((laws_at.f l0 0).bind fun t189 => (if (t185.length : Int) = 0 then (none) else ((laws_at.f l0 1).bind fun t190 => (if (wrap64 ((t185.length : Int) + 1)) = 0 then (none) else ((laws_at.f l0 2).bind fun t191 => (if (wrap64 ((wrap64 ((t185.length : Int) + 1)) - (Int.tmod t190 (wrap64 ((t185.length : Int) + 1))))) = 0 then (none) else ((impl_SpansOf.f k t185 (Int.tmod t190 (wrap64 ((t185.length : Int) + 1)))).bind fun t192 => ((impl_SpanAt.f k t185 (Int.tmod t189 (t185.length : Int)) (Int.tmod t190 (wrap64 ((t185.length : Int) + 1)))).bind fun t195 => ((impl_SpanAt.f k t185 (Int.tmod (wrap64 ((Int.tmod t189 (t185.length : Int)) + (Int.tmod t190 (wrap64 ((t185.length : Int) + 1))))) (t185.length : Int)) (Int.tmod t191 (wrap64 ((wrap64 ((t185.length : Int) + 1)) - (Int.tmod t190 (wrap64 ((t185.length : Int) + 1))))))).bind fun t196 => ((impl_SpanAt.f k t185 (Int.tmod t189 (t185.length : Int)) (wrap64 ((Int.tmod t190 (wrap64 ((t185.length : Int) + 1))) + (Int.tmod t191 (wrap64 ((wrap64 ((t185.length : Int) + 1)) - (Int.tmod t190 (wrap64 ((t185.length : Int) + 1))))))))).bind fun t197 => (if (wrap64 (t195 + t196)) = t197 then ((impl_SpanAt.f k t185 (Int.tmod t189 (t185.length : Int)) (t185.length : Int)).bind fun t198 => ((impl_ScaleSum.f k t185).bind fun t199 => (if t198 = t199 then ((impl_SpanAt.f k t185 (Int.tmod t189 (t185.length : Int)) (Int.tmod t190 (wrap64 ((t185.length : Int) + 1)))).bind fun t200 => ((laws_has.f k t192 t200).bind fun t201 => (if t201 = true then ((impl_MajorScale.f).bind fun t202 => ((impl_HasTwoSizes.f k t202).bind fun t205 => (if t205 = true then ((impl_SpansOf.f k t185 (t185.length : Int)).bind fun t206 => (some ((t206.length : Int) == 1))) else (some false)))) else (some false)))) else (some false)))) else (some false)))))))))))) = some r:=H
 have A4:=Aside0.mk A40
 clear A40
 replace H:=Option.bind_eq_some_iff.mp H
 obtain ⟨t189,A50,H⟩:=H
 replace H : (if (t185.length : Int) = 0 then (none) else ((laws_at.f l0 1).bind fun t190 => (if (wrap64 ((t185.length : Int) + 1)) = 0 then (none) else ((laws_at.f l0 2).bind fun t191 => (if (wrap64 ((wrap64 ((t185.length : Int) + 1)) - (Int.tmod t190 (wrap64 ((t185.length : Int) + 1))))) = 0 then (none) else ((impl_SpansOf.f k t185 (Int.tmod t190 (wrap64 ((t185.length : Int) + 1)))).bind fun t192 => ((impl_SpanAt.f k t185 (Int.tmod t189 (t185.length : Int)) (Int.tmod t190 (wrap64 ((t185.length : Int) + 1)))).bind fun t195 => ((impl_SpanAt.f k t185 (Int.tmod (wrap64 ((Int.tmod t189 (t185.length : Int)) + (Int.tmod t190 (wrap64 ((t185.length : Int) + 1))))) (t185.length : Int)) (Int.tmod t191 (wrap64 ((wrap64 ((t185.length : Int) + 1)) - (Int.tmod t190 (wrap64 ((t185.length : Int) + 1))))))).bind fun t196 => ((impl_SpanAt.f k t185 (Int.tmod t189 (t185.length : Int)) (wrap64 ((Int.tmod t190 (wrap64 ((t185.length : Int) + 1))) + (Int.tmod t191 (wrap64 ((wrap64 ((t185.length : Int) + 1)) - (Int.tmod t190 (wrap64 ((t185.length : Int) + 1))))))))).bind fun t197 => (if (wrap64 (t195 + t196)) = t197 then ((impl_SpanAt.f k t185 (Int.tmod t189 (t185.length : Int)) (t185.length : Int)).bind fun t198 => ((impl_ScaleSum.f k t185).bind fun t199 => (if t198 = t199 then ((impl_SpanAt.f k t185 (Int.tmod t189 (t185.length : Int)) (Int.tmod t190 (wrap64 ((t185.length : Int) + 1)))).bind fun t200 => ((laws_has.f k t192 t200).bind fun t201 => (if t201 = true then ((impl_MajorScale.f).bind fun t202 => ((impl_HasTwoSizes.f k t202).bind fun t205 => (if t205 = true then ((impl_SpansOf.f k t185 (t185.length : Int)).bind fun t206 => (some ((t206.length : Int) == 1))) else (some false)))) else (some false)))) else (some false)))) else (some false))))))))))) = some r:=H
 have A5:=Aside0.mk A50
 clear A50
 by_cases c6 : (t185.length : Int) = 0
 ·rw [if_pos c6] at H
  exact absurd H (by simp)
 rw [if_neg c6] at H
 have c6b0 : ((t185.length : Int) == 0) = false:=beq_eq_false_iff_ne.mpr c6
 have c6b1 : ((t185.length : Int) != 0) = true:=bne_iff_ne.mpr c6
 have c6b2 : ¬ (t185 = []):=fun h_ => c6 (by rw [h_]; rfl)
 replace H:=Option.bind_eq_some_iff.mp H
 obtain ⟨t190,A70,H⟩:=H
 replace H : (if (wrap64 ((t185.length : Int) + 1)) = 0 then (none) else ((laws_at.f l0 2).bind fun t191 => (if (wrap64 ((wrap64 ((t185.length : Int) + 1)) - (Int.tmod t190 (wrap64 ((t185.length : Int) + 1))))) = 0 then (none) else ((impl_SpansOf.f k t185 (Int.tmod t190 (wrap64 ((t185.length : Int) + 1)))).bind fun t192 => ((impl_SpanAt.f k t185 (Int.tmod t189 (t185.length : Int)) (Int.tmod t190 (wrap64 ((t185.length : Int) + 1)))).bind fun t195 => ((impl_SpanAt.f k t185 (Int.tmod (wrap64 ((Int.tmod t189 (t185.length : Int)) + (Int.tmod t190 (wrap64 ((t185.length : Int) + 1))))) (t185.length : Int)) (Int.tmod t191 (wrap64 ((wrap64 ((t185.length : Int) + 1)) - (Int.tmod t190 (wrap64 ((t185.length : Int) + 1))))))).bind fun t196 => ((impl_SpanAt.f k t185 (Int.tmod t189 (t185.length : Int)) (wrap64 ((Int.tmod t190 (wrap64 ((t185.length : Int) + 1))) + (Int.tmod t191 (wrap64 ((wrap64 ((t185.length : Int) + 1)) - (Int.tmod t190 (wrap64 ((t185.length : Int) + 1))))))))).bind fun t197 => (if (wrap64 (t195 + t196)) = t197 then ((impl_SpanAt.f k t185 (Int.tmod t189 (t185.length : Int)) (t185.length : Int)).bind fun t198 => ((impl_ScaleSum.f k t185).bind fun t199 => (if t198 = t199 then ((impl_SpanAt.f k t185 (Int.tmod t189 (t185.length : Int)) (Int.tmod t190 (wrap64 ((t185.length : Int) + 1)))).bind fun t200 => ((laws_has.f k t192 t200).bind fun t201 => (if t201 = true then ((impl_MajorScale.f).bind fun t202 => ((impl_HasTwoSizes.f k t202).bind fun t205 => (if t205 = true then ((impl_SpansOf.f k t185 (t185.length : Int)).bind fun t206 => (some ((t206.length : Int) == 1))) else (some false)))) else (some false)))) else (some false)))) else (some false))))))))) = some r:=H
 have A7:=Aside0.mk A70
 clear A70
 by_cases c8 : (wrap64 ((t185.length : Int) + 1)) = 0
 ·rw [if_pos c8] at H
  exact absurd H (by simp)
 rw [if_neg c8] at H
 have c8b0 : ((wrap64 ((t185.length : Int) + 1)) == 0) = false:=beq_eq_false_iff_ne.mpr c8
 have c8b1 : ((wrap64 ((t185.length : Int) + 1)) != 0) = true:=bne_iff_ne.mpr c8
 replace H:=Option.bind_eq_some_iff.mp H
 obtain ⟨t191,A90,H⟩:=H
 replace H : (if (wrap64 ((wrap64 ((t185.length : Int) + 1)) - (Int.tmod t190 (wrap64 ((t185.length : Int) + 1))))) = 0 then (none) else ((impl_SpansOf.f k t185 (Int.tmod t190 (wrap64 ((t185.length : Int) + 1)))).bind fun t192 => ((impl_SpanAt.f k t185 (Int.tmod t189 (t185.length : Int)) (Int.tmod t190 (wrap64 ((t185.length : Int) + 1)))).bind fun t195 => ((impl_SpanAt.f k t185 (Int.tmod (wrap64 ((Int.tmod t189 (t185.length : Int)) + (Int.tmod t190 (wrap64 ((t185.length : Int) + 1))))) (t185.length : Int)) (Int.tmod t191 (wrap64 ((wrap64 ((t185.length : Int) + 1)) - (Int.tmod t190 (wrap64 ((t185.length : Int) + 1))))))).bind fun t196 => ((impl_SpanAt.f k t185 (Int.tmod t189 (t185.length : Int)) (wrap64 ((Int.tmod t190 (wrap64 ((t185.length : Int) + 1))) + (Int.tmod t191 (wrap64 ((wrap64 ((t185.length : Int) + 1)) - (Int.tmod t190 (wrap64 ((t185.length : Int) + 1))))))))).bind fun t197 => (if (wrap64 (t195 + t196)) = t197 then ((impl_SpanAt.f k t185 (Int.tmod t189 (t185.length : Int)) (t185.length : Int)).bind fun t198 => ((impl_ScaleSum.f k t185).bind fun t199 => (if t198 = t199 then ((impl_SpanAt.f k t185 (Int.tmod t189 (t185.length : Int)) (Int.tmod t190 (wrap64 ((t185.length : Int) + 1)))).bind fun t200 => ((laws_has.f k t192 t200).bind fun t201 => (if t201 = true then ((impl_MajorScale.f).bind fun t202 => ((impl_HasTwoSizes.f k t202).bind fun t205 => (if t205 = true then ((impl_SpansOf.f k t185 (t185.length : Int)).bind fun t206 => (some ((t206.length : Int) == 1))) else (some false)))) else (some false)))) else (some false)))) else (some false))))))) = some r:=H
 have A9:=Aside0.mk A90
 clear A90
 by_cases c10 : (wrap64 ((wrap64 ((t185.length : Int) + 1)) - (Int.tmod t190 (wrap64 ((t185.length : Int) + 1))))) = 0
 ·rw [if_pos c10] at H
  exact absurd H (by simp)
 rw [if_neg c10] at H
 have c10b0 : ((wrap64 ((wrap64 ((t185.length : Int) + 1)) - (Int.tmod t190 (wrap64 ((t185.length : Int) + 1))))) == 0) = false:=beq_eq_false_iff_ne.mpr c10
 have c10b1 : ((wrap64 ((wrap64 ((t185.length : Int) + 1)) - (Int.tmod t190 (wrap64 ((t185.length : Int) + 1))))) != 0) = true:=bne_iff_ne.mpr c10
 replace H:=Option.bind_eq_some_iff.mp H
 obtain ⟨t192,A110,H⟩:=H
 replace H : ((impl_SpanAt.f k t185 (Int.tmod t189 (t185.length : Int)) (Int.tmod t190 (wrap64 ((t185.length : Int) + 1)))).bind fun t195 => ((impl_SpanAt.f k t185 (Int.tmod (wrap64 ((Int.tmod t189 (t185.length : Int)) + (Int.tmod t190 (wrap64 ((t185.length : Int) + 1))))) (t185.length : Int)) (Int.tmod t191 (wrap64 ((wrap64 ((t185.length : Int) + 1)) - (Int.tmod t190 (wrap64 ((t185.length : Int) + 1))))))).bind fun t196 => ((impl_SpanAt.f k t185 (Int.tmod t189 (t185.length : Int)) (wrap64 ((Int.tmod t190 (wrap64 ((t185.length : Int) + 1))) + (Int.tmod t191 (wrap64 ((wrap64 ((t185.length : Int) + 1)) - (Int.tmod t190 (wrap64 ((t185.length : Int) + 1))))))))).bind fun t197 => (if (wrap64 (t195 + t196)) = t197 then ((impl_SpanAt.f k t185 (Int.tmod t189 (t185.length : Int)) (t185.length : Int)).bind fun t198 => ((impl_ScaleSum.f k t185).bind fun t199 => (if t198 = t199 then ((impl_SpanAt.f k t185 (Int.tmod t189 (t185.length : Int)) (Int.tmod t190 (wrap64 ((t185.length : Int) + 1)))).bind fun t200 => ((laws_has.f k t192 t200).bind fun t201 => (if t201 = true then ((impl_MajorScale.f).bind fun t202 => ((impl_HasTwoSizes.f k t202).bind fun t205 => (if t205 = true then ((impl_SpansOf.f k t185 (t185.length : Int)).bind fun t206 => (some ((t206.length : Int) == 1))) else (some false)))) else (some false)))) else (some false)))) else (some false))))) = some r:=H
 have A11:=Aside0.mk A110
 clear A110
 replace H:=Option.bind_eq_some_iff.mp H
 obtain ⟨t195,A120,H⟩:=H
 replace H : ((impl_SpanAt.f k t185 (Int.tmod (wrap64 ((Int.tmod t189 (t185.length : Int)) + (Int.tmod t190 (wrap64 ((t185.length : Int) + 1))))) (t185.length : Int)) (Int.tmod t191 (wrap64 ((wrap64 ((t185.length : Int) + 1)) - (Int.tmod t190 (wrap64 ((t185.length : Int) + 1))))))).bind fun t196 => ((impl_SpanAt.f k t185 (Int.tmod t189 (t185.length : Int)) (wrap64 ((Int.tmod t190 (wrap64 ((t185.length : Int) + 1))) + (Int.tmod t191 (wrap64 ((wrap64 ((t185.length : Int) + 1)) - (Int.tmod t190 (wrap64 ((t185.length : Int) + 1))))))))).bind fun t197 => (if (wrap64 (t195 + t196)) = t197 then ((impl_SpanAt.f k t185 (Int.tmod t189 (t185.length : Int)) (t185.length : Int)).bind fun t198 => ((impl_ScaleSum.f k t185).bind fun t199 => (if t198 = t199 then ((impl_SpanAt.f k t185 (Int.tmod t189 (t185.length : Int)) (Int.tmod t190 (wrap64 ((t185.length : Int) + 1)))).bind fun t200 => ((laws_has.f k t192 t200).bind fun t201 => (if t201 = true then ((impl_MajorScale.f).bind fun t202 => ((impl_HasTwoSizes.f k t202).bind fun t205 => (if t205 = true then ((impl_SpansOf.f k t185 (t185.length : Int)).bind fun t206 => (some ((t206.length : Int) == 1))) else (some false)))) else (some false)))) else (some false)))) else (some false)))) = some r:=H
 have A12:=Aside0.mk A120
 clear A120
 replace H:=Option.bind_eq_some_iff.mp H
 obtain ⟨t196,A130,H⟩:=H
 replace H : ((impl_SpanAt.f k t185 (Int.tmod t189 (t185.length : Int)) (wrap64 ((Int.tmod t190 (wrap64 ((t185.length : Int) + 1))) + (Int.tmod t191 (wrap64 ((wrap64 ((t185.length : Int) + 1)) - (Int.tmod t190 (wrap64 ((t185.length : Int) + 1))))))))).bind fun t197 => (if (wrap64 (t195 + t196)) = t197 then ((impl_SpanAt.f k t185 (Int.tmod t189 (t185.length : Int)) (t185.length : Int)).bind fun t198 => ((impl_ScaleSum.f k t185).bind fun t199 => (if t198 = t199 then ((impl_SpanAt.f k t185 (Int.tmod t189 (t185.length : Int)) (Int.tmod t190 (wrap64 ((t185.length : Int) + 1)))).bind fun t200 => ((laws_has.f k t192 t200).bind fun t201 => (if t201 = true then ((impl_MajorScale.f).bind fun t202 => ((impl_HasTwoSizes.f k t202).bind fun t205 => (if t205 = true then ((impl_SpansOf.f k t185 (t185.length : Int)).bind fun t206 => (some ((t206.length : Int) == 1))) else (some false)))) else (some false)))) else (some false)))) else (some false))) = some r:=H
 have A13:=Aside0.mk A130
 clear A130
 replace H:=Option.bind_eq_some_iff.mp H
 obtain ⟨t197,A140,H⟩:=H
 replace H : (if (wrap64 (t195 + t196)) = t197 then ((impl_SpanAt.f k t185 (Int.tmod t189 (t185.length : Int)) (t185.length : Int)).bind fun t198 => ((impl_ScaleSum.f k t185).bind fun t199 => (if t198 = t199 then ((impl_SpanAt.f k t185 (Int.tmod t189 (t185.length : Int)) (Int.tmod t190 (wrap64 ((t185.length : Int) + 1)))).bind fun t200 => ((laws_has.f k t192 t200).bind fun t201 => (if t201 = true then ((impl_MajorScale.f).bind fun t202 => ((impl_HasTwoSizes.f k t202).bind fun t205 => (if t205 = true then ((impl_SpansOf.f k t185 (t185.length : Int)).bind fun t206 => (some ((t206.length : Int) == 1))) else (some false)))) else (some false)))) else (some false)))) else (some false)) = some r:=H
 have A14:=Aside0.mk A140
 clear A140
 by_cases c15 : (wrap64 (t195 + t196)) = t197
 rotate_left
 ·rw [if_neg c15] at H
  have c15b0 : ((wrap64 (t195 + t196)) == t197) = false:=beq_eq_false_iff_ne.mpr c15
  have c15b1 : ((wrap64 (t195 + t196)) != t197) = true:=bne_iff_ne.mpr c15
  obtain rfl:=Option.some.inj H
  go_enter Try.func4,Try.ntmps4
  try go_wp2_with (first|((with_reducible refine gate_callee (f:=10) rfl ?_); refine goesL_ (some 10) rfl rfl Try.func10 (by kernel_rfl) rfl #[.slice A0 l0.length c0] rfl (by (try simp only [List.map_toArray,List.map_cons,List.map_nil]); first|done|rfl|(simp only [List.length_drop,List.length_take]; rfl)) ?_; (with_reducible refine (laws_big.calls _ _ l0 false _ ?side1 ?side2 A2.out).mono ?_); (case side1 => repeat (first|exact HR0.out|(with_reducible refine Kd.C_alloc ?_ _)|(with_reducible refine Kd.C_drewN ?_ _)|(with_reducible refine Kd.C_drew ?_))); (case side2 => exact HC0.out); rintro e w' ⟨rfl,⟨nd,rfl⟩⟩; refine ⟨_,rfl,?_⟩)|((with_reducible refine gate_callee (f:=11) rfl ?_); refine goesL_ (some 12) rfl rfl Try.func11 (by kernel_rfl) rfl #[.slice A0 l0.length c0] rfl (by (try simp only [List.map_toArray,List.map_cons,List.map_nil]); first|done|rfl|(simp only [List.length_drop,List.length_take]; rfl)) ?_; (with_reducible refine (spec_DrawScale.calls k _ _ l0 t185 _ ?side1 ?side2 A4.out).mono ?_); (case side1 => repeat (first|exact HR0.out|(with_reducible refine Kd.C_alloc ?_ _)|(with_reducible refine Kd.C_drewN ?_ _)|(with_reducible refine Kd.C_drew ?_))); (case side2 => exact HC0.out); rintro e w84 ⟨v186,rfl,ho0,hb⟩; refine ⟨_,rfl,?_⟩; have n0_:=Aside0.mk (Kd.R_lower ho0 (below_size (by repeat (first|(with_reducible first|exact HB.out|apply bA|apply bD|apply bE)|exact HB.out)))); have n1_:=Aside0.mk (below_step (by repeat (first|(with_reducible first|exact HB.out|apply bA|apply bD|apply bE)|exact HB.out)) hb); clear HB; have HO187:=n0_; have HB:=n1_; clear n0_ n1_; (try clear hb); (try clear hb2); (try clear hk); (try clear hi); (try clear ho0))|((with_reducible refine gate_dst (N:=3) rfl ?_); (try (refine gate_guard (by rfl) ?_; dsimp only)); refine box_event ?hg (N:=3) ?hd (cs:=#[.slice none 0 0]) (t:=26) ?hr ?_; (case hd => rfl); (case hg => rfl); (case hr => first|(go_simp; done)|(go_simp; rfl)); intro gb188 hg w85 hbox hb; have n0_:=Aside0.mk (Kd.R_below (by (with_reducible repeat (first|apply Kd.R_alloc|apply Kd.R_drewN|apply Kd.R_drew)); exact HO187.out) hb); have n1_:=Aside0.mk (below_step (by repeat (first|(with_reducible first|exact HB.out|apply bA|apply bD|apply bE)|exact HB.out)) hb); have n2_:=Aside0.mk (hbox); have n3_:=Aside0.mk ((by rw [hg]; exact (below_size (by repeat (first|(with_reducible first|exact HB.out|apply bA|apply bD|apply bE)|exact HB.out))) : w.heap.size ≤ gb188)); have n4_:=Aside0.mk ((by rw [hg]; exact (below_size (by repeat (first|(with_reducible first|exact HB.out|apply bA|apply bD|apply bE)|exact HB.out))) : w.heap.size ≤ gb188)); clear HO187; clear HB; have HO187:=n0_; have HB:=n1_; have BK188:=n2_; have GW188:=n3_; have GE188:=n4_; clear n0_ n1_ n2_ n3_ n4_; clear hb hbox hg; obtain ⟨Ao86,co86,eo86⟩:=Kd.R_slice HO187.out; subst eo86; have hcz87_0 : w85.cell? ⟨gb188,0,none⟩ = some (.slice none 0 0):=(blk_cell BK188.out 0).trans rfl; have hfz87_0:=blk_frozen BK188.out 0)|((with_reducible refine gate_callee (f:=18) rfl ?_); refine goesL_ (some 17) rfl rfl Try.func18 (by kernel_rfl) rfl #[.slice A0 l0.length c0,.int .i64 0] rfl (by (try simp only [List.map_toArray,List.map_cons,List.map_nil]); first|done|rfl|(simp only [List.length_drop,List.length_take]; rfl)) ?_; (with_reducible refine (laws_at.calls _ _ l0 0 t189 _ ?side1 ?side2 A5.out).mono ?_); (case side1 => exact Kd.C_below HR0.out (by repeat (first|(with_reducible first|exact HB.out|apply bA|apply bD|apply bE|refine below_set ?_ GE188.out)|exact HB.out))); (case side2 => exact HC0.out); rintro e w' ⟨rfl,⟨nd,rfl⟩⟩; refine ⟨_,rfl,?_⟩)|((with_reducible refine gate_callee (f:=18) rfl ?_); refine goesL_ (some 21) rfl rfl Try.func18 (by kernel_rfl) rfl #[.slice A0 l0.length c0,.int .i64 1] rfl (by (try simp only [List.map_toArray,List.map_cons,List.map_nil]); first|done|rfl|(simp only [List.length_drop,List.length_take]; rfl)) ?_; (with_reducible refine (laws_at.calls _ _ l0 1 t190 _ ?side1 ?side2 A7.out).mono ?_); (case side1 => exact Kd.C_below HR0.out (by repeat (first|(with_reducible first|exact HB.out|apply bA|apply bD|apply bE|refine below_set ?_ GE188.out)|exact HB.out))); (case side2 => exact HC0.out); rintro e w' ⟨rfl,⟨nd,rfl⟩⟩; refine ⟨_,rfl,?_⟩)|((with_reducible refine gate_callee (f:=18) rfl ?_); refine goesL_ (some 26) rfl rfl Try.func18 (by kernel_rfl) rfl #[.slice A0 l0.length c0,.int .i64 2] rfl (by (try simp only [List.map_toArray,List.map_cons,List.map_nil]); first|done|rfl|(simp only [List.length_drop,List.length_take]; rfl)) ?_; (with_reducible refine (laws_at.calls _ _ l0 2 t191 _ ?side1 ?side2 A9.out).mono ?_); (case side1 => exact Kd.C_below HR0.out (by repeat (first|(with_reducible first|exact HB.out|apply bA|apply bD|apply bE|refine below_set ?_ GE188.out)|exact HB.out))); (case side2 => exact HC0.out); rintro e w' ⟨rfl,⟨nd,rfl⟩⟩; refine ⟨_,rfl,?_⟩)|((with_reducible refine gate_callee (f:=19) rfl ?_); refine goesL_ (some 34) rfl rfl Try.func19 (by kernel_rfl) rfl #[.agg #[.slice Ao86 t185.length co86],.int .i64 (Int.tmod t190 (wrap64 ((t185.length : Int) + 1)))] rfl (by (try simp only [List.map_toArray,List.map_cons,List.map_nil]); first|done|rfl|(simp only [List.length_drop,List.length_take]; rfl)) ?_; (with_reducible refine (impl_SpansOf.calls k _ _ t185 (Int.tmod t190 (wrap64 ((t185.length : Int) + 1))) t192 _ ?side1 ?side2 A11.out).mono ?_); (case side1 => refine (Kd.R_reads' (e:=3) (base:=w.heap.size) (ok:=fun k_ => True) (n:=t185.length) (c:=co86) ?_).2.2; exact (by (with_reducible repeat (first|apply Kd.R_alloc|apply Kd.R_drewN|apply Kd.R_drew)); exact (Kd.R_mono (Kd.R_far (p:=⟨gb188,0,none⟩) (Kd.R_types HO187.out BK188.out (by decide)) (fun _ hk => hk.2) (.slice Ao86 t185.length co86)) (fun _ h_ => h_.1)))); (case side2 => exact (Kd.R_reads' HO187.out).2.1); rintro e w88 ⟨v193,rfl,ho0,hb⟩; refine ⟨_,rfl,?_⟩; have n0_:=Aside0.mk (Kd.R_elder' (by (with_reducible repeat (first|apply Kd.R_alloc|apply Kd.R_drewN|apply Kd.R_drew)); exact (Kd.R_mono (Kd.R_far (p:=⟨gb188,0,none⟩) (Kd.R_types HO187.out BK188.out (by decide)) (fun _ hk => hk.2) (.slice Ao86 t185.length co86)) (fun _ h_ => h_.1))) (Kd.R_base ho0) hb); have n1_:=Aside0.mk (Kd.R_lower (Kd.R_new' ho0 (Kd.R_lt (by (with_reducible repeat (first|apply Kd.R_alloc|apply Kd.R_drewN|apply Kd.R_drew)); exact (Kd.R_mono (Kd.R_far (p:=⟨gb188,0,none⟩) (Kd.R_types HO187.out BK188.out (by decide)) (fun _ hk => hk.2) (.slice Ao86 t185.length co86)) (fun _ h_ => h_.1))))) (below_size (by repeat (first|(with_reducible first|exact HB.out|apply bA|apply bD|apply bE|refine below_set ?_ GE188.out)|exact HB.out)))); have n2_:=Aside0.mk (blk_below (g:=gb188) (o:=.cells #[.slice Ao86 t185.length co86] 26 (0,0)) (by (with_reducible repeat (first|refine blk_drewN ?_ _|refine blk_drew ?_|refine blk_alloc ?_ _)); refine blk_put (cs:=#[.slice none 0 0]) ?_ 0 _ rfl; (with_reducible repeat (first|refine blk_drewN ?_ _|refine blk_drew ?_|refine blk_alloc ?_ _)); exact BK188.out) hb); have n3_:=Aside0.mk (below_step (by repeat (first|(with_reducible first|exact HB.out|apply bA|apply bD|apply bE|refine below_set ?_ GE188.out)|exact HB.out)) hb); clear HO187; clear BK188; clear HB; have HO187:=n0_; have HO194:=n1_; have BK188:=n2_; have HB:=n3_; clear n0_ n1_ n2_ n3_; (try clear hb); (try clear hb2); (try clear hk); (try clear hi); (try clear ho0)))
  have n0_:=Aside0.mk (Kd.R_drew HO187.out)
  have n1_:=Aside0.mk (Kd.R_drew HO194.out)
  have n2_:=Aside0.mk (blk_drew BK188.out)
  have n3_:=Aside0.mk (bE HB.out)
  clear HO187
  clear HO194
  clear BK188
  clear HB
  have HO187:=n0_
  have HO194:=n1_
  have BK188:=n2_
  have HB:=n3_
  clear n0_ n1_ n2_ n3_
  refine start_ (n:=49) (S:=fun w' => w'.cell? ⟨gb188,0,none⟩ = some (.slice Ao86 t185.length co86)) (ds:=[]) #[fF,fF,fF,fF,fF,fF,fF,fF,fF,fF,fF,fF,fF,fF,fF,fF,fF,fF,fF,fF,fF,fF,fF,fF,fF,fF,fF,fF,fF,fF,fF,fF,fF,fF,fF,fF,fF,fF,fF,fF,fF,fF,fF,fF,fF,fF,fF,fF,fF] (by kernel_rfl) rfl rfl ((blk_cell BK188.out 0).trans rfl) (fun hHeld => ?_); refine with_tabW laws_FnSpans.tab9 laws_FnSpans.bits9 (fun HT_ HW_ => ?_)
  generalize w88.drew = w89 at HO187 HO194 BK188 HB hHeld ⊢
  refine pure_ (i:=1) (N:=some 36) (v:=?_) (a':=?_) #[fF,tT,fF,fF,fF,fF,fF,fF,fF,fF,fF,fF,fF,fF,fF,fF,fF,fF,fF,fF,fF,fF,fF,fF,fF,fF,fF,fF,fF,fF,fF,fF,fF,fF,fF,fF,fF,fF,fF,fF,fF,fF,fF,fF,fF,fF,fF,fF,fF] rfl rfl (any_of HT_.out (by kernel_rfl)) (fun _ _ _ h => h) (Or.inl ⟨by rfl,?_⟩) ?_ ?_
  rotate_left
  ·intro w'
   go_simp
   first|(with_reducible rfl)|(simp only [Instr.field,go_sem, *]; rfl)
  rotate_left
  ·simp only [Act.put,lS,lZ,lC,i64_w,i32_w]
   rfl
  refine pure_ (i:=2) (N:=some 37) (v:=?_) (a':=?_) #[fF,tT,tT,fF,fF,fF,fF,fF,fF,fF,fF,fF,fF,fF,fF,fF,fF,fF,fF,fF,fF,fF,fF,fF,fF,fF,fF,fF,fF,fF,fF,fF,fF,fF,fF,fF,fF,fF,fF,fF,fF,fF,fF,fF,fF,fF,fF,fF,fF] rfl rfl (any_of HT_.out (by kernel_rfl)) (fun _ _ _ h => h) (Or.inl ⟨by rfl,?_⟩) ?_ ?_
  rotate_left
  ·intro w'
   go_simp
   first|(with_reducible rfl)|(simp only [Instr.field,go_sem, *]; rfl)
  rotate_left
  ·simp only [Act.put,lS,lZ,lC,i64_w,i32_w]
   rfl
  refine pure_ (i:=5) (N:=some 40) (v:=?_) (a':=?_) #[fF,tT,tT,fF,fF,tT,fF,fF,fF,fF,fF,fF,fF,fF,fF,fF,fF,fF,fF,fF,fF,fF,fF,fF,fF,fF,fF,fF,fF,fF,fF,fF,fF,fF,fF,fF,fF,fF,fF,fF,fF,fF,fF,fF,fF,fF,fF,fF,fF] rfl rfl (any_of HT_.out (by kernel_rfl)) (fun _ _ _ h => h) (Or.inl ⟨by rfl,?_⟩) ?_ ?_
  rotate_left
  ·intro w'
   go_simp
   first|(with_reducible rfl)|(simp only [Instr.field,go_sem, *]; rfl)
  rotate_left
  ·simp only [Act.put,lS,lZ,lC,i64_w,i32_w]
   rfl
  refine pure_ (i:=6) (N:=some 41) (v:=?_) (a':=?_) #[fF,tT,tT,fF,fF,tT,tT,fF,fF,fF,fF,fF,fF,fF,fF,fF,fF,fF,fF,fF,fF,fF,fF,fF,fF,fF,fF,fF,fF,fF,fF,fF,fF,fF,fF,fF,fF,fF,fF,fF,fF,fF,fF,fF,fF,fF,fF,fF,fF] rfl rfl (any_of HT_.out (by kernel_rfl)) (fun _ _ _ h => h) (Or.inl ⟨by rfl,?_⟩) ?_ ?_
  rotate_left
  ·intro w'
   go_simp
   first|(with_reducible rfl)|(simp only [Instr.field,go_sem, *]; rfl)
  rotate_left
  ·simp only [Act.put,lS,lZ,lC,i64_w,i32_w]
   rfl
  refine pure_ (i:=7) (N:=some 42) (v:=?_) (a':=?_) #[fF,tT,tT,fF,fF,tT,tT,tT,fF,fF,fF,fF,fF,fF,fF,fF,fF,fF,fF,fF,fF,fF,fF,fF,fF,fF,fF,fF,fF,fF,fF,fF,fF,fF,fF,fF,fF,fF,fF,fF,fF,fF,fF,fF,fF,fF,fF,fF,fF] rfl rfl (any_of HT_.out (by kernel_rfl)) (fun _ _ _ h => h) (Or.inl ⟨by rfl,?_⟩) ?_ ?_
  rotate_left
  ·intro w'
   go_simp
   first|(with_reducible rfl)|(simp only [Instr.field,go_sem, *]; rfl)
  rotate_left
  ·simp only [Act.put,lS,lZ,lC,i64_w,i32_w]
   rfl
  refine pure_ (i:=8) (N:=some 43) (v:=?_) (a':=?_) #[fF,tT,tT,fF,fF,tT,tT,tT,tT,fF,fF,fF,fF,fF,fF,fF,fF,fF,fF,fF,fF,fF,fF,fF,fF,fF,fF,fF,fF,fF,fF,fF,fF,fF,fF,fF,fF,fF,fF,fF,fF,fF,fF,fF,fF,fF,fF,fF,fF] rfl rfl (any_of HT_.out (by kernel_rfl)) (fun _ _ _ h => h) (Or.inl ⟨by rfl,?_⟩) ?_ ?_
  rotate_left
  ·intro w'
   go_simp
   first|(with_reducible rfl)|(simp only [Instr.field,go_sem, *]; rfl)
  rotate_left
  ·simp only [Act.put,lS,lZ,lC,i64_w,i32_w]
   rfl
  refine pure_ (i:=9) (N:=some 44) (v:=?_) (a':=?_) #[fF,tT,tT,fF,fF,tT,tT,tT,tT,tT,fF,fF,fF,fF,fF,fF,fF,fF,fF,fF,fF,fF,fF,fF,fF,fF,fF,fF,fF,fF,fF,fF,fF,fF,fF,fF,fF,fF,fF,fF,fF,fF,fF,fF,fF,fF,fF,fF,fF] rfl rfl (any_of HT_.out (by kernel_rfl)) (fun _ _ _ h => h) (Or.inl ⟨by rfl,?_⟩) ?_ ?_
  rotate_left
  ·intro w'
   go_simp
   first|(with_reducible rfl)|(simp only [Instr.field,go_sem, *]; rfl)
  rotate_left
  ·simp only [Act.put,lS,lZ,lC,i64_w,i32_w]
   rfl
  refine pure_ (i:=10) (N:=some 45) (v:=?_) (a':=?_) #[fF,tT,tT,fF,fF,tT,tT,tT,tT,tT,tT,fF,fF,fF,fF,fF,fF,fF,fF,fF,fF,fF,fF,fF,fF,fF,fF,fF,fF,fF,fF,fF,fF,fF,fF,fF,fF,fF,fF,fF,fF,fF,fF,fF,fF,fF,fF,fF,fF] rfl rfl (any_of HT_.out (by kernel_rfl)) (fun _ _ _ h => h) (Or.inl ⟨by rfl,?_⟩) ?_ ?_
  rotate_left
  ·intro w'
   go_simp
   first|(with_reducible rfl)|(simp only [Instr.field,go_sem, *]; rfl)
  rotate_left
  ·simp only [Act.put,lS,lZ,lC,i64_w,i32_w]
   rfl
  refine pure_ (i:=14) (N:=some 49) (v:=?_) (a':=?_) #[fF,tT,tT,fF,fF,tT,tT,tT,tT,tT,tT,fF,fF,fF,tT,fF,fF,fF,fF,fF,fF,fF,fF,fF,fF,fF,fF,fF,fF,fF,fF,fF,fF,fF,fF,fF,fF,fF,fF,fF,fF,fF,fF,fF,fF,fF,fF,fF,fF] rfl rfl (any_of HT_.out (by kernel_rfl)) (fun _ _ _ h => h) (Or.inl ⟨by rfl,?_⟩) ?_ ?_
  rotate_left
  ·intro w'
   go_simp
   first|(with_reducible rfl)|(simp only [Instr.field,go_sem, *]; rfl)
  rotate_left
  ·simp only [Act.put,lS,lZ,lC,i64_w,i32_w]
   rfl
  refine pure_ (i:=15) (N:=some 50) (v:=?_) (a':=?_) #[fF,tT,tT,fF,fF,tT,tT,tT,tT,tT,tT,fF,fF,fF,tT,tT,fF,fF,fF,fF,fF,fF,fF,fF,fF,fF,fF,fF,fF,fF,fF,fF,fF,fF,fF,fF,fF,fF,fF,fF,fF,fF,fF,fF,fF,fF,fF,fF,fF] rfl rfl (any_of HT_.out (by kernel_rfl)) (fun _ _ _ h => h) (Or.inl ⟨by rfl,?_⟩) ?_ ?_
  rotate_left
  ·intro w'
   go_simp
   first|(with_reducible rfl)|(simp only [Instr.field,go_sem, *]; rfl)
  rotate_left
  ·simp only [Act.put,lS,lZ,lC,i64_w,i32_w]
   rfl
  refine pure_ (i:=16) (N:=some 51) (v:=?_) (a':=?_) #[fF,tT,tT,fF,fF,tT,tT,tT,tT,tT,tT,fF,fF,fF,tT,tT,tT,fF,fF,fF,fF,fF,fF,fF,fF,fF,fF,fF,fF,fF,fF,fF,fF,fF,fF,fF,fF,fF,fF,fF,fF,fF,fF,fF,fF,fF,fF,fF,fF] rfl rfl (any_of HT_.out (by kernel_rfl)) (fun _ _ _ h => h) (Or.inl ⟨by rfl,?_⟩) ?_ ?_
  rotate_left
  ·intro w'
   go_simp
   first|(with_reducible rfl)|(simp only [Instr.field,go_sem, *]; rfl)
  rotate_left
  ·simp only [Act.put,lS,lZ,lC,i64_w,i32_w]
   rfl
  refine pure_ (i:=17) (N:=some 52) (v:=?_) (a':=?_) #[fF,tT,tT,fF,fF,tT,tT,tT,tT,tT,tT,fF,fF,fF,tT,tT,tT,tT,fF,fF,fF,fF,fF,fF,fF,fF,fF,fF,fF,fF,fF,fF,fF,fF,fF,fF,fF,fF,fF,fF,fF,fF,fF,fF,fF,fF,fF,fF,fF] rfl rfl (any_of HT_.out (by kernel_rfl)) (fun _ _ _ h => h) (Or.inl ⟨by rfl,?_⟩) ?_ ?_
  rotate_left
  ·intro w'
   go_simp
   first|(with_reducible rfl)|(simp only [Instr.field,go_sem, *]; rfl)
  rotate_left
  ·simp only [Act.put,lS,lZ,lC,i64_w,i32_w]
   rfl
  refine take_ (i:=0) (N:=some 35) (v:=?_) (a':=?_) #[tT,tT,tT,fF,fF,tT,tT,tT,tT,tT,tT,fF,fF,fF,tT,tT,tT,tT,fF,fF,fF,fF,fF,fF,fF,fF,fF,fF,fF,fF,fF,fF,fF,fF,fF,fF,fF,fF,fF,fF,fF,fF,fF,fF,fF,fF,fF,fF,fF] rfl rfl (take_ofW HT_.out HW_.out (by kernel_rfl)) (fun _ _ _ h => h) (Or.inl ⟨by rfl,?_⟩) hHeld ?_ ?_
  rotate_left
  ·intro w' s0
   go_simp
   first|(with_reducible rfl)|(simp only [Instr.field,go_sem, *]; rfl)
  rotate_left
  ·simp only [Act.put,lS,lZ,lC,i64_w,i32_w]
   rfl
  refine take_ (i:=4) (N:=some 39) (v:=?_) (a':=?_) #[tT,tT,tT,fF,tT,tT,tT,tT,tT,tT,tT,fF,fF,fF,tT,tT,tT,tT,fF,fF,fF,fF,fF,fF,fF,fF,fF,fF,fF,fF,fF,fF,fF,fF,fF,fF,fF,fF,fF,fF,fF,fF,fF,fF,fF,fF,fF,fF,fF] rfl rfl (take_ofW HT_.out HW_.out (by kernel_rfl)) (fun _ _ _ h => h) (Or.inl ⟨by rfl,?_⟩) hHeld ?_ ?_
  rotate_left
  ·intro w' s0
   go_simp
   first|(with_reducible rfl)|(simp only [Instr.field,go_sem, *]; rfl)
  rotate_left
  ·simp only [Act.put,lS,lZ,lC,i64_w,i32_w]
   rfl
  refine take_ (i:=13) (N:=some 48) (v:=?_) (a':=?_) #[tT,tT,tT,fF,tT,tT,tT,tT,tT,tT,tT,fF,fF,tT,tT,tT,tT,tT,fF,fF,fF,fF,fF,fF,fF,fF,fF,fF,fF,fF,fF,fF,fF,fF,fF,fF,fF,fF,fF,fF,fF,fF,fF,fF,fF,fF,fF,fF,fF] rfl rfl (take_ofW HT_.out HW_.out (by kernel_rfl)) (fun _ _ _ h => h) (Or.inl ⟨by rfl,?_⟩) hHeld ?_ ?_
  rotate_left
  ·intro w' s0
   go_simp
   first|(with_reducible rfl)|(simp only [Instr.field,go_sem, *]; rfl)
  rotate_left
  ·simp only [Act.put,lS,lZ,lC,i64_w,i32_w]
   rfl
  refine one_ (i:=3) (N:=some 38) #[tT,tT,tT,tT,tT,tT,tT,tT,tT,tT,tT,fF,fF,tT,tT,tT,tT,tT,fF,fF,fF,fF,fF,fF,fF,fF,fF,fF,fF,fF,fF,fF,fF,fF,fF,fF,fF,fF,fF,fF,fF,fF,fF,fF,fF,fF,fF,fF,fF] rfl rfl (one_of HT_.out (by kernel_rfl)) (by decide) (fun K hK => ?_)
  refine goes_ Try.func20 (by kernel_rfl) rfl #[.agg #[.slice Ao86 t185.length co86],.int .i64 (Int.tmod t189 (t185.length : Int)),.int .i64 (Int.tmod t190 (wrap64 ((t185.length : Int) + 1)))] (by rfl) rfl rfl (by (try simp only [List.map_toArray,List.map_cons,List.map_nil]); first|done|rfl|(simp only [List.length_drop,List.length_take]; rfl)) ?_
  with_reducible refine (impl_SpanAt.calls k _ _ t185 (Int.tmod t189 (t185.length : Int)) (Int.tmod t190 (wrap64 ((t185.length : Int) + 1))) t195 _ ?side1 ?side2 A12.out).mono ?_
  (case side1 => repeat (first|exact (Kd.R_reads' HO187.out).2.2|(with_reducible refine Kd.C_alloc ?_ _)|(with_reducible refine Kd.C_drewN ?_ _)|(with_reducible refine Kd.C_drew ?_)))
  (case side2 => exact (Kd.R_reads' HO187.out).2.1)
  rintro e w90 ⟨rfl,hb⟩
  refine ⟨_,rfl,?_⟩
  have n0_:=Aside0.mk (Kd.R_below (by (with_reducible repeat (first|apply Kd.R_alloc|apply Kd.R_drewN|apply Kd.R_drew)); exact HO187.out) hb)
  have n1_:=Aside0.mk (Kd.R_below (by (with_reducible repeat (first|apply Kd.R_alloc|apply Kd.R_drewN|apply Kd.R_drew)); exact HO194.out) hb)
  have n2_:=Aside0.mk (blk_below (g:=gb188) (o:=.cells #[.slice Ao86 t185.length co86] 26 (0,0)) (by (with_reducible repeat (first|refine blk_drewN ?_ _|refine blk_drew ?_|refine blk_alloc ?_ _)); exact BK188.out) hb)
  have n3_:=Aside0.mk (below_step (by repeat (first|(with_reducible first|exact HB.out|apply bA|apply bD|apply bE|refine below_set ?_ GE188.out)|exact HB.out)) hb)
  clear HO187
  clear HO194
  clear BK188
  clear HB
  have HO187:=n0_
  have HO194:=n1_
  have BK188:=n2_
  have HB:=n3_
  clear n0_ n1_ n2_ n3_
  (try clear hb)
  (try clear hb2)
  (try clear hk)
  (try clear hi)
  refine hK.out _ _ ((blk_cell BK188.out 0).trans rfl) (fun hHeld => ?_)
  clear hK K
  refine norm_ (a':=?_) ?_ ?_
  rotate_left
  ·show Act.put _ (some 38) _ = _
   simp only [Act.put,lS,lZ,lC,i64_w,i32_w]
   rfl
  refine one_ (i:=11) (N:=some 46) #[tT,tT,tT,tT,tT,tT,tT,tT,tT,tT,tT,tT,fF,tT,tT,tT,tT,tT,fF,fF,fF,fF,fF,fF,fF,fF,fF,fF,fF,fF,fF,fF,fF,fF,fF,fF,fF,fF,fF,fF,fF,fF,fF,fF,fF,fF,fF,fF,fF] rfl rfl (one_of HT_.out (by kernel_rfl)) (by decide) (fun K hK => ?_)
  refine goes_ Try.func20 (by kernel_rfl) rfl #[.agg #[.slice Ao86 t185.length co86],.int .i64 (Int.tmod (wrap64 ((Int.tmod t189 (t185.length : Int)) + (Int.tmod t190 (wrap64 ((t185.length : Int) + 1))))) (t185.length : Int)),.int .i64 (Int.tmod t191 (wrap64 ((wrap64 ((t185.length : Int) + 1)) - (Int.tmod t190 (wrap64 ((t185.length : Int) + 1))))))] (by rfl) rfl rfl (by (try simp only [List.map_toArray,List.map_cons,List.map_nil]); first|done|rfl|(simp only [List.length_drop,List.length_take]; rfl)) ?_
  with_reducible refine (impl_SpanAt.calls k _ _ t185 (Int.tmod (wrap64 ((Int.tmod t189 (t185.length : Int)) + (Int.tmod t190 (wrap64 ((t185.length : Int) + 1))))) (t185.length : Int)) (Int.tmod t191 (wrap64 ((wrap64 ((t185.length : Int) + 1)) - (Int.tmod t190 (wrap64 ((t185.length : Int) + 1)))))) t196 _ ?side1 ?side2 A13.out).mono ?_
  (case side1 => repeat (first|exact (Kd.R_reads' HO187.out).2.2|(with_reducible refine Kd.C_alloc ?_ _)|(with_reducible refine Kd.C_drewN ?_ _)|(with_reducible refine Kd.C_drew ?_)))
  (case side2 => exact (Kd.R_reads' HO187.out).2.1)
  rintro e w91 ⟨rfl,hb⟩
  refine ⟨_,rfl,?_⟩
  have n0_:=Aside0.mk (Kd.R_below (by (with_reducible repeat (first|apply Kd.R_alloc|apply Kd.R_drewN|apply Kd.R_drew)); exact HO187.out) hb)
  have n1_:=Aside0.mk (Kd.R_below (by (with_reducible repeat (first|apply Kd.R_alloc|apply Kd.R_drewN|apply Kd.R_drew)); exact HO194.out) hb)
  have n2_:=Aside0.mk (blk_below (g:=gb188) (o:=.cells #[.slice Ao86 t185.length co86] 26 (0,0)) (by (with_reducible repeat (first|refine blk_drewN ?_ _|refine blk_drew ?_|refine blk_alloc ?_ _)); exact BK188.out) hb)
  have n3_:=Aside0.mk (below_step (by repeat (first|(with_reducible first|exact HB.out|apply bA|apply bD|apply bE|refine below_set ?_ GE188.out)|exact HB.out)) hb)
  clear HO187
  clear HO194
  clear BK188
  clear HB
  have HO187:=n0_
  have HO194:=n1_
  have BK188:=n2_
  have HB:=n3_
  clear n0_ n1_ n2_ n3_
  (try clear hb)
  (try clear hb2)
  (try clear hk)
  (try clear hi)
  refine hK.out _ _ ((blk_cell BK188.out 0).trans rfl) (fun hHeld => ?_)
  clear hK K
  refine norm_ (a':=?_) ?_ ?_
  rotate_left
  ·show Act.put _ (some 46) _ = _
   simp only [Act.put,lS,lZ,lC,i64_w,i32_w]
   rfl
  refine pure_ (i:=12) (N:=some 47) (v:=?_) (a':=?_) #[tT,tT,tT,tT,tT,tT,tT,tT,tT,tT,tT,tT,tT,tT,tT,tT,tT,tT,fF,fF,fF,fF,fF,fF,fF,fF,fF,fF,fF,fF,fF,fF,fF,fF,fF,fF,fF,fF,fF,fF,fF,fF,fF,fF,fF,fF,fF,fF,fF] rfl rfl (any_of HT_.out (by kernel_rfl)) (fun _ _ _ h => h) (Or.inl ⟨by rfl,?_⟩) ?_ ?_
  rotate_left
  ·intro w'
   go_simp
   first|(with_reducible rfl)|(simp only [Instr.field,go_sem, *]; rfl)
  rotate_left
  ·simp only [Act.put,lS,lZ,lC,i64_w,i32_w]
   rfl
  refine one_ (i:=18) (N:=some 53) #[tT,tT,tT,tT,tT,tT,tT,tT,tT,tT,tT,tT,tT,tT,tT,tT,tT,tT,tT,fF,fF,fF,fF,fF,fF,fF,fF,fF,fF,fF,fF,fF,fF,fF,fF,fF,fF,fF,fF,fF,fF,fF,fF,fF,fF,fF,fF,fF,fF] rfl rfl (one_of HT_.out (by kernel_rfl)) (by decide) (fun K hK => ?_)
  refine goes_ Try.func20 (by kernel_rfl) rfl #[.agg #[.slice Ao86 t185.length co86],.int .i64 (Int.tmod t189 (t185.length : Int)),.int .i64 (wrap64 ((Int.tmod t190 (wrap64 ((t185.length : Int) + 1))) + (Int.tmod t191 (wrap64 ((wrap64 ((t185.length : Int) + 1)) - (Int.tmod t190 (wrap64 ((t185.length : Int) + 1))))))))] (by rfl) rfl rfl (by (try simp only [List.map_toArray,List.map_cons,List.map_nil]); first|done|rfl|(simp only [List.length_drop,List.length_take]; rfl)) ?_
  with_reducible refine (impl_SpanAt.calls k _ _ t185 (Int.tmod t189 (t185.length : Int)) (wrap64 ((Int.tmod t190 (wrap64 ((t185.length : Int) + 1))) + (Int.tmod t191 (wrap64 ((wrap64 ((t185.length : Int) + 1)) - (Int.tmod t190 (wrap64 ((t185.length : Int) + 1)))))))) t197 _ ?side1 ?side2 A14.out).mono ?_
  (case side1 => repeat (first|exact (Kd.R_reads' HO187.out).2.2|(with_reducible refine Kd.C_alloc ?_ _)|(with_reducible refine Kd.C_drewN ?_ _)|(with_reducible refine Kd.C_drew ?_)))
  (case side2 => exact (Kd.R_reads' HO187.out).2.1)
  rintro e w92 ⟨rfl,hb⟩
  refine ⟨_,rfl,?_⟩
  have n0_:=Aside0.mk (Kd.R_below (by (with_reducible repeat (first|apply Kd.R_alloc|apply Kd.R_drewN|apply Kd.R_drew)); exact HO187.out) hb)
  have n1_:=Aside0.mk (Kd.R_below (by (with_reducible repeat (first|apply Kd.R_alloc|apply Kd.R_drewN|apply Kd.R_drew)); exact HO194.out) hb)
  have n2_:=Aside0.mk (blk_below (g:=gb188) (o:=.cells #[.slice Ao86 t185.length co86] 26 (0,0)) (by (with_reducible repeat (first|refine blk_drewN ?_ _|refine blk_drew ?_|refine blk_alloc ?_ _)); exact BK188.out) hb)
  have n3_:=Aside0.mk (below_step (by repeat (first|(with_reducible first|exact HB.out|apply bA|apply bD|apply bE|refine below_set ?_ GE188.out)|exact HB.out)) hb)
  clear HO187
  clear HO194
  clear BK188
  clear HB
  have HO187:=n0_
  have HO194:=n1_
  have BK188:=n2_
  have HB:=n3_
  clear n0_ n1_ n2_ n3_
  (try clear hb)
  (try clear hb2)
  (try clear hk)
  (try clear hi)
  refine hK.out _ _ ((blk_cell BK188.out 0).trans rfl) (fun hHeld => ?_)
  clear hK K
  refine norm_ (a':=?_) ?_ ?_
  rotate_left
  ·show Act.put _ (some 53) _ = _
   simp only [Act.put,lS,lZ,lC,i64_w,i32_w]
   rfl
  refine pure_ (i:=19) (N:=some 54) (v:=?_) (a':=?_) #[tT,tT,tT,tT,tT,tT,tT,tT,tT,tT,tT,tT,tT,tT,tT,tT,tT,tT,tT,tT,fF,fF,fF,fF,fF,fF,fF,fF,fF,fF,fF,fF,fF,fF,fF,fF,fF,fF,fF,fF,fF,fF,fF,fF,fF,fF,fF,fF,fF] rfl rfl (any_of HT_.out (by kernel_rfl)) (fun _ _ _ h => h) (Or.inl ⟨by rfl,?_⟩) ?_ ?_
  rotate_left
  ·intro w'
   go_simp
   first|(with_reducible rfl)|(simp only [Instr.field,go_sem, *]; rfl)
  rotate_left
  ·simp only [Act.put,lS,lZ,lC,i64_w,i32_w]
   rfl
  refine pure_ (i:=20) (N:=some 55) (v:=?_) (a':=?_) #[tT,tT,tT,tT,tT,tT,tT,tT,tT,tT,tT,tT,tT,tT,tT,tT,tT,tT,tT,tT,tT,fF,fF,fF,fF,fF,fF,fF,fF,fF,fF,fF,fF,fF,fF,fF,fF,fF,fF,fF,fF,fF,fF,fF,fF,fF,fF,fF,fF] rfl rfl (any_of HT_.out (by kernel_rfl)) (fun _ _ _ h => h) (Or.inl ⟨by rfl,?_⟩) ?_ ?_
  rotate_left
  ·intro w'
   go_simp
   first|(with_reducible rfl)|(simp only [Instr.field,go_sem, *]; rfl)
  rotate_left
  ·simp only [Act.put,lS,lZ,lC,i64_w,i32_w]
   rfl
  refine pure_ (i:=21) (N:=some 56) (v:=undef) (a':=?_) #[tT,tT,tT,tT,tT,tT,tT,tT,tT,tT,tT,tT,tT,tT,tT,tT,tT,tT,tT,tT,tT,tT,fF,fF,fF,fF,fF,fF,fF,fF,fF,fF,fF,fF,fF,fF,fF,fF,fF,fF,fF,fF,fF,fF,fF,fF,fF,fF,fF] rfl rfl (any_of HT_.out (by kernel_rfl)) (fun _ _ _ h => h) (Or.inr ⟨by rfl,rfl⟩) ?_ ?_
  rotate_left
  ·simp only [Act.put,lS,lZ,lC,i64_w,i32_w]
   rfl
  refine pure_ (i:=22) (N:=some 57) (v:=undef) (a':=?_) #[tT,tT,tT,tT,tT,tT,tT,tT,tT,tT,tT,tT,tT,tT,tT,tT,tT,tT,tT,tT,tT,tT,tT,fF,fF,fF,fF,fF,fF,fF,fF,fF,fF,fF,fF,fF,fF,fF,fF,fF,fF,fF,fF,fF,fF,fF,fF,fF,fF] rfl rfl (any_of HT_.out (by kernel_rfl)) (fun _ _ _ h => h) (Or.inr ⟨by rfl,rfl⟩) ?_ ?_
  rotate_left
  ·simp only [Act.put,lS,lZ,lC,i64_w,i32_w]
   rfl
  refine pure_ (i:=23) (N:=some 58) (v:=undef) (a':=?_) #[tT,tT,tT,tT,tT,tT,tT,tT,tT,tT,tT,tT,tT,tT,tT,tT,tT,tT,tT,tT,tT,tT,tT,tT,fF,fF,fF,fF,fF,fF,fF,fF,fF,fF,fF,fF,fF,fF,fF,fF,fF,fF,fF,fF,fF,fF,fF,fF,fF] rfl rfl (any_of HT_.out (by kernel_rfl)) (fun _ _ _ h => h) (Or.inr ⟨by rfl,rfl⟩) ?_ ?_
  rotate_left
  ·simp only [Act.put,lS,lZ,lC,i64_w,i32_w]
   rfl
  refine pure_ (i:=24) (N:=some 59) (v:=undef) (a':=?_) #[tT,tT,tT,tT,tT,tT,tT,tT,tT,tT,tT,tT,tT,tT,tT,tT,tT,tT,tT,tT,tT,tT,tT,tT,tT,fF,fF,fF,fF,fF,fF,fF,fF,fF,fF,fF,fF,fF,fF,fF,fF,fF,fF,fF,fF,fF,fF,fF,fF] rfl rfl (any_of HT_.out (by kernel_rfl)) (fun _ _ _ h => h) (Or.inr ⟨by rfl,rfl⟩) ?_ ?_
  rotate_left
  ·simp only [Act.put,lS,lZ,lC,i64_w,i32_w]
   rfl
  refine pure_ (i:=25) (N:=some 60) (v:=undef) (a':=?_) #[tT,tT,tT,tT,tT,tT,tT,tT,tT,tT,tT,tT,tT,tT,tT,tT,tT,tT,tT,tT,tT,tT,tT,tT,tT,tT,fF,fF,fF,fF,fF,fF,fF,fF,fF,fF,fF,fF,fF,fF,fF,fF,fF,fF,fF,fF,fF,fF,fF] rfl rfl (any_of HT_.out (by kernel_rfl)) (fun _ _ _ h => h) (Or.inr ⟨by rfl,rfl⟩) ?_ ?_
  rotate_left
  ·simp only [Act.put,lS,lZ,lC,i64_w,i32_w]
   rfl
  refine pure_ (i:=26) (N:=some 61) (v:=undef) (a':=?_) #[tT,tT,tT,tT,tT,tT,tT,tT,tT,tT,tT,tT,tT,tT,tT,tT,tT,tT,tT,tT,tT,tT,tT,tT,tT,tT,tT,fF,fF,fF,fF,fF,fF,fF,fF,fF,fF,fF,fF,fF,fF,fF,fF,fF,fF,fF,fF,fF,fF] rfl rfl (any_of HT_.out (by kernel_rfl)) (fun _ _ _ h => h) (Or.inr ⟨by rfl,rfl⟩) ?_ ?_
  rotate_left
  ·simp only [Act.put,lS,lZ,lC,i64_w,i32_w]
   rfl
  refine pure_ (i:=27) (N:=some 62) (v:=undef) (a':=?_) #[tT,tT,tT,tT,tT,tT,tT,tT,tT,tT,tT,tT,tT,tT,tT,tT,tT,tT,tT,tT,tT,tT,tT,tT,tT,tT,tT,tT,fF,fF,fF,fF,fF,fF,fF,fF,fF,fF,fF,fF,fF,fF,fF,fF,fF,fF,fF,fF,fF] rfl rfl (any_of HT_.out (by kernel_rfl)) (fun _ _ _ h => h) (Or.inr ⟨by rfl,rfl⟩) ?_ ?_
  rotate_left
  ·simp only [Act.put,lS,lZ,lC,i64_w,i32_w]
   rfl
  refine pure_ (i:=28) (N:=some 63) (v:=?_) (a':=?_) #[tT,tT,tT,tT,tT,tT,tT,tT,tT,tT,tT,tT,tT,tT,tT,tT,tT,tT,tT,tT,tT,tT,tT,tT,tT,tT,tT,tT,tT,fF,fF,fF,fF,fF,fF,fF,fF,fF,fF,fF,fF,fF,fF,fF,fF,fF,fF,fF,fF] rfl rfl (any_of HT_.out (by kernel_rfl)) (fun _ _ _ h => h) (Or.inl ⟨by rfl,?_⟩) ?_ ?_
  rotate_left
  ·intro w'
   go_simp
   first|(with_reducible rfl)|(simp only [Instr.field,go_sem, *]; rfl)
  rotate_left
  ·simp only [Act.put,lS,lZ,lC,i64_w,i32_w]
   rfl
  refine pure_ (i:=29) (N:=some 64) (v:=?_) (a':=?_) #[tT,tT,tT,tT,tT,tT,tT,tT,tT,tT,tT,tT,tT,tT,tT,tT,tT,tT,tT,tT,tT,tT,tT,tT,tT,tT,tT,tT,tT,tT,fF,fF,fF,fF,fF,fF,fF,fF,fF,fF,fF,fF,fF,fF,fF,fF,fF,fF,fF] rfl rfl (any_of HT_.out (by kernel_rfl)) (fun _ _ _ h => h) (Or.inl ⟨by rfl,?_⟩) ?_ ?_
  rotate_left
  ·intro w'
   go_simp
   first|(with_reducible rfl)|(simp only [Instr.field,go_sem, *]; rfl)
  rotate_left
  ·simp only [Act.put,lS,lZ,lC,i64_w,i32_w]
   rfl
  refine pure_ (i:=30) (N:=some 65) (v:=undef) (a':=?_) #[tT,tT,tT,tT,tT,tT,tT,tT,tT,tT,tT,tT,tT,tT,tT,tT,tT,tT,tT,tT,tT,tT,tT,tT,tT,tT,tT,tT,tT,tT,tT,fF,fF,fF,fF,fF,fF,fF,fF,fF,fF,fF,fF,fF,fF,fF,fF,fF,fF] rfl rfl (any_of HT_.out (by kernel_rfl)) (fun _ _ _ h => h) (Or.inr ⟨by rfl,rfl⟩) ?_ ?_
  rotate_left
  ·simp only [Act.put,lS,lZ,lC,i64_w,i32_w]
   rfl
  refine pure_ (i:=31) (N:=some 66) (v:=undef) (a':=?_) #[tT,tT,tT,tT,tT,tT,tT,tT,tT,tT,tT,tT,tT,tT,tT,tT,tT,tT,tT,tT,tT,tT,tT,tT,tT,tT,tT,tT,tT,tT,tT,tT,fF,fF,fF,fF,fF,fF,fF,fF,fF,fF,fF,fF,fF,fF,fF,fF,fF] rfl rfl (any_of HT_.out (by kernel_rfl)) (fun _ _ _ h => h) (Or.inr ⟨by rfl,rfl⟩) ?_ ?_
  rotate_left
  ·simp only [Act.put,lS,lZ,lC,i64_w,i32_w]
   rfl
  refine pure_ (i:=32) (N:=some 67) (v:=undef) (a':=?_) #[tT,tT,tT,tT,tT,tT,tT,tT,tT,tT,tT,tT,tT,tT,tT,tT,tT,tT,tT,tT,tT,tT,tT,tT,tT,tT,tT,tT,tT,tT,tT,tT,tT,fF,fF,fF,fF,fF,fF,fF,fF,fF,fF,fF,fF,fF,fF,fF,fF] rfl rfl (any_of HT_.out (by kernel_rfl)) (fun _ _ _ h => h) (Or.inr ⟨by rfl,rfl⟩) ?_ ?_
  rotate_left
  ·simp only [Act.put,lS,lZ,lC,i64_w,i32_w]
   rfl
  refine pure_ (i:=33) (N:=some 68) (v:=undef) (a':=?_) #[tT,tT,tT,tT,tT,tT,tT,tT,tT,tT,tT,tT,tT,tT,tT,tT,tT,tT,tT,tT,tT,tT,tT,tT,tT,tT,tT,tT,tT,tT,tT,tT,tT,tT,fF,fF,fF,fF,fF,fF,fF,fF,fF,fF,fF,fF,fF,fF,fF] rfl rfl (any_of HT_.out (by kernel_rfl)) (fun _ _ _ h => h) (Or.inr ⟨by rfl,rfl⟩) ?_ ?_
  rotate_left
  ·simp only [Act.put,lS,lZ,lC,i64_w,i32_w]
   rfl
  refine pure_ (i:=34) (N:=some 69) (v:=undef) (a':=?_) #[tT,tT,tT,tT,tT,tT,tT,tT,tT,tT,tT,tT,tT,tT,tT,tT,tT,tT,tT,tT,tT,tT,tT,tT,tT,tT,tT,tT,tT,tT,tT,tT,tT,tT,tT,fF,fF,fF,fF,fF,fF,fF,fF,fF,fF,fF,fF,fF,fF] rfl rfl (any_of HT_.out (by kernel_rfl)) (fun _ _ _ h => h) (Or.inr ⟨by rfl,rfl⟩) ?_ ?_
  rotate_left
  ·simp only [Act.put,lS,lZ,lC,i64_w,i32_w]
   rfl
  refine pure_ (i:=35) (N:=some 70) (v:=undef) (a':=?_) #[tT,tT,tT,tT,tT,tT,tT,tT,tT,tT,tT,tT,tT,tT,tT,tT,tT,tT,tT,tT,tT,tT,tT,tT,tT,tT,tT,tT,tT,tT,tT,tT,tT,tT,tT,tT,fF,fF,fF,fF,fF,fF,fF,fF,fF,fF,fF,fF,fF] rfl rfl (any_of HT_.out (by kernel_rfl)) (fun _ _ _ h => h) (Or.inr ⟨by rfl,rfl⟩) ?_ ?_
  rotate_left
  ·simp only [Act.put,lS,lZ,lC,i64_w,i32_w]
   rfl
  refine pure_ (i:=36) (N:=some 71) (v:=?_) (a':=?_) #[tT,tT,tT,tT,tT,tT,tT,tT,tT,tT,tT,tT,tT,tT,tT,tT,tT,tT,tT,tT,tT,tT,tT,tT,tT,tT,tT,tT,tT,tT,tT,tT,tT,tT,tT,tT,tT,fF,fF,fF,fF,fF,fF,fF,fF,fF,fF,fF,fF] rfl rfl (any_of HT_.out (by kernel_rfl)) (fun _ _ _ h => h) (Or.inl ⟨by rfl,?_⟩) ?_ ?_
  rotate_left
  ·intro w'
   go_simp
   first|(with_reducible rfl)|(simp only [Instr.field,go_sem, *]; rfl)
  rotate_left
  ·simp only [Act.put,lS,lZ,lC,i64_w,i32_w]
   rfl
  refine pure_ (i:=37) (N:=some 72) (v:=?_) (a':=?_) #[tT,tT,tT,tT,tT,tT,tT,tT,tT,tT,tT,tT,tT,tT,tT,tT,tT,tT,tT,tT,tT,tT,tT,tT,tT,tT,tT,tT,tT,tT,tT,tT,tT,tT,tT,tT,tT,tT,fF,fF,fF,fF,fF,fF,fF,fF,fF,fF,fF] rfl rfl (any_of HT_.out (by kernel_rfl)) (fun _ _ _ h => h) (Or.inl ⟨by rfl,?_⟩) ?_ ?_
  rotate_left
  ·intro w'
   go_simp
   first|(with_reducible rfl)|(simp only [Instr.field,go_sem, *]; rfl)
  rotate_left
  ·simp only [Act.put,lS,lZ,lC,i64_w,i32_w]
   rfl
  refine pure_ (i:=38) (N:=some 73) (v:=undef) (a':=?_) #[tT,tT,tT,tT,tT,tT,tT,tT,tT,tT,tT,tT,tT,tT,tT,tT,tT,tT,tT,tT,tT,tT,tT,tT,tT,tT,tT,tT,tT,tT,tT,tT,tT,tT,tT,tT,tT,tT,tT,fF,fF,fF,fF,fF,fF,fF,fF,fF,fF] rfl rfl (any_of HT_.out (by kernel_rfl)) (fun _ _ _ h => h) (Or.inr ⟨by rfl,rfl⟩) ?_ ?_
  rotate_left
  ·simp only [Act.put,lS,lZ,lC,i64_w,i32_w]
   rfl
  refine pure_ (i:=39) (N:=some 74) (v:=undef) (a':=?_) #[tT,tT,tT,tT,tT,tT,tT,tT,tT,tT,tT,tT,tT,tT,tT,tT,tT,tT,tT,tT,tT,tT,tT,tT,tT,tT,tT,tT,tT,tT,tT,tT,tT,tT,tT,tT,tT,tT,tT,tT,fF,fF,fF,fF,fF,fF,fF,fF,fF] rfl rfl (any_of HT_.out (by kernel_rfl)) (fun _ _ _ h => h) (Or.inr ⟨by rfl,rfl⟩) ?_ ?_
  rotate_left
  ·simp only [Act.put,lS,lZ,lC,i64_w,i32_w]
   rfl
  refine pure_ (i:=40) (N:=some 75) (v:=?_) (a':=?_) #[tT,tT,tT,tT,tT,tT,tT,tT,tT,tT,tT,tT,tT,tT,tT,tT,tT,tT,tT,tT,tT,tT,tT,tT,tT,tT,tT,tT,tT,tT,tT,tT,tT,tT,tT,tT,tT,tT,tT,tT,tT,fF,fF,fF,fF,fF,fF,fF,fF] rfl rfl (any_of HT_.out (by kernel_rfl)) (fun _ _ _ h => h) (Or.inl ⟨by rfl,?_⟩) ?_ ?_
  rotate_left
  ·intro w'
   go_simp
   first|(with_reducible rfl)|(simp only [Instr.field,go_sem, *]; rfl)
  rotate_left
  ·simp only [Act.put,lS,lZ,lC,i64_w,i32_w]
   rfl
  refine pure_ (i:=41) (N:=some 76) (v:=?_) (a':=?_) #[tT,tT,tT,tT,tT,tT,tT,tT,tT,tT,tT,tT,tT,tT,tT,tT,tT,tT,tT,tT,tT,tT,tT,tT,tT,tT,tT,tT,tT,tT,tT,tT,tT,tT,tT,tT,tT,tT,tT,tT,tT,tT,fF,fF,fF,fF,fF,fF,fF] rfl rfl (any_of HT_.out (by kernel_rfl)) (fun _ _ _ h => h) (Or.inl ⟨by rfl,?_⟩) ?_ ?_
  rotate_left
  ·intro w'
   go_simp
   first|(with_reducible rfl)|(simp only [Instr.field,go_sem, *]; rfl)
  rotate_left
  ·simp only [Act.put,lS,lZ,lC,i64_w,i32_w]
   rfl
  refine pure_ (i:=42) (N:=some 77) (v:=undef) (a':=?_) #[tT,tT,tT,tT,tT,tT,tT,tT,tT,tT,tT,tT,tT,tT,tT,tT,tT,tT,tT,tT,tT,tT,tT,tT,tT,tT,tT,tT,tT,tT,tT,tT,tT,tT,tT,tT,tT,tT,tT,tT,tT,tT,tT,fF,fF,fF,fF,fF,fF] rfl rfl (any_of HT_.out (by kernel_rfl)) (fun _ _ _ h => h) (Or.inr ⟨by rfl,rfl⟩) ?_ ?_
  rotate_left
  ·simp only [Act.put,lS,lZ,lC,i64_w,i32_w]
   rfl
  refine pure_ (i:=43) (N:=some 78) (v:=undef) (a':=?_) #[tT,tT,tT,tT,tT,tT,tT,tT,tT,tT,tT,tT,tT,tT,tT,tT,tT,tT,tT,tT,tT,tT,tT,tT,tT,tT,tT,tT,tT,tT,tT,tT,tT,tT,tT,tT,tT,tT,tT,tT,tT,tT,tT,tT,fF,fF,fF,fF,fF] rfl rfl (any_of HT_.out (by kernel_rfl)) (fun _ _ _ h => h) (Or.inr ⟨by rfl,rfl⟩) ?_ ?_
  rotate_left
  ·simp only [Act.put,lS,lZ,lC,i64_w,i32_w]
   rfl
  refine pure_ (i:=44) (N:=some 79) (v:=undef) (a':=?_) #[tT,tT,tT,tT,tT,tT,tT,tT,tT,tT,tT,tT,tT,tT,tT,tT,tT,tT,tT,tT,tT,tT,tT,tT,tT,tT,tT,tT,tT,tT,tT,tT,tT,tT,tT,tT,tT,tT,tT,tT,tT,tT,tT,tT,tT,fF,fF,fF,fF] rfl rfl (any_of HT_.out (by kernel_rfl)) (fun _ _ _ h => h) (Or.inr ⟨by rfl,rfl⟩) ?_ ?_
  rotate_left
  ·simp only [Act.put,lS,lZ,lC,i64_w,i32_w]
   rfl
  refine pure_ (i:=45) (N:=some 80) (v:=undef) (a':=?_) #[tT,tT,tT,tT,tT,tT,tT,tT,tT,tT,tT,tT,tT,tT,tT,tT,tT,tT,tT,tT,tT,tT,tT,tT,tT,tT,tT,tT,tT,tT,tT,tT,tT,tT,tT,tT,tT,tT,tT,tT,tT,tT,tT,tT,tT,tT,fF,fF,fF] rfl rfl (any_of HT_.out (by kernel_rfl)) (fun _ _ _ h => h) (Or.inr ⟨by rfl,rfl⟩) ?_ ?_
  rotate_left
  ·simp only [Act.put,lS,lZ,lC,i64_w,i32_w]
   rfl
  refine pure_ (i:=46) (N:=some 81) (v:=undef) (a':=?_) #[tT,tT,tT,tT,tT,tT,tT,tT,tT,tT,tT,tT,tT,tT,tT,tT,tT,tT,tT,tT,tT,tT,tT,tT,tT,tT,tT,tT,tT,tT,tT,tT,tT,tT,tT,tT,tT,tT,tT,tT,tT,tT,tT,tT,tT,tT,tT,fF,fF] rfl rfl (any_of HT_.out (by kernel_rfl)) (fun _ _ _ h => h) (Or.inr ⟨by rfl,rfl⟩) ?_ ?_
  rotate_left
  ·simp only [Act.put,lS,lZ,lC,i64_w,i32_w]
   rfl
  refine pure_ (i:=47) (N:=some 82) (v:=?_) (a':=?_) #[tT,tT,tT,tT,tT,tT,tT,tT,tT,tT,tT,tT,tT,tT,tT,tT,tT,tT,tT,tT,tT,tT,tT,tT,tT,tT,tT,tT,tT,tT,tT,tT,tT,tT,tT,tT,tT,tT,tT,tT,tT,tT,tT,tT,tT,tT,tT,tT,fF] rfl rfl (any_of HT_.out (by kernel_rfl)) (fun _ _ _ h => h) (Or.inl ⟨by rfl,?_⟩) ?_ ?_
  rotate_left
  ·intro w'
   go_simp
   first|(with_reducible rfl)|(simp only [Instr.field,go_sem, *]; rfl)
  rotate_left
  ·simp only [Act.put,lS,lZ,lC,i64_w,i32_w]
   rfl
  refine pure_ (i:=48) (N:=some 2) (v:=?_) (a':=?_) #[tT,tT,tT,tT,tT,tT,tT,tT,tT,tT,tT,tT,tT,tT,tT,tT,tT,tT,tT,tT,tT,tT,tT,tT,tT,tT,tT,tT,tT,tT,tT,tT,tT,tT,tT,tT,tT,tT,tT,tT,tT,tT,tT,tT,tT,tT,tT,tT,tT] rfl rfl (any_of HT_.out (by kernel_rfl)) (fun _ _ _ h => h) (Or.inl ⟨by rfl,?_⟩) ?_ ?_
  rotate_left
  ·intro w'
   go_simp
   first|(with_reducible rfl)|(simp only [Instr.field,go_sem, *]; rfl)
  rotate_left
  ·simp only [Act.put,lS,lZ,lC,i64_w,i32_w]
   rfl
  refine done_ (done_of HT_.out (by kernel_rfl)) ?_
  try go_wp2
  go_ret
  exact ⟨by first|rfl|(simp [errW_none,errW_some] <;> rfl)|(simp [*,errW_none,errW_some] <;> rfl),by repeat (first|(with_reducible first|exact HB.out|apply bA|apply bD|apply bE|refine below_set ?_ GE188.out)|exact HB.out)⟩

 rw [if_pos c15] at H
 have c15b0 : ((wrap64 (t195 + t196)) == t197) = true:=beq_iff_eq.mpr c15
 have c15b1 : ((wrap64 (t195 + t196)) != t197) = false:=bne_eq_false_iff_eq.mpr c15
 clear c15
 replace H:=Option.bind_eq_some_iff.mp H
 obtain ⟨t198,A160,H⟩:=H
 replace H : ((impl_ScaleSum.f k t185).bind fun t199 => (if t198 = t199 then ((impl_SpanAt.f k t185 (Int.tmod t189 (t185.length : Int)) (Int.tmod t190 (wrap64 ((t185.length : Int) + 1)))).bind fun t200 => ((laws_has.f k t192 t200).bind fun t201 => (if t201 = true then ((impl_MajorScale.f).bind fun t202 => ((impl_HasTwoSizes.f k t202).bind fun t205 => (if t205 = true then ((impl_SpansOf.f k t185 (t185.length : Int)).bind fun t206 => (some ((t206.length : Int) == 1))) else (some false)))) else (some false)))) else (some false))) = some r:=H
 have A16:=Aside0.mk A160
 clear A160
 replace H:=Option.bind_eq_some_iff.mp H
 obtain ⟨t199,A170,H⟩:=H
 replace H : (if t198 = t199 then ((impl_SpanAt.f k t185 (Int.tmod t189 (t185.length : Int)) (Int.tmod t190 (wrap64 ((t185.length : Int) + 1)))).bind fun t200 => ((laws_has.f k t192 t200).bind fun t201 => (if t201 = true then ((impl_MajorScale.f).bind fun t202 => ((impl_HasTwoSizes.f k t202).bind fun t205 => (if t205 = true then ((impl_SpansOf.f k t185 (t185.length : Int)).bind fun t206 => (some ((t206.length : Int) == 1))) else (some false)))) else (some false)))) else (some false)) = some r:=H
 have A17:=Aside0.mk A170
 clear A170
 by_cases c18 : t198 = t199
 rotate_left
 ·rw [if_neg c18] at H
  have c18b0 : (t198 == t199) = false:=beq_eq_false_iff_ne.mpr c18
  have c18b1 : (t198 != t199) = true:=bne_iff_ne.mpr c18
  obtain rfl:=Option.some.inj H
  go_enter Try.func4,Try.ntmps4
  try go_wp2_with (first|((with_reducible refine gate_callee (f:=10) rfl ?_); refine goesL_ (some 10) rfl rfl Try.func10 (by kernel_rfl) rfl #[.slice A0 l0.length c0] rfl (by (try simp only [List.map_toArray,List.map_cons,List.map_nil]); first|done|rfl|(simp only [List.length_drop,List.length_take]; rfl)) ?_; (with_reducible refine (laws_big.calls _ _ l0 false _ ?side1 ?side2 A2.out).mono ?_); (case side1 => repeat (first|exact HR0.out|(with_reducible refine Kd.C_alloc ?_ _)|(with_reducible refine Kd.C_drewN ?_ _)|(with_reducible refine Kd.C_drew ?_))); (case side2 => exact HC0.out); rintro e w' ⟨rfl,⟨nd,rfl⟩⟩; refine ⟨_,rfl,?_⟩)|((with_reducible refine gate_callee (f:=11) rfl ?_); refine goesL_ (some 12) rfl rfl Try.func11 (by kernel_rfl) rfl #[.slice A0 l0.length c0] rfl (by (try simp only [List.map_toArray,List.map_cons,List.map_nil]); first|done|rfl|(simp only [List.length_drop,List.length_take]; rfl)) ?_; (with_reducible refine (spec_DrawScale.calls k _ _ l0 t185 _ ?side1 ?side2 A4.out).mono ?_); (case side1 => repeat (first|exact HR0.out|(with_reducible refine Kd.C_alloc ?_ _)|(with_reducible refine Kd.C_drewN ?_ _)|(with_reducible refine Kd.C_drew ?_))); (case side2 => exact HC0.out); rintro e w73 ⟨v186,rfl,ho0,hb⟩; refine ⟨_,rfl,?_⟩; have n0_:=Aside0.mk (Kd.R_lower ho0 (below_size (by repeat (first|(with_reducible first|exact HB.out|apply bA|apply bD|apply bE)|exact HB.out)))); have n1_:=Aside0.mk (below_step (by repeat (first|(with_reducible first|exact HB.out|apply bA|apply bD|apply bE)|exact HB.out)) hb); clear HB; have HO187:=n0_; have HB:=n1_; clear n0_ n1_; (try clear hb); (try clear hb2); (try clear hk); (try clear hi); (try clear ho0))|((with_reducible refine gate_dst (N:=3) rfl ?_); (try (refine gate_guard (by rfl) ?_; dsimp only)); refine box_event ?hg (N:=3) ?hd (cs:=#[.slice none 0 0]) (t:=26) ?hr ?_; (case hd => rfl); (case hg => rfl); (case hr => first|(go_simp; done)|(go_simp; rfl)); intro gb188 hg w74 hbox hb; have n0_:=Aside0.mk (Kd.R_below (by (with_reducible repeat (first|apply Kd.R_alloc|apply Kd.R_drewN|apply Kd.R_drew)); exact HO187.out) hb); have n1_:=Aside0.mk (below_step (by repeat (first|(with_reducible first|exact HB.out|apply bA|apply bD|apply bE)|exact HB.out)) hb); have n2_:=Aside0.mk (hbox); have n3_:=Aside0.mk ((by rw [hg]; exact (below_size (by repeat (first|(with_reducible first|exact HB.out|apply bA|apply bD|apply bE)|exact HB.out))) : w.heap.size ≤ gb188)); have n4_:=Aside0.mk ((by rw [hg]; exact (below_size (by repeat (first|(with_reducible first|exact HB.out|apply bA|apply bD|apply bE)|exact HB.out))) : w.heap.size ≤ gb188)); clear HO187; clear HB; have HO187:=n0_; have HB:=n1_; have BK188:=n2_; have GW188:=n3_; have GE188:=n4_; clear n0_ n1_ n2_ n3_ n4_; clear hb hbox hg; obtain ⟨Ao75,co75,eo75⟩:=Kd.R_slice HO187.out; subst eo75; have hcz76_0 : w74.cell? ⟨gb188,0,none⟩ = some (.slice none 0 0):=(blk_cell BK188.out 0).trans rfl; have hfz76_0:=blk_frozen BK188.out 0)|((with_reducible refine gate_callee (f:=18) rfl ?_); refine goesL_ (some 17) rfl rfl Try.func18 (by kernel_rfl) rfl #[.slice A0 l0.length c0,.int .i64 0] rfl (by (try simp only [List.map_toArray,List.map_cons,List.map_nil]); first|done|rfl|(simp only [List.length_drop,List.length_take]; rfl)) ?_; (with_reducible refine (laws_at.calls _ _ l0 0 t189 _ ?side1 ?side2 A5.out).mono ?_); (case side1 => exact Kd.C_below HR0.out (by repeat (first|(with_reducible first|exact HB.out|apply bA|apply bD|apply bE|refine below_set ?_ GE188.out)|exact HB.out))); (case side2 => exact HC0.out); rintro e w' ⟨rfl,⟨nd,rfl⟩⟩; refine ⟨_,rfl,?_⟩)|((with_reducible refine gate_callee (f:=18) rfl ?_); refine goesL_ (some 21) rfl rfl Try.func18 (by kernel_rfl) rfl #[.slice A0 l0.length c0,.int .i64 1] rfl (by (try simp only [List.map_toArray,List.map_cons,List.map_nil]); first|done|rfl|(simp only [List.length_drop,List.length_take]; rfl)) ?_; (with_reducible refine (laws_at.calls _ _ l0 1 t190 _ ?side1 ?side2 A7.out).mono ?_); (case side1 => exact Kd.C_below HR0.out (by repeat (first|(with_reducible first|exact HB.out|apply bA|apply bD|apply bE|refine below_set ?_ GE188.out)|exact HB.out))); (case side2 => exact HC0.out); rintro e w' ⟨rfl,⟨nd,rfl⟩⟩; refine ⟨_,rfl,?_⟩)|((with_reducible refine gate_callee (f:=18) rfl ?_); refine goesL_ (some 26) rfl rfl Try.func18 (by kernel_rfl) rfl #[.slice A0 l0.length c0,.int .i64 2] rfl (by (try simp only [List.map_toArray,List.map_cons,List.map_nil]); first|done|rfl|(simp only [List.length_drop,List.length_take]; rfl)) ?_; (with_reducible refine (laws_at.calls _ _ l0 2 t191 _ ?side1 ?side2 A9.out).mono ?_); (case side1 => exact Kd.C_below HR0.out (by repeat (first|(with_reducible first|exact HB.out|apply bA|apply bD|apply bE|refine below_set ?_ GE188.out)|exact HB.out))); (case side2 => exact HC0.out); rintro e w' ⟨rfl,⟨nd,rfl⟩⟩; refine ⟨_,rfl,?_⟩)|((with_reducible refine gate_callee (f:=19) rfl ?_); refine goesL_ (some 34) rfl rfl Try.func19 (by kernel_rfl) rfl #[.agg #[.slice Ao75 t185.length co75],.int .i64 (Int.tmod t190 (wrap64 ((t185.length : Int) + 1)))] rfl (by (try simp only [List.map_toArray,List.map_cons,List.map_nil]); first|done|rfl|(simp only [List.length_drop,List.length_take]; rfl)) ?_; (with_reducible refine (impl_SpansOf.calls k _ _ t185 (Int.tmod t190 (wrap64 ((t185.length : Int) + 1))) t192 _ ?side1 ?side2 A11.out).mono ?_); (case side1 => refine (Kd.R_reads' (e:=3) (base:=w.heap.size) (ok:=fun k_ => True) (n:=t185.length) (c:=co75) ?_).2.2; exact (by (with_reducible repeat (first|apply Kd.R_alloc|apply Kd.R_drewN|apply Kd.R_drew)); exact (Kd.R_mono (Kd.R_far (p:=⟨gb188,0,none⟩) (Kd.R_types HO187.out BK188.out (by decide)) (fun _ hk => hk.2) (.slice Ao75 t185.length co75)) (fun _ h_ => h_.1)))); (case side2 => exact (Kd.R_reads' HO187.out).2.1); rintro e w77 ⟨v193,rfl,ho0,hb⟩; refine ⟨_,rfl,?_⟩; have n0_:=Aside0.mk (Kd.R_elder' (by (with_reducible repeat (first|apply Kd.R_alloc|apply Kd.R_drewN|apply Kd.R_drew)); exact (Kd.R_mono (Kd.R_far (p:=⟨gb188,0,none⟩) (Kd.R_types HO187.out BK188.out (by decide)) (fun _ hk => hk.2) (.slice Ao75 t185.length co75)) (fun _ h_ => h_.1))) (Kd.R_base ho0) hb); have n1_:=Aside0.mk (Kd.R_lower (Kd.R_new' ho0 (Kd.R_lt (by (with_reducible repeat (first|apply Kd.R_alloc|apply Kd.R_drewN|apply Kd.R_drew)); exact (Kd.R_mono (Kd.R_far (p:=⟨gb188,0,none⟩) (Kd.R_types HO187.out BK188.out (by decide)) (fun _ hk => hk.2) (.slice Ao75 t185.length co75)) (fun _ h_ => h_.1))))) (below_size (by repeat (first|(with_reducible first|exact HB.out|apply bA|apply bD|apply bE|refine below_set ?_ GE188.out)|exact HB.out)))); have n2_:=Aside0.mk (blk_below (g:=gb188) (o:=.cells #[.slice Ao75 t185.length co75] 26 (0,0)) (by (with_reducible repeat (first|refine blk_drewN ?_ _|refine blk_drew ?_|refine blk_alloc ?_ _)); refine blk_put (cs:=#[.slice none 0 0]) ?_ 0 _ rfl; (with_reducible repeat (first|refine blk_drewN ?_ _|refine blk_drew ?_|refine blk_alloc ?_ _)); exact BK188.out) hb); have n3_:=Aside0.mk (below_step (by repeat (first|(with_reducible first|exact HB.out|apply bA|apply bD|apply bE|refine below_set ?_ GE188.out)|exact HB.out)) hb); clear HO187; clear BK188; clear HB; have HO187:=n0_; have HO194:=n1_; have BK188:=n2_; have HB:=n3_; clear n0_ n1_ n2_ n3_; (try clear hb); (try clear hb2); (try clear hk); (try clear hi); (try clear ho0)))
  have n0_:=Aside0.mk (Kd.R_drew HO187.out)
  have n1_:=Aside0.mk (Kd.R_drew HO194.out)
  have n2_:=Aside0.mk (blk_drew BK188.out)
  have n3_:=Aside0.mk (bE HB.out)
  clear HO187
  clear HO194
  clear BK188
  clear HB
  have HO187:=n0_
  have HO194:=n1_
  have BK188:=n2_
  have HB:=n3_
  clear n0_ n1_ n2_ n3_
  refine start_ (n:=49) (S:=fun w' => w'.cell? ⟨gb188,0,none⟩ = some (.slice Ao75 t185.length co75)) (ds:=[]) #[fF,fF,fF,fF,fF,fF,fF,fF,fF,fF,fF,fF,fF,fF,fF,fF,fF,fF,fF,fF,fF,fF,fF,fF,fF,fF,fF,fF,fF,fF,fF,fF,fF,fF,fF,fF,fF,fF,fF,fF,fF,fF,fF,fF,fF,fF,fF,fF,fF] (by kernel_rfl) rfl rfl ((blk_cell BK188.out 0).trans rfl) (fun hHeld => ?_); refine with_tabW laws_FnSpans.tab9 laws_FnSpans.bits9 (fun HT_ HW_ => ?_)
  generalize w77.drew = w78 at HO187 HO194 BK188 HB hHeld ⊢
  refine pure_ (i:=1) (N:=some 36) (v:=?_) (a':=?_) #[fF,tT,fF,fF,fF,fF,fF,fF,fF,fF,fF,fF,fF,fF,fF,fF,fF,fF,fF,fF,fF,fF,fF,fF,fF,fF,fF,fF,fF,fF,fF,fF,fF,fF,fF,fF,fF,fF,fF,fF,fF,fF,fF,fF,fF,fF,fF,fF,fF] rfl rfl (any_of HT_.out (by kernel_rfl)) (fun _ _ _ h => h) (Or.inl ⟨by rfl,?_⟩) ?_ ?_
  rotate_left
  ·intro w'
   go_simp
   first|(with_reducible rfl)|(simp only [Instr.field,go_sem, *]; rfl)
  rotate_left
  ·simp only [Act.put,lS,lZ,lC,i64_w,i32_w]
   rfl
  refine pure_ (i:=2) (N:=some 37) (v:=?_) (a':=?_) #[fF,tT,tT,fF,fF,fF,fF,fF,fF,fF,fF,fF,fF,fF,fF,fF,fF,fF,fF,fF,fF,fF,fF,fF,fF,fF,fF,fF,fF,fF,fF,fF,fF,fF,fF,fF,fF,fF,fF,fF,fF,fF,fF,fF,fF,fF,fF,fF,fF] rfl rfl (any_of HT_.out (by kernel_rfl)) (fun _ _ _ h => h) (Or.inl ⟨by rfl,?_⟩) ?_ ?_
  rotate_left
  ·intro w'
   go_simp
   first|(with_reducible rfl)|(simp only [Instr.field,go_sem, *]; rfl)
  rotate_left
  ·simp only [Act.put,lS,lZ,lC,i64_w,i32_w]
   rfl
  refine pure_ (i:=5) (N:=some 40) (v:=?_) (a':=?_) #[fF,tT,tT,fF,fF,tT,fF,fF,fF,fF,fF,fF,fF,fF,fF,fF,fF,fF,fF,fF,fF,fF,fF,fF,fF,fF,fF,fF,fF,fF,fF,fF,fF,fF,fF,fF,fF,fF,fF,fF,fF,fF,fF,fF,fF,fF,fF,fF,fF] rfl rfl (any_of HT_.out (by kernel_rfl)) (fun _ _ _ h => h) (Or.inl ⟨by rfl,?_⟩) ?_ ?_
  rotate_left
  ·intro w'
   go_simp
   first|(with_reducible rfl)|(simp only [Instr.field,go_sem, *]; rfl)
  rotate_left
  ·simp only [Act.put,lS,lZ,lC,i64_w,i32_w]
   rfl
  refine pure_ (i:=6) (N:=some 41) (v:=?_) (a':=?_) #[fF,tT,tT,fF,fF,tT,tT,fF,fF,fF,fF,fF,fF,fF,fF,fF,fF,fF,fF,fF,fF,fF,fF,fF,fF,fF,fF,fF,fF,fF,fF,fF,fF,fF,fF,fF,fF,fF,fF,fF,fF,fF,fF,fF,fF,fF,fF,fF,fF] rfl rfl (any_of HT_.out (by kernel_rfl)) (fun _ _ _ h => h) (Or.inl ⟨by rfl,?_⟩) ?_ ?_
  rotate_left
  ·intro w'
   go_simp
   first|(with_reducible rfl)|(simp only [Instr.field,go_sem, *]; rfl)
  rotate_left
  ·simp only [Act.put,lS,lZ,lC,i64_w,i32_w]
   rfl
  refine pure_ (i:=7) (N:=some 42) (v:=?_) (a':=?_) #[fF,tT,tT,fF,fF,tT,tT,tT,fF,fF,fF,fF,fF,fF,fF,fF,fF,fF,fF,fF,fF,fF,fF,fF,fF,fF,fF,fF,fF,fF,fF,fF,fF,fF,fF,fF,fF,fF,fF,fF,fF,fF,fF,fF,fF,fF,fF,fF,fF] rfl rfl (any_of HT_.out (by kernel_rfl)) (fun _ _ _ h => h) (Or.inl ⟨by rfl,?_⟩) ?_ ?_
  rotate_left
  ·intro w'
   go_simp
   first|(with_reducible rfl)|(simp only [Instr.field,go_sem, *]; rfl)
  rotate_left
  ·simp only [Act.put,lS,lZ,lC,i64_w,i32_w]
   rfl
  refine pure_ (i:=8) (N:=some 43) (v:=?_) (a':=?_) #[fF,tT,tT,fF,fF,tT,tT,tT,tT,fF,fF,fF,fF,fF,fF,fF,fF,fF,fF,fF,fF,fF,fF,fF,fF,fF,fF,fF,fF,fF,fF,fF,fF,fF,fF,fF,fF,fF,fF,fF,fF,fF,fF,fF,fF,fF,fF,fF,fF] rfl rfl (any_of HT_.out (by kernel_rfl)) (fun _ _ _ h => h) (Or.inl ⟨by rfl,?_⟩) ?_ ?_
  rotate_left
  ·intro w'
   go_simp
   first|(with_reducible rfl)|(simp only [Instr.field,go_sem, *]; rfl)
  rotate_left
  ·simp only [Act.put,lS,lZ,lC,i64_w,i32_w]
   rfl
  refine pure_ (i:=9) (N:=some 44) (v:=?_) (a':=?_) #[fF,tT,tT,fF,fF,tT,tT,tT,tT,tT,fF,fF,fF,fF,fF,fF,fF,fF,fF,fF,fF,fF,fF,fF,fF,fF,fF,fF,fF,fF,fF,fF,fF,fF,fF,fF,fF,fF,fF,fF,fF,fF,fF,fF,fF,fF,fF,fF,fF] rfl rfl (any_of HT_.out (by kernel_rfl)) (fun _ _ _ h => h) (Or.inl ⟨by rfl,?_⟩) ?_ ?_
  rotate_left
  ·intro w'
   go_simp
   first|(with_reducible rfl)|(simp only [Instr.field,go_sem, *]; rfl)
  rotate_left
  ·simp only [Act.put,lS,lZ,lC,i64_w,i32_w]
   rfl
  refine pure_ (i:=10) (N:=some 45) (v:=?_) (a':=?_) #[fF,tT,tT,fF,fF,tT,tT,tT,tT,tT,tT,fF,fF,fF,fF,fF,fF,fF,fF,fF,fF,fF,fF,fF,fF,fF,fF,fF,fF,fF,fF,fF,fF,fF,fF,fF,fF,fF,fF,fF,fF,fF,fF,fF,fF,fF,fF,fF,fF] rfl rfl (any_of HT_.out (by kernel_rfl)) (fun _ _ _ h => h) (Or.inl ⟨by rfl,?_⟩) ?_ ?_
  rotate_left
  ·intro w'
   go_simp
   first|(with_reducible rfl)|(simp only [Instr.field,go_sem, *]; rfl)
  rotate_left
  ·simp only [Act.put,lS,lZ,lC,i64_w,i32_w]
   rfl
  refine pure_ (i:=14) (N:=some 49) (v:=?_) (a':=?_) #[fF,tT,tT,fF,fF,tT,tT,tT,tT,tT,tT,fF,fF,fF,tT,fF,fF,fF,fF,fF,fF,fF,fF,fF,fF,fF,fF,fF,fF,fF,fF,fF,fF,fF,fF,fF,fF,fF,fF,fF,fF,fF,fF,fF,fF,fF,fF,fF,fF] rfl rfl (any_of HT_.out (by kernel_rfl)) (fun _ _ _ h => h) (Or.inl ⟨by rfl,?_⟩) ?_ ?_
  rotate_left
  ·intro w'
   go_simp
   first|(with_reducible rfl)|(simp only [Instr.field,go_sem, *]; rfl)
  rotate_left
  ·simp only [Act.put,lS,lZ,lC,i64_w,i32_w]
   rfl
  refine pure_ (i:=15) (N:=some 50) (v:=?_) (a':=?_) #[fF,tT,tT,fF,fF,tT,tT,tT,tT,tT,tT,fF,fF,fF,tT,tT,fF,fF,fF,fF,fF,fF,fF,fF,fF,fF,fF,fF,fF,fF,fF,fF,fF,fF,fF,fF,fF,fF,fF,fF,fF,fF,fF,fF,fF,fF,fF,fF,fF] rfl rfl (any_of HT_.out (by kernel_rfl)) (fun _ _ _ h => h) (Or.inl ⟨by rfl,?_⟩) ?_ ?_
  rotate_left
  ·intro w'
   go_simp
   first|(with_reducible rfl)|(simp only [Instr.field,go_sem, *]; rfl)
  rotate_left
  ·simp only [Act.put,lS,lZ,lC,i64_w,i32_w]
   rfl
  refine pure_ (i:=16) (N:=some 51) (v:=?_) (a':=?_) #[fF,tT,tT,fF,fF,tT,tT,tT,tT,tT,tT,fF,fF,fF,tT,tT,tT,fF,fF,fF,fF,fF,fF,fF,fF,fF,fF,fF,fF,fF,fF,fF,fF,fF,fF,fF,fF,fF,fF,fF,fF,fF,fF,fF,fF,fF,fF,fF,fF] rfl rfl (any_of HT_.out (by kernel_rfl)) (fun _ _ _ h => h) (Or.inl ⟨by rfl,?_⟩) ?_ ?_
  rotate_left
  ·intro w'
   go_simp
   first|(with_reducible rfl)|(simp only [Instr.field,go_sem, *]; rfl)
  rotate_left
  ·simp only [Act.put,lS,lZ,lC,i64_w,i32_w]
   rfl
  refine pure_ (i:=17) (N:=some 52) (v:=?_) (a':=?_) #[fF,tT,tT,fF,fF,tT,tT,tT,tT,tT,tT,fF,fF,fF,tT,tT,tT,tT,fF,fF,fF,fF,fF,fF,fF,fF,fF,fF,fF,fF,fF,fF,fF,fF,fF,fF,fF,fF,fF,fF,fF,fF,fF,fF,fF,fF,fF,fF,fF] rfl rfl (any_of HT_.out (by kernel_rfl)) (fun _ _ _ h => h) (Or.inl ⟨by rfl,?_⟩) ?_ ?_
  rotate_left
  ·intro w'
   go_simp
   first|(with_reducible rfl)|(simp only [Instr.field,go_sem, *]; rfl)
  rotate_left
  ·simp only [Act.put,lS,lZ,lC,i64_w,i32_w]
   rfl
  refine take_ (i:=0) (N:=some 35) (v:=?_) (a':=?_) #[tT,tT,tT,fF,fF,tT,tT,tT,tT,tT,tT,fF,fF,fF,tT,tT,tT,tT,fF,fF,fF,fF,fF,fF,fF,fF,fF,fF,fF,fF,fF,fF,fF,fF,fF,fF,fF,fF,fF,fF,fF,fF,fF,fF,fF,fF,fF,fF,fF] rfl rfl (take_ofW HT_.out HW_.out (by kernel_rfl)) (fun _ _ _ h => h) (Or.inl ⟨by rfl,?_⟩) hHeld ?_ ?_
  rotate_left
  ·intro w' s0
   go_simp
   first|(with_reducible rfl)|(simp only [Instr.field,go_sem, *]; rfl)
  rotate_left
  ·simp only [Act.put,lS,lZ,lC,i64_w,i32_w]
   rfl
  refine take_ (i:=4) (N:=some 39) (v:=?_) (a':=?_) #[tT,tT,tT,fF,tT,tT,tT,tT,tT,tT,tT,fF,fF,fF,tT,tT,tT,tT,fF,fF,fF,fF,fF,fF,fF,fF,fF,fF,fF,fF,fF,fF,fF,fF,fF,fF,fF,fF,fF,fF,fF,fF,fF,fF,fF,fF,fF,fF,fF] rfl rfl (take_ofW HT_.out HW_.out (by kernel_rfl)) (fun _ _ _ h => h) (Or.inl ⟨by rfl,?_⟩) hHeld ?_ ?_
  rotate_left
  ·intro w' s0
   go_simp
   first|(with_reducible rfl)|(simp only [Instr.field,go_sem, *]; rfl)
  rotate_left
  ·simp only [Act.put,lS,lZ,lC,i64_w,i32_w]
   rfl
  refine take_ (i:=13) (N:=some 48) (v:=?_) (a':=?_) #[tT,tT,tT,fF,tT,tT,tT,tT,tT,tT,tT,fF,fF,tT,tT,tT,tT,tT,fF,fF,fF,fF,fF,fF,fF,fF,fF,fF,fF,fF,fF,fF,fF,fF,fF,fF,fF,fF,fF,fF,fF,fF,fF,fF,fF,fF,fF,fF,fF] rfl rfl (take_ofW HT_.out HW_.out (by kernel_rfl)) (fun _ _ _ h => h) (Or.inl ⟨by rfl,?_⟩) hHeld ?_ ?_
  rotate_left
  ·intro w' s0
   go_simp
   first|(with_reducible rfl)|(simp only [Instr.field,go_sem, *]; rfl)
  rotate_left
  ·simp only [Act.put,lS,lZ,lC,i64_w,i32_w]
   rfl
  refine one_ (i:=3) (N:=some 38) #[tT,tT,tT,tT,tT,tT,tT,tT,tT,tT,tT,fF,fF,tT,tT,tT,tT,tT,fF,fF,fF,fF,fF,fF,fF,fF,fF,fF,fF,fF,fF,fF,fF,fF,fF,fF,fF,fF,fF,fF,fF,fF,fF,fF,fF,fF,fF,fF,fF] rfl rfl (one_of HT_.out (by kernel_rfl)) (by decide) (fun K hK => ?_)
  refine goes_ Try.func20 (by kernel_rfl) rfl #[.agg #[.slice Ao75 t185.length co75],.int .i64 (Int.tmod t189 (t185.length : Int)),.int .i64 (Int.tmod t190 (wrap64 ((t185.length : Int) + 1)))] (by rfl) rfl rfl (by (try simp only [List.map_toArray,List.map_cons,List.map_nil]); first|done|rfl|(simp only [List.length_drop,List.length_take]; rfl)) ?_
  with_reducible refine (impl_SpanAt.calls k _ _ t185 (Int.tmod t189 (t185.length : Int)) (Int.tmod t190 (wrap64 ((t185.length : Int) + 1))) t195 _ ?side1 ?side2 A12.out).mono ?_
  (case side1 => repeat (first|exact (Kd.R_reads' HO187.out).2.2|(with_reducible refine Kd.C_alloc ?_ _)|(with_reducible refine Kd.C_drewN ?_ _)|(with_reducible refine Kd.C_drew ?_)))
  (case side2 => exact (Kd.R_reads' HO187.out).2.1)
  rintro e w79 ⟨rfl,hb⟩
  refine ⟨_,rfl,?_⟩
  have n0_:=Aside0.mk (Kd.R_below (by (with_reducible repeat (first|apply Kd.R_alloc|apply Kd.R_drewN|apply Kd.R_drew)); exact HO187.out) hb)
  have n1_:=Aside0.mk (Kd.R_below (by (with_reducible repeat (first|apply Kd.R_alloc|apply Kd.R_drewN|apply Kd.R_drew)); exact HO194.out) hb)
  have n2_:=Aside0.mk (blk_below (g:=gb188) (o:=.cells #[.slice Ao75 t185.length co75] 26 (0,0)) (by (with_reducible repeat (first|refine blk_drewN ?_ _|refine blk_drew ?_|refine blk_alloc ?_ _)); exact BK188.out) hb)
  have n3_:=Aside0.mk (below_step (by repeat (first|(with_reducible first|exact HB.out|apply bA|apply bD|apply bE|refine below_set ?_ GE188.out)|exact HB.out)) hb)
  clear HO187
  clear HO194
  clear BK188
  clear HB
  have HO187:=n0_
  have HO194:=n1_
  have BK188:=n2_
  have HB:=n3_
  clear n0_ n1_ n2_ n3_
  (try clear hb)
  (try clear hb2)
  (try clear hk)
  (try clear hi)
  refine hK.out _ _ ((blk_cell BK188.out 0).trans rfl) (fun hHeld => ?_)
  clear hK K
  refine norm_ (a':=?_) ?_ ?_
  rotate_left
  ·show Act.put _ (some 38) _ = _
   simp only [Act.put,lS,lZ,lC,i64_w,i32_w]
   rfl
  refine one_ (i:=11) (N:=some 46) #[tT,tT,tT,tT,tT,tT,tT,tT,tT,tT,tT,tT,fF,tT,tT,tT,tT,tT,fF,fF,fF,fF,fF,fF,fF,fF,fF,fF,fF,fF,fF,fF,fF,fF,fF,fF,fF,fF,fF,fF,fF,fF,fF,fF,fF,fF,fF,fF,fF] rfl rfl (one_of HT_.out (by kernel_rfl)) (by decide) (fun K hK => ?_)
  refine goes_ Try.func20 (by kernel_rfl) rfl #[.agg #[.slice Ao75 t185.length co75],.int .i64 (Int.tmod (wrap64 ((Int.tmod t189 (t185.length : Int)) + (Int.tmod t190 (wrap64 ((t185.length : Int) + 1))))) (t185.length : Int)),.int .i64 (Int.tmod t191 (wrap64 ((wrap64 ((t185.length : Int) + 1)) - (Int.tmod t190 (wrap64 ((t185.length : Int) + 1))))))] (by rfl) rfl rfl (by (try simp only [List.map_toArray,List.map_cons,List.map_nil]); first|done|rfl|(simp only [List.length_drop,List.length_take]; rfl)) ?_
  with_reducible refine (impl_SpanAt.calls k _ _ t185 (Int.tmod (wrap64 ((Int.tmod t189 (t185.length : Int)) + (Int.tmod t190 (wrap64 ((t185.length : Int) + 1))))) (t185.length : Int)) (Int.tmod t191 (wrap64 ((wrap64 ((t185.length : Int) + 1)) - (Int.tmod t190 (wrap64 ((t185.length : Int) + 1)))))) t196 _ ?side1 ?side2 A13.out).mono ?_
  (case side1 => repeat (first|exact (Kd.R_reads' HO187.out).2.2|(with_reducible refine Kd.C_alloc ?_ _)|(with_reducible refine Kd.C_drewN ?_ _)|(with_reducible refine Kd.C_drew ?_)))
  (case side2 => exact (Kd.R_reads' HO187.out).2.1)
  rintro e w80 ⟨rfl,hb⟩
  refine ⟨_,rfl,?_⟩
  have n0_:=Aside0.mk (Kd.R_below (by (with_reducible repeat (first|apply Kd.R_alloc|apply Kd.R_drewN|apply Kd.R_drew)); exact HO187.out) hb)
  have n1_:=Aside0.mk (Kd.R_below (by (with_reducible repeat (first|apply Kd.R_alloc|apply Kd.R_drewN|apply Kd.R_drew)); exact HO194.out) hb)
  have n2_:=Aside0.mk (blk_below (g:=gb188) (o:=.cells #[.slice Ao75 t185.length co75] 26 (0,0)) (by (with_reducible repeat (first|refine blk_drewN ?_ _|refine blk_drew ?_|refine blk_alloc ?_ _)); exact BK188.out) hb)
  have n3_:=Aside0.mk (below_step (by repeat (first|(with_reducible first|exact HB.out|apply bA|apply bD|apply bE|refine below_set ?_ GE188.out)|exact HB.out)) hb)
  clear HO187
  clear HO194
  clear BK188
  clear HB
  have HO187:=n0_
  have HO194:=n1_
  have BK188:=n2_
  have HB:=n3_
  clear n0_ n1_ n2_ n3_
  (try clear hb)
  (try clear hb2)
  (try clear hk)
  (try clear hi)
  refine hK.out _ _ ((blk_cell BK188.out 0).trans rfl) (fun hHeld => ?_)
  clear hK K
  refine norm_ (a':=?_) ?_ ?_
  rotate_left
  ·show Act.put _ (some 46) _ = _
   simp only [Act.put,lS,lZ,lC,i64_w,i32_w]
   rfl
  refine pure_ (i:=12) (N:=some 47) (v:=?_) (a':=?_) #[tT,tT,tT,tT,tT,tT,tT,tT,tT,tT,tT,tT,tT,tT,tT,tT,tT,tT,fF,fF,fF,fF,fF,fF,fF,fF,fF,fF,fF,fF,fF,fF,fF,fF,fF,fF,fF,fF,fF,fF,fF,fF,fF,fF,fF,fF,fF,fF,fF] rfl rfl (any_of HT_.out (by kernel_rfl)) (fun _ _ _ h => h) (Or.inl ⟨by rfl,?_⟩) ?_ ?_
  rotate_left
  ·intro w'
   go_simp
   first|(with_reducible rfl)|(simp only [Instr.field,go_sem, *]; rfl)
  rotate_left
  ·simp only [Act.put,lS,lZ,lC,i64_w,i32_w]
   rfl
  refine one_ (i:=18) (N:=some 53) #[tT,tT,tT,tT,tT,tT,tT,tT,tT,tT,tT,tT,tT,tT,tT,tT,tT,tT,tT,fF,fF,fF,fF,fF,fF,fF,fF,fF,fF,fF,fF,fF,fF,fF,fF,fF,fF,fF,fF,fF,fF,fF,fF,fF,fF,fF,fF,fF,fF] rfl rfl (one_of HT_.out (by kernel_rfl)) (by decide) (fun K hK => ?_)
  refine goes_ Try.func20 (by kernel_rfl) rfl #[.agg #[.slice Ao75 t185.length co75],.int .i64 (Int.tmod t189 (t185.length : Int)),.int .i64 (wrap64 ((Int.tmod t190 (wrap64 ((t185.length : Int) + 1))) + (Int.tmod t191 (wrap64 ((wrap64 ((t185.length : Int) + 1)) - (Int.tmod t190 (wrap64 ((t185.length : Int) + 1))))))))] (by rfl) rfl rfl (by (try simp only [List.map_toArray,List.map_cons,List.map_nil]); first|done|rfl|(simp only [List.length_drop,List.length_take]; rfl)) ?_
  with_reducible refine (impl_SpanAt.calls k _ _ t185 (Int.tmod t189 (t185.length : Int)) (wrap64 ((Int.tmod t190 (wrap64 ((t185.length : Int) + 1))) + (Int.tmod t191 (wrap64 ((wrap64 ((t185.length : Int) + 1)) - (Int.tmod t190 (wrap64 ((t185.length : Int) + 1)))))))) t197 _ ?side1 ?side2 A14.out).mono ?_
  (case side1 => repeat (first|exact (Kd.R_reads' HO187.out).2.2|(with_reducible refine Kd.C_alloc ?_ _)|(with_reducible refine Kd.C_drewN ?_ _)|(with_reducible refine Kd.C_drew ?_)))
  (case side2 => exact (Kd.R_reads' HO187.out).2.1)
  rintro e w81 ⟨rfl,hb⟩
  refine ⟨_,rfl,?_⟩
  have n0_:=Aside0.mk (Kd.R_below (by (with_reducible repeat (first|apply Kd.R_alloc|apply Kd.R_drewN|apply Kd.R_drew)); exact HO187.out) hb)
  have n1_:=Aside0.mk (Kd.R_below (by (with_reducible repeat (first|apply Kd.R_alloc|apply Kd.R_drewN|apply Kd.R_drew)); exact HO194.out) hb)
  have n2_:=Aside0.mk (blk_below (g:=gb188) (o:=.cells #[.slice Ao75 t185.length co75] 26 (0,0)) (by (with_reducible repeat (first|refine blk_drewN ?_ _|refine blk_drew ?_|refine blk_alloc ?_ _)); exact BK188.out) hb)
  have n3_:=Aside0.mk (below_step (by repeat (first|(with_reducible first|exact HB.out|apply bA|apply bD|apply bE|refine below_set ?_ GE188.out)|exact HB.out)) hb)
  clear HO187
  clear HO194
  clear BK188
  clear HB
  have HO187:=n0_
  have HO194:=n1_
  have BK188:=n2_
  have HB:=n3_
  clear n0_ n1_ n2_ n3_
  (try clear hb)
  (try clear hb2)
  (try clear hk)
  (try clear hi)
  refine hK.out _ _ ((blk_cell BK188.out 0).trans rfl) (fun hHeld => ?_)
  clear hK K
  refine norm_ (a':=?_) ?_ ?_
  rotate_left
  ·show Act.put _ (some 53) _ = _
   simp only [Act.put,lS,lZ,lC,i64_w,i32_w]
   rfl
  refine pure_ (i:=19) (N:=some 54) (v:=?_) (a':=?_) #[tT,tT,tT,tT,tT,tT,tT,tT,tT,tT,tT,tT,tT,tT,tT,tT,tT,tT,tT,tT,fF,fF,fF,fF,fF,fF,fF,fF,fF,fF,fF,fF,fF,fF,fF,fF,fF,fF,fF,fF,fF,fF,fF,fF,fF,fF,fF,fF,fF] rfl rfl (any_of HT_.out (by kernel_rfl)) (fun _ _ _ h => h) (Or.inl ⟨by rfl,?_⟩) ?_ ?_
  rotate_left
  ·intro w'
   go_simp
   first|(with_reducible rfl)|(simp only [Instr.field,go_sem, *]; rfl)
  rotate_left
  ·simp only [Act.put,lS,lZ,lC,i64_w,i32_w]
   rfl
  refine pure_ (i:=20) (N:=some 55) (v:=?_) (a':=?_) #[tT,tT,tT,tT,tT,tT,tT,tT,tT,tT,tT,tT,tT,tT,tT,tT,tT,tT,tT,tT,tT,fF,fF,fF,fF,fF,fF,fF,fF,fF,fF,fF,fF,fF,fF,fF,fF,fF,fF,fF,fF,fF,fF,fF,fF,fF,fF,fF,fF] rfl rfl (any_of HT_.out (by kernel_rfl)) (fun _ _ _ h => h) (Or.inl ⟨by rfl,?_⟩) ?_ ?_
  rotate_left
  ·intro w'
   go_simp
   first|(with_reducible rfl)|(simp only [Instr.field,go_sem, *]; rfl)
  rotate_left
  ·simp only [Act.put,lS,lZ,lC,i64_w,i32_w]
   rfl
  refine pure_ (i:=22) (N:=some 57) (v:=?_) (a':=?_) #[tT,tT,tT,tT,tT,tT,tT,tT,tT,tT,tT,tT,tT,tT,tT,tT,tT,tT,tT,tT,tT,fF,tT,fF,fF,fF,fF,fF,fF,fF,fF,fF,fF,fF,fF,fF,fF,fF,fF,fF,fF,fF,fF,fF,fF,fF,fF,fF,fF] rfl rfl (any_of HT_.out (by kernel_rfl)) (fun _ _ _ h => h) (Or.inl ⟨by rfl,?_⟩) ?_ ?_
  rotate_left
  ·intro w'
   go_simp
   first|(with_reducible rfl)|(simp only [Instr.field,go_sem, *]; rfl)
  rotate_left
  ·simp only [Act.put,lS,lZ,lC,i64_w,i32_w]
   rfl
  refine pure_ (i:=23) (N:=some 58) (v:=?_) (a':=?_) #[tT,tT,tT,tT,tT,tT,tT,tT,tT,tT,tT,tT,tT,tT,tT,tT,tT,tT,tT,tT,tT,fF,tT,tT,fF,fF,fF,fF,fF,fF,fF,fF,fF,fF,fF,fF,fF,fF,fF,fF,fF,fF,fF,fF,fF,fF,fF,fF,fF] rfl rfl (any_of HT_.out (by kernel_rfl)) (fun _ _ _ h => h) (Or.inl ⟨by rfl,?_⟩) ?_ ?_
  rotate_left
  ·intro w'
   go_simp
   first|(with_reducible rfl)|(simp only [Instr.field,go_sem, *]; rfl)
  rotate_left
  ·simp only [Act.put,lS,lZ,lC,i64_w,i32_w]
   rfl
  refine take_ (i:=21) (N:=some 56) (v:=?_) (a':=?_) #[tT,tT,tT,tT,tT,tT,tT,tT,tT,tT,tT,tT,tT,tT,tT,tT,tT,tT,tT,tT,tT,tT,tT,tT,fF,fF,fF,fF,fF,fF,fF,fF,fF,fF,fF,fF,fF,fF,fF,fF,fF,fF,fF,fF,fF,fF,fF,fF,fF] rfl rfl (take_ofW HT_.out HW_.out (by kernel_rfl)) (fun _ _ _ h => h) (Or.inl ⟨by rfl,?_⟩) hHeld ?_ ?_
  rotate_left
  ·intro w' s0
   go_simp
   first|(with_reducible rfl)|(simp only [Instr.field,go_sem, *]; rfl)
  rotate_left
  ·simp only [Act.put,lS,lZ,lC,i64_w,i32_w]
   rfl
  refine take_ (i:=25) (N:=some 60) (v:=?_) (a':=?_) #[tT,tT,tT,tT,tT,tT,tT,tT,tT,tT,tT,tT,tT,tT,tT,tT,tT,tT,tT,tT,tT,tT,tT,tT,fF,tT,fF,fF,fF,fF,fF,fF,fF,fF,fF,fF,fF,fF,fF,fF,fF,fF,fF,fF,fF,fF,fF,fF,fF] rfl rfl (take_ofW HT_.out HW_.out (by kernel_rfl)) (fun _ _ _ h => h) (Or.inl ⟨by rfl,?_⟩) hHeld ?_ ?_
  rotate_left
  ·intro w' s0
   go_simp
   first|(with_reducible rfl)|(simp only [Instr.field,go_sem, *]; rfl)
  rotate_left
  ·simp only [Act.put,lS,lZ,lC,i64_w,i32_w]
   rfl
  refine one_ (i:=24) (N:=some 59) #[tT,tT,tT,tT,tT,tT,tT,tT,tT,tT,tT,tT,tT,tT,tT,tT,tT,tT,tT,tT,tT,tT,tT,tT,tT,tT,fF,fF,fF,fF,fF,fF,fF,fF,fF,fF,fF,fF,fF,fF,fF,fF,fF,fF,fF,fF,fF,fF,fF] rfl rfl (one_of HT_.out (by kernel_rfl)) (by decide) (fun K hK => ?_)
  refine goes_ Try.func20 (by kernel_rfl) rfl #[.agg #[.slice Ao75 t185.length co75],.int .i64 (Int.tmod t189 (t185.length : Int)),.int .i64 (t185.length : Int)] (by rfl) rfl rfl (by (try simp only [List.map_toArray,List.map_cons,List.map_nil]); first|done|rfl|(simp only [List.length_drop,List.length_take]; rfl)) ?_
  with_reducible refine (impl_SpanAt.calls k _ _ t185 (Int.tmod t189 (t185.length : Int)) (t185.length : Int) t198 _ ?side1 ?side2 A16.out).mono ?_
  (case side1 => repeat (first|exact (Kd.R_reads' HO187.out).2.2|(with_reducible refine Kd.C_alloc ?_ _)|(with_reducible refine Kd.C_drewN ?_ _)|(with_reducible refine Kd.C_drew ?_)))
  (case side2 => exact (Kd.R_reads' HO187.out).2.1)
  rintro e w82 ⟨rfl,hb⟩
  refine ⟨_,rfl,?_⟩
  have n0_:=Aside0.mk (Kd.R_below (by (with_reducible repeat (first|apply Kd.R_alloc|apply Kd.R_drewN|apply Kd.R_drew)); exact HO187.out) hb)
  have n1_:=Aside0.mk (Kd.R_below (by (with_reducible repeat (first|apply Kd.R_alloc|apply Kd.R_drewN|apply Kd.R_drew)); exact HO194.out) hb)
  have n2_:=Aside0.mk (blk_below (g:=gb188) (o:=.cells #[.slice Ao75 t185.length co75] 26 (0,0)) (by (with_reducible repeat (first|refine blk_drewN ?_ _|refine blk_drew ?_|refine blk_alloc ?_ _)); exact BK188.out) hb)
  have n3_:=Aside0.mk (below_step (by repeat (first|(with_reducible first|exact HB.out|apply bA|apply bD|apply bE|refine below_set ?_ GE188.out)|exact HB.out)) hb)
  clear HO187
  clear HO194
  clear BK188
  clear HB
  have HO187:=n0_
  have HO194:=n1_
  have BK188:=n2_
  have HB:=n3_
  clear n0_ n1_ n2_ n3_
  (try clear hb)
  (try clear hb2)
  (try clear hk)
  (try clear hi)
  refine hK.out _ _ ((blk_cell BK188.out 0).trans rfl) (fun hHeld => ?_)
  clear hK K
  refine norm_ (a':=?_) ?_ ?_
  rotate_left
  ·show Act.put _ (some 59) _ = _
   simp only [Act.put,lS,lZ,lC,i64_w,i32_w]
   rfl
  refine one_ (i:=26) (N:=some 61) #[tT,tT,tT,tT,tT,tT,tT,tT,tT,tT,tT,tT,tT,tT,tT,tT,tT,tT,tT,tT,tT,tT,tT,tT,tT,tT,tT,fF,fF,fF,fF,fF,fF,fF,fF,fF,fF,fF,fF,fF,fF,fF,fF,fF,fF,fF,fF,fF,fF] rfl rfl (one_of HT_.out (by kernel_rfl)) (by decide) (fun K hK => ?_)
  refine goes_ Try.func13 (by kernel_rfl) rfl #[.agg #[.slice Ao75 t185.length co75]] (by rfl) rfl rfl (by (try simp only [List.map_toArray,List.map_cons,List.map_nil]); first|done|rfl|(simp only [List.length_drop,List.length_take]; rfl)) ?_
  with_reducible refine (impl_ScaleSum.calls k _ _ t185 t199 _ ?side1 ?side2 A17.out).mono ?_
  (case side1 => repeat (first|exact (Kd.R_reads' HO187.out).2.2|(with_reducible refine Kd.C_alloc ?_ _)|(with_reducible refine Kd.C_drewN ?_ _)|(with_reducible refine Kd.C_drew ?_)))
  (case side2 => exact (Kd.R_reads' HO187.out).2.1)
  rintro e w83 ⟨rfl,hb⟩
  refine ⟨_,rfl,?_⟩
  have n0_:=Aside0.mk (Kd.R_below (by (with_reducible repeat (first|apply Kd.R_alloc|apply Kd.R_drewN|apply Kd.R_drew)); exact HO187.out) hb)
  have n1_:=Aside0.mk (Kd.R_below (by (with_reducible repeat (first|apply Kd.R_alloc|apply Kd.R_drewN|apply Kd.R_drew)); exact HO194.out) hb)
  have n2_:=Aside0.mk (blk_below (g:=gb188) (o:=.cells #[.slice Ao75 t185.length co75] 26 (0,0)) (by (with_reducible repeat (first|refine blk_drewN ?_ _|refine blk_drew ?_|refine blk_alloc ?_ _)); exact BK188.out) hb)
  have n3_:=Aside0.mk (below_step (by repeat (first|(with_reducible first|exact HB.out|apply bA|apply bD|apply bE|refine below_set ?_ GE188.out)|exact HB.out)) hb)
  clear HO187
  clear HO194
  clear BK188
  clear HB
  have HO187:=n0_
  have HO194:=n1_
  have BK188:=n2_
  have HB:=n3_
  clear n0_ n1_ n2_ n3_
  (try clear hb)
  (try clear hb2)
  (try clear hk)
  (try clear hi)
  refine hK.out _ _ ((blk_cell BK188.out 0).trans rfl) (fun hHeld => ?_)
  clear hK K
  refine norm_ (a':=?_) ?_ ?_
  rotate_left
  ·show Act.put _ (some 61) _ = _
   simp only [Act.put,lS,lZ,lC,i64_w,i32_w]
   rfl
  refine pure_ (i:=27) (N:=some 62) (v:=?_) (a':=?_) #[tT,tT,tT,tT,tT,tT,tT,tT,tT,tT,tT,tT,tT,tT,tT,tT,tT,tT,tT,tT,tT,tT,tT,tT,tT,tT,tT,tT,fF,fF,fF,fF,fF,fF,fF,fF,fF,fF,fF,fF,fF,fF,fF,fF,fF,fF,fF,fF,fF] rfl rfl (any_of HT_.out (by kernel_rfl)) (fun _ _ _ h => h) (Or.inl ⟨by rfl,?_⟩) ?_ ?_
  rotate_left
  ·intro w'
   go_simp
   first|(with_reducible rfl)|(simp only [Instr.field,go_sem, *]; rfl)
  rotate_left
  ·simp only [Act.put,lS,lZ,lC,i64_w,i32_w]
   rfl
  refine pure_ (i:=28) (N:=some 63) (v:=?_) (a':=?_) #[tT,tT,tT,tT,tT,tT,tT,tT,tT,tT,tT,tT,tT,tT,tT,tT,tT,tT,tT,tT,tT,tT,tT,tT,tT,tT,tT,tT,tT,fF,fF,fF,fF,fF,fF,fF,fF,fF,fF,fF,fF,fF,fF,fF,fF,fF,fF,fF,fF] rfl rfl (any_of HT_.out (by kernel_rfl)) (fun _ _ _ h => h) (Or.inl ⟨by rfl,?_⟩) ?_ ?_
  rotate_left
  ·intro w'
   go_simp
   first|(with_reducible rfl)|(simp only [Instr.field,go_sem, *]; rfl)
  rotate_left
  ·simp only [Act.put,lS,lZ,lC,i64_w,i32_w]
   rfl
  refine pure_ (i:=29) (N:=some 64) (v:=?_) (a':=?_) #[tT,tT,tT,tT,tT,tT,tT,tT,tT,tT,tT,tT,tT,tT,tT,tT,tT,tT,tT,tT,tT,tT,tT,tT,tT,tT,tT,tT,tT,tT,fF,fF,fF,fF,fF,fF,fF,fF,fF,fF,fF,fF,fF,fF,fF,fF,fF,fF,fF] rfl rfl (any_of HT_.out (by kernel_rfl)) (fun _ _ _ h => h) (Or.inl ⟨by rfl,?_⟩) ?_ ?_
  rotate_left
  ·intro w'
   go_simp
   first|(with_reducible rfl)|(simp only [Instr.field,go_sem, *]; rfl)
  rotate_left
  ·simp only [Act.put,lS,lZ,lC,i64_w,i32_w]
   rfl
  refine pure_ (i:=30) (N:=some 65) (v:=undef) (a':=?_) #[tT,tT,tT,tT,tT,tT,tT,tT,tT,tT,tT,tT,tT,tT,tT,tT,tT,tT,tT,tT,tT,tT,tT,tT,tT,tT,tT,tT,tT,tT,tT,fF,fF,fF,fF,fF,fF,fF,fF,fF,fF,fF,fF,fF,fF,fF,fF,fF,fF] rfl rfl (any_of HT_.out (by kernel_rfl)) (fun _ _ _ h => h) (Or.inr ⟨by rfl,rfl⟩) ?_ ?_
  rotate_left
  ·simp only [Act.put,lS,lZ,lC,i64_w,i32_w]
   rfl
  refine pure_ (i:=31) (N:=some 66) (v:=undef) (a':=?_) #[tT,tT,tT,tT,tT,tT,tT,tT,tT,tT,tT,tT,tT,tT,tT,tT,tT,tT,tT,tT,tT,tT,tT,tT,tT,tT,tT,tT,tT,tT,tT,tT,fF,fF,fF,fF,fF,fF,fF,fF,fF,fF,fF,fF,fF,fF,fF,fF,fF] rfl rfl (any_of HT_.out (by kernel_rfl)) (fun _ _ _ h => h) (Or.inr ⟨by rfl,rfl⟩) ?_ ?_
  rotate_left
  ·simp only [Act.put,lS,lZ,lC,i64_w,i32_w]
   rfl
  refine pure_ (i:=32) (N:=some 67) (v:=undef) (a':=?_) #[tT,tT,tT,tT,tT,tT,tT,tT,tT,tT,tT,tT,tT,tT,tT,tT,tT,tT,tT,tT,tT,tT,tT,tT,tT,tT,tT,tT,tT,tT,tT,tT,tT,fF,fF,fF,fF,fF,fF,fF,fF,fF,fF,fF,fF,fF,fF,fF,fF] rfl rfl (any_of HT_.out (by kernel_rfl)) (fun _ _ _ h => h) (Or.inr ⟨by rfl,rfl⟩) ?_ ?_
  rotate_left
  ·simp only [Act.put,lS,lZ,lC,i64_w,i32_w]
   rfl
  refine pure_ (i:=33) (N:=some 68) (v:=undef) (a':=?_) #[tT,tT,tT,tT,tT,tT,tT,tT,tT,tT,tT,tT,tT,tT,tT,tT,tT,tT,tT,tT,tT,tT,tT,tT,tT,tT,tT,tT,tT,tT,tT,tT,tT,tT,fF,fF,fF,fF,fF,fF,fF,fF,fF,fF,fF,fF,fF,fF,fF] rfl rfl (any_of HT_.out (by kernel_rfl)) (fun _ _ _ h => h) (Or.inr ⟨by rfl,rfl⟩) ?_ ?_
  rotate_left
  ·simp only [Act.put,lS,lZ,lC,i64_w,i32_w]
   rfl
  refine pure_ (i:=34) (N:=some 69) (v:=undef) (a':=?_) #[tT,tT,tT,tT,tT,tT,tT,tT,tT,tT,tT,tT,tT,tT,tT,tT,tT,tT,tT,tT,tT,tT,tT,tT,tT,tT,tT,tT,tT,tT,tT,tT,tT,tT,tT,fF,fF,fF,fF,fF,fF,fF,fF,fF,fF,fF,fF,fF,fF] rfl rfl (any_of HT_.out (by kernel_rfl)) (fun _ _ _ h => h) (Or.inr ⟨by rfl,rfl⟩) ?_ ?_
  rotate_left
  ·simp only [Act.put,lS,lZ,lC,i64_w,i32_w]
   rfl
  refine pure_ (i:=35) (N:=some 70) (v:=undef) (a':=?_) #[tT,tT,tT,tT,tT,tT,tT,tT,tT,tT,tT,tT,tT,tT,tT,tT,tT,tT,tT,tT,tT,tT,tT,tT,tT,tT,tT,tT,tT,tT,tT,tT,tT,tT,tT,tT,fF,fF,fF,fF,fF,fF,fF,fF,fF,fF,fF,fF,fF] rfl rfl (any_of HT_.out (by kernel_rfl)) (fun _ _ _ h => h) (Or.inr ⟨by rfl,rfl⟩) ?_ ?_
  rotate_left
  ·simp only [Act.put,lS,lZ,lC,i64_w,i32_w]
   rfl
  refine pure_ (i:=36) (N:=some 71) (v:=?_) (a':=?_) #[tT,tT,tT,tT,tT,tT,tT,tT,tT,tT,tT,tT,tT,tT,tT,tT,tT,tT,tT,tT,tT,tT,tT,tT,tT,tT,tT,tT,tT,tT,tT,tT,tT,tT,tT,tT,tT,fF,fF,fF,fF,fF,fF,fF,fF,fF,fF,fF,fF] rfl rfl (any_of HT_.out (by kernel_rfl)) (fun _ _ _ h => h) (Or.inl ⟨by rfl,?_⟩) ?_ ?_
  rotate_left
  ·intro w'
   go_simp
   first|(with_reducible rfl)|(simp only [Instr.field,go_sem, *]; rfl)
  rotate_left
  ·simp only [Act.put,lS,lZ,lC,i64_w,i32_w]
   rfl
  refine pure_ (i:=37) (N:=some 72) (v:=?_) (a':=?_) #[tT,tT,tT,tT,tT,tT,tT,tT,tT,tT,tT,tT,tT,tT,tT,tT,tT,tT,tT,tT,tT,tT,tT,tT,tT,tT,tT,tT,tT,tT,tT,tT,tT,tT,tT,tT,tT,tT,fF,fF,fF,fF,fF,fF,fF,fF,fF,fF,fF] rfl rfl (any_of HT_.out (by kernel_rfl)) (fun _ _ _ h => h) (Or.inl ⟨by rfl,?_⟩) ?_ ?_
  rotate_left
  ·intro w'
   go_simp
   first|(with_reducible rfl)|(simp only [Instr.field,go_sem, *]; rfl)
  rotate_left
  ·simp only [Act.put,lS,lZ,lC,i64_w,i32_w]
   rfl
  refine pure_ (i:=38) (N:=some 73) (v:=undef) (a':=?_) #[tT,tT,tT,tT,tT,tT,tT,tT,tT,tT,tT,tT,tT,tT,tT,tT,tT,tT,tT,tT,tT,tT,tT,tT,tT,tT,tT,tT,tT,tT,tT,tT,tT,tT,tT,tT,tT,tT,tT,fF,fF,fF,fF,fF,fF,fF,fF,fF,fF] rfl rfl (any_of HT_.out (by kernel_rfl)) (fun _ _ _ h => h) (Or.inr ⟨by rfl,rfl⟩) ?_ ?_
  rotate_left
  ·simp only [Act.put,lS,lZ,lC,i64_w,i32_w]
   rfl
  refine pure_ (i:=39) (N:=some 74) (v:=undef) (a':=?_) #[tT,tT,tT,tT,tT,tT,tT,tT,tT,tT,tT,tT,tT,tT,tT,tT,tT,tT,tT,tT,tT,tT,tT,tT,tT,tT,tT,tT,tT,tT,tT,tT,tT,tT,tT,tT,tT,tT,tT,tT,fF,fF,fF,fF,fF,fF,fF,fF,fF] rfl rfl (any_of HT_.out (by kernel_rfl)) (fun _ _ _ h => h) (Or.inr ⟨by rfl,rfl⟩) ?_ ?_
  rotate_left
  ·simp only [Act.put,lS,lZ,lC,i64_w,i32_w]
   rfl
  refine pure_ (i:=40) (N:=some 75) (v:=?_) (a':=?_) #[tT,tT,tT,tT,tT,tT,tT,tT,tT,tT,tT,tT,tT,tT,tT,tT,tT,tT,tT,tT,tT,tT,tT,tT,tT,tT,tT,tT,tT,tT,tT,tT,tT,tT,tT,tT,tT,tT,tT,tT,tT,fF,fF,fF,fF,fF,fF,fF,fF] rfl rfl (any_of HT_.out (by kernel_rfl)) (fun _ _ _ h => h) (Or.inl ⟨by rfl,?_⟩) ?_ ?_
  rotate_left
  ·intro w'
   go_simp
   first|(with_reducible rfl)|(simp only [Instr.field,go_sem, *]; rfl)
  rotate_left
  ·simp only [Act.put,lS,lZ,lC,i64_w,i32_w]
   rfl
  refine pure_ (i:=41) (N:=some 76) (v:=?_) (a':=?_) #[tT,tT,tT,tT,tT,tT,tT,tT,tT,tT,tT,tT,tT,tT,tT,tT,tT,tT,tT,tT,tT,tT,tT,tT,tT,tT,tT,tT,tT,tT,tT,tT,tT,tT,tT,tT,tT,tT,tT,tT,tT,tT,fF,fF,fF,fF,fF,fF,fF] rfl rfl (any_of HT_.out (by kernel_rfl)) (fun _ _ _ h => h) (Or.inl ⟨by rfl,?_⟩) ?_ ?_
  rotate_left
  ·intro w'
   go_simp
   first|(with_reducible rfl)|(simp only [Instr.field,go_sem, *]; rfl)
  rotate_left
  ·simp only [Act.put,lS,lZ,lC,i64_w,i32_w]
   rfl
  refine pure_ (i:=42) (N:=some 77) (v:=undef) (a':=?_) #[tT,tT,tT,tT,tT,tT,tT,tT,tT,tT,tT,tT,tT,tT,tT,tT,tT,tT,tT,tT,tT,tT,tT,tT,tT,tT,tT,tT,tT,tT,tT,tT,tT,tT,tT,tT,tT,tT,tT,tT,tT,tT,tT,fF,fF,fF,fF,fF,fF] rfl rfl (any_of HT_.out (by kernel_rfl)) (fun _ _ _ h => h) (Or.inr ⟨by rfl,rfl⟩) ?_ ?_
  rotate_left
  ·simp only [Act.put,lS,lZ,lC,i64_w,i32_w]
   rfl
  refine pure_ (i:=43) (N:=some 78) (v:=undef) (a':=?_) #[tT,tT,tT,tT,tT,tT,tT,tT,tT,tT,tT,tT,tT,tT,tT,tT,tT,tT,tT,tT,tT,tT,tT,tT,tT,tT,tT,tT,tT,tT,tT,tT,tT,tT,tT,tT,tT,tT,tT,tT,tT,tT,tT,tT,fF,fF,fF,fF,fF] rfl rfl (any_of HT_.out (by kernel_rfl)) (fun _ _ _ h => h) (Or.inr ⟨by rfl,rfl⟩) ?_ ?_
  rotate_left
  ·simp only [Act.put,lS,lZ,lC,i64_w,i32_w]
   rfl
  refine pure_ (i:=44) (N:=some 79) (v:=undef) (a':=?_) #[tT,tT,tT,tT,tT,tT,tT,tT,tT,tT,tT,tT,tT,tT,tT,tT,tT,tT,tT,tT,tT,tT,tT,tT,tT,tT,tT,tT,tT,tT,tT,tT,tT,tT,tT,tT,tT,tT,tT,tT,tT,tT,tT,tT,tT,fF,fF,fF,fF] rfl rfl (any_of HT_.out (by kernel_rfl)) (fun _ _ _ h => h) (Or.inr ⟨by rfl,rfl⟩) ?_ ?_
  rotate_left
  ·simp only [Act.put,lS,lZ,lC,i64_w,i32_w]
   rfl
  refine pure_ (i:=45) (N:=some 80) (v:=undef) (a':=?_) #[tT,tT,tT,tT,tT,tT,tT,tT,tT,tT,tT,tT,tT,tT,tT,tT,tT,tT,tT,tT,tT,tT,tT,tT,tT,tT,tT,tT,tT,tT,tT,tT,tT,tT,tT,tT,tT,tT,tT,tT,tT,tT,tT,tT,tT,tT,fF,fF,fF] rfl rfl (any_of HT_.out (by kernel_rfl)) (fun _ _ _ h => h) (Or.inr ⟨by rfl,rfl⟩) ?_ ?_
  rotate_left
  ·simp only [Act.put,lS,lZ,lC,i64_w,i32_w]
   rfl
  refine pure_ (i:=46) (N:=some 81) (v:=undef) (a':=?_) #[tT,tT,tT,tT,tT,tT,tT,tT,tT,tT,tT,tT,tT,tT,tT,tT,tT,tT,tT,tT,tT,tT,tT,tT,tT,tT,tT,tT,tT,tT,tT,tT,tT,tT,tT,tT,tT,tT,tT,tT,tT,tT,tT,tT,tT,tT,tT,fF,fF] rfl rfl (any_of HT_.out (by kernel_rfl)) (fun _ _ _ h => h) (Or.inr ⟨by rfl,rfl⟩) ?_ ?_
  rotate_left
  ·simp only [Act.put,lS,lZ,lC,i64_w,i32_w]
   rfl
  refine pure_ (i:=47) (N:=some 82) (v:=?_) (a':=?_) #[tT,tT,tT,tT,tT,tT,tT,tT,tT,tT,tT,tT,tT,tT,tT,tT,tT,tT,tT,tT,tT,tT,tT,tT,tT,tT,tT,tT,tT,tT,tT,tT,tT,tT,tT,tT,tT,tT,tT,tT,tT,tT,tT,tT,tT,tT,tT,tT,fF] rfl rfl (any_of HT_.out (by kernel_rfl)) (fun _ _ _ h => h) (Or.inl ⟨by rfl,?_⟩) ?_ ?_
  rotate_left
  ·intro w'
   go_simp
   first|(with_reducible rfl)|(simp only [Instr.field,go_sem, *]; rfl)
  rotate_left
  ·simp only [Act.put,lS,lZ,lC,i64_w,i32_w]
   rfl
  refine pure_ (i:=48) (N:=some 2) (v:=?_) (a':=?_) #[tT,tT,tT,tT,tT,tT,tT,tT,tT,tT,tT,tT,tT,tT,tT,tT,tT,tT,tT,tT,tT,tT,tT,tT,tT,tT,tT,tT,tT,tT,tT,tT,tT,tT,tT,tT,tT,tT,tT,tT,tT,tT,tT,tT,tT,tT,tT,tT,tT] rfl rfl (any_of HT_.out (by kernel_rfl)) (fun _ _ _ h => h) (Or.inl ⟨by rfl,?_⟩) ?_ ?_
  rotate_left
  ·intro w'
   go_simp
   first|(with_reducible rfl)|(simp only [Instr.field,go_sem, *]; rfl)
  rotate_left
  ·simp only [Act.put,lS,lZ,lC,i64_w,i32_w]
   rfl
  refine done_ (done_of HT_.out (by kernel_rfl)) ?_
  try go_wp2
  go_ret
  exact ⟨by first|rfl|(simp [errW_none,errW_some] <;> rfl)|(simp [*,errW_none,errW_some] <;> rfl),by repeat (first|(with_reducible first|exact HB.out|apply bA|apply bD|apply bE|refine below_set ?_ GE188.out)|exact HB.out)⟩
 rw [if_pos c18] at H
 have c18b0 : (t198 == t199) = true:=beq_iff_eq.mpr c18
 have c18b1 : (t198 != t199) = false:=bne_eq_false_iff_eq.mpr c18
 clear c18
 replace H:=Option.bind_eq_some_iff.mp H
 obtain ⟨t200,A190,H⟩:=H
 replace H : ((laws_has.f k t192 t200).bind fun t201 => (if t201 = true then ((impl_MajorScale.f).bind fun t202 => ((impl_HasTwoSizes.f k t202).bind fun t205 => (if t205 = true then ((impl_SpansOf.f k t185 (t185.length : Int)).bind fun t206 => (some ((t206.length : Int) == 1))) else (some false)))) else (some false))) = some r:=H
 have A19:=Aside0.mk A190
 clear A190
 replace H:=Option.bind_eq_some_iff.mp H
 obtain ⟨t201,A200,H⟩:=H
 replace H : (if t201 = true then ((impl_MajorScale.f).bind fun t202 => ((impl_HasTwoSizes.f k t202).bind fun t205 => (if t205 = true then ((impl_SpansOf.f k t185 (t185.length : Int)).bind fun t206 => (some ((t206.length : Int) == 1))) else (some false)))) else (some false)) = some r:=H
 have A20:=Aside0.mk A200
 clear A200
 by_cases c21 : t201 = true
 rotate_left
 ·replace c21:=Bool.eq_false_iff.mpr c21
  subst c21
  have H1 : (some false) = some r:=by rw [if_neg (show ¬ (false = true) by decide)] at H; exact H
  clear H
  have H:=H1
  clear H1
  obtain rfl:=Option.some.inj H
  go_enter Try.func4,Try.ntmps4
  try go_wp2_with (first|((with_reducible refine gate_callee (f:=10) rfl ?_); refine goesL_ (some 10) rfl rfl Try.func10 (by kernel_rfl) rfl #[.slice A0 l0.length c0] rfl (by (try simp only [List.map_toArray,List.map_cons,List.map_nil]); first|done|rfl|(simp only [List.length_drop,List.length_take]; rfl)) ?_; (with_reducible refine (laws_big.calls _ _ l0 false _ ?side1 ?side2 A2.out).mono ?_); (case side1 => repeat (first|exact HR0.out|(with_reducible refine Kd.C_alloc ?_ _)|(with_reducible refine Kd.C_drewN ?_ _)|(with_reducible refine Kd.C_drew ?_))); (case side2 => exact HC0.out); rintro e w' ⟨rfl,⟨nd,rfl⟩⟩; refine ⟨_,rfl,?_⟩)|((with_reducible refine gate_callee (f:=11) rfl ?_); refine goesL_ (some 12) rfl rfl Try.func11 (by kernel_rfl) rfl #[.slice A0 l0.length c0] rfl (by (try simp only [List.map_toArray,List.map_cons,List.map_nil]); first|done|rfl|(simp only [List.length_drop,List.length_take]; rfl)) ?_; (with_reducible refine (spec_DrawScale.calls k _ _ l0 t185 _ ?side1 ?side2 A4.out).mono ?_); (case side1 => repeat (first|exact HR0.out|(with_reducible refine Kd.C_alloc ?_ _)|(with_reducible refine Kd.C_drewN ?_ _)|(with_reducible refine Kd.C_drew ?_))); (case side2 => exact HC0.out); rintro e w60 ⟨v186,rfl,ho0,hb⟩; refine ⟨_,rfl,?_⟩; have n0_:=Aside0.mk (Kd.R_lower ho0 (below_size (by repeat (first|(with_reducible first|exact HB.out|apply bA|apply bD|apply bE)|exact HB.out)))); have n1_:=Aside0.mk (below_step (by repeat (first|(with_reducible first|exact HB.out|apply bA|apply bD|apply bE)|exact HB.out)) hb); clear HB; have HO187:=n0_; have HB:=n1_; clear n0_ n1_; (try clear hb); (try clear hb2); (try clear hk); (try clear hi); (try clear ho0))|((with_reducible refine gate_dst (N:=3) rfl ?_); (try (refine gate_guard (by rfl) ?_; dsimp only)); refine box_event ?hg (N:=3) ?hd (cs:=#[.slice none 0 0]) (t:=26) ?hr ?_; (case hd => rfl); (case hg => rfl); (case hr => first|(go_simp; done)|(go_simp; rfl)); intro gb188 hg w61 hbox hb; have n0_:=Aside0.mk (Kd.R_below (by (with_reducible repeat (first|apply Kd.R_alloc|apply Kd.R_drewN|apply Kd.R_drew)); exact HO187.out) hb); have n1_:=Aside0.mk (below_step (by repeat (first|(with_reducible first|exact HB.out|apply bA|apply bD|apply bE)|exact HB.out)) hb); have n2_:=Aside0.mk (hbox); have n3_:=Aside0.mk ((by rw [hg]; exact (below_size (by repeat (first|(with_reducible first|exact HB.out|apply bA|apply bD|apply bE)|exact HB.out))) : w.heap.size ≤ gb188)); have n4_:=Aside0.mk ((by rw [hg]; exact (below_size (by repeat (first|(with_reducible first|exact HB.out|apply bA|apply bD|apply bE)|exact HB.out))) : w.heap.size ≤ gb188)); clear HO187; clear HB; have HO187:=n0_; have HB:=n1_; have BK188:=n2_; have GW188:=n3_; have GE188:=n4_; clear n0_ n1_ n2_ n3_ n4_; clear hb hbox hg; obtain ⟨Ao62,co62,eo62⟩:=Kd.R_slice HO187.out; subst eo62; have hcz63_0 : w61.cell? ⟨gb188,0,none⟩ = some (.slice none 0 0):=(blk_cell BK188.out 0).trans rfl; have hfz63_0:=blk_frozen BK188.out 0)|((with_reducible refine gate_callee (f:=18) rfl ?_); refine goesL_ (some 17) rfl rfl Try.func18 (by kernel_rfl) rfl #[.slice A0 l0.length c0,.int .i64 0] rfl (by (try simp only [List.map_toArray,List.map_cons,List.map_nil]); first|done|rfl|(simp only [List.length_drop,List.length_take]; rfl)) ?_; (with_reducible refine (laws_at.calls _ _ l0 0 t189 _ ?side1 ?side2 A5.out).mono ?_); (case side1 => exact Kd.C_below HR0.out (by repeat (first|(with_reducible first|exact HB.out|apply bA|apply bD|apply bE|refine below_set ?_ GE188.out)|exact HB.out))); (case side2 => exact HC0.out); rintro e w' ⟨rfl,⟨nd,rfl⟩⟩; refine ⟨_,rfl,?_⟩)|((with_reducible refine gate_callee (f:=18) rfl ?_); refine goesL_ (some 21) rfl rfl Try.func18 (by kernel_rfl) rfl #[.slice A0 l0.length c0,.int .i64 1] rfl (by (try simp only [List.map_toArray,List.map_cons,List.map_nil]); first|done|rfl|(simp only [List.length_drop,List.length_take]; rfl)) ?_; (with_reducible refine (laws_at.calls _ _ l0 1 t190 _ ?side1 ?side2 A7.out).mono ?_); (case side1 => exact Kd.C_below HR0.out (by repeat (first|(with_reducible first|exact HB.out|apply bA|apply bD|apply bE|refine below_set ?_ GE188.out)|exact HB.out))); (case side2 => exact HC0.out); rintro e w' ⟨rfl,⟨nd,rfl⟩⟩; refine ⟨_,rfl,?_⟩)|((with_reducible refine gate_callee (f:=18) rfl ?_); refine goesL_ (some 26) rfl rfl Try.func18 (by kernel_rfl) rfl #[.slice A0 l0.length c0,.int .i64 2] rfl (by (try simp only [List.map_toArray,List.map_cons,List.map_nil]); first|done|rfl|(simp only [List.length_drop,List.length_take]; rfl)) ?_; (with_reducible refine (laws_at.calls _ _ l0 2 t191 _ ?side1 ?side2 A9.out).mono ?_); (case side1 => exact Kd.C_below HR0.out (by repeat (first|(with_reducible first|exact HB.out|apply bA|apply bD|apply bE|refine below_set ?_ GE188.out)|exact HB.out))); (case side2 => exact HC0.out); rintro e w' ⟨rfl,⟨nd,rfl⟩⟩; refine ⟨_,rfl,?_⟩)|((with_reducible refine gate_callee (f:=19) rfl ?_); refine goesL_ (some 34) rfl rfl Try.func19 (by kernel_rfl) rfl #[.agg #[.slice Ao62 t185.length co62],.int .i64 (Int.tmod t190 (wrap64 ((t185.length : Int) + 1)))] rfl (by (try simp only [List.map_toArray,List.map_cons,List.map_nil]); first|done|rfl|(simp only [List.length_drop,List.length_take]; rfl)) ?_; (with_reducible refine (impl_SpansOf.calls k _ _ t185 (Int.tmod t190 (wrap64 ((t185.length : Int) + 1))) t192 _ ?side1 ?side2 A11.out).mono ?_); (case side1 => refine (Kd.R_reads' (e:=3) (base:=w.heap.size) (ok:=fun k_ => True) (n:=t185.length) (c:=co62) ?_).2.2; exact (by (with_reducible repeat (first|apply Kd.R_alloc|apply Kd.R_drewN|apply Kd.R_drew)); exact (Kd.R_mono (Kd.R_far (p:=⟨gb188,0,none⟩) (Kd.R_types HO187.out BK188.out (by decide)) (fun _ hk => hk.2) (.slice Ao62 t185.length co62)) (fun _ h_ => h_.1)))); (case side2 => exact (Kd.R_reads' HO187.out).2.1); rintro e w64 ⟨v193,rfl,ho0,hb⟩; refine ⟨_,rfl,?_⟩; have n0_:=Aside0.mk (Kd.R_elder' (by (with_reducible repeat (first|apply Kd.R_alloc|apply Kd.R_drewN|apply Kd.R_drew)); exact (Kd.R_mono (Kd.R_far (p:=⟨gb188,0,none⟩) (Kd.R_types HO187.out BK188.out (by decide)) (fun _ hk => hk.2) (.slice Ao62 t185.length co62)) (fun _ h_ => h_.1))) (Kd.R_base ho0) hb); have n1_:=Aside0.mk (Kd.R_lower (Kd.R_new' ho0 (Kd.R_lt (by (with_reducible repeat (first|apply Kd.R_alloc|apply Kd.R_drewN|apply Kd.R_drew)); exact (Kd.R_mono (Kd.R_far (p:=⟨gb188,0,none⟩) (Kd.R_types HO187.out BK188.out (by decide)) (fun _ hk => hk.2) (.slice Ao62 t185.length co62)) (fun _ h_ => h_.1))))) (below_size (by repeat (first|(with_reducible first|exact HB.out|apply bA|apply bD|apply bE|refine below_set ?_ GE188.out)|exact HB.out)))); have n2_:=Aside0.mk (blk_below (g:=gb188) (o:=.cells #[.slice Ao62 t185.length co62] 26 (0,0)) (by (with_reducible repeat (first|refine blk_drewN ?_ _|refine blk_drew ?_|refine blk_alloc ?_ _)); refine blk_put (cs:=#[.slice none 0 0]) ?_ 0 _ rfl; (with_reducible repeat (first|refine blk_drewN ?_ _|refine blk_drew ?_|refine blk_alloc ?_ _)); exact BK188.out) hb); have n3_:=Aside0.mk (below_step (by repeat (first|(with_reducible first|exact HB.out|apply bA|apply bD|apply bE|refine below_set ?_ GE188.out)|exact HB.out)) hb); clear HO187; clear BK188; clear HB; have HO187:=n0_; have HO194:=n1_; have BK188:=n2_; have HB:=n3_; clear n0_ n1_ n2_ n3_; (try clear hb); (try clear hb2); (try clear hk); (try clear hi); (try clear ho0)))
  have n0_:=Aside0.mk (Kd.R_drew HO187.out)
  have n1_:=Aside0.mk (Kd.R_drew HO194.out)
  have n2_:=Aside0.mk (blk_drew BK188.out)
  have n3_:=Aside0.mk (bE HB.out)
  clear HO187
  clear HO194
  clear BK188
  clear HB
  have HO187:=n0_
  have HO194:=n1_
  have BK188:=n2_
  have HB:=n3_
  clear n0_ n1_ n2_ n3_
  refine start_ (n:=49) (S:=fun w' => w'.cell? ⟨gb188,0,none⟩ = some (.slice Ao62 t185.length co62)) (ds:=[]) #[fF,fF,fF,fF,fF,fF,fF,fF,fF,fF,fF,fF,fF,fF,fF,fF,fF,fF,fF,fF,fF,fF,fF,fF,fF,fF,fF,fF,fF,fF,fF,fF,fF,fF,fF,fF,fF,fF,fF,fF,fF,fF,fF,fF,fF,fF,fF,fF,fF] (by kernel_rfl) rfl rfl ((blk_cell BK188.out 0).trans rfl) (fun hHeld => ?_); refine with_tabW laws_FnSpans.tab9 laws_FnSpans.bits9 (fun HT_ HW_ => ?_)
  generalize w64.drew = w65 at HO187 HO194 BK188 HB hHeld ⊢
  refine pure_ (i:=1) (N:=some 36) (v:=?_) (a':=?_) #[fF,tT,fF,fF,fF,fF,fF,fF,fF,fF,fF,fF,fF,fF,fF,fF,fF,fF,fF,fF,fF,fF,fF,fF,fF,fF,fF,fF,fF,fF,fF,fF,fF,fF,fF,fF,fF,fF,fF,fF,fF,fF,fF,fF,fF,fF,fF,fF,fF] rfl rfl (any_of HT_.out (by kernel_rfl)) (fun _ _ _ h => h) (Or.inl ⟨by rfl,?_⟩) ?_ ?_
  rotate_left
  ·intro w'
   go_simp
   first|(with_reducible rfl)|(simp only [Instr.field,go_sem, *]; rfl)
  rotate_left
  ·simp only [Act.put,lS,lZ,lC,i64_w,i32_w]
   rfl
  refine pure_ (i:=2) (N:=some 37) (v:=?_) (a':=?_) #[fF,tT,tT,fF,fF,fF,fF,fF,fF,fF,fF,fF,fF,fF,fF,fF,fF,fF,fF,fF,fF,fF,fF,fF,fF,fF,fF,fF,fF,fF,fF,fF,fF,fF,fF,fF,fF,fF,fF,fF,fF,fF,fF,fF,fF,fF,fF,fF,fF] rfl rfl (any_of HT_.out (by kernel_rfl)) (fun _ _ _ h => h) (Or.inl ⟨by rfl,?_⟩) ?_ ?_
  rotate_left
  ·intro w'
   go_simp
   first|(with_reducible rfl)|(simp only [Instr.field,go_sem, *]; rfl)
  rotate_left
  ·simp only [Act.put,lS,lZ,lC,i64_w,i32_w]
   rfl
  refine pure_ (i:=5) (N:=some 40) (v:=?_) (a':=?_) #[fF,tT,tT,fF,fF,tT,fF,fF,fF,fF,fF,fF,fF,fF,fF,fF,fF,fF,fF,fF,fF,fF,fF,fF,fF,fF,fF,fF,fF,fF,fF,fF,fF,fF,fF,fF,fF,fF,fF,fF,fF,fF,fF,fF,fF,fF,fF,fF,fF] rfl rfl (any_of HT_.out (by kernel_rfl)) (fun _ _ _ h => h) (Or.inl ⟨by rfl,?_⟩) ?_ ?_
  rotate_left
  ·intro w'
   go_simp
   first|(with_reducible rfl)|(simp only [Instr.field,go_sem, *]; rfl)
  rotate_left
  ·simp only [Act.put,lS,lZ,lC,i64_w,i32_w]
   rfl
  refine pure_ (i:=6) (N:=some 41) (v:=?_) (a':=?_) #[fF,tT,tT,fF,fF,tT,tT,fF,fF,fF,fF,fF,fF,fF,fF,fF,fF,fF,fF,fF,fF,fF,fF,fF,fF,fF,fF,fF,fF,fF,fF,fF,fF,fF,fF,fF,fF,fF,fF,fF,fF,fF,fF,fF,fF,fF,fF,fF,fF] rfl rfl (any_of HT_.out (by kernel_rfl)) (fun _ _ _ h => h) (Or.inl ⟨by rfl,?_⟩) ?_ ?_
  rotate_left
  ·intro w'
   go_simp
   first|(with_reducible rfl)|(simp only [Instr.field,go_sem, *]; rfl)
  rotate_left
  ·simp only [Act.put,lS,lZ,lC,i64_w,i32_w]
   rfl
  refine pure_ (i:=7) (N:=some 42) (v:=?_) (a':=?_) #[fF,tT,tT,fF,fF,tT,tT,tT,fF,fF,fF,fF,fF,fF,fF,fF,fF,fF,fF,fF,fF,fF,fF,fF,fF,fF,fF,fF,fF,fF,fF,fF,fF,fF,fF,fF,fF,fF,fF,fF,fF,fF,fF,fF,fF,fF,fF,fF,fF] rfl rfl (any_of HT_.out (by kernel_rfl)) (fun _ _ _ h => h) (Or.inl ⟨by rfl,?_⟩) ?_ ?_
  rotate_left
  ·intro w'
   go_simp
   first|(with_reducible rfl)|(simp only [Instr.field,go_sem, *]; rfl)
  rotate_left
  ·simp only [Act.put,lS,lZ,lC,i64_w,i32_w]
   rfl
  refine pure_ (i:=8) (N:=some 43) (v:=?_) (a':=?_) #[fF,tT,tT,fF,fF,tT,tT,tT,tT,fF,fF,fF,fF,fF,fF,fF,fF,fF,fF,fF,fF,fF,fF,fF,fF,fF,fF,fF,fF,fF,fF,fF,fF,fF,fF,fF,fF,fF,fF,fF,fF,fF,fF,fF,fF,fF,fF,fF,fF] rfl rfl (any_of HT_.out (by kernel_rfl)) (fun _ _ _ h => h) (Or.inl ⟨by rfl,?_⟩) ?_ ?_
  rotate_left
  ·intro w'
   go_simp
   first|(with_reducible rfl)|(simp only [Instr.field,go_sem, *]; rfl)
  rotate_left
  ·simp only [Act.put,lS,lZ,lC,i64_w,i32_w]
   rfl
  refine pure_ (i:=9) (N:=some 44) (v:=?_) (a':=?_) #[fF,tT,tT,fF,fF,tT,tT,tT,tT,tT,fF,fF,fF,fF,fF,fF,fF,fF,fF,fF,fF,fF,fF,fF,fF,fF,fF,fF,fF,fF,fF,fF,fF,fF,fF,fF,fF,fF,fF,fF,fF,fF,fF,fF,fF,fF,fF,fF,fF] rfl rfl (any_of HT_.out (by kernel_rfl)) (fun _ _ _ h => h) (Or.inl ⟨by rfl,?_⟩) ?_ ?_
  rotate_left
  ·intro w'
   go_simp
   first|(with_reducible rfl)|(simp only [Instr.field,go_sem, *]; rfl)
  rotate_left
  ·simp only [Act.put,lS,lZ,lC,i64_w,i32_w]
   rfl
  refine pure_ (i:=10) (N:=some 45) (v:=?_) (a':=?_) #[fF,tT,tT,fF,fF,tT,tT,tT,tT,tT,tT,fF,fF,fF,fF,fF,fF,fF,fF,fF,fF,fF,fF,fF,fF,fF,fF,fF,fF,fF,fF,fF,fF,fF,fF,fF,fF,fF,fF,fF,fF,fF,fF,fF,fF,fF,fF,fF,fF] rfl rfl (any_of HT_.out (by kernel_rfl)) (fun _ _ _ h => h) (Or.inl ⟨by rfl,?_⟩) ?_ ?_
  rotate_left
  ·intro w'
   go_simp
   first|(with_reducible rfl)|(simp only [Instr.field,go_sem, *]; rfl)
  rotate_left
  ·simp only [Act.put,lS,lZ,lC,i64_w,i32_w]
   rfl
  refine pure_ (i:=14) (N:=some 49) (v:=?_) (a':=?_) #[fF,tT,tT,fF,fF,tT,tT,tT,tT,tT,tT,fF,fF,fF,tT,fF,fF,fF,fF,fF,fF,fF,fF,fF,fF,fF,fF,fF,fF,fF,fF,fF,fF,fF,fF,fF,fF,fF,fF,fF,fF,fF,fF,fF,fF,fF,fF,fF,fF] rfl rfl (any_of HT_.out (by kernel_rfl)) (fun _ _ _ h => h) (Or.inl ⟨by rfl,?_⟩) ?_ ?_
  rotate_left
  ·intro w'
   go_simp
   first|(with_reducible rfl)|(simp only [Instr.field,go_sem, *]; rfl)
  rotate_left
  ·simp only [Act.put,lS,lZ,lC,i64_w,i32_w]
   rfl
  refine pure_ (i:=15) (N:=some 50) (v:=?_) (a':=?_) #[fF,tT,tT,fF,fF,tT,tT,tT,tT,tT,tT,fF,fF,fF,tT,tT,fF,fF,fF,fF,fF,fF,fF,fF,fF,fF,fF,fF,fF,fF,fF,fF,fF,fF,fF,fF,fF,fF,fF,fF,fF,fF,fF,fF,fF,fF,fF,fF,fF] rfl rfl (any_of HT_.out (by kernel_rfl)) (fun _ _ _ h => h) (Or.inl ⟨by rfl,?_⟩) ?_ ?_
  rotate_left
  ·intro w'
   go_simp
   first|(with_reducible rfl)|(simp only [Instr.field,go_sem, *]; rfl)
  rotate_left
  ·simp only [Act.put,lS,lZ,lC,i64_w,i32_w]
   rfl
  refine pure_ (i:=16) (N:=some 51) (v:=?_) (a':=?_) #[fF,tT,tT,fF,fF,tT,tT,tT,tT,tT,tT,fF,fF,fF,tT,tT,tT,fF,fF,fF,fF,fF,fF,fF,fF,fF,fF,fF,fF,fF,fF,fF,fF,fF,fF,fF,fF,fF,fF,fF,fF,fF,fF,fF,fF,fF,fF,fF,fF] rfl rfl (any_of HT_.out (by kernel_rfl)) (fun _ _ _ h => h) (Or.inl ⟨by rfl,?_⟩) ?_ ?_
  rotate_left
  ·intro w'
   go_simp
   first|(with_reducible rfl)|(simp only [Instr.field,go_sem, *]; rfl)
  rotate_left
  ·simp only [Act.put,lS,lZ,lC,i64_w,i32_w]
   rfl
  refine pure_ (i:=17) (N:=some 52) (v:=?_) (a':=?_) #[fF,tT,tT,fF,fF,tT,tT,tT,tT,tT,tT,fF,fF,fF,tT,tT,tT,tT,fF,fF,fF,fF,fF,fF,fF,fF,fF,fF,fF,fF,fF,fF,fF,fF,fF,fF,fF,fF,fF,fF,fF,fF,fF,fF,fF,fF,fF,fF,fF] rfl rfl (any_of HT_.out (by kernel_rfl)) (fun _ _ _ h => h) (Or.inl ⟨by rfl,?_⟩) ?_ ?_
  rotate_left
  ·intro w'
   go_simp
   first|(with_reducible rfl)|(simp only [Instr.field,go_sem, *]; rfl)
  rotate_left
  ·simp only [Act.put,lS,lZ,lC,i64_w,i32_w]
   rfl
  refine take_ (i:=0) (N:=some 35) (v:=?_) (a':=?_) #[tT,tT,tT,fF,fF,tT,tT,tT,tT,tT,tT,fF,fF,fF,tT,tT,tT,tT,fF,fF,fF,fF,fF,fF,fF,fF,fF,fF,fF,fF,fF,fF,fF,fF,fF,fF,fF,fF,fF,fF,fF,fF,fF,fF,fF,fF,fF,fF,fF] rfl rfl (take_ofW HT_.out HW_.out (by kernel_rfl)) (fun _ _ _ h => h) (Or.inl ⟨by rfl,?_⟩) hHeld ?_ ?_
  rotate_left
  ·intro w' s0
   go_simp
   first|(with_reducible rfl)|(simp only [Instr.field,go_sem, *]; rfl)
  rotate_left
  ·simp only [Act.put,lS,lZ,lC,i64_w,i32_w]
   rfl
  refine take_ (i:=4) (N:=some 39) (v:=?_) (a':=?_) #[tT,tT,tT,fF,tT,tT,tT,tT,tT,tT,tT,fF,fF,fF,tT,tT,tT,tT,fF,fF,fF,fF,fF,fF,fF,fF,fF,fF,fF,fF,fF,fF,fF,fF,fF,fF,fF,fF,fF,fF,fF,fF,fF,fF,fF,fF,fF,fF,fF] rfl rfl (take_ofW HT_.out HW_.out (by kernel_rfl)) (fun _ _ _ h => h) (Or.inl ⟨by rfl,?_⟩) hHeld ?_ ?_
  rotate_left
  ·intro w' s0
   go_simp
   first|(with_reducible rfl)|(simp only [Instr.field,go_sem, *]; rfl)
  rotate_left
  ·simp only [Act.put,lS,lZ,lC,i64_w,i32_w]
   rfl
  refine take_ (i:=13) (N:=some 48) (v:=?_) (a':=?_) #[tT,tT,tT,fF,tT,tT,tT,tT,tT,tT,tT,fF,fF,tT,tT,tT,tT,tT,fF,fF,fF,fF,fF,fF,fF,fF,fF,fF,fF,fF,fF,fF,fF,fF,fF,fF,fF,fF,fF,fF,fF,fF,fF,fF,fF,fF,fF,fF,fF] rfl rfl (take_ofW HT_.out HW_.out (by kernel_rfl)) (fun _ _ _ h => h) (Or.inl ⟨by rfl,?_⟩) hHeld ?_ ?_
  rotate_left
  ·intro w' s0
   go_simp
   first|(with_reducible rfl)|(simp only [Instr.field,go_sem, *]; rfl)
  rotate_left
  ·simp only [Act.put,lS,lZ,lC,i64_w,i32_w]
   rfl
  refine one_ (i:=3) (N:=some 38) #[tT,tT,tT,tT,tT,tT,tT,tT,tT,tT,tT,fF,fF,tT,tT,tT,tT,tT,fF,fF,fF,fF,fF,fF,fF,fF,fF,fF,fF,fF,fF,fF,fF,fF,fF,fF,fF,fF,fF,fF,fF,fF,fF,fF,fF,fF,fF,fF,fF] rfl rfl (one_of HT_.out (by kernel_rfl)) (by decide) (fun K hK => ?_)
  refine goes_ Try.func20 (by kernel_rfl) rfl #[.agg #[.slice Ao62 t185.length co62],.int .i64 (Int.tmod t189 (t185.length : Int)),.int .i64 (Int.tmod t190 (wrap64 ((t185.length : Int) + 1)))] (by rfl) rfl rfl (by (try simp only [List.map_toArray,List.map_cons,List.map_nil]); first|done|rfl|(simp only [List.length_drop,List.length_take]; rfl)) ?_
  with_reducible refine (impl_SpanAt.calls k _ _ t185 (Int.tmod t189 (t185.length : Int)) (Int.tmod t190 (wrap64 ((t185.length : Int) + 1))) t195 _ ?side1 ?side2 A12.out).mono ?_
  (case side1 => repeat (first|exact (Kd.R_reads' HO187.out).2.2|(with_reducible refine Kd.C_alloc ?_ _)|(with_reducible refine Kd.C_drewN ?_ _)|(with_reducible refine Kd.C_drew ?_)))
  (case side2 => exact (Kd.R_reads' HO187.out).2.1)
  rintro e w66 ⟨rfl,hb⟩
  refine ⟨_,rfl,?_⟩
  have n0_:=Aside0.mk (Kd.R_below (by (with_reducible repeat (first|apply Kd.R_alloc|apply Kd.R_drewN|apply Kd.R_drew)); exact HO187.out) hb)
  have n1_:=Aside0.mk (Kd.R_below (by (with_reducible repeat (first|apply Kd.R_alloc|apply Kd.R_drewN|apply Kd.R_drew)); exact HO194.out) hb)
  have n2_:=Aside0.mk (blk_below (g:=gb188) (o:=.cells #[.slice Ao62 t185.length co62] 26 (0,0)) (by (with_reducible repeat (first|refine blk_drewN ?_ _|refine blk_drew ?_|refine blk_alloc ?_ _)); exact BK188.out) hb)
  have n3_:=Aside0.mk (below_step (by repeat (first|(with_reducible first|exact HB.out|apply bA|apply bD|apply bE|refine below_set ?_ GE188.out)|exact HB.out)) hb)
  clear HO187
  clear HO194
  clear BK188
  clear HB
  have HO187:=n0_
  have HO194:=n1_
  have BK188:=n2_
  have HB:=n3_
  clear n0_ n1_ n2_ n3_
  (try clear hb)
  (try clear hb2)
  (try clear hk)
  (try clear hi)
  refine hK.out _ _ ((blk_cell BK188.out 0).trans rfl) (fun hHeld => ?_)
  clear hK K
  refine norm_ (a':=?_) ?_ ?_
  rotate_left
  ·show Act.put _ (some 38) _ = _
   simp only [Act.put,lS,lZ,lC,i64_w,i32_w]
   rfl
  refine one_ (i:=11) (N:=some 46) #[tT,tT,tT,tT,tT,tT,tT,tT,tT,tT,tT,tT,fF,tT,tT,tT,tT,tT,fF,fF,fF,fF,fF,fF,fF,fF,fF,fF,fF,fF,fF,fF,fF,fF,fF,fF,fF,fF,fF,fF,fF,fF,fF,fF,fF,fF,fF,fF,fF] rfl rfl (one_of HT_.out (by kernel_rfl)) (by decide) (fun K hK => ?_)
  refine goes_ Try.func20 (by kernel_rfl) rfl #[.agg #[.slice Ao62 t185.length co62],.int .i64 (Int.tmod (wrap64 ((Int.tmod t189 (t185.length : Int)) + (Int.tmod t190 (wrap64 ((t185.length : Int) + 1))))) (t185.length : Int)),.int .i64 (Int.tmod t191 (wrap64 ((wrap64 ((t185.length : Int) + 1)) - (Int.tmod t190 (wrap64 ((t185.length : Int) + 1))))))] (by rfl) rfl rfl (by (try simp only [List.map_toArray,List.map_cons,List.map_nil]); first|done|rfl|(simp only [List.length_drop,List.length_take]; rfl)) ?_
  with_reducible refine (impl_SpanAt.calls k _ _ t185 (Int.tmod (wrap64 ((Int.tmod t189 (t185.length : Int)) + (Int.tmod t190 (wrap64 ((t185.length : Int) + 1))))) (t185.length : Int)) (Int.tmod t191 (wrap64 ((wrap64 ((t185.length : Int) + 1)) - (Int.tmod t190 (wrap64 ((t185.length : Int) + 1)))))) t196 _ ?side1 ?side2 A13.out).mono ?_
  (case side1 => repeat (first|exact (Kd.R_reads' HO187.out).2.2|(with_reducible refine Kd.C_alloc ?_ _)|(with_reducible refine Kd.C_drewN ?_ _)|(with_reducible refine Kd.C_drew ?_)))
  (case side2 => exact (Kd.R_reads' HO187.out).2.1)
  rintro e w67 ⟨rfl,hb⟩
  refine ⟨_,rfl,?_⟩
  have n0_:=Aside0.mk (Kd.R_below (by (with_reducible repeat (first|apply Kd.R_alloc|apply Kd.R_drewN|apply Kd.R_drew)); exact HO187.out) hb)
  have n1_:=Aside0.mk (Kd.R_below (by (with_reducible repeat (first|apply Kd.R_alloc|apply Kd.R_drewN|apply Kd.R_drew)); exact HO194.out) hb)
  have n2_:=Aside0.mk (blk_below (g:=gb188) (o:=.cells #[.slice Ao62 t185.length co62] 26 (0,0)) (by (with_reducible repeat (first|refine blk_drewN ?_ _|refine blk_drew ?_|refine blk_alloc ?_ _)); exact BK188.out) hb)
  have n3_:=Aside0.mk (below_step (by repeat (first|(with_reducible first|exact HB.out|apply bA|apply bD|apply bE|refine below_set ?_ GE188.out)|exact HB.out)) hb)
  clear HO187
  clear HO194
  clear BK188
  clear HB
  have HO187:=n0_
  have HO194:=n1_
  have BK188:=n2_
  have HB:=n3_
  clear n0_ n1_ n2_ n3_
  (try clear hb)
  (try clear hb2)
  (try clear hk)
  (try clear hi)
  refine hK.out _ _ ((blk_cell BK188.out 0).trans rfl) (fun hHeld => ?_)
  clear hK K
  refine norm_ (a':=?_) ?_ ?_
  rotate_left
  ·show Act.put _ (some 46) _ = _
   simp only [Act.put,lS,lZ,lC,i64_w,i32_w]
   rfl
  refine pure_ (i:=12) (N:=some 47) (v:=?_) (a':=?_) #[tT,tT,tT,tT,tT,tT,tT,tT,tT,tT,tT,tT,tT,tT,tT,tT,tT,tT,fF,fF,fF,fF,fF,fF,fF,fF,fF,fF,fF,fF,fF,fF,fF,fF,fF,fF,fF,fF,fF,fF,fF,fF,fF,fF,fF,fF,fF,fF,fF] rfl rfl (any_of HT_.out (by kernel_rfl)) (fun _ _ _ h => h) (Or.inl ⟨by rfl,?_⟩) ?_ ?_
  rotate_left
  ·intro w'
   go_simp
   first|(with_reducible rfl)|(simp only [Instr.field,go_sem, *]; rfl)
  rotate_left
  ·simp only [Act.put,lS,lZ,lC,i64_w,i32_w]
   rfl
  refine one_ (i:=18) (N:=some 53) #[tT,tT,tT,tT,tT,tT,tT,tT,tT,tT,tT,tT,tT,tT,tT,tT,tT,tT,tT,fF,fF,fF,fF,fF,fF,fF,fF,fF,fF,fF,fF,fF,fF,fF,fF,fF,fF,fF,fF,fF,fF,fF,fF,fF,fF,fF,fF,fF,fF] rfl rfl (one_of HT_.out (by kernel_rfl)) (by decide) (fun K hK => ?_)
  refine goes_ Try.func20 (by kernel_rfl) rfl #[.agg #[.slice Ao62 t185.length co62],.int .i64 (Int.tmod t189 (t185.length : Int)),.int .i64 (wrap64 ((Int.tmod t190 (wrap64 ((t185.length : Int) + 1))) + (Int.tmod t191 (wrap64 ((wrap64 ((t185.length : Int) + 1)) - (Int.tmod t190 (wrap64 ((t185.length : Int) + 1))))))))] (by rfl) rfl rfl (by (try simp only [List.map_toArray,List.map_cons,List.map_nil]); first|done|rfl|(simp only [List.length_drop,List.length_take]; rfl)) ?_
  with_reducible refine (impl_SpanAt.calls k _ _ t185 (Int.tmod t189 (t185.length : Int)) (wrap64 ((Int.tmod t190 (wrap64 ((t185.length : Int) + 1))) + (Int.tmod t191 (wrap64 ((wrap64 ((t185.length : Int) + 1)) - (Int.tmod t190 (wrap64 ((t185.length : Int) + 1)))))))) t197 _ ?side1 ?side2 A14.out).mono ?_
  (case side1 => repeat (first|exact (Kd.R_reads' HO187.out).2.2|(with_reducible refine Kd.C_alloc ?_ _)|(with_reducible refine Kd.C_drewN ?_ _)|(with_reducible refine Kd.C_drew ?_)))
  (case side2 => exact (Kd.R_reads' HO187.out).2.1)
  rintro e w68 ⟨rfl,hb⟩
  refine ⟨_,rfl,?_⟩
  have n0_:=Aside0.mk (Kd.R_below (by (with_reducible repeat (first|apply Kd.R_alloc|apply Kd.R_drewN|apply Kd.R_drew)); exact HO187.out) hb)
  have n1_:=Aside0.mk (Kd.R_below (by (with_reducible repeat (first|apply Kd.R_alloc|apply Kd.R_drewN|apply Kd.R_drew)); exact HO194.out) hb)
  have n2_:=Aside0.mk (blk_below (g:=gb188) (o:=.cells #[.slice Ao62 t185.length co62] 26 (0,0)) (by (with_reducible repeat (first|refine blk_drewN ?_ _|refine blk_drew ?_|refine blk_alloc ?_ _)); exact BK188.out) hb)
  have n3_:=Aside0.mk (below_step (by repeat (first|(with_reducible first|exact HB.out|apply bA|apply bD|apply bE|refine below_set ?_ GE188.out)|exact HB.out)) hb)
  clear HO187
  clear HO194
  clear BK188
  clear HB
  have HO187:=n0_
  have HO194:=n1_
  have BK188:=n2_
  have HB:=n3_
  clear n0_ n1_ n2_ n3_
  (try clear hb)
  (try clear hb2)
  (try clear hk)
  (try clear hi)
  refine hK.out _ _ ((blk_cell BK188.out 0).trans rfl) (fun hHeld => ?_)
  clear hK K
  refine norm_ (a':=?_) ?_ ?_
  rotate_left
  ·show Act.put _ (some 53) _ = _
   simp only [Act.put,lS,lZ,lC,i64_w,i32_w]
   rfl
  refine pure_ (i:=19) (N:=some 54) (v:=?_) (a':=?_) #[tT,tT,tT,tT,tT,tT,tT,tT,tT,tT,tT,tT,tT,tT,tT,tT,tT,tT,tT,tT,fF,fF,fF,fF,fF,fF,fF,fF,fF,fF,fF,fF,fF,fF,fF,fF,fF,fF,fF,fF,fF,fF,fF,fF,fF,fF,fF,fF,fF] rfl rfl (any_of HT_.out (by kernel_rfl)) (fun _ _ _ h => h) (Or.inl ⟨by rfl,?_⟩) ?_ ?_
  rotate_left
  ·intro w'
   go_simp
   first|(with_reducible rfl)|(simp only [Instr.field,go_sem, *]; rfl)
  rotate_left
  ·simp only [Act.put,lS,lZ,lC,i64_w,i32_w]
   rfl
  refine pure_ (i:=20) (N:=some 55) (v:=?_) (a':=?_) #[tT,tT,tT,tT,tT,tT,tT,tT,tT,tT,tT,tT,tT,tT,tT,tT,tT,tT,tT,tT,tT,fF,fF,fF,fF,fF,fF,fF,fF,fF,fF,fF,fF,fF,fF,fF,fF,fF,fF,fF,fF,fF,fF,fF,fF,fF,fF,fF,fF] rfl rfl (any_of HT_.out (by kernel_rfl)) (fun _ _ _ h => h) (Or.inl ⟨by rfl,?_⟩) ?_ ?_
  rotate_left
  ·intro w'
   go_simp
   first|(with_reducible rfl)|(simp only [Instr.field,go_sem, *]; rfl)
  rotate_left
  ·simp only [Act.put,lS,lZ,lC,i64_w,i32_w]
   rfl
  refine pure_ (i:=22) (N:=some 57) (v:=?_) (a':=?_) #[tT,tT,tT,tT,tT,tT,tT,tT,tT,tT,tT,tT,tT,tT,tT,tT,tT,tT,tT,tT,tT,fF,tT,fF,fF,fF,fF,fF,fF,fF,fF,fF,fF,fF,fF,fF,fF,fF,fF,fF,fF,fF,fF,fF,fF,fF,fF,fF,fF] rfl rfl (any_of HT_.out (by kernel_rfl)) (fun _ _ _ h => h) (Or.inl ⟨by rfl,?_⟩) ?_ ?_
  rotate_left
  ·intro w'
   go_simp
   first|(with_reducible rfl)|(simp only [Instr.field,go_sem, *]; rfl)
  rotate_left
  ·simp only [Act.put,lS,lZ,lC,i64_w,i32_w]
   rfl
  refine pure_ (i:=23) (N:=some 58) (v:=?_) (a':=?_) #[tT,tT,tT,tT,tT,tT,tT,tT,tT,tT,tT,tT,tT,tT,tT,tT,tT,tT,tT,tT,tT,fF,tT,tT,fF,fF,fF,fF,fF,fF,fF,fF,fF,fF,fF,fF,fF,fF,fF,fF,fF,fF,fF,fF,fF,fF,fF,fF,fF] rfl rfl (any_of HT_.out (by kernel_rfl)) (fun _ _ _ h => h) (Or.inl ⟨by rfl,?_⟩) ?_ ?_
  rotate_left
  ·intro w'
   go_simp
   first|(with_reducible rfl)|(simp only [Instr.field,go_sem, *]; rfl)
  rotate_left
  ·simp only [Act.put,lS,lZ,lC,i64_w,i32_w]
   rfl
  refine take_ (i:=21) (N:=some 56) (v:=?_) (a':=?_) #[tT,tT,tT,tT,tT,tT,tT,tT,tT,tT,tT,tT,tT,tT,tT,tT,tT,tT,tT,tT,tT,tT,tT,tT,fF,fF,fF,fF,fF,fF,fF,fF,fF,fF,fF,fF,fF,fF,fF,fF,fF,fF,fF,fF,fF,fF,fF,fF,fF] rfl rfl (take_ofW HT_.out HW_.out (by kernel_rfl)) (fun _ _ _ h => h) (Or.inl ⟨by rfl,?_⟩) hHeld ?_ ?_
  rotate_left
  ·intro w' s0
   go_simp
   first|(with_reducible rfl)|(simp only [Instr.field,go_sem, *]; rfl)
  rotate_left
  ·simp only [Act.put,lS,lZ,lC,i64_w,i32_w]
   rfl
  refine take_ (i:=25) (N:=some 60) (v:=?_) (a':=?_) #[tT,tT,tT,tT,tT,tT,tT,tT,tT,tT,tT,tT,tT,tT,tT,tT,tT,tT,tT,tT,tT,tT,tT,tT,fF,tT,fF,fF,fF,fF,fF,fF,fF,fF,fF,fF,fF,fF,fF,fF,fF,fF,fF,fF,fF,fF,fF,fF,fF] rfl rfl (take_ofW HT_.out HW_.out (by kernel_rfl)) (fun _ _ _ h => h) (Or.inl ⟨by rfl,?_⟩) hHeld ?_ ?_
  rotate_left
  ·intro w' s0
   go_simp
   first|(with_reducible rfl)|(simp only [Instr.field,go_sem, *]; rfl)
  rotate_left
  ·simp only [Act.put,lS,lZ,lC,i64_w,i32_w]
   rfl
  refine one_ (i:=24) (N:=some 59) #[tT,tT,tT,tT,tT,tT,tT,tT,tT,tT,tT,tT,tT,tT,tT,tT,tT,tT,tT,tT,tT,tT,tT,tT,tT,tT,fF,fF,fF,fF,fF,fF,fF,fF,fF,fF,fF,fF,fF,fF,fF,fF,fF,fF,fF,fF,fF,fF,fF] rfl rfl (one_of HT_.out (by kernel_rfl)) (by decide) (fun K hK => ?_)
  refine goes_ Try.func20 (by kernel_rfl) rfl #[.agg #[.slice Ao62 t185.length co62],.int .i64 (Int.tmod t189 (t185.length : Int)),.int .i64 (t185.length : Int)] (by rfl) rfl rfl (by (try simp only [List.map_toArray,List.map_cons,List.map_nil]); first|done|rfl|(simp only [List.length_drop,List.length_take]; rfl)) ?_
  with_reducible refine (impl_SpanAt.calls k _ _ t185 (Int.tmod t189 (t185.length : Int)) (t185.length : Int) t198 _ ?side1 ?side2 A16.out).mono ?_
  (case side1 => repeat (first|exact (Kd.R_reads' HO187.out).2.2|(with_reducible refine Kd.C_alloc ?_ _)|(with_reducible refine Kd.C_drewN ?_ _)|(with_reducible refine Kd.C_drew ?_)))
  (case side2 => exact (Kd.R_reads' HO187.out).2.1)
  rintro e w69 ⟨rfl,hb⟩
  refine ⟨_,rfl,?_⟩
  have n0_:=Aside0.mk (Kd.R_below (by (with_reducible repeat (first|apply Kd.R_alloc|apply Kd.R_drewN|apply Kd.R_drew)); exact HO187.out) hb)
  have n1_:=Aside0.mk (Kd.R_below (by (with_reducible repeat (first|apply Kd.R_alloc|apply Kd.R_drewN|apply Kd.R_drew)); exact HO194.out) hb)
  have n2_:=Aside0.mk (blk_below (g:=gb188) (o:=.cells #[.slice Ao62 t185.length co62] 26 (0,0)) (by (with_reducible repeat (first|refine blk_drewN ?_ _|refine blk_drew ?_|refine blk_alloc ?_ _)); exact BK188.out) hb)
  have n3_:=Aside0.mk (below_step (by repeat (first|(with_reducible first|exact HB.out|apply bA|apply bD|apply bE|refine below_set ?_ GE188.out)|exact HB.out)) hb)
  clear HO187
  clear HO194
  clear BK188
  clear HB
  have HO187:=n0_
  have HO194:=n1_
  have BK188:=n2_
  have HB:=n3_
  clear n0_ n1_ n2_ n3_
  (try clear hb)
  (try clear hb2)
  (try clear hk)
  (try clear hi)
  refine hK.out _ _ ((blk_cell BK188.out 0).trans rfl) (fun hHeld => ?_)
  clear hK K
  refine norm_ (a':=?_) ?_ ?_
  rotate_left
  ·show Act.put _ (some 59) _ = _
   simp only [Act.put,lS,lZ,lC,i64_w,i32_w]
   rfl
  refine one_ (i:=26) (N:=some 61) #[tT,tT,tT,tT,tT,tT,tT,tT,tT,tT,tT,tT,tT,tT,tT,tT,tT,tT,tT,tT,tT,tT,tT,tT,tT,tT,tT,fF,fF,fF,fF,fF,fF,fF,fF,fF,fF,fF,fF,fF,fF,fF,fF,fF,fF,fF,fF,fF,fF] rfl rfl (one_of HT_.out (by kernel_rfl)) (by decide) (fun K hK => ?_)
  refine goes_ Try.func13 (by kernel_rfl) rfl #[.agg #[.slice Ao62 t185.length co62]] (by rfl) rfl rfl (by (try simp only [List.map_toArray,List.map_cons,List.map_nil]); first|done|rfl|(simp only [List.length_drop,List.length_take]; rfl)) ?_
  with_reducible refine (impl_ScaleSum.calls k _ _ t185 t199 _ ?side1 ?side2 A17.out).mono ?_
  (case side1 => repeat (first|exact (Kd.R_reads' HO187.out).2.2|(with_reducible refine Kd.C_alloc ?_ _)|(with_reducible refine Kd.C_drewN ?_ _)|(with_reducible refine Kd.C_drew ?_)))
  (case side2 => exact (Kd.R_reads' HO187.out).2.1)
  rintro e w70 ⟨rfl,hb⟩
  refine ⟨_,rfl,?_⟩
  have n0_:=Aside0.mk (Kd.R_below (by (with_reducible repeat (first|apply Kd.R_alloc|apply Kd.R_drewN|apply Kd.R_drew)); exact HO187.out) hb)
  have n1_:=Aside0.mk (Kd.R_below (by (with_reducible repeat (first|apply Kd.R_alloc|apply Kd.R_drewN|apply Kd.R_drew)); exact HO194.out) hb)
  have n2_:=Aside0.mk (blk_below (g:=gb188) (o:=.cells #[.slice Ao62 t185.length co62] 26 (0,0)) (by (with_reducible repeat (first|refine blk_drewN ?_ _|refine blk_drew ?_|refine blk_alloc ?_ _)); exact BK188.out) hb)
  have n3_:=Aside0.mk (below_step (by repeat (first|(with_reducible first|exact HB.out|apply bA|apply bD|apply bE|refine below_set ?_ GE188.out)|exact HB.out)) hb)
  clear HO187
  clear HO194
  clear BK188
  clear HB
  have HO187:=n0_
  have HO194:=n1_
  have BK188:=n2_
  have HB:=n3_
  clear n0_ n1_ n2_ n3_
  (try clear hb)
  (try clear hb2)
  (try clear hk)
  (try clear hi)
  refine hK.out _ _ ((blk_cell BK188.out 0).trans rfl) (fun hHeld => ?_)
  clear hK K
  refine norm_ (a':=?_) ?_ ?_
  rotate_left
  ·show Act.put _ (some 61) _ = _
   simp only [Act.put,lS,lZ,lC,i64_w,i32_w]
   rfl
  refine pure_ (i:=27) (N:=some 62) (v:=?_) (a':=?_) #[tT,tT,tT,tT,tT,tT,tT,tT,tT,tT,tT,tT,tT,tT,tT,tT,tT,tT,tT,tT,tT,tT,tT,tT,tT,tT,tT,tT,fF,fF,fF,fF,fF,fF,fF,fF,fF,fF,fF,fF,fF,fF,fF,fF,fF,fF,fF,fF,fF] rfl rfl (any_of HT_.out (by kernel_rfl)) (fun _ _ _ h => h) (Or.inl ⟨by rfl,?_⟩) ?_ ?_
  rotate_left
  ·intro w'
   go_simp
   first|(with_reducible rfl)|(simp only [Instr.field,go_sem, *]; rfl)
  rotate_left
  ·simp only [Act.put,lS,lZ,lC,i64_w,i32_w]
   rfl
  refine pure_ (i:=28) (N:=some 63) (v:=?_) (a':=?_) #[tT,tT,tT,tT,tT,tT,tT,tT,tT,tT,tT,tT,tT,tT,tT,tT,tT,tT,tT,tT,tT,tT,tT,tT,tT,tT,tT,tT,tT,fF,fF,fF,fF,fF,fF,fF,fF,fF,fF,fF,fF,fF,fF,fF,fF,fF,fF,fF,fF] rfl rfl (any_of HT_.out (by kernel_rfl)) (fun _ _ _ h => h) (Or.inl ⟨by rfl,?_⟩) ?_ ?_
  rotate_left
  ·intro w'
   go_simp
   first|(with_reducible rfl)|(simp only [Instr.field,go_sem, *]; rfl)
  rotate_left
  ·simp only [Act.put,lS,lZ,lC,i64_w,i32_w]
   rfl
  refine pure_ (i:=29) (N:=some 64) (v:=?_) (a':=?_) #[tT,tT,tT,tT,tT,tT,tT,tT,tT,tT,tT,tT,tT,tT,tT,tT,tT,tT,tT,tT,tT,tT,tT,tT,tT,tT,tT,tT,tT,tT,fF,fF,fF,fF,fF,fF,fF,fF,fF,fF,fF,fF,fF,fF,fF,fF,fF,fF,fF] rfl rfl (any_of HT_.out (by kernel_rfl)) (fun _ _ _ h => h) (Or.inl ⟨by rfl,?_⟩) ?_ ?_
  rotate_left
  ·intro w'
   go_simp
   first|(with_reducible rfl)|(simp only [Instr.field,go_sem, *]; rfl)
  rotate_left
  ·simp only [Act.put,lS,lZ,lC,i64_w,i32_w]
   rfl
  refine pure_ (i:=30) (N:=some 65) (v:=?_) (a':=?_) #[tT,tT,tT,tT,tT,tT,tT,tT,tT,tT,tT,tT,tT,tT,tT,tT,tT,tT,tT,tT,tT,tT,tT,tT,tT,tT,tT,tT,tT,tT,tT,fF,fF,fF,fF,fF,fF,fF,fF,fF,fF,fF,fF,fF,fF,fF,fF,fF,fF] rfl rfl (any_of HT_.out (by kernel_rfl)) (fun _ _ _ h => h) (Or.inl ⟨by rfl,?_⟩) ?_ ?_
  rotate_left
  ·intro w'
   go_simp
   first|(with_reducible rfl)|(simp only [Instr.field,go_sem, *]; rfl)
  rotate_left
  ·simp only [Act.put,lS,lZ,lC,i64_w,i32_w]
   rfl
  refine pure_ (i:=32) (N:=some 67) (v:=?_) (a':=?_) #[tT,tT,tT,tT,tT,tT,tT,tT,tT,tT,tT,tT,tT,tT,tT,tT,tT,tT,tT,tT,tT,tT,tT,tT,tT,tT,tT,tT,tT,tT,tT,fF,tT,fF,fF,fF,fF,fF,fF,fF,fF,fF,fF,fF,fF,fF,fF,fF,fF] rfl rfl (any_of HT_.out (by kernel_rfl)) (fun _ _ _ h => h) (Or.inl ⟨by rfl,?_⟩) ?_ ?_
  rotate_left
  ·intro w'
   go_simp
   first|(with_reducible rfl)|(simp only [Instr.field,go_sem, *]; rfl)
  rotate_left
  ·simp only [Act.put,lS,lZ,lC,i64_w,i32_w]
   rfl
  refine pure_ (i:=33) (N:=some 68) (v:=?_) (a':=?_) #[tT,tT,tT,tT,tT,tT,tT,tT,tT,tT,tT,tT,tT,tT,tT,tT,tT,tT,tT,tT,tT,tT,tT,tT,tT,tT,tT,tT,tT,tT,tT,fF,tT,tT,fF,fF,fF,fF,fF,fF,fF,fF,fF,fF,fF,fF,fF,fF,fF] rfl rfl (any_of HT_.out (by kernel_rfl)) (fun _ _ _ h => h) (Or.inl ⟨by rfl,?_⟩) ?_ ?_
  rotate_left
  ·intro w'
   go_simp
   first|(with_reducible rfl)|(simp only [Instr.field,go_sem, *]; rfl)
  rotate_left
  ·simp only [Act.put,lS,lZ,lC,i64_w,i32_w]
   rfl
  refine take_ (i:=31) (N:=some 66) (v:=?_) (a':=?_) #[tT,tT,tT,tT,tT,tT,tT,tT,tT,tT,tT,tT,tT,tT,tT,tT,tT,tT,tT,tT,tT,tT,tT,tT,tT,tT,tT,tT,tT,tT,tT,tT,tT,tT,fF,fF,fF,fF,fF,fF,fF,fF,fF,fF,fF,fF,fF,fF,fF] rfl rfl (take_ofW HT_.out HW_.out (by kernel_rfl)) (fun _ _ _ h => h) (Or.inl ⟨by rfl,?_⟩) hHeld ?_ ?_
  rotate_left
  ·intro w' s0
   go_simp
   first|(with_reducible rfl)|(simp only [Instr.field,go_sem, *]; rfl)
  rotate_left
  ·simp only [Act.put,lS,lZ,lC,i64_w,i32_w]
   rfl
  refine one_ (i:=34) (N:=some 69) #[tT,tT,tT,tT,tT,tT,tT,tT,tT,tT,tT,tT,tT,tT,tT,tT,tT,tT,tT,tT,tT,tT,tT,tT,tT,tT,tT,tT,tT,tT,tT,tT,tT,tT,tT,fF,fF,fF,fF,fF,fF,fF,fF,fF,fF,fF,fF,fF,fF] rfl rfl (one_of HT_.out (by kernel_rfl)) (by decide) (fun K hK => ?_)
  refine goes_ Try.func20 (by kernel_rfl) rfl #[.agg #[.slice Ao62 t185.length co62],.int .i64 (Int.tmod t189 (t185.length : Int)),.int .i64 (Int.tmod t190 (wrap64 ((t185.length : Int) + 1)))] (by rfl) rfl rfl (by (try simp only [List.map_toArray,List.map_cons,List.map_nil]); first|done|rfl|(simp only [List.length_drop,List.length_take]; rfl)) ?_
  with_reducible refine (impl_SpanAt.calls k _ _ t185 (Int.tmod t189 (t185.length : Int)) (Int.tmod t190 (wrap64 ((t185.length : Int) + 1))) t200 _ ?side1 ?side2 A19.out).mono ?_
  (case side1 => repeat (first|exact (Kd.R_reads' HO187.out).2.2|(with_reducible refine Kd.C_alloc ?_ _)|(with_reducible refine Kd.C_drewN ?_ _)|(with_reducible refine Kd.C_drew ?_)))
  (case side2 => exact (Kd.R_reads' HO187.out).2.1)
  rintro e w71 ⟨rfl,hb⟩
  refine ⟨_,rfl,?_⟩
  have n0_:=Aside0.mk (Kd.R_below (by (with_reducible repeat (first|apply Kd.R_alloc|apply Kd.R_drewN|apply Kd.R_drew)); exact HO187.out) hb)
  have n1_:=Aside0.mk (Kd.R_below (by (with_reducible repeat (first|apply Kd.R_alloc|apply Kd.R_drewN|apply Kd.R_drew)); exact HO194.out) hb)
  have n2_:=Aside0.mk (blk_below (g:=gb188) (o:=.cells #[.slice Ao62 t185.length co62] 26 (0,0)) (by (with_reducible repeat (first|refine blk_drewN ?_ _|refine blk_drew ?_|refine blk_alloc ?_ _)); exact BK188.out) hb)
  have n3_:=Aside0.mk (below_step (by repeat (first|(with_reducible first|exact HB.out|apply bA|apply bD|apply bE|refine below_set ?_ GE188.out)|exact HB.out)) hb)
  clear HO187
  clear HO194
  clear BK188
  clear HB
  have HO187:=n0_
  have HO194:=n1_
  have BK188:=n2_
  have HB:=n3_
  clear n0_ n1_ n2_ n3_
  (try clear hb)
  (try clear hb2)
  (try clear hk)
  (try clear hi)
  obtain ⟨Ao72,co72,eo72⟩:=Kd.R_slice HO194.out
  (first|subst eo72|(injection eo72 with f1_ f2_ f3_; have f4_:=f1_.symm; have f5_:=f3_.symm; clear f1_ f2_ f3_; subst f4_; subst f5_))
  refine hK.out _ _ ((blk_cell BK188.out 0).trans rfl) (fun hHeld => ?_)
  clear hK K
  refine norm_ (a':=?_) ?_ ?_
  rotate_left
  ·show Act.put _ (some 69) _ = _
   simp only [Act.put,lS,lZ,lC,i64_w,i32_w]
   rfl
  refine one_ (i:=35) (N:=some 70) #[tT,tT,tT,tT,tT,tT,tT,tT,tT,tT,tT,tT,tT,tT,tT,tT,tT,tT,tT,tT,tT,tT,tT,tT,tT,tT,tT,tT,tT,tT,tT,tT,tT,tT,tT,tT,fF,fF,fF,fF,fF,fF,fF,fF,fF,fF,fF,fF,fF] rfl rfl (one_of HT_.out (by kernel_rfl)) (by decide) (fun K hK => ?_)
  refine goes_ Try.func21 (by kernel_rfl) rfl #[.slice Ao72 t192.length co72,.int .i64 t200] (by rfl) rfl rfl (by (try simp only [List.map_toArray,List.map_cons,List.map_nil]); first|done|rfl|(simp only [List.length_drop,List.length_take]; rfl)) ?_
  with_reducible refine (laws_has.calls k _ _ t192 t200 false _ ?side1 ?side2 A20.out).mono ?_
  (case side1 => repeat (first|exact (Kd.R_reads' HO194.out).2.2|(with_reducible refine Kd.C_alloc ?_ _)|(with_reducible refine Kd.C_drewN ?_ _)|(with_reducible refine Kd.C_drew ?_)))
  (case side2 => exact (Kd.R_reads' HO194.out).2.1)
  rintro e w' ⟨rfl,⟨nd,rfl⟩⟩
  refine ⟨_,rfl,?_⟩
  refine hK.out _ _ ((blk_cell BK188.out 0).trans rfl) (fun hHeld => ?_)
  clear hK K
  refine norm_ (a':=?_) ?_ ?_
  rotate_left
  ·show Act.put _ (some 70) _ = _
   simp only [Act.put,lS,lZ,lC,i64_w,i32_w]
   rfl
  refine pure_ (i:=36) (N:=some 71) (v:=?_) (a':=?_) #[tT,tT,tT,tT,tT,tT,tT,tT,tT,tT,tT,tT,tT,tT,tT,tT,tT,tT,tT,tT,tT,tT,tT,tT,tT,tT,tT,tT,tT,tT,tT,tT,tT,tT,tT,tT,tT,fF,fF,fF,fF,fF,fF,fF,fF,fF,fF,fF,fF] rfl rfl (any_of HT_.out (by kernel_rfl)) (fun _ _ _ h => h) (Or.inl ⟨by rfl,?_⟩) ?_ ?_
  rotate_left
  ·intro w'
   go_simp
   first|(with_reducible rfl)|(simp only [Instr.field,go_sem, *]; rfl)
  rotate_left
  ·simp only [Act.put,lS,lZ,lC,i64_w,i32_w]
   rfl
  refine pure_ (i:=37) (N:=some 72) (v:=?_) (a':=?_) #[tT,tT,tT,tT,tT,tT,tT,tT,tT,tT,tT,tT,tT,tT,tT,tT,tT,tT,tT,tT,tT,tT,tT,tT,tT,tT,tT,tT,tT,tT,tT,tT,tT,tT,tT,tT,tT,tT,fF,fF,fF,fF,fF,fF,fF,fF,fF,fF,fF] rfl rfl (any_of HT_.out (by kernel_rfl)) (fun _ _ _ h => h) (Or.inl ⟨by rfl,?_⟩) ?_ ?_
  rotate_left
  ·intro w'
   go_simp
   first|(with_reducible rfl)|(simp only [Instr.field,go_sem, *]; rfl)
  rotate_left
  ·simp only [Act.put,lS,lZ,lC,i64_w,i32_w]
   rfl
  refine pure_ (i:=38) (N:=some 73) (v:=undef) (a':=?_) #[tT,tT,tT,tT,tT,tT,tT,tT,tT,tT,tT,tT,tT,tT,tT,tT,tT,tT,tT,tT,tT,tT,tT,tT,tT,tT,tT,tT,tT,tT,tT,tT,tT,tT,tT,tT,tT,tT,tT,fF,fF,fF,fF,fF,fF,fF,fF,fF,fF] rfl rfl (any_of HT_.out (by kernel_rfl)) (fun _ _ _ h => h) (Or.inr ⟨by rfl,rfl⟩) ?_ ?_
  rotate_left
  ·simp only [Act.put,lS,lZ,lC,i64_w,i32_w]
   rfl
  refine pure_ (i:=39) (N:=some 74) (v:=undef) (a':=?_) #[tT,tT,tT,tT,tT,tT,tT,tT,tT,tT,tT,tT,tT,tT,tT,tT,tT,tT,tT,tT,tT,tT,tT,tT,tT,tT,tT,tT,tT,tT,tT,tT,tT,tT,tT,tT,tT,tT,tT,tT,fF,fF,fF,fF,fF,fF,fF,fF,fF] rfl rfl (any_of HT_.out (by kernel_rfl)) (fun _ _ _ h => h) (Or.inr ⟨by rfl,rfl⟩) ?_ ?_
  rotate_left
  ·simp only [Act.put,lS,lZ,lC,i64_w,i32_w]
   rfl
  refine pure_ (i:=40) (N:=some 75) (v:=?_) (a':=?_) #[tT,tT,tT,tT,tT,tT,tT,tT,tT,tT,tT,tT,tT,tT,tT,tT,tT,tT,tT,tT,tT,tT,tT,tT,tT,tT,tT,tT,tT,tT,tT,tT,tT,tT,tT,tT,tT,tT,tT,tT,tT,fF,fF,fF,fF,fF,fF,fF,fF] rfl rfl (any_of HT_.out (by kernel_rfl)) (fun _ _ _ h => h) (Or.inl ⟨by rfl,?_⟩) ?_ ?_
  rotate_left
  ·intro w'
   go_simp
   first|(with_reducible rfl)|(simp only [Instr.field,go_sem, *]; rfl)
  rotate_left
  ·simp only [Act.put,lS,lZ,lC,i64_w,i32_w]
   rfl
  refine pure_ (i:=41) (N:=some 76) (v:=?_) (a':=?_) #[tT,tT,tT,tT,tT,tT,tT,tT,tT,tT,tT,tT,tT,tT,tT,tT,tT,tT,tT,tT,tT,tT,tT,tT,tT,tT,tT,tT,tT,tT,tT,tT,tT,tT,tT,tT,tT,tT,tT,tT,tT,tT,fF,fF,fF,fF,fF,fF,fF] rfl rfl (any_of HT_.out (by kernel_rfl)) (fun _ _ _ h => h) (Or.inl ⟨by rfl,?_⟩) ?_ ?_
  rotate_left
  ·intro w'
   go_simp
   first|(with_reducible rfl)|(simp only [Instr.field,go_sem, *]; rfl)
  rotate_left
  ·simp only [Act.put,lS,lZ,lC,i64_w,i32_w]
   rfl
  refine pure_ (i:=42) (N:=some 77) (v:=undef) (a':=?_) #[tT,tT,tT,tT,tT,tT,tT,tT,tT,tT,tT,tT,tT,tT,tT,tT,tT,tT,tT,tT,tT,tT,tT,tT,tT,tT,tT,tT,tT,tT,tT,tT,tT,tT,tT,tT,tT,tT,tT,tT,tT,tT,tT,fF,fF,fF,fF,fF,fF] rfl rfl (any_of HT_.out (by kernel_rfl)) (fun _ _ _ h => h) (Or.inr ⟨by rfl,rfl⟩) ?_ ?_
  rotate_left
  ·simp only [Act.put,lS,lZ,lC,i64_w,i32_w]
   rfl
  refine pure_ (i:=43) (N:=some 78) (v:=undef) (a':=?_) #[tT,tT,tT,tT,tT,tT,tT,tT,tT,tT,tT,tT,tT,tT,tT,tT,tT,tT,tT,tT,tT,tT,tT,tT,tT,tT,tT,tT,tT,tT,tT,tT,tT,tT,tT,tT,tT,tT,tT,tT,tT,tT,tT,tT,fF,fF,fF,fF,fF] rfl rfl (any_of HT_.out (by kernel_rfl)) (fun _ _ _ h => h) (Or.inr ⟨by rfl,rfl⟩) ?_ ?_
  rotate_left
  ·simp only [Act.put,lS,lZ,lC,i64_w,i32_w]
   rfl
  refine pure_ (i:=44) (N:=some 79) (v:=undef) (a':=?_) #[tT,tT,tT,tT,tT,tT,tT,tT,tT,tT,tT,tT,tT,tT,tT,tT,tT,tT,tT,tT,tT,tT,tT,tT,tT,tT,tT,tT,tT,tT,tT,tT,tT,tT,tT,tT,tT,tT,tT,tT,tT,tT,tT,tT,tT,fF,fF,fF,fF] rfl rfl (any_of HT_.out (by kernel_rfl)) (fun _ _ _ h => h) (Or.inr ⟨by rfl,rfl⟩) ?_ ?_
  rotate_left
  ·simp only [Act.put,lS,lZ,lC,i64_w,i32_w]
   rfl
  refine pure_ (i:=45) (N:=some 80) (v:=undef) (a':=?_) #[tT,tT,tT,tT,tT,tT,tT,tT,tT,tT,tT,tT,tT,tT,tT,tT,tT,tT,tT,tT,tT,tT,tT,tT,tT,tT,tT,tT,tT,tT,tT,tT,tT,tT,tT,tT,tT,tT,tT,tT,tT,tT,tT,tT,tT,tT,fF,fF,fF] rfl rfl (any_of HT_.out (by kernel_rfl)) (fun _ _ _ h => h) (Or.inr ⟨by rfl,rfl⟩) ?_ ?_
  rotate_left
  ·simp only [Act.put,lS,lZ,lC,i64_w,i32_w]
   rfl
  refine pure_ (i:=46) (N:=some 81) (v:=undef) (a':=?_) #[tT,tT,tT,tT,tT,tT,tT,tT,tT,tT,tT,tT,tT,tT,tT,tT,tT,tT,tT,tT,tT,tT,tT,tT,tT,tT,tT,tT,tT,tT,tT,tT,tT,tT,tT,tT,tT,tT,tT,tT,tT,tT,tT,tT,tT,tT,tT,fF,fF] rfl rfl (any_of HT_.out (by kernel_rfl)) (fun _ _ _ h => h) (Or.inr ⟨by rfl,rfl⟩) ?_ ?_
  rotate_left
  ·simp only [Act.put,lS,lZ,lC,i64_w,i32_w]
   rfl
  refine pure_ (i:=47) (N:=some 82) (v:=?_) (a':=?_) #[tT,tT,tT,tT,tT,tT,tT,tT,tT,tT,tT,tT,tT,tT,tT,tT,tT,tT,tT,tT,tT,tT,tT,tT,tT,tT,tT,tT,tT,tT,tT,tT,tT,tT,tT,tT,tT,tT,tT,tT,tT,tT,tT,tT,tT,tT,tT,tT,fF] rfl rfl (any_of HT_.out (by kernel_rfl)) (fun _ _ _ h => h) (Or.inl ⟨by rfl,?_⟩) ?_ ?_
  rotate_left
  ·intro w'
   go_simp
   first|(with_reducible rfl)|(simp only [Instr.field,go_sem, *]; rfl)
  rotate_left
  ·simp only [Act.put,lS,lZ,lC,i64_w,i32_w]
   rfl
  refine pure_ (i:=48) (N:=some 2) (v:=?_) (a':=?_) #[tT,tT,tT,tT,tT,tT,tT,tT,tT,tT,tT,tT,tT,tT,tT,tT,tT,tT,tT,tT,tT,tT,tT,tT,tT,tT,tT,tT,tT,tT,tT,tT,tT,tT,tT,tT,tT,tT,tT,tT,tT,tT,tT,tT,tT,tT,tT,tT,tT] rfl rfl (any_of HT_.out (by kernel_rfl)) (fun _ _ _ h => h) (Or.inl ⟨by rfl,?_⟩) ?_ ?_
  rotate_left
  ·intro w'
   go_simp
   first|(with_reducible rfl)|(simp only [Instr.field,go_sem, *]; rfl)
  rotate_left
  ·simp only [Act.put,lS,lZ,lC,i64_w,i32_w]
   rfl
  refine done_ (done_of HT_.out (by kernel_rfl)) ?_
  try go_wp2
  go_ret
  exact ⟨by first|rfl|(simp [errW_none,errW_some] <;> rfl)|(simp [*,errW_none,errW_some] <;> rfl),by repeat (first|(with_reducible first|exact HB.out|apply bA|apply bD|apply bE|refine below_set ?_ GE188.out)|exact HB.out)⟩
 subst c21
 have H1 : ((impl_MajorScale.f).bind fun t202 => ((impl_HasTwoSizes.f k t202).bind fun t205 => (if t205 = true then ((impl_SpansOf.f k t185 (t185.length : Int)).bind fun t206 => (some ((t206.length : Int) == 1))) else (some false)))) = some r:=by rw [if_pos rfl] at H; exact H
 clear H
 have H:=H1
 clear H1
 replace H:=Option.bind_eq_some_iff.mp H
 obtain ⟨t202,A220,H⟩:=H
 replace H : ((impl_HasTwoSizes.f k t202).bind fun t205 => (if t205 = true then ((impl_SpansOf.f k t185 (t185.length : Int)).bind fun t206 => (some ((t206.length : Int) == 1))) else (some false))) = some r:=H
 have A22:=Aside0.mk A220
 clear A220
 replace H:=Option.bind_eq_some_iff.mp H
 obtain ⟨t205,A230,H⟩:=H
 replace H : (if t205 = true then ((impl_SpansOf.f k t185 (t185.length : Int)).bind fun t206 => (some ((t206.length : Int) == 1))) else (some false)) = some r:=H
 have A23:=Aside0.mk A230
 clear A230
 by_cases c24 : t205 = true
 rotate_left
 ·replace c24:=Bool.eq_false_iff.mpr c24
  subst c24
  have H1 : (some false) = some r:=by rw [if_neg (show ¬ (false = true) by decide)] at H; exact H
  clear H
  have H:=H1
  clear H1
  obtain rfl:=Option.some.inj H
  go_enter Try.func4,Try.ntmps4
  try go_wp2_with (first|((with_reducible refine gate_callee (f:=10) rfl ?_); refine goesL_ (some 10) rfl rfl Try.func10 (by kernel_rfl) rfl #[.slice A0 l0.length c0] rfl (by (try simp only [List.map_toArray,List.map_cons,List.map_nil]); first|done|rfl|(simp only [List.length_drop,List.length_take]; rfl)) ?_; (with_reducible refine (laws_big.calls _ _ l0 false _ ?side1 ?side2 A2.out).mono ?_); (case side1 => repeat (first|exact HR0.out|(with_reducible refine Kd.C_alloc ?_ _)|(with_reducible refine Kd.C_drewN ?_ _)|(with_reducible refine Kd.C_drew ?_))); (case side2 => exact HC0.out); rintro e w' ⟨rfl,⟨nd,rfl⟩⟩; refine ⟨_,rfl,?_⟩)|((with_reducible refine gate_callee (f:=11) rfl ?_); refine goesL_ (some 12) rfl rfl Try.func11 (by kernel_rfl) rfl #[.slice A0 l0.length c0] rfl (by (try simp only [List.map_toArray,List.map_cons,List.map_nil]); first|done|rfl|(simp only [List.length_drop,List.length_take]; rfl)) ?_; (with_reducible refine (spec_DrawScale.calls k _ _ l0 t185 _ ?side1 ?side2 A4.out).mono ?_); (case side1 => repeat (first|exact HR0.out|(with_reducible refine Kd.C_alloc ?_ _)|(with_reducible refine Kd.C_drewN ?_ _)|(with_reducible refine Kd.C_drew ?_))); (case side2 => exact HC0.out); rintro e w44 ⟨v186,rfl,ho0,hb⟩; refine ⟨_,rfl,?_⟩; have n0_:=Aside0.mk (Kd.R_lower ho0 (below_size (by repeat (first|(with_reducible first|exact HB.out|apply bA|apply bD|apply bE)|exact HB.out)))); have n1_:=Aside0.mk (below_step (by repeat (first|(with_reducible first|exact HB.out|apply bA|apply bD|apply bE)|exact HB.out)) hb); clear HB; have HO187:=n0_; have HB:=n1_; clear n0_ n1_; (try clear hb); (try clear hb2); (try clear hk); (try clear hi); (try clear ho0))|((with_reducible refine gate_dst (N:=3) rfl ?_); (try (refine gate_guard (by rfl) ?_; dsimp only)); refine box_event ?hg (N:=3) ?hd (cs:=#[.slice none 0 0]) (t:=26) ?hr ?_; (case hd => rfl); (case hg => rfl); (case hr => first|(go_simp; done)|(go_simp; rfl)); intro gb188 hg w45 hbox hb; have n0_:=Aside0.mk (Kd.R_below (by (with_reducible repeat (first|apply Kd.R_alloc|apply Kd.R_drewN|apply Kd.R_drew)); exact HO187.out) hb); have n1_:=Aside0.mk (below_step (by repeat (first|(with_reducible first|exact HB.out|apply bA|apply bD|apply bE)|exact HB.out)) hb); have n2_:=Aside0.mk (hbox); have n3_:=Aside0.mk ((by rw [hg]; exact (below_size (by repeat (first|(with_reducible first|exact HB.out|apply bA|apply bD|apply bE)|exact HB.out))) : w.heap.size ≤ gb188)); have n4_:=Aside0.mk ((by rw [hg]; exact (below_size (by repeat (first|(with_reducible first|exact HB.out|apply bA|apply bD|apply bE)|exact HB.out))) : w.heap.size ≤ gb188)); clear HO187; clear HB; have HO187:=n0_; have HB:=n1_; have BK188:=n2_; have GW188:=n3_; have GE188:=n4_; clear n0_ n1_ n2_ n3_ n4_; clear hb hbox hg; obtain ⟨Ao46,co46,eo46⟩:=Kd.R_slice HO187.out; subst eo46; have hcz47_0 : w45.cell? ⟨gb188,0,none⟩ = some (.slice none 0 0):=(blk_cell BK188.out 0).trans rfl; have hfz47_0:=blk_frozen BK188.out 0)|((with_reducible refine gate_callee (f:=18) rfl ?_); refine goesL_ (some 17) rfl rfl Try.func18 (by kernel_rfl) rfl #[.slice A0 l0.length c0,.int .i64 0] rfl (by (try simp only [List.map_toArray,List.map_cons,List.map_nil]); first|done|rfl|(simp only [List.length_drop,List.length_take]; rfl)) ?_; (with_reducible refine (laws_at.calls _ _ l0 0 t189 _ ?side1 ?side2 A5.out).mono ?_); (case side1 => exact Kd.C_below HR0.out (by repeat (first|(with_reducible first|exact HB.out|apply bA|apply bD|apply bE|refine below_set ?_ GE188.out)|exact HB.out))); (case side2 => exact HC0.out); rintro e w' ⟨rfl,⟨nd,rfl⟩⟩; refine ⟨_,rfl,?_⟩)|((with_reducible refine gate_callee (f:=18) rfl ?_); refine goesL_ (some 21) rfl rfl Try.func18 (by kernel_rfl) rfl #[.slice A0 l0.length c0,.int .i64 1] rfl (by (try simp only [List.map_toArray,List.map_cons,List.map_nil]); first|done|rfl|(simp only [List.length_drop,List.length_take]; rfl)) ?_; (with_reducible refine (laws_at.calls _ _ l0 1 t190 _ ?side1 ?side2 A7.out).mono ?_); (case side1 => exact Kd.C_below HR0.out (by repeat (first|(with_reducible first|exact HB.out|apply bA|apply bD|apply bE|refine below_set ?_ GE188.out)|exact HB.out))); (case side2 => exact HC0.out); rintro e w' ⟨rfl,⟨nd,rfl⟩⟩; refine ⟨_,rfl,?_⟩)|((with_reducible refine gate_callee (f:=18) rfl ?_); refine goesL_ (some 26) rfl rfl Try.func18 (by kernel_rfl) rfl #[.slice A0 l0.length c0,.int .i64 2] rfl (by (try simp only [List.map_toArray,List.map_cons,List.map_nil]); first|done|rfl|(simp only [List.length_drop,List.length_take]; rfl)) ?_; (with_reducible refine (laws_at.calls _ _ l0 2 t191 _ ?side1 ?side2 A9.out).mono ?_); (case side1 => exact Kd.C_below HR0.out (by repeat (first|(with_reducible first|exact HB.out|apply bA|apply bD|apply bE|refine below_set ?_ GE188.out)|exact HB.out))); (case side2 => exact HC0.out); rintro e w' ⟨rfl,⟨nd,rfl⟩⟩; refine ⟨_,rfl,?_⟩)|((with_reducible refine gate_callee (f:=19) rfl ?_); refine goesL_ (some 34) rfl rfl Try.func19 (by kernel_rfl) rfl #[.agg #[.slice Ao46 t185.length co46],.int .i64 (Int.tmod t190 (wrap64 ((t185.length : Int) + 1)))] rfl (by (try simp only [List.map_toArray,List.map_cons,List.map_nil]); first|done|rfl|(simp only [List.length_drop,List.length_take]; rfl)) ?_; (with_reducible refine (impl_SpansOf.calls k _ _ t185 (Int.tmod t190 (wrap64 ((t185.length : Int) + 1))) t192 _ ?side1 ?side2 A11.out).mono ?_); (case side1 => refine (Kd.R_reads' (e:=3) (base:=w.heap.size) (ok:=fun k_ => True) (n:=t185.length) (c:=co46) ?_).2.2; exact (by (with_reducible repeat (first|apply Kd.R_alloc|apply Kd.R_drewN|apply Kd.R_drew)); exact (Kd.R_mono (Kd.R_far (p:=⟨gb188,0,none⟩) (Kd.R_types HO187.out BK188.out (by decide)) (fun _ hk => hk.2) (.slice Ao46 t185.length co46)) (fun _ h_ => h_.1)))); (case side2 => exact (Kd.R_reads' HO187.out).2.1); rintro e w48 ⟨v193,rfl,ho0,hb⟩; refine ⟨_,rfl,?_⟩; have n0_:=Aside0.mk (Kd.R_elder' (by (with_reducible repeat (first|apply Kd.R_alloc|apply Kd.R_drewN|apply Kd.R_drew)); exact (Kd.R_mono (Kd.R_far (p:=⟨gb188,0,none⟩) (Kd.R_types HO187.out BK188.out (by decide)) (fun _ hk => hk.2) (.slice Ao46 t185.length co46)) (fun _ h_ => h_.1))) (Kd.R_base ho0) hb); have n1_:=Aside0.mk (Kd.R_lower (Kd.R_new' ho0 (Kd.R_lt (by (with_reducible repeat (first|apply Kd.R_alloc|apply Kd.R_drewN|apply Kd.R_drew)); exact (Kd.R_mono (Kd.R_far (p:=⟨gb188,0,none⟩) (Kd.R_types HO187.out BK188.out (by decide)) (fun _ hk => hk.2) (.slice Ao46 t185.length co46)) (fun _ h_ => h_.1))))) (below_size (by repeat (first|(with_reducible first|exact HB.out|apply bA|apply bD|apply bE|refine below_set ?_ GE188.out)|exact HB.out)))); have n2_:=Aside0.mk (blk_below (g:=gb188) (o:=.cells #[.slice Ao46 t185.length co46] 26 (0,0)) (by (with_reducible repeat (first|refine blk_drewN ?_ _|refine blk_drew ?_|refine blk_alloc ?_ _)); refine blk_put (cs:=#[.slice none 0 0]) ?_ 0 _ rfl; (with_reducible repeat (first|refine blk_drewN ?_ _|refine blk_drew ?_|refine blk_alloc ?_ _)); exact BK188.out) hb); have n3_:=Aside0.mk (below_step (by repeat (first|(with_reducible first|exact HB.out|apply bA|apply bD|apply bE|refine below_set ?_ GE188.out)|exact HB.out)) hb); clear HO187; clear BK188; clear HB; have HO187:=n0_; have HO194:=n1_; have BK188:=n2_; have HB:=n3_; clear n0_ n1_ n2_ n3_; (try clear hb); (try clear hb2); (try clear hk); (try clear hi); (try clear ho0)))
  have n0_:=Aside0.mk (Kd.R_drew HO187.out)
  have n1_:=Aside0.mk (Kd.R_drew HO194.out)
  have n2_:=Aside0.mk (blk_drew BK188.out)
  have n3_:=Aside0.mk (bE HB.out)
  clear HO187
  clear HO194
  clear BK188
  clear HB
  have HO187:=n0_
  have HO194:=n1_
  have BK188:=n2_
  have HB:=n3_
  clear n0_ n1_ n2_ n3_
  refine start_ (n:=49) (S:=fun w' => w'.cell? ⟨gb188,0,none⟩ = some (.slice Ao46 t185.length co46)) (ds:=[]) #[fF,fF,fF,fF,fF,fF,fF,fF,fF,fF,fF,fF,fF,fF,fF,fF,fF,fF,fF,fF,fF,fF,fF,fF,fF,fF,fF,fF,fF,fF,fF,fF,fF,fF,fF,fF,fF,fF,fF,fF,fF,fF,fF,fF,fF,fF,fF,fF,fF] (by kernel_rfl) rfl rfl ((blk_cell BK188.out 0).trans rfl) (fun hHeld => ?_); refine with_tabW laws_FnSpans.tab9 laws_FnSpans.bits9 (fun HT_ HW_ => ?_)
  generalize w48.drew = w49 at HO187 HO194 BK188 HB hHeld ⊢
  refine pure_ (i:=1) (N:=some 36) (v:=?_) (a':=?_) #[fF,tT,fF,fF,fF,fF,fF,fF,fF,fF,fF,fF,fF,fF,fF,fF,fF,fF,fF,fF,fF,fF,fF,fF,fF,fF,fF,fF,fF,fF,fF,fF,fF,fF,fF,fF,fF,fF,fF,fF,fF,fF,fF,fF,fF,fF,fF,fF,fF] rfl rfl (any_of HT_.out (by kernel_rfl)) (fun _ _ _ h => h) (Or.inl ⟨by rfl,?_⟩) ?_ ?_
  rotate_left
  ·intro w'
   go_simp
   first|(with_reducible rfl)|(simp only [Instr.field,go_sem, *]; rfl)
  rotate_left
  ·simp only [Act.put,lS,lZ,lC,i64_w,i32_w]
   rfl
  refine pure_ (i:=2) (N:=some 37) (v:=?_) (a':=?_) #[fF,tT,tT,fF,fF,fF,fF,fF,fF,fF,fF,fF,fF,fF,fF,fF,fF,fF,fF,fF,fF,fF,fF,fF,fF,fF,fF,fF,fF,fF,fF,fF,fF,fF,fF,fF,fF,fF,fF,fF,fF,fF,fF,fF,fF,fF,fF,fF,fF] rfl rfl (any_of HT_.out (by kernel_rfl)) (fun _ _ _ h => h) (Or.inl ⟨by rfl,?_⟩) ?_ ?_
  rotate_left
  ·intro w'
   go_simp
   first|(with_reducible rfl)|(simp only [Instr.field,go_sem, *]; rfl)
  rotate_left
  ·simp only [Act.put,lS,lZ,lC,i64_w,i32_w]
   rfl
  refine pure_ (i:=5) (N:=some 40) (v:=?_) (a':=?_) #[fF,tT,tT,fF,fF,tT,fF,fF,fF,fF,fF,fF,fF,fF,fF,fF,fF,fF,fF,fF,fF,fF,fF,fF,fF,fF,fF,fF,fF,fF,fF,fF,fF,fF,fF,fF,fF,fF,fF,fF,fF,fF,fF,fF,fF,fF,fF,fF,fF] rfl rfl (any_of HT_.out (by kernel_rfl)) (fun _ _ _ h => h) (Or.inl ⟨by rfl,?_⟩) ?_ ?_
  rotate_left
  ·intro w'
   go_simp
   first|(with_reducible rfl)|(simp only [Instr.field,go_sem, *]; rfl)
  rotate_left
  ·simp only [Act.put,lS,lZ,lC,i64_w,i32_w]
   rfl
  refine pure_ (i:=6) (N:=some 41) (v:=?_) (a':=?_) #[fF,tT,tT,fF,fF,tT,tT,fF,fF,fF,fF,fF,fF,fF,fF,fF,fF,fF,fF,fF,fF,fF,fF,fF,fF,fF,fF,fF,fF,fF,fF,fF,fF,fF,fF,fF,fF,fF,fF,fF,fF,fF,fF,fF,fF,fF,fF,fF,fF] rfl rfl (any_of HT_.out (by kernel_rfl)) (fun _ _ _ h => h) (Or.inl ⟨by rfl,?_⟩) ?_ ?_
  rotate_left
  ·intro w'
   go_simp
   first|(with_reducible rfl)|(simp only [Instr.field,go_sem, *]; rfl)
  rotate_left
  ·simp only [Act.put,lS,lZ,lC,i64_w,i32_w]
   rfl
  refine pure_ (i:=7) (N:=some 42) (v:=?_) (a':=?_) #[fF,tT,tT,fF,fF,tT,tT,tT,fF,fF,fF,fF,fF,fF,fF,fF,fF,fF,fF,fF,fF,fF,fF,fF,fF,fF,fF,fF,fF,fF,fF,fF,fF,fF,fF,fF,fF,fF,fF,fF,fF,fF,fF,fF,fF,fF,fF,fF,fF] rfl rfl (any_of HT_.out (by kernel_rfl)) (fun _ _ _ h => h) (Or.inl ⟨by rfl,?_⟩) ?_ ?_
  rotate_left
  ·intro w'
   go_simp
   first|(with_reducible rfl)|(simp only [Instr.field,go_sem, *]; rfl)
  rotate_left
  ·simp only [Act.put,lS,lZ,lC,i64_w,i32_w]
   rfl
  refine pure_ (i:=8) (N:=some 43) (v:=?_) (a':=?_) #[fF,tT,tT,fF,fF,tT,tT,tT,tT,fF,fF,fF,fF,fF,fF,fF,fF,fF,fF,fF,fF,fF,fF,fF,fF,fF,fF,fF,fF,fF,fF,fF,fF,fF,fF,fF,fF,fF,fF,fF,fF,fF,fF,fF,fF,fF,fF,fF,fF] rfl rfl (any_of HT_.out (by kernel_rfl)) (fun _ _ _ h => h) (Or.inl ⟨by rfl,?_⟩) ?_ ?_
  rotate_left
  ·intro w'
   go_simp
   first|(with_reducible rfl)|(simp only [Instr.field,go_sem, *]; rfl)
  rotate_left
  ·simp only [Act.put,lS,lZ,lC,i64_w,i32_w]
   rfl
  refine pure_ (i:=9) (N:=some 44) (v:=?_) (a':=?_) #[fF,tT,tT,fF,fF,tT,tT,tT,tT,tT,fF,fF,fF,fF,fF,fF,fF,fF,fF,fF,fF,fF,fF,fF,fF,fF,fF,fF,fF,fF,fF,fF,fF,fF,fF,fF,fF,fF,fF,fF,fF,fF,fF,fF,fF,fF,fF,fF,fF] rfl rfl (any_of HT_.out (by kernel_rfl)) (fun _ _ _ h => h) (Or.inl ⟨by rfl,?_⟩) ?_ ?_
  rotate_left
  ·intro w'
   go_simp
   first|(with_reducible rfl)|(simp only [Instr.field,go_sem, *]; rfl)
  rotate_left
  ·simp only [Act.put,lS,lZ,lC,i64_w,i32_w]
   rfl
  refine pure_ (i:=10) (N:=some 45) (v:=?_) (a':=?_) #[fF,tT,tT,fF,fF,tT,tT,tT,tT,tT,tT,fF,fF,fF,fF,fF,fF,fF,fF,fF,fF,fF,fF,fF,fF,fF,fF,fF,fF,fF,fF,fF,fF,fF,fF,fF,fF,fF,fF,fF,fF,fF,fF,fF,fF,fF,fF,fF,fF] rfl rfl (any_of HT_.out (by kernel_rfl)) (fun _ _ _ h => h) (Or.inl ⟨by rfl,?_⟩) ?_ ?_
  rotate_left
  ·intro w'
   go_simp
   first|(with_reducible rfl)|(simp only [Instr.field,go_sem, *]; rfl)
  rotate_left
  ·simp only [Act.put,lS,lZ,lC,i64_w,i32_w]
   rfl
  refine pure_ (i:=14) (N:=some 49) (v:=?_) (a':=?_) #[fF,tT,tT,fF,fF,tT,tT,tT,tT,tT,tT,fF,fF,fF,tT,fF,fF,fF,fF,fF,fF,fF,fF,fF,fF,fF,fF,fF,fF,fF,fF,fF,fF,fF,fF,fF,fF,fF,fF,fF,fF,fF,fF,fF,fF,fF,fF,fF,fF] rfl rfl (any_of HT_.out (by kernel_rfl)) (fun _ _ _ h => h) (Or.inl ⟨by rfl,?_⟩) ?_ ?_
  rotate_left
  ·intro w'
   go_simp
   first|(with_reducible rfl)|(simp only [Instr.field,go_sem, *]; rfl)
  rotate_left
  ·simp only [Act.put,lS,lZ,lC,i64_w,i32_w]
   rfl
  refine pure_ (i:=15) (N:=some 50) (v:=?_) (a':=?_) #[fF,tT,tT,fF,fF,tT,tT,tT,tT,tT,tT,fF,fF,fF,tT,tT,fF,fF,fF,fF,fF,fF,fF,fF,fF,fF,fF,fF,fF,fF,fF,fF,fF,fF,fF,fF,fF,fF,fF,fF,fF,fF,fF,fF,fF,fF,fF,fF,fF] rfl rfl (any_of HT_.out (by kernel_rfl)) (fun _ _ _ h => h) (Or.inl ⟨by rfl,?_⟩) ?_ ?_
  rotate_left
  ·intro w'
   go_simp
   first|(with_reducible rfl)|(simp only [Instr.field,go_sem, *]; rfl)
  rotate_left
  ·simp only [Act.put,lS,lZ,lC,i64_w,i32_w]
   rfl
  refine pure_ (i:=16) (N:=some 51) (v:=?_) (a':=?_) #[fF,tT,tT,fF,fF,tT,tT,tT,tT,tT,tT,fF,fF,fF,tT,tT,tT,fF,fF,fF,fF,fF,fF,fF,fF,fF,fF,fF,fF,fF,fF,fF,fF,fF,fF,fF,fF,fF,fF,fF,fF,fF,fF,fF,fF,fF,fF,fF,fF] rfl rfl (any_of HT_.out (by kernel_rfl)) (fun _ _ _ h => h) (Or.inl ⟨by rfl,?_⟩) ?_ ?_
  rotate_left
  ·intro w'
   go_simp
   first|(with_reducible rfl)|(simp only [Instr.field,go_sem, *]; rfl)
  rotate_left
  ·simp only [Act.put,lS,lZ,lC,i64_w,i32_w]
   rfl
  refine pure_ (i:=17) (N:=some 52) (v:=?_) (a':=?_) #[fF,tT,tT,fF,fF,tT,tT,tT,tT,tT,tT,fF,fF,fF,tT,tT,tT,tT,fF,fF,fF,fF,fF,fF,fF,fF,fF,fF,fF,fF,fF,fF,fF,fF,fF,fF,fF,fF,fF,fF,fF,fF,fF,fF,fF,fF,fF,fF,fF] rfl rfl (any_of HT_.out (by kernel_rfl)) (fun _ _ _ h => h) (Or.inl ⟨by rfl,?_⟩) ?_ ?_
  rotate_left
  ·intro w'
   go_simp
   first|(with_reducible rfl)|(simp only [Instr.field,go_sem, *]; rfl)
  rotate_left
  ·simp only [Act.put,lS,lZ,lC,i64_w,i32_w]
   rfl
  refine take_ (i:=0) (N:=some 35) (v:=?_) (a':=?_) #[tT,tT,tT,fF,fF,tT,tT,tT,tT,tT,tT,fF,fF,fF,tT,tT,tT,tT,fF,fF,fF,fF,fF,fF,fF,fF,fF,fF,fF,fF,fF,fF,fF,fF,fF,fF,fF,fF,fF,fF,fF,fF,fF,fF,fF,fF,fF,fF,fF] rfl rfl (take_ofW HT_.out HW_.out (by kernel_rfl)) (fun _ _ _ h => h) (Or.inl ⟨by rfl,?_⟩) hHeld ?_ ?_
  rotate_left
  ·intro w' s0
   go_simp
   first|(with_reducible rfl)|(simp only [Instr.field,go_sem, *]; rfl)
  rotate_left
  ·simp only [Act.put,lS,lZ,lC,i64_w,i32_w]
   rfl
  refine take_ (i:=4) (N:=some 39) (v:=?_) (a':=?_) #[tT,tT,tT,fF,tT,tT,tT,tT,tT,tT,tT,fF,fF,fF,tT,tT,tT,tT,fF,fF,fF,fF,fF,fF,fF,fF,fF,fF,fF,fF,fF,fF,fF,fF,fF,fF,fF,fF,fF,fF,fF,fF,fF,fF,fF,fF,fF,fF,fF] rfl rfl (take_ofW HT_.out HW_.out (by kernel_rfl)) (fun _ _ _ h => h) (Or.inl ⟨by rfl,?_⟩) hHeld ?_ ?_
  rotate_left
  ·intro w' s0
   go_simp
   first|(with_reducible rfl)|(simp only [Instr.field,go_sem, *]; rfl)
  rotate_left
  ·simp only [Act.put,lS,lZ,lC,i64_w,i32_w]
   rfl
  refine take_ (i:=13) (N:=some 48) (v:=?_) (a':=?_) #[tT,tT,tT,fF,tT,tT,tT,tT,tT,tT,tT,fF,fF,tT,tT,tT,tT,tT,fF,fF,fF,fF,fF,fF,fF,fF,fF,fF,fF,fF,fF,fF,fF,fF,fF,fF,fF,fF,fF,fF,fF,fF,fF,fF,fF,fF,fF,fF,fF] rfl rfl (take_ofW HT_.out HW_.out (by kernel_rfl)) (fun _ _ _ h => h) (Or.inl ⟨by rfl,?_⟩) hHeld ?_ ?_
  rotate_left
  ·intro w' s0
   go_simp
   first|(with_reducible rfl)|(simp only [Instr.field,go_sem, *]; rfl)
  rotate_left
  ·simp only [Act.put,lS,lZ,lC,i64_w,i32_w]
   rfl
  refine one_ (i:=3) (N:=some 38) #[tT,tT,tT,tT,tT,tT,tT,tT,tT,tT,tT,fF,fF,tT,tT,tT,tT,tT,fF,fF,fF,fF,fF,fF,fF,fF,fF,fF,fF,fF,fF,fF,fF,fF,fF,fF,fF,fF,fF,fF,fF,fF,fF,fF,fF,fF,fF,fF,fF] rfl rfl (one_of HT_.out (by kernel_rfl)) (by decide) (fun K hK => ?_)
  refine goes_ Try.func20 (by kernel_rfl) rfl #[.agg #[.slice Ao46 t185.length co46],.int .i64 (Int.tmod t189 (t185.length : Int)),.int .i64 (Int.tmod t190 (wrap64 ((t185.length : Int) + 1)))] (by rfl) rfl rfl (by (try simp only [List.map_toArray,List.map_cons,List.map_nil]); first|done|rfl|(simp only [List.length_drop,List.length_take]; rfl)) ?_
  with_reducible refine (impl_SpanAt.calls k _ _ t185 (Int.tmod t189 (t185.length : Int)) (Int.tmod t190 (wrap64 ((t185.length : Int) + 1))) t195 _ ?side1 ?side2 A12.out).mono ?_
  (case side1 => repeat (first|exact (Kd.R_reads' HO187.out).2.2|(with_reducible refine Kd.C_alloc ?_ _)|(with_reducible refine Kd.C_drewN ?_ _)|(with_reducible refine Kd.C_drew ?_)))
  (case side2 => exact (Kd.R_reads' HO187.out).2.1)
  rintro e w50 ⟨rfl,hb⟩
  refine ⟨_,rfl,?_⟩
  have n0_:=Aside0.mk (Kd.R_below (by (with_reducible repeat (first|apply Kd.R_alloc|apply Kd.R_drewN|apply Kd.R_drew)); exact HO187.out) hb)
  have n1_:=Aside0.mk (Kd.R_below (by (with_reducible repeat (first|apply Kd.R_alloc|apply Kd.R_drewN|apply Kd.R_drew)); exact HO194.out) hb)
  have n2_:=Aside0.mk (blk_below (g:=gb188) (o:=.cells #[.slice Ao46 t185.length co46] 26 (0,0)) (by (with_reducible repeat (first|refine blk_drewN ?_ _|refine blk_drew ?_|refine blk_alloc ?_ _)); exact BK188.out) hb)
  have n3_:=Aside0.mk (below_step (by repeat (first|(with_reducible first|exact HB.out|apply bA|apply bD|apply bE|refine below_set ?_ GE188.out)|exact HB.out)) hb)
  clear HO187
  clear HO194
  clear BK188
  clear HB
  have HO187:=n0_
  have HO194:=n1_
  have BK188:=n2_
  have HB:=n3_
  clear n0_ n1_ n2_ n3_
  (try clear hb)
  (try clear hb2)
  (try clear hk)
  (try clear hi)
  refine hK.out _ _ ((blk_cell BK188.out 0).trans rfl) (fun hHeld => ?_)
  clear hK K
  refine norm_ (a':=?_) ?_ ?_
  rotate_left
  ·show Act.put _ (some 38) _ = _
   simp only [Act.put,lS,lZ,lC,i64_w,i32_w]
   rfl
  refine one_ (i:=11) (N:=some 46) #[tT,tT,tT,tT,tT,tT,tT,tT,tT,tT,tT,tT,fF,tT,tT,tT,tT,tT,fF,fF,fF,fF,fF,fF,fF,fF,fF,fF,fF,fF,fF,fF,fF,fF,fF,fF,fF,fF,fF,fF,fF,fF,fF,fF,fF,fF,fF,fF,fF] rfl rfl (one_of HT_.out (by kernel_rfl)) (by decide) (fun K hK => ?_)
  refine goes_ Try.func20 (by kernel_rfl) rfl #[.agg #[.slice Ao46 t185.length co46],.int .i64 (Int.tmod (wrap64 ((Int.tmod t189 (t185.length : Int)) + (Int.tmod t190 (wrap64 ((t185.length : Int) + 1))))) (t185.length : Int)),.int .i64 (Int.tmod t191 (wrap64 ((wrap64 ((t185.length : Int) + 1)) - (Int.tmod t190 (wrap64 ((t185.length : Int) + 1))))))] (by rfl) rfl rfl (by (try simp only [List.map_toArray,List.map_cons,List.map_nil]); first|done|rfl|(simp only [List.length_drop,List.length_take]; rfl)) ?_
  with_reducible refine (impl_SpanAt.calls k _ _ t185 (Int.tmod (wrap64 ((Int.tmod t189 (t185.length : Int)) + (Int.tmod t190 (wrap64 ((t185.length : Int) + 1))))) (t185.length : Int)) (Int.tmod t191 (wrap64 ((wrap64 ((t185.length : Int) + 1)) - (Int.tmod t190 (wrap64 ((t185.length : Int) + 1)))))) t196 _ ?side1 ?side2 A13.out).mono ?_
  (case side1 => repeat (first|exact (Kd.R_reads' HO187.out).2.2|(with_reducible refine Kd.C_alloc ?_ _)|(with_reducible refine Kd.C_drewN ?_ _)|(with_reducible refine Kd.C_drew ?_)))
  (case side2 => exact (Kd.R_reads' HO187.out).2.1)
  rintro e w51 ⟨rfl,hb⟩
  refine ⟨_,rfl,?_⟩
  have n0_:=Aside0.mk (Kd.R_below (by (with_reducible repeat (first|apply Kd.R_alloc|apply Kd.R_drewN|apply Kd.R_drew)); exact HO187.out) hb)
  have n1_:=Aside0.mk (Kd.R_below (by (with_reducible repeat (first|apply Kd.R_alloc|apply Kd.R_drewN|apply Kd.R_drew)); exact HO194.out) hb)
  have n2_:=Aside0.mk (blk_below (g:=gb188) (o:=.cells #[.slice Ao46 t185.length co46] 26 (0,0)) (by (with_reducible repeat (first|refine blk_drewN ?_ _|refine blk_drew ?_|refine blk_alloc ?_ _)); exact BK188.out) hb)
  have n3_:=Aside0.mk (below_step (by repeat (first|(with_reducible first|exact HB.out|apply bA|apply bD|apply bE|refine below_set ?_ GE188.out)|exact HB.out)) hb)
  clear HO187
  clear HO194
  clear BK188
  clear HB
  have HO187:=n0_
  have HO194:=n1_
  have BK188:=n2_
  have HB:=n3_
  clear n0_ n1_ n2_ n3_
  (try clear hb)
  (try clear hb2)
  (try clear hk)
  (try clear hi)
  refine hK.out _ _ ((blk_cell BK188.out 0).trans rfl) (fun hHeld => ?_)
  clear hK K
  refine norm_ (a':=?_) ?_ ?_
  rotate_left
  ·show Act.put _ (some 46) _ = _
   simp only [Act.put,lS,lZ,lC,i64_w,i32_w]
   rfl
  refine pure_ (i:=12) (N:=some 47) (v:=?_) (a':=?_) #[tT,tT,tT,tT,tT,tT,tT,tT,tT,tT,tT,tT,tT,tT,tT,tT,tT,tT,fF,fF,fF,fF,fF,fF,fF,fF,fF,fF,fF,fF,fF,fF,fF,fF,fF,fF,fF,fF,fF,fF,fF,fF,fF,fF,fF,fF,fF,fF,fF] rfl rfl (any_of HT_.out (by kernel_rfl)) (fun _ _ _ h => h) (Or.inl ⟨by rfl,?_⟩) ?_ ?_
  rotate_left
  ·intro w'
   go_simp
   first|(with_reducible rfl)|(simp only [Instr.field,go_sem, *]; rfl)
  rotate_left
  ·simp only [Act.put,lS,lZ,lC,i64_w,i32_w]
   rfl
  refine one_ (i:=18) (N:=some 53) #[tT,tT,tT,tT,tT,tT,tT,tT,tT,tT,tT,tT,tT,tT,tT,tT,tT,tT,tT,fF,fF,fF,fF,fF,fF,fF,fF,fF,fF,fF,fF,fF,fF,fF,fF,fF,fF,fF,fF,fF,fF,fF,fF,fF,fF,fF,fF,fF,fF] rfl rfl (one_of HT_.out (by kernel_rfl)) (by decide) (fun K hK => ?_)
  refine goes_ Try.func20 (by kernel_rfl) rfl #[.agg #[.slice Ao46 t185.length co46],.int .i64 (Int.tmod t189 (t185.length : Int)),.int .i64 (wrap64 ((Int.tmod t190 (wrap64 ((t185.length : Int) + 1))) + (Int.tmod t191 (wrap64 ((wrap64 ((t185.length : Int) + 1)) - (Int.tmod t190 (wrap64 ((t185.length : Int) + 1))))))))] (by rfl) rfl rfl (by (try simp only [List.map_toArray,List.map_cons,List.map_nil]); first|done|rfl|(simp only [List.length_drop,List.length_take]; rfl)) ?_
  with_reducible refine (impl_SpanAt.calls k _ _ t185 (Int.tmod t189 (t185.length : Int)) (wrap64 ((Int.tmod t190 (wrap64 ((t185.length : Int) + 1))) + (Int.tmod t191 (wrap64 ((wrap64 ((t185.length : Int) + 1)) - (Int.tmod t190 (wrap64 ((t185.length : Int) + 1)))))))) t197 _ ?side1 ?side2 A14.out).mono ?_
  (case side1 => repeat (first|exact (Kd.R_reads' HO187.out).2.2|(with_reducible refine Kd.C_alloc ?_ _)|(with_reducible refine Kd.C_drewN ?_ _)|(with_reducible refine Kd.C_drew ?_)))
  (case side2 => exact (Kd.R_reads' HO187.out).2.1)
  rintro e w52 ⟨rfl,hb⟩
  refine ⟨_,rfl,?_⟩
  have n0_:=Aside0.mk (Kd.R_below (by (with_reducible repeat (first|apply Kd.R_alloc|apply Kd.R_drewN|apply Kd.R_drew)); exact HO187.out) hb)
  have n1_:=Aside0.mk (Kd.R_below (by (with_reducible repeat (first|apply Kd.R_alloc|apply Kd.R_drewN|apply Kd.R_drew)); exact HO194.out) hb)
  have n2_:=Aside0.mk (blk_below (g:=gb188) (o:=.cells #[.slice Ao46 t185.length co46] 26 (0,0)) (by (with_reducible repeat (first|refine blk_drewN ?_ _|refine blk_drew ?_|refine blk_alloc ?_ _)); exact BK188.out) hb)
  have n3_:=Aside0.mk (below_step (by repeat (first|(with_reducible first|exact HB.out|apply bA|apply bD|apply bE|refine below_set ?_ GE188.out)|exact HB.out)) hb)
  clear HO187
  clear HO194
  clear BK188
  clear HB
  have HO187:=n0_
  have HO194:=n1_
  have BK188:=n2_
  have HB:=n3_
  clear n0_ n1_ n2_ n3_
  (try clear hb)
  (try clear hb2)
  (try clear hk)
  (try clear hi)
  refine hK.out _ _ ((blk_cell BK188.out 0).trans rfl) (fun hHeld => ?_)
  clear hK K
  refine norm_ (a':=?_) ?_ ?_
  rotate_left
  ·show Act.put _ (some 53) _ = _
   simp only [Act.put,lS,lZ,lC,i64_w,i32_w]
   rfl
  refine pure_ (i:=19) (N:=some 54) (v:=?_) (a':=?_) #[tT,tT,tT,tT,tT,tT,tT,tT,tT,tT,tT,tT,tT,tT,tT,tT,tT,tT,tT,tT,fF,fF,fF,fF,fF,fF,fF,fF,fF,fF,fF,fF,fF,fF,fF,fF,fF,fF,fF,fF,fF,fF,fF,fF,fF,fF,fF,fF,fF] rfl rfl (any_of HT_.out (by kernel_rfl)) (fun _ _ _ h => h) (Or.inl ⟨by rfl,?_⟩) ?_ ?_
  rotate_left
  ·intro w'
   go_simp
   first|(with_reducible rfl)|(simp only [Instr.field,go_sem, *]; rfl)
  rotate_left
  ·simp only [Act.put,lS,lZ,lC,i64_w,i32_w]
   rfl
  refine pure_ (i:=20) (N:=some 55) (v:=?_) (a':=?_) #[tT,tT,tT,tT,tT,tT,tT,tT,tT,tT,tT,tT,tT,tT,tT,tT,tT,tT,tT,tT,tT,fF,fF,fF,fF,fF,fF,fF,fF,fF,fF,fF,fF,fF,fF,fF,fF,fF,fF,fF,fF,fF,fF,fF,fF,fF,fF,fF,fF] rfl rfl (any_of HT_.out (by kernel_rfl)) (fun _ _ _ h => h) (Or.inl ⟨by rfl,?_⟩) ?_ ?_
  rotate_left
  ·intro w'
   go_simp
   first|(with_reducible rfl)|(simp only [Instr.field,go_sem, *]; rfl)
  rotate_left
  ·simp only [Act.put,lS,lZ,lC,i64_w,i32_w]
   rfl
  refine pure_ (i:=22) (N:=some 57) (v:=?_) (a':=?_) #[tT,tT,tT,tT,tT,tT,tT,tT,tT,tT,tT,tT,tT,tT,tT,tT,tT,tT,tT,tT,tT,fF,tT,fF,fF,fF,fF,fF,fF,fF,fF,fF,fF,fF,fF,fF,fF,fF,fF,fF,fF,fF,fF,fF,fF,fF,fF,fF,fF] rfl rfl (any_of HT_.out (by kernel_rfl)) (fun _ _ _ h => h) (Or.inl ⟨by rfl,?_⟩) ?_ ?_
  rotate_left
  ·intro w'
   go_simp
   first|(with_reducible rfl)|(simp only [Instr.field,go_sem, *]; rfl)
  rotate_left
  ·simp only [Act.put,lS,lZ,lC,i64_w,i32_w]
   rfl
  refine pure_ (i:=23) (N:=some 58) (v:=?_) (a':=?_) #[tT,tT,tT,tT,tT,tT,tT,tT,tT,tT,tT,tT,tT,tT,tT,tT,tT,tT,tT,tT,tT,fF,tT,tT,fF,fF,fF,fF,fF,fF,fF,fF,fF,fF,fF,fF,fF,fF,fF,fF,fF,fF,fF,fF,fF,fF,fF,fF,fF] rfl rfl (any_of HT_.out (by kernel_rfl)) (fun _ _ _ h => h) (Or.inl ⟨by rfl,?_⟩) ?_ ?_
  rotate_left
  ·intro w'
   go_simp
   first|(with_reducible rfl)|(simp only [Instr.field,go_sem, *]; rfl)
  rotate_left
  ·simp only [Act.put,lS,lZ,lC,i64_w,i32_w]
   rfl
  refine take_ (i:=21) (N:=some 56) (v:=?_) (a':=?_) #[tT,tT,tT,tT,tT,tT,tT,tT,tT,tT,tT,tT,tT,tT,tT,tT,tT,tT,tT,tT,tT,tT,tT,tT,fF,fF,fF,fF,fF,fF,fF,fF,fF,fF,fF,fF,fF,fF,fF,fF,fF,fF,fF,fF,fF,fF,fF,fF,fF] rfl rfl (take_ofW HT_.out HW_.out (by kernel_rfl)) (fun _ _ _ h => h) (Or.inl ⟨by rfl,?_⟩) hHeld ?_ ?_
  rotate_left
  ·intro w' s0
   go_simp
   first|(with_reducible rfl)|(simp only [Instr.field,go_sem, *]; rfl)
  rotate_left
  ·simp only [Act.put,lS,lZ,lC,i64_w,i32_w]
   rfl
  refine take_ (i:=25) (N:=some 60) (v:=?_) (a':=?_) #[tT,tT,tT,tT,tT,tT,tT,tT,tT,tT,tT,tT,tT,tT,tT,tT,tT,tT,tT,tT,tT,tT,tT,tT,fF,tT,fF,fF,fF,fF,fF,fF,fF,fF,fF,fF,fF,fF,fF,fF,fF,fF,fF,fF,fF,fF,fF,fF,fF] rfl rfl (take_ofW HT_.out HW_.out (by kernel_rfl)) (fun _ _ _ h => h) (Or.inl ⟨by rfl,?_⟩) hHeld ?_ ?_
  rotate_left
  ·intro w' s0
   go_simp
   first|(with_reducible rfl)|(simp only [Instr.field,go_sem, *]; rfl)
  rotate_left
  ·simp only [Act.put,lS,lZ,lC,i64_w,i32_w]
   rfl
  refine one_ (i:=24) (N:=some 59) #[tT,tT,tT,tT,tT,tT,tT,tT,tT,tT,tT,tT,tT,tT,tT,tT,tT,tT,tT,tT,tT,tT,tT,tT,tT,tT,fF,fF,fF,fF,fF,fF,fF,fF,fF,fF,fF,fF,fF,fF,fF,fF,fF,fF,fF,fF,fF,fF,fF] rfl rfl (one_of HT_.out (by kernel_rfl)) (by decide) (fun K hK => ?_)
  refine goes_ Try.func20 (by kernel_rfl) rfl #[.agg #[.slice Ao46 t185.length co46],.int .i64 (Int.tmod t189 (t185.length : Int)),.int .i64 (t185.length : Int)] (by rfl) rfl rfl (by (try simp only [List.map_toArray,List.map_cons,List.map_nil]); first|done|rfl|(simp only [List.length_drop,List.length_take]; rfl)) ?_
  with_reducible refine (impl_SpanAt.calls k _ _ t185 (Int.tmod t189 (t185.length : Int)) (t185.length : Int) t198 _ ?side1 ?side2 A16.out).mono ?_
  (case side1 => repeat (first|exact (Kd.R_reads' HO187.out).2.2|(with_reducible refine Kd.C_alloc ?_ _)|(with_reducible refine Kd.C_drewN ?_ _)|(with_reducible refine Kd.C_drew ?_)))
  (case side2 => exact (Kd.R_reads' HO187.out).2.1)
  rintro e w53 ⟨rfl,hb⟩
  refine ⟨_,rfl,?_⟩
  have n0_:=Aside0.mk (Kd.R_below (by (with_reducible repeat (first|apply Kd.R_alloc|apply Kd.R_drewN|apply Kd.R_drew)); exact HO187.out) hb)
  have n1_:=Aside0.mk (Kd.R_below (by (with_reducible repeat (first|apply Kd.R_alloc|apply Kd.R_drewN|apply Kd.R_drew)); exact HO194.out) hb)
  have n2_:=Aside0.mk (blk_below (g:=gb188) (o:=.cells #[.slice Ao46 t185.length co46] 26 (0,0)) (by (with_reducible repeat (first|refine blk_drewN ?_ _|refine blk_drew ?_|refine blk_alloc ?_ _)); exact BK188.out) hb)
  have n3_:=Aside0.mk (below_step (by repeat (first|(with_reducible first|exact HB.out|apply bA|apply bD|apply bE|refine below_set ?_ GE188.out)|exact HB.out)) hb)
  clear HO187
  clear HO194
  clear BK188
  clear HB
  have HO187:=n0_
  have HO194:=n1_
  have BK188:=n2_
  have HB:=n3_
  clear n0_ n1_ n2_ n3_
  (try clear hb)
  (try clear hb2)
  (try clear hk)
  (try clear hi)
  refine hK.out _ _ ((blk_cell BK188.out 0).trans rfl) (fun hHeld => ?_)
  clear hK K
  refine norm_ (a':=?_) ?_ ?_
  rotate_left
  ·show Act.put _ (some 59) _ = _
   simp only [Act.put,lS,lZ,lC,i64_w,i32_w]
   rfl
  refine one_ (i:=26) (N:=some 61) #[tT,tT,tT,tT,tT,tT,tT,tT,tT,tT,tT,tT,tT,tT,tT,tT,tT,tT,tT,tT,tT,tT,tT,tT,tT,tT,tT,fF,fF,fF,fF,fF,fF,fF,fF,fF,fF,fF,fF,fF,fF,fF,fF,fF,fF,fF,fF,fF,fF] rfl rfl (one_of HT_.out (by kernel_rfl)) (by decide) (fun K hK => ?_)
  refine goes_ Try.func13 (by kernel_rfl) rfl #[.agg #[.slice Ao46 t185.length co46]] (by rfl) rfl rfl (by (try simp only [List.map_toArray,List.map_cons,List.map_nil]); first|done|rfl|(simp only [List.length_drop,List.length_take]; rfl)) ?_
  with_reducible refine (impl_ScaleSum.calls k _ _ t185 t199 _ ?side1 ?side2 A17.out).mono ?_
  (case side1 => repeat (first|exact (Kd.R_reads' HO187.out).2.2|(with_reducible refine Kd.C_alloc ?_ _)|(with_reducible refine Kd.C_drewN ?_ _)|(with_reducible refine Kd.C_drew ?_)))
  (case side2 => exact (Kd.R_reads' HO187.out).2.1)
  rintro e w54 ⟨rfl,hb⟩
  refine ⟨_,rfl,?_⟩
  have n0_:=Aside0.mk (Kd.R_below (by (with_reducible repeat (first|apply Kd.R_alloc|apply Kd.R_drewN|apply Kd.R_drew)); exact HO187.out) hb)
  have n1_:=Aside0.mk (Kd.R_below (by (with_reducible repeat (first|apply Kd.R_alloc|apply Kd.R_drewN|apply Kd.R_drew)); exact HO194.out) hb)
  have n2_:=Aside0.mk (blk_below (g:=gb188) (o:=.cells #[.slice Ao46 t185.length co46] 26 (0,0)) (by (with_reducible repeat (first|refine blk_drewN ?_ _|refine blk_drew ?_|refine blk_alloc ?_ _)); exact BK188.out) hb)
  have n3_:=Aside0.mk (below_step (by repeat (first|(with_reducible first|exact HB.out|apply bA|apply bD|apply bE|refine below_set ?_ GE188.out)|exact HB.out)) hb)
  clear HO187
  clear HO194
  clear BK188
  clear HB
  have HO187:=n0_
  have HO194:=n1_
  have BK188:=n2_
  have HB:=n3_
  clear n0_ n1_ n2_ n3_
  (try clear hb)
  (try clear hb2)
  (try clear hk)
  (try clear hi)
  refine hK.out _ _ ((blk_cell BK188.out 0).trans rfl) (fun hHeld => ?_)
  clear hK K
  refine norm_ (a':=?_) ?_ ?_
  rotate_left
  ·show Act.put _ (some 61) _ = _
   simp only [Act.put,lS,lZ,lC,i64_w,i32_w]
   rfl
  refine pure_ (i:=27) (N:=some 62) (v:=?_) (a':=?_) #[tT,tT,tT,tT,tT,tT,tT,tT,tT,tT,tT,tT,tT,tT,tT,tT,tT,tT,tT,tT,tT,tT,tT,tT,tT,tT,tT,tT,fF,fF,fF,fF,fF,fF,fF,fF,fF,fF,fF,fF,fF,fF,fF,fF,fF,fF,fF,fF,fF] rfl rfl (any_of HT_.out (by kernel_rfl)) (fun _ _ _ h => h) (Or.inl ⟨by rfl,?_⟩) ?_ ?_
  rotate_left
  ·intro w'
   go_simp
   first|(with_reducible rfl)|(simp only [Instr.field,go_sem, *]; rfl)
  rotate_left
  ·simp only [Act.put,lS,lZ,lC,i64_w,i32_w]
   rfl
  refine pure_ (i:=28) (N:=some 63) (v:=?_) (a':=?_) #[tT,tT,tT,tT,tT,tT,tT,tT,tT,tT,tT,tT,tT,tT,tT,tT,tT,tT,tT,tT,tT,tT,tT,tT,tT,tT,tT,tT,tT,fF,fF,fF,fF,fF,fF,fF,fF,fF,fF,fF,fF,fF,fF,fF,fF,fF,fF,fF,fF] rfl rfl (any_of HT_.out (by kernel_rfl)) (fun _ _ _ h => h) (Or.inl ⟨by rfl,?_⟩) ?_ ?_
  rotate_left
  ·intro w'
   go_simp
   first|(with_reducible rfl)|(simp only [Instr.field,go_sem, *]; rfl)
  rotate_left
  ·simp only [Act.put,lS,lZ,lC,i64_w,i32_w]
   rfl
  refine pure_ (i:=29) (N:=some 64) (v:=?_) (a':=?_) #[tT,tT,tT,tT,tT,tT,tT,tT,tT,tT,tT,tT,tT,tT,tT,tT,tT,tT,tT,tT,tT,tT,tT,tT,tT,tT,tT,tT,tT,tT,fF,fF,fF,fF,fF,fF,fF,fF,fF,fF,fF,fF,fF,fF,fF,fF,fF,fF,fF] rfl rfl (any_of HT_.out (by kernel_rfl)) (fun _ _ _ h => h) (Or.inl ⟨by rfl,?_⟩) ?_ ?_
  rotate_left
  ·intro w'
   go_simp
   first|(with_reducible rfl)|(simp only [Instr.field,go_sem, *]; rfl)
  rotate_left
  ·simp only [Act.put,lS,lZ,lC,i64_w,i32_w]
   rfl
  refine pure_ (i:=30) (N:=some 65) (v:=?_) (a':=?_) #[tT,tT,tT,tT,tT,tT,tT,tT,tT,tT,tT,tT,tT,tT,tT,tT,tT,tT,tT,tT,tT,tT,tT,tT,tT,tT,tT,tT,tT,tT,tT,fF,fF,fF,fF,fF,fF,fF,fF,fF,fF,fF,fF,fF,fF,fF,fF,fF,fF] rfl rfl (any_of HT_.out (by kernel_rfl)) (fun _ _ _ h => h) (Or.inl ⟨by rfl,?_⟩) ?_ ?_
  rotate_left
  ·intro w'
   go_simp
   first|(with_reducible rfl)|(simp only [Instr.field,go_sem, *]; rfl)
  rotate_left
  ·simp only [Act.put,lS,lZ,lC,i64_w,i32_w]
   rfl
  refine pure_ (i:=32) (N:=some 67) (v:=?_) (a':=?_) #[tT,tT,tT,tT,tT,tT,tT,tT,tT,tT,tT,tT,tT,tT,tT,tT,tT,tT,tT,tT,tT,tT,tT,tT,tT,tT,tT,tT,tT,tT,tT,fF,tT,fF,fF,fF,fF,fF,fF,fF,fF,fF,fF,fF,fF,fF,fF,fF,fF] rfl rfl (any_of HT_.out (by kernel_rfl)) (fun _ _ _ h => h) (Or.inl ⟨by rfl,?_⟩) ?_ ?_
  rotate_left
  ·intro w'
   go_simp
   first|(with_reducible rfl)|(simp only [Instr.field,go_sem, *]; rfl)
  rotate_left
  ·simp only [Act.put,lS,lZ,lC,i64_w,i32_w]
   rfl
  refine pure_ (i:=33) (N:=some 68) (v:=?_) (a':=?_) #[tT,tT,tT,tT,tT,tT,tT,tT,tT,tT,tT,tT,tT,tT,tT,tT,tT,tT,tT,tT,tT,tT,tT,tT,tT,tT,tT,tT,tT,tT,tT,fF,tT,tT,fF,fF,fF,fF,fF,fF,fF,fF,fF,fF,fF,fF,fF,fF,fF] rfl rfl (any_of HT_.out (by kernel_rfl)) (fun _ _ _ h => h) (Or.inl ⟨by rfl,?_⟩) ?_ ?_
  rotate_left
  ·intro w'
   go_simp
   first|(with_reducible rfl)|(simp only [Instr.field,go_sem, *]; rfl)
  rotate_left
  ·simp only [Act.put,lS,lZ,lC,i64_w,i32_w]
   rfl
  refine take_ (i:=31) (N:=some 66) (v:=?_) (a':=?_) #[tT,tT,tT,tT,tT,tT,tT,tT,tT,tT,tT,tT,tT,tT,tT,tT,tT,tT,tT,tT,tT,tT,tT,tT,tT,tT,tT,tT,tT,tT,tT,tT,tT,tT,fF,fF,fF,fF,fF,fF,fF,fF,fF,fF,fF,fF,fF,fF,fF] rfl rfl (take_ofW HT_.out HW_.out (by kernel_rfl)) (fun _ _ _ h => h) (Or.inl ⟨by rfl,?_⟩) hHeld ?_ ?_
  rotate_left
  ·intro w' s0
   go_simp
   first|(with_reducible rfl)|(simp only [Instr.field,go_sem, *]; rfl)
  rotate_left
  ·simp only [Act.put,lS,lZ,lC,i64_w,i32_w]
   rfl
  refine one_ (i:=34) (N:=some 69) #[tT,tT,tT,tT,tT,tT,tT,tT,tT,tT,tT,tT,tT,tT,tT,tT,tT,tT,tT,tT,tT,tT,tT,tT,tT,tT,tT,tT,tT,tT,tT,tT,tT,tT,tT,fF,fF,fF,fF,fF,fF,fF,fF,fF,fF,fF,fF,fF,fF] rfl rfl (one_of HT_.out (by kernel_rfl)) (by decide) (fun K hK => ?_)
  refine goes_ Try.func20 (by kernel_rfl) rfl #[.agg #[.slice Ao46 t185.length co46],.int .i64 (Int.tmod t189 (t185.length : Int)),.int .i64 (Int.tmod t190 (wrap64 ((t185.length : Int) + 1)))] (by rfl) rfl rfl (by (try simp only [List.map_toArray,List.map_cons,List.map_nil]); first|done|rfl|(simp only [List.length_drop,List.length_take]; rfl)) ?_
  with_reducible refine (impl_SpanAt.calls k _ _ t185 (Int.tmod t189 (t185.length : Int)) (Int.tmod t190 (wrap64 ((t185.length : Int) + 1))) t200 _ ?side1 ?side2 A19.out).mono ?_
  (case side1 => repeat (first|exact (Kd.R_reads' HO187.out).2.2|(with_reducible refine Kd.C_alloc ?_ _)|(with_reducible refine Kd.C_drewN ?_ _)|(with_reducible refine Kd.C_drew ?_)))
  (case side2 => exact (Kd.R_reads' HO187.out).2.1)
  rintro e w55 ⟨rfl,hb⟩
  refine ⟨_,rfl,?_⟩
  have n0_:=Aside0.mk (Kd.R_below (by (with_reducible repeat (first|apply Kd.R_alloc|apply Kd.R_drewN|apply Kd.R_drew)); exact HO187.out) hb)
  have n1_:=Aside0.mk (Kd.R_below (by (with_reducible repeat (first|apply Kd.R_alloc|apply Kd.R_drewN|apply Kd.R_drew)); exact HO194.out) hb)
  have n2_:=Aside0.mk (blk_below (g:=gb188) (o:=.cells #[.slice Ao46 t185.length co46] 26 (0,0)) (by (with_reducible repeat (first|refine blk_drewN ?_ _|refine blk_drew ?_|refine blk_alloc ?_ _)); exact BK188.out) hb)
  have n3_:=Aside0.mk (below_step (by repeat (first|(with_reducible first|exact HB.out|apply bA|apply bD|apply bE|refine below_set ?_ GE188.out)|exact HB.out)) hb)
  clear HO187
  clear HO194
  clear BK188
  clear HB
  have HO187:=n0_
  have HO194:=n1_
  have BK188:=n2_
  have HB:=n3_
  clear n0_ n1_ n2_ n3_
  (try clear hb)
  (try clear hb2)
  (try clear hk)
  (try clear hi)
  obtain ⟨Ao56,co56,eo56⟩:=Kd.R_slice HO194.out
  (first|subst eo56|(injection eo56 with f1_ f2_ f3_; have f4_:=f1_.symm; have f5_:=f3_.symm; clear f1_ f2_ f3_; subst f4_; subst f5_))
  refine hK.out _ _ ((blk_cell BK188.out 0).trans rfl) (fun hHeld => ?_)
  clear hK K
  refine norm_ (a':=?_) ?_ ?_
  rotate_left
  ·show Act.put _ (some 69) _ = _
   simp only [Act.put,lS,lZ,lC,i64_w,i32_w]
   rfl
  refine one_ (i:=35) (N:=some 70) #[tT,tT,tT,tT,tT,tT,tT,tT,tT,tT,tT,tT,tT,tT,tT,tT,tT,tT,tT,tT,tT,tT,tT,tT,tT,tT,tT,tT,tT,tT,tT,tT,tT,tT,tT,tT,fF,fF,fF,fF,fF,fF,fF,fF,fF,fF,fF,fF,fF] rfl rfl (one_of HT_.out (by kernel_rfl)) (by decide) (fun K hK => ?_)
  refine goes_ Try.func21 (by kernel_rfl) rfl #[.slice Ao56 t192.length co56,.int .i64 t200] (by rfl) rfl rfl (by (try simp only [List.map_toArray,List.map_cons,List.map_nil]); first|done|rfl|(simp only [List.length_drop,List.length_take]; rfl)) ?_
  with_reducible refine (laws_has.calls k _ _ t192 t200 true _ ?side1 ?side2 A20.out).mono ?_
  (case side1 => repeat (first|exact (Kd.R_reads' HO194.out).2.2|(with_reducible refine Kd.C_alloc ?_ _)|(with_reducible refine Kd.C_drewN ?_ _)|(with_reducible refine Kd.C_drew ?_)))
  (case side2 => exact (Kd.R_reads' HO194.out).2.1)
  rintro e w' ⟨rfl,⟨nd,rfl⟩⟩
  refine ⟨_,rfl,?_⟩
  refine hK.out _ _ ((blk_cell BK188.out 0).trans rfl) (fun hHeld => ?_)
  clear hK K
  refine norm_ (a':=?_) ?_ ?_
  rotate_left
  ·show Act.put _ (some 70) _ = _
   simp only [Act.put,lS,lZ,lC,i64_w,i32_w]
   rfl
  refine pure_ (i:=36) (N:=some 71) (v:=?_) (a':=?_) #[tT,tT,tT,tT,tT,tT,tT,tT,tT,tT,tT,tT,tT,tT,tT,tT,tT,tT,tT,tT,tT,tT,tT,tT,tT,tT,tT,tT,tT,tT,tT,tT,tT,tT,tT,tT,tT,fF,fF,fF,fF,fF,fF,fF,fF,fF,fF,fF,fF] rfl rfl (any_of HT_.out (by kernel_rfl)) (fun _ _ _ h => h) (Or.inl ⟨by rfl,?_⟩) ?_ ?_
  rotate_left
  ·intro w'
   go_simp
   first|(with_reducible rfl)|(simp only [Instr.field,go_sem, *]; rfl)
  rotate_left
  ·simp only [Act.put,lS,lZ,lC,i64_w,i32_w]
   rfl
  refine pure_ (i:=37) (N:=some 72) (v:=?_) (a':=?_) #[tT,tT,tT,tT,tT,tT,tT,tT,tT,tT,tT,tT,tT,tT,tT,tT,tT,tT,tT,tT,tT,tT,tT,tT,tT,tT,tT,tT,tT,tT,tT,tT,tT,tT,tT,tT,tT,tT,fF,fF,fF,fF,fF,fF,fF,fF,fF,fF,fF] rfl rfl (any_of HT_.out (by kernel_rfl)) (fun _ _ _ h => h) (Or.inl ⟨by rfl,?_⟩) ?_ ?_
  rotate_left
  ·intro w'
   go_simp
   first|(with_reducible rfl)|(simp only [Instr.field,go_sem, *]; rfl)
  rotate_left
  ·simp only [Act.put,lS,lZ,lC,i64_w,i32_w]
   rfl
  refine one_ (i:=38) (N:=some 73) #[tT,tT,tT,tT,tT,tT,tT,tT,tT,tT,tT,tT,tT,tT,tT,tT,tT,tT,tT,tT,tT,tT,tT,tT,tT,tT,tT,tT,tT,tT,tT,tT,tT,tT,tT,tT,tT,tT,tT,fF,fF,fF,fF,fF,fF,fF,fF,fF,fF] rfl rfl (one_of HT_.out (by kernel_rfl)) (by decide) (fun K hK => ?_)
  refine goes_ Try.func22 (by kernel_rfl) rfl #[] (by rfl) rfl rfl (by (try simp only [List.map_toArray,List.map_cons,List.map_nil]); first|done|rfl|(simp only [List.length_drop,List.length_take]; rfl)) ?_
  with_reducible refine (impl_MajorScale.calls  t202 _ A22.out).mono ?_
  rintro e w57 ⟨v203,rfl,ho0,hb⟩
  refine ⟨_,rfl,?_⟩
  have n0_:=Aside0.mk (Kd.R_elder' (by (with_reducible repeat (first|apply Kd.R_alloc|apply Kd.R_drewN|apply Kd.R_drew)); exact HO187.out) (Kd.R_base ho0) hb)
  have n1_:=Aside0.mk (Kd.R_elder' (by (with_reducible repeat (first|apply Kd.R_alloc|apply Kd.R_drewN|apply Kd.R_drew)); exact HO194.out) (Kd.R_base ho0) hb)
  have n2_:=Aside0.mk (Kd.R_lower (Kd.R_new' (Kd.R_new' ho0 (Kd.R_lt (by (with_reducible repeat (first|apply Kd.R_alloc|apply Kd.R_drewN|apply Kd.R_drew)); exact HO187.out))) (Kd.R_lt (by (with_reducible repeat (first|apply Kd.R_alloc|apply Kd.R_drewN|apply Kd.R_drew)); exact HO194.out))) (below_size (by repeat (first|(with_reducible first|exact HB.out|apply bA|apply bD|apply bE|refine below_set ?_ GE188.out)|exact HB.out))))
  have n3_:=Aside0.mk (blk_below (g:=gb188) (o:=.cells #[.slice Ao46 t185.length co46] 26 (0,0)) (by (with_reducible repeat (first|refine blk_drewN ?_ _|refine blk_drew ?_|refine blk_alloc ?_ _)); exact BK188.out) hb)
  have n4_:=Aside0.mk (below_step (by repeat (first|(with_reducible first|exact HB.out|apply bA|apply bD|apply bE|refine below_set ?_ GE188.out)|exact HB.out)) hb)
  clear HO187
  clear HO194
  clear BK188
  clear HB
  have HO187:=n0_
  have HO194:=n1_
  have HO204:=n2_
  have BK188:=n3_
  have HB:=n4_
  clear n0_ n1_ n2_ n3_ n4_
  (try clear hb)
  (try clear hb2)
  (try clear hk)
  (try clear hi)
  (try clear ho0)
  obtain ⟨Ao58,co58,eo58⟩:=Kd.R_slice HO204.out
  (first|subst eo58|(injection eo58 with f1_ f2_ f3_; have f4_:=f1_.symm; have f5_:=f3_.symm; clear f1_ f2_ f3_; subst f4_; subst f5_))
  refine hK.out _ _ ((blk_cell BK188.out 0).trans rfl) (fun hHeld => ?_)
  clear hK K
  refine norm_ (a':=?_) ?_ ?_
  rotate_left
  ·show Act.put _ (some 73) _ = _
   simp only [Act.put,lS,lZ,lC,i64_w,i32_w]
   rfl
  refine one_ (i:=39) (N:=some 74) #[tT,tT,tT,tT,tT,tT,tT,tT,tT,tT,tT,tT,tT,tT,tT,tT,tT,tT,tT,tT,tT,tT,tT,tT,tT,tT,tT,tT,tT,tT,tT,tT,tT,tT,tT,tT,tT,tT,tT,tT,fF,fF,fF,fF,fF,fF,fF,fF,fF] rfl rfl (one_of HT_.out (by kernel_rfl)) (by decide) (fun K hK => ?_)
  refine goes_ Try.func17 (by kernel_rfl) rfl #[.agg #[.slice Ao58 t202.length co58]] (by rfl) rfl rfl (by (try simp only [List.map_toArray,List.map_cons,List.map_nil]); first|done|rfl|(simp only [List.length_drop,List.length_take]; rfl)) ?_
  with_reducible refine (impl_HasTwoSizes.calls k _ _ t202 false _ ?side1 ?side2 A23.out).mono ?_
  (case side1 => repeat (first|exact (Kd.R_reads' HO204.out).2.2|(with_reducible refine Kd.C_alloc ?_ _)|(with_reducible refine Kd.C_drewN ?_ _)|(with_reducible refine Kd.C_drew ?_)))
  (case side2 => exact (Kd.R_reads' HO204.out).2.1)
  rintro e w59 ⟨rfl,hb⟩
  refine ⟨_,rfl,?_⟩
  have n0_:=Aside0.mk (Kd.R_below (by (with_reducible repeat (first|apply Kd.R_alloc|apply Kd.R_drewN|apply Kd.R_drew)); exact HO187.out) hb)
  have n1_:=Aside0.mk (Kd.R_below (by (with_reducible repeat (first|apply Kd.R_alloc|apply Kd.R_drewN|apply Kd.R_drew)); exact HO194.out) hb)
  have n2_:=Aside0.mk (Kd.R_below (by (with_reducible repeat (first|apply Kd.R_alloc|apply Kd.R_drewN|apply Kd.R_drew)); exact HO204.out) hb)
  have n3_:=Aside0.mk (blk_below (g:=gb188) (o:=.cells #[.slice Ao46 t185.length co46] 26 (0,0)) (by (with_reducible repeat (first|refine blk_drewN ?_ _|refine blk_drew ?_|refine blk_alloc ?_ _)); exact BK188.out) hb)
  have n4_:=Aside0.mk (below_step (by repeat (first|(with_reducible first|exact HB.out|apply bA|apply bD|apply bE|refine below_set ?_ GE188.out)|exact HB.out)) hb)
  clear HO187
  clear HO194
  clear HO204
  clear BK188
  clear HB
  have HO187:=n0_
  have HO194:=n1_
  have HO204:=n2_
  have BK188:=n3_
  have HB:=n4_
  clear n0_ n1_ n2_ n3_ n4_
  (try clear hb)
  (try clear hb2)
  (try clear hk)
  (try clear hi)
  refine hK.out _ _ ((blk_cell BK188.out 0).trans rfl) (fun hHeld => ?_)
  clear hK K
  refine norm_ (a':=?_) ?_ ?_
  rotate_left
  ·show Act.put _ (some 74) _ = _
   simp only [Act.put,lS,lZ,lC,i64_w,i32_w]
   rfl
  refine pure_ (i:=40) (N:=some 75) (v:=?_) (a':=?_) #[tT,tT,tT,tT,tT,tT,tT,tT,tT,tT,tT,tT,tT,tT,tT,tT,tT,tT,tT,tT,tT,tT,tT,tT,tT,tT,tT,tT,tT,tT,tT,tT,tT,tT,tT,tT,tT,tT,tT,tT,tT,fF,fF,fF,fF,fF,fF,fF,fF] rfl rfl (any_of HT_.out (by kernel_rfl)) (fun _ _ _ h => h) (Or.inl ⟨by rfl,?_⟩) ?_ ?_
  rotate_left
  ·intro w'
   go_simp
   first|(with_reducible rfl)|(simp only [Instr.field,go_sem, *]; rfl)
  rotate_left
  ·simp only [Act.put,lS,lZ,lC,i64_w,i32_w]
   rfl
  refine pure_ (i:=41) (N:=some 76) (v:=?_) (a':=?_) #[tT,tT,tT,tT,tT,tT,tT,tT,tT,tT,tT,tT,tT,tT,tT,tT,tT,tT,tT,tT,tT,tT,tT,tT,tT,tT,tT,tT,tT,tT,tT,tT,tT,tT,tT,tT,tT,tT,tT,tT,tT,tT,fF,fF,fF,fF,fF,fF,fF] rfl rfl (any_of HT_.out (by kernel_rfl)) (fun _ _ _ h => h) (Or.inl ⟨by rfl,?_⟩) ?_ ?_
  rotate_left
  ·intro w'
   go_simp
   first|(with_reducible rfl)|(simp only [Instr.field,go_sem, *]; rfl)
  rotate_left
  ·simp only [Act.put,lS,lZ,lC,i64_w,i32_w]
   rfl
  refine pure_ (i:=42) (N:=some 77) (v:=undef) (a':=?_) #[tT,tT,tT,tT,tT,tT,tT,tT,tT,tT,tT,tT,tT,tT,tT,tT,tT,tT,tT,tT,tT,tT,tT,tT,tT,tT,tT,tT,tT,tT,tT,tT,tT,tT,tT,tT,tT,tT,tT,tT,tT,tT,tT,fF,fF,fF,fF,fF,fF] rfl rfl (any_of HT_.out (by kernel_rfl)) (fun _ _ _ h => h) (Or.inr ⟨by rfl,rfl⟩) ?_ ?_
  rotate_left
  ·simp only [Act.put,lS,lZ,lC,i64_w,i32_w]
   rfl
  refine pure_ (i:=43) (N:=some 78) (v:=undef) (a':=?_) #[tT,tT,tT,tT,tT,tT,tT,tT,tT,tT,tT,tT,tT,tT,tT,tT,tT,tT,tT,tT,tT,tT,tT,tT,tT,tT,tT,tT,tT,tT,tT,tT,tT,tT,tT,tT,tT,tT,tT,tT,tT,tT,tT,tT,fF,fF,fF,fF,fF] rfl rfl (any_of HT_.out (by kernel_rfl)) (fun _ _ _ h => h) (Or.inr ⟨by rfl,rfl⟩) ?_ ?_
  rotate_left
  ·simp only [Act.put,lS,lZ,lC,i64_w,i32_w]
   rfl
  refine pure_ (i:=44) (N:=some 79) (v:=undef) (a':=?_) #[tT,tT,tT,tT,tT,tT,tT,tT,tT,tT,tT,tT,tT,tT,tT,tT,tT,tT,tT,tT,tT,tT,tT,tT,tT,tT,tT,tT,tT,tT,tT,tT,tT,tT,tT,tT,tT,tT,tT,tT,tT,tT,tT,tT,tT,fF,fF,fF,fF] rfl rfl (any_of HT_.out (by kernel_rfl)) (fun _ _ _ h => h) (Or.inr ⟨by rfl,rfl⟩) ?_ ?_
  rotate_left
  ·simp only [Act.put,lS,lZ,lC,i64_w,i32_w]
   rfl
  refine pure_ (i:=45) (N:=some 80) (v:=undef) (a':=?_) #[tT,tT,tT,tT,tT,tT,tT,tT,tT,tT,tT,tT,tT,tT,tT,tT,tT,tT,tT,tT,tT,tT,tT,tT,tT,tT,tT,tT,tT,tT,tT,tT,tT,tT,tT,tT,tT,tT,tT,tT,tT,tT,tT,tT,tT,tT,fF,fF,fF] rfl rfl (any_of HT_.out (by kernel_rfl)) (fun _ _ _ h => h) (Or.inr ⟨by rfl,rfl⟩) ?_ ?_
  rotate_left
  ·simp only [Act.put,lS,lZ,lC,i64_w,i32_w]
   rfl
  refine pure_ (i:=46) (N:=some 81) (v:=undef) (a':=?_) #[tT,tT,tT,tT,tT,tT,tT,tT,tT,tT,tT,tT,tT,tT,tT,tT,tT,tT,tT,tT,tT,tT,tT,tT,tT,tT,tT,tT,tT,tT,tT,tT,tT,tT,tT,tT,tT,tT,tT,tT,tT,tT,tT,tT,tT,tT,tT,fF,fF] rfl rfl (any_of HT_.out (by kernel_rfl)) (fun _ _ _ h => h) (Or.inr ⟨by rfl,rfl⟩) ?_ ?_
  rotate_left
  ·simp only [Act.put,lS,lZ,lC,i64_w,i32_w]
   rfl
  refine pure_ (i:=47) (N:=some 82) (v:=?_) (a':=?_) #[tT,tT,tT,tT,tT,tT,tT,tT,tT,tT,tT,tT,tT,tT,tT,tT,tT,tT,tT,tT,tT,tT,tT,tT,tT,tT,tT,tT,tT,tT,tT,tT,tT,tT,tT,tT,tT,tT,tT,tT,tT,tT,tT,tT,tT,tT,tT,tT,fF] rfl rfl (any_of HT_.out (by kernel_rfl)) (fun _ _ _ h => h) (Or.inl ⟨by rfl,?_⟩) ?_ ?_
  rotate_left
  ·intro w'
   go_simp
   first|(with_reducible rfl)|(simp only [Instr.field,go_sem, *]; rfl)
  rotate_left
  ·simp only [Act.put,lS,lZ,lC,i64_w,i32_w]
   rfl
  refine pure_ (i:=48) (N:=some 2) (v:=?_) (a':=?_) #[tT,tT,tT,tT,tT,tT,tT,tT,tT,tT,tT,tT,tT,tT,tT,tT,tT,tT,tT,tT,tT,tT,tT,tT,tT,tT,tT,tT,tT,tT,tT,tT,tT,tT,tT,tT,tT,tT,tT,tT,tT,tT,tT,tT,tT,tT,tT,tT,tT] rfl rfl (any_of HT_.out (by kernel_rfl)) (fun _ _ _ h => h) (Or.inl ⟨by rfl,?_⟩) ?_ ?_
  rotate_left
  ·intro w'
   go_simp
   first|(with_reducible rfl)|(simp only [Instr.field,go_sem, *]; rfl)
  rotate_left
  ·simp only [Act.put,lS,lZ,lC,i64_w,i32_w]
   rfl
  refine done_ (done_of HT_.out (by kernel_rfl)) ?_
  try go_wp2
  go_ret
  exact ⟨by first|rfl|(simp [errW_none,errW_some] <;> rfl)|(simp [*,errW_none,errW_some] <;> rfl),by repeat (first|(with_reducible first|exact HB.out|apply bA|apply bD|apply bE|refine below_set ?_ GE188.out)|exact HB.out)⟩
 subst c24
 have H1 : ((impl_SpansOf.f k t185 (t185.length : Int)).bind fun t206 => (some ((t206.length : Int) == 1))) = some r:=by rw [if_pos rfl] at H; exact H
 clear H
 have H:=H1
 clear H1
 replace H:=Option.bind_eq_some_iff.mp H
 obtain ⟨t206,A250,H⟩:=H
 replace H : (some ((t206.length : Int) == 1)) = some r:=H
 have A25:=Aside0.mk A250
 clear A250
 obtain rfl:=Option.some.inj H
 go_enter Try.func4,Try.ntmps4
 try go_wp2_with (first|((with_reducible refine gate_callee (f:=10) rfl ?_); refine goesL_ (some 10) rfl rfl Try.func10 (by kernel_rfl) rfl #[.slice A0 l0.length c0] rfl (by (try simp only [List.map_toArray,List.map_cons,List.map_nil]); first|done|rfl|(simp only [List.length_drop,List.length_take]; rfl)) ?_; (with_reducible refine (laws_big.calls _ _ l0 false _ ?side1 ?side2 A2.out).mono ?_); (case side1 => repeat (first|exact HR0.out|(with_reducible refine Kd.C_alloc ?_ _)|(with_reducible refine Kd.C_drewN ?_ _)|(with_reducible refine Kd.C_drew ?_))); (case side2 => exact HC0.out); rintro e w' ⟨rfl,⟨nd,rfl⟩⟩; refine ⟨_,rfl,?_⟩)|((with_reducible refine gate_callee (f:=11) rfl ?_); refine goesL_ (some 12) rfl rfl Try.func11 (by kernel_rfl) rfl #[.slice A0 l0.length c0] rfl (by (try simp only [List.map_toArray,List.map_cons,List.map_nil]); first|done|rfl|(simp only [List.length_drop,List.length_take]; rfl)) ?_; (with_reducible refine (spec_DrawScale.calls k _ _ l0 t185 _ ?side1 ?side2 A4.out).mono ?_); (case side1 => repeat (first|exact HR0.out|(with_reducible refine Kd.C_alloc ?_ _)|(with_reducible refine Kd.C_drewN ?_ _)|(with_reducible refine Kd.C_drew ?_))); (case side2 => exact HC0.out); rintro e w26 ⟨v186,rfl,ho0,hb⟩; refine ⟨_,rfl,?_⟩; have n0_:=Aside0.mk (Kd.R_lower ho0 (below_size (by repeat (first|(with_reducible first|exact HB.out|apply bA|apply bD|apply bE)|exact HB.out)))); have n1_:=Aside0.mk (below_step (by repeat (first|(with_reducible first|exact HB.out|apply bA|apply bD|apply bE)|exact HB.out)) hb); clear HB; have HO187:=n0_; have HB:=n1_; clear n0_ n1_; (try clear hb); (try clear hb2); (try clear hk); (try clear hi); (try clear ho0))|((with_reducible refine gate_dst (N:=3) rfl ?_); (try (refine gate_guard (by rfl) ?_; dsimp only)); refine box_event ?hg (N:=3) ?hd (cs:=#[.slice none 0 0]) (t:=26) ?hr ?_; (case hd => rfl); (case hg => rfl); (case hr => first|(go_simp; done)|(go_simp; rfl)); intro gb188 hg w27 hbox hb; have n0_:=Aside0.mk (Kd.R_below (by (with_reducible repeat (first|apply Kd.R_alloc|apply Kd.R_drewN|apply Kd.R_drew)); exact HO187.out) hb); have n1_:=Aside0.mk (below_step (by repeat (first|(with_reducible first|exact HB.out|apply bA|apply bD|apply bE)|exact HB.out)) hb); have n2_:=Aside0.mk (hbox); have n3_:=Aside0.mk ((by rw [hg]; exact (below_size (by repeat (first|(with_reducible first|exact HB.out|apply bA|apply bD|apply bE)|exact HB.out))) : w.heap.size ≤ gb188)); have n4_:=Aside0.mk ((by rw [hg]; exact (below_size (by repeat (first|(with_reducible first|exact HB.out|apply bA|apply bD|apply bE)|exact HB.out))) : w.heap.size ≤ gb188)); clear HO187; clear HB; have HO187:=n0_; have HB:=n1_; have BK188:=n2_; have GW188:=n3_; have GE188:=n4_; clear n0_ n1_ n2_ n3_ n4_; clear hb hbox hg; obtain ⟨Ao28,co28,eo28⟩:=Kd.R_slice HO187.out; subst eo28; have hcz29_0 : w27.cell? ⟨gb188,0,none⟩ = some (.slice none 0 0):=(blk_cell BK188.out 0).trans rfl; have hfz29_0:=blk_frozen BK188.out 0)|((with_reducible refine gate_callee (f:=18) rfl ?_); refine goesL_ (some 17) rfl rfl Try.func18 (by kernel_rfl) rfl #[.slice A0 l0.length c0,.int .i64 0] rfl (by (try simp only [List.map_toArray,List.map_cons,List.map_nil]); first|done|rfl|(simp only [List.length_drop,List.length_take]; rfl)) ?_; (with_reducible refine (laws_at.calls _ _ l0 0 t189 _ ?side1 ?side2 A5.out).mono ?_); (case side1 => exact Kd.C_below HR0.out (by repeat (first|(with_reducible first|exact HB.out|apply bA|apply bD|apply bE|refine below_set ?_ GE188.out)|exact HB.out))); (case side2 => exact HC0.out); rintro e w' ⟨rfl,⟨nd,rfl⟩⟩; refine ⟨_,rfl,?_⟩)|((with_reducible refine gate_callee (f:=18) rfl ?_); refine goesL_ (some 21) rfl rfl Try.func18 (by kernel_rfl) rfl #[.slice A0 l0.length c0,.int .i64 1] rfl (by (try simp only [List.map_toArray,List.map_cons,List.map_nil]); first|done|rfl|(simp only [List.length_drop,List.length_take]; rfl)) ?_; (with_reducible refine (laws_at.calls _ _ l0 1 t190 _ ?side1 ?side2 A7.out).mono ?_); (case side1 => exact Kd.C_below HR0.out (by repeat (first|(with_reducible first|exact HB.out|apply bA|apply bD|apply bE|refine below_set ?_ GE188.out)|exact HB.out))); (case side2 => exact HC0.out); rintro e w' ⟨rfl,⟨nd,rfl⟩⟩; refine ⟨_,rfl,?_⟩)|((with_reducible refine gate_callee (f:=18) rfl ?_); refine goesL_ (some 26) rfl rfl Try.func18 (by kernel_rfl) rfl #[.slice A0 l0.length c0,.int .i64 2] rfl (by (try simp only [List.map_toArray,List.map_cons,List.map_nil]); first|done|rfl|(simp only [List.length_drop,List.length_take]; rfl)) ?_; (with_reducible refine (laws_at.calls _ _ l0 2 t191 _ ?side1 ?side2 A9.out).mono ?_); (case side1 => exact Kd.C_below HR0.out (by repeat (first|(with_reducible first|exact HB.out|apply bA|apply bD|apply bE|refine below_set ?_ GE188.out)|exact HB.out))); (case side2 => exact HC0.out); rintro e w' ⟨rfl,⟨nd,rfl⟩⟩; refine ⟨_,rfl,?_⟩)|((with_reducible refine gate_callee (f:=19) rfl ?_); refine goesL_ (some 34) rfl rfl Try.func19 (by kernel_rfl) rfl #[.agg #[.slice Ao28 t185.length co28],.int .i64 (Int.tmod t190 (wrap64 ((t185.length : Int) + 1)))] rfl (by (try simp only [List.map_toArray,List.map_cons,List.map_nil]); first|done|rfl|(simp only [List.length_drop,List.length_take]; rfl)) ?_; (with_reducible refine (impl_SpansOf.calls k _ _ t185 (Int.tmod t190 (wrap64 ((t185.length : Int) + 1))) t192 _ ?side1 ?side2 A11.out).mono ?_); (case side1 => refine (Kd.R_reads' (e:=3) (base:=w.heap.size) (ok:=fun k_ => True) (n:=t185.length) (c:=co28) ?_).2.2; exact (by (with_reducible repeat (first|apply Kd.R_alloc|apply Kd.R_drewN|apply Kd.R_drew)); exact (Kd.R_mono (Kd.R_far (p:=⟨gb188,0,none⟩) (Kd.R_types HO187.out BK188.out (by decide)) (fun _ hk => hk.2) (.slice Ao28 t185.length co28)) (fun _ h_ => h_.1)))); (case side2 => exact (Kd.R_reads' HO187.out).2.1); rintro e w30 ⟨v193,rfl,ho0,hb⟩; refine ⟨_,rfl,?_⟩; have n0_:=Aside0.mk (Kd.R_elder' (by (with_reducible repeat (first|apply Kd.R_alloc|apply Kd.R_drewN|apply Kd.R_drew)); exact (Kd.R_mono (Kd.R_far (p:=⟨gb188,0,none⟩) (Kd.R_types HO187.out BK188.out (by decide)) (fun _ hk => hk.2) (.slice Ao28 t185.length co28)) (fun _ h_ => h_.1))) (Kd.R_base ho0) hb); have n1_:=Aside0.mk (Kd.R_lower (Kd.R_new' ho0 (Kd.R_lt (by (with_reducible repeat (first|apply Kd.R_alloc|apply Kd.R_drewN|apply Kd.R_drew)); exact (Kd.R_mono (Kd.R_far (p:=⟨gb188,0,none⟩) (Kd.R_types HO187.out BK188.out (by decide)) (fun _ hk => hk.2) (.slice Ao28 t185.length co28)) (fun _ h_ => h_.1))))) (below_size (by repeat (first|(with_reducible first|exact HB.out|apply bA|apply bD|apply bE|refine below_set ?_ GE188.out)|exact HB.out)))); have n2_:=Aside0.mk (blk_below (g:=gb188) (o:=.cells #[.slice Ao28 t185.length co28] 26 (0,0)) (by (with_reducible repeat (first|refine blk_drewN ?_ _|refine blk_drew ?_|refine blk_alloc ?_ _)); refine blk_put (cs:=#[.slice none 0 0]) ?_ 0 _ rfl; (with_reducible repeat (first|refine blk_drewN ?_ _|refine blk_drew ?_|refine blk_alloc ?_ _)); exact BK188.out) hb); have n3_:=Aside0.mk (below_step (by repeat (first|(with_reducible first|exact HB.out|apply bA|apply bD|apply bE|refine below_set ?_ GE188.out)|exact HB.out)) hb); clear HO187; clear BK188; clear HB; have HO187:=n0_; have HO194:=n1_; have BK188:=n2_; have HB:=n3_; clear n0_ n1_ n2_ n3_; (try clear hb); (try clear hb2); (try clear hk); (try clear hi); (try clear ho0)))
 have n0_:=Aside0.mk (Kd.R_drew HO187.out)
 have n1_:=Aside0.mk (Kd.R_drew HO194.out)
 have n2_:=Aside0.mk (blk_drew BK188.out)
 have n3_:=Aside0.mk (bE HB.out)
 clear HO187
 clear HO194
 clear BK188
 clear HB
 have HO187:=n0_
 have HO194:=n1_
 have BK188:=n2_
 have HB:=n3_
 clear n0_ n1_ n2_ n3_
 refine start_ (n:=49) (S:=fun w' => w'.cell? ⟨gb188,0,none⟩ = some (.slice Ao28 t185.length co28)) (ds:=[]) #[fF,fF,fF,fF,fF,fF,fF,fF,fF,fF,fF,fF,fF,fF,fF,fF,fF,fF,fF,fF,fF,fF,fF,fF,fF,fF,fF,fF,fF,fF,fF,fF,fF,fF,fF,fF,fF,fF,fF,fF,fF,fF,fF,fF,fF,fF,fF,fF,fF] (by kernel_rfl) rfl rfl ((blk_cell BK188.out 0).trans rfl) (fun hHeld => ?_); refine with_tabW laws_FnSpans.tab9 laws_FnSpans.bits9 (fun HT_ HW_ => ?_)
 generalize w30.drew = w31 at HO187 HO194 BK188 HB hHeld ⊢
 refine pure_ (i:=1) (N:=some 36) (v:=?_) (a':=?_) #[fF,tT,fF,fF,fF,fF,fF,fF,fF,fF,fF,fF,fF,fF,fF,fF,fF,fF,fF,fF,fF,fF,fF,fF,fF,fF,fF,fF,fF,fF,fF,fF,fF,fF,fF,fF,fF,fF,fF,fF,fF,fF,fF,fF,fF,fF,fF,fF,fF] rfl rfl (any_of HT_.out (by kernel_rfl)) (fun _ _ _ h => h) (Or.inl ⟨by rfl,?_⟩) ?_ ?_
 rotate_left
 ·intro w'
  go_simp
  first|(with_reducible rfl)|(simp only [Instr.field,go_sem, *]; rfl)
 rotate_left
 ·simp only [Act.put,lS,lZ,lC,i64_w,i32_w]
  rfl
 refine pure_ (i:=2) (N:=some 37) (v:=?_) (a':=?_) #[fF,tT,tT,fF,fF,fF,fF,fF,fF,fF,fF,fF,fF,fF,fF,fF,fF,fF,fF,fF,fF,fF,fF,fF,fF,fF,fF,fF,fF,fF,fF,fF,fF,fF,fF,fF,fF,fF,fF,fF,fF,fF,fF,fF,fF,fF,fF,fF,fF] rfl rfl (any_of HT_.out (by kernel_rfl)) (fun _ _ _ h => h) (Or.inl ⟨by rfl,?_⟩) ?_ ?_
 rotate_left
 ·intro w'
  go_simp
  first|(with_reducible rfl)|(simp only [Instr.field,go_sem, *]; rfl)
 rotate_left
 ·simp only [Act.put,lS,lZ,lC,i64_w,i32_w]
  rfl
 refine pure_ (i:=5) (N:=some 40) (v:=?_) (a':=?_) #[fF,tT,tT,fF,fF,tT,fF,fF,fF,fF,fF,fF,fF,fF,fF,fF,fF,fF,fF,fF,fF,fF,fF,fF,fF,fF,fF,fF,fF,fF,fF,fF,fF,fF,fF,fF,fF,fF,fF,fF,fF,fF,fF,fF,fF,fF,fF,fF,fF] rfl rfl (any_of HT_.out (by kernel_rfl)) (fun _ _ _ h => h) (Or.inl ⟨by rfl,?_⟩) ?_ ?_
 rotate_left
 ·intro w'
  go_simp
  first|(with_reducible rfl)|(simp only [Instr.field,go_sem, *]; rfl)
 rotate_left
 ·simp only [Act.put,lS,lZ,lC,i64_w,i32_w]
  rfl
 refine pure_ (i:=6) (N:=some 41) (v:=?_) (a':=?_) #[fF,tT,tT,fF,fF,tT,tT,fF,fF,fF,fF,fF,fF,fF,fF,fF,fF,fF,fF,fF,fF,fF,fF,fF,fF,fF,fF,fF,fF,fF,fF,fF,fF,fF,fF,fF,fF,fF,fF,fF,fF,fF,fF,fF,fF,fF,fF,fF,fF] rfl rfl (any_of HT_.out (by kernel_rfl)) (fun _ _ _ h => h) (Or.inl ⟨by rfl,?_⟩) ?_ ?_
 rotate_left
 ·intro w'
  go_simp
  first|(with_reducible rfl)|(simp only [Instr.field,go_sem, *]; rfl)
 rotate_left
 ·simp only [Act.put,lS,lZ,lC,i64_w,i32_w]
  rfl
 refine pure_ (i:=7) (N:=some 42) (v:=?_) (a':=?_) #[fF,tT,tT,fF,fF,tT,tT,tT,fF,fF,fF,fF,fF,fF,fF,fF,fF,fF,fF,fF,fF,fF,fF,fF,fF,fF,fF,fF,fF,fF,fF,fF,fF,fF,fF,fF,fF,fF,fF,fF,fF,fF,fF,fF,fF,fF,fF,fF,fF] rfl rfl (any_of HT_.out (by kernel_rfl)) (fun _ _ _ h => h) (Or.inl ⟨by rfl,?_⟩) ?_ ?_
 rotate_left
 ·intro w'
  go_simp
  first|(with_reducible rfl)|(simp only [Instr.field,go_sem, *]; rfl)
 rotate_left
 ·simp only [Act.put,lS,lZ,lC,i64_w,i32_w]
  rfl
 refine pure_ (i:=8) (N:=some 43) (v:=?_) (a':=?_) #[fF,tT,tT,fF,fF,tT,tT,tT,tT,fF,fF,fF,fF,fF,fF,fF,fF,fF,fF,fF,fF,fF,fF,fF,fF,fF,fF,fF,fF,fF,fF,fF,fF,fF,fF,fF,fF,fF,fF,fF,fF,fF,fF,fF,fF,fF,fF,fF,fF] rfl rfl (any_of HT_.out (by kernel_rfl)) (fun _ _ _ h => h) (Or.inl ⟨by rfl,?_⟩) ?_ ?_
 rotate_left
 ·intro w'
  go_simp
  first|(with_reducible rfl)|(simp only [Instr.field,go_sem, *]; rfl)
 rotate_left
 ·simp only [Act.put,lS,lZ,lC,i64_w,i32_w]
  rfl
 refine pure_ (i:=9) (N:=some 44) (v:=?_) (a':=?_) #[fF,tT,tT,fF,fF,tT,tT,tT,tT,tT,fF,fF,fF,fF,fF,fF,fF,fF,fF,fF,fF,fF,fF,fF,fF,fF,fF,fF,fF,fF,fF,fF,fF,fF,fF,fF,fF,fF,fF,fF,fF,fF,fF,fF,fF,fF,fF,fF,fF] rfl rfl (any_of HT_.out (by kernel_rfl)) (fun _ _ _ h => h) (Or.inl ⟨by rfl,?_⟩) ?_ ?_
 rotate_left
 ·intro w'
  go_simp
  first|(with_reducible rfl)|(simp only [Instr.field,go_sem, *]; rfl)
 rotate_left
 ·simp only [Act.put,lS,lZ,lC,i64_w,i32_w]
  rfl
 refine pure_ (i:=10) (N:=some 45) (v:=?_) (a':=?_) #[fF,tT,tT,fF,fF,tT,tT,tT,tT,tT,tT,fF,fF,fF,fF,fF,fF,fF,fF,fF,fF,fF,fF,fF,fF,fF,fF,fF,fF,fF,fF,fF,fF,fF,fF,fF,fF,fF,fF,fF,fF,fF,fF,fF,fF,fF,fF,fF,fF] rfl rfl (any_of HT_.out (by kernel_rfl)) (fun _ _ _ h => h) (Or.inl ⟨by rfl,?_⟩) ?_ ?_
 rotate_left
 ·intro w'
  go_simp
  first|(with_reducible rfl)|(simp only [Instr.field,go_sem, *]; rfl)
 rotate_left
 ·simp only [Act.put,lS,lZ,lC,i64_w,i32_w]
  rfl
 refine pure_ (i:=14) (N:=some 49) (v:=?_) (a':=?_) #[fF,tT,tT,fF,fF,tT,tT,tT,tT,tT,tT,fF,fF,fF,tT,fF,fF,fF,fF,fF,fF,fF,fF,fF,fF,fF,fF,fF,fF,fF,fF,fF,fF,fF,fF,fF,fF,fF,fF,fF,fF,fF,fF,fF,fF,fF,fF,fF,fF] rfl rfl (any_of HT_.out (by kernel_rfl)) (fun _ _ _ h => h) (Or.inl ⟨by rfl,?_⟩) ?_ ?_
 rotate_left
 ·intro w'
  go_simp
  first|(with_reducible rfl)|(simp only [Instr.field,go_sem, *]; rfl)
 rotate_left
 ·simp only [Act.put,lS,lZ,lC,i64_w,i32_w]
  rfl
 refine pure_ (i:=15) (N:=some 50) (v:=?_) (a':=?_) #[fF,tT,tT,fF,fF,tT,tT,tT,tT,tT,tT,fF,fF,fF,tT,tT,fF,fF,fF,fF,fF,fF,fF,fF,fF,fF,fF,fF,fF,fF,fF,fF,fF,fF,fF,fF,fF,fF,fF,fF,fF,fF,fF,fF,fF,fF,fF,fF,fF] rfl rfl (any_of HT_.out (by kernel_rfl)) (fun _ _ _ h => h) (Or.inl ⟨by rfl,?_⟩) ?_ ?_
 rotate_left
 ·intro w'
  go_simp
  first|(with_reducible rfl)|(simp only [Instr.field,go_sem, *]; rfl)
 rotate_left
 ·simp only [Act.put,lS,lZ,lC,i64_w,i32_w]
  rfl
 refine pure_ (i:=16) (N:=some 51) (v:=?_) (a':=?_) #[fF,tT,tT,fF,fF,tT,tT,tT,tT,tT,tT,fF,fF,fF,tT,tT,tT,fF,fF,fF,fF,fF,fF,fF,fF,fF,fF,fF,fF,fF,fF,fF,fF,fF,fF,fF,fF,fF,fF,fF,fF,fF,fF,fF,fF,fF,fF,fF,fF] rfl rfl (any_of HT_.out (by kernel_rfl)) (fun _ _ _ h => h) (Or.inl ⟨by rfl,?_⟩) ?_ ?_
 rotate_left
 ·intro w'
  go_simp
  first|(with_reducible rfl)|(simp only [Instr.field,go_sem, *]; rfl)
 rotate_left
 ·simp only [Act.put,lS,lZ,lC,i64_w,i32_w]
  rfl
 refine pure_ (i:=17) (N:=some 52) (v:=?_) (a':=?_) #[fF,tT,tT,fF,fF,tT,tT,tT,tT,tT,tT,fF,fF,fF,tT,tT,tT,tT,fF,fF,fF,fF,fF,fF,fF,fF,fF,fF,fF,fF,fF,fF,fF,fF,fF,fF,fF,fF,fF,fF,fF,fF,fF,fF,fF,fF,fF,fF,fF] rfl rfl (any_of HT_.out (by kernel_rfl)) (fun _ _ _ h => h) (Or.inl ⟨by rfl,?_⟩) ?_ ?_
 rotate_left
 ·intro w'
  go_simp
  first|(with_reducible rfl)|(simp only [Instr.field,go_sem, *]; rfl)
 rotate_left
 ·simp only [Act.put,lS,lZ,lC,i64_w,i32_w]
  rfl
 refine take_ (i:=0) (N:=some 35) (v:=?_) (a':=?_) #[tT,tT,tT,fF,fF,tT,tT,tT,tT,tT,tT,fF,fF,fF,tT,tT,tT,tT,fF,fF,fF,fF,fF,fF,fF,fF,fF,fF,fF,fF,fF,fF,fF,fF,fF,fF,fF,fF,fF,fF,fF,fF,fF,fF,fF,fF,fF,fF,fF] rfl rfl (take_ofW HT_.out HW_.out (by kernel_rfl)) (fun _ _ _ h => h) (Or.inl ⟨by rfl,?_⟩) hHeld ?_ ?_
 rotate_left
 ·intro w' s0
  go_simp
  first|(with_reducible rfl)|(simp only [Instr.field,go_sem, *]; rfl)
 rotate_left
 ·simp only [Act.put,lS,lZ,lC,i64_w,i32_w]
  rfl
 refine take_ (i:=4) (N:=some 39) (v:=?_) (a':=?_) #[tT,tT,tT,fF,tT,tT,tT,tT,tT,tT,tT,fF,fF,fF,tT,tT,tT,tT,fF,fF,fF,fF,fF,fF,fF,fF,fF,fF,fF,fF,fF,fF,fF,fF,fF,fF,fF,fF,fF,fF,fF,fF,fF,fF,fF,fF,fF,fF,fF] rfl rfl (take_ofW HT_.out HW_.out (by kernel_rfl)) (fun _ _ _ h => h) (Or.inl ⟨by rfl,?_⟩) hHeld ?_ ?_
 rotate_left
 ·intro w' s0
  go_simp
  first|(with_reducible rfl)|(simp only [Instr.field,go_sem, *]; rfl)
 rotate_left
 ·simp only [Act.put,lS,lZ,lC,i64_w,i32_w]
  rfl
 refine take_ (i:=13) (N:=some 48) (v:=?_) (a':=?_) #[tT,tT,tT,fF,tT,tT,tT,tT,tT,tT,tT,fF,fF,tT,tT,tT,tT,tT,fF,fF,fF,fF,fF,fF,fF,fF,fF,fF,fF,fF,fF,fF,fF,fF,fF,fF,fF,fF,fF,fF,fF,fF,fF,fF,fF,fF,fF,fF,fF] rfl rfl (take_ofW HT_.out HW_.out (by kernel_rfl)) (fun _ _ _ h => h) (Or.inl ⟨by rfl,?_⟩) hHeld ?_ ?_
 rotate_left
 ·intro w' s0
  go_simp
  first|(with_reducible rfl)|(simp only [Instr.field,go_sem, *]; rfl)
 rotate_left
 ·simp only [Act.put,lS,lZ,lC,i64_w,i32_w]
  rfl
 refine one_ (i:=3) (N:=some 38) #[tT,tT,tT,tT,tT,tT,tT,tT,tT,tT,tT,fF,fF,tT,tT,tT,tT,tT,fF,fF,fF,fF,fF,fF,fF,fF,fF,fF,fF,fF,fF,fF,fF,fF,fF,fF,fF,fF,fF,fF,fF,fF,fF,fF,fF,fF,fF,fF,fF] rfl rfl (one_of HT_.out (by kernel_rfl)) (by decide) (fun K hK => ?_)
 refine goes_ Try.func20 (by kernel_rfl) rfl #[.agg #[.slice Ao28 t185.length co28],.int .i64 (Int.tmod t189 (t185.length : Int)),.int .i64 (Int.tmod t190 (wrap64 ((t185.length : Int) + 1)))] (by rfl) rfl rfl (by (try simp only [List.map_toArray,List.map_cons,List.map_nil]); first|done|rfl|(simp only [List.length_drop,List.length_take]; rfl)) ?_
 with_reducible refine (impl_SpanAt.calls k _ _ t185 (Int.tmod t189 (t185.length : Int)) (Int.tmod t190 (wrap64 ((t185.length : Int) + 1))) t195 _ ?side1 ?side2 A12.out).mono ?_
 (case side1 => repeat (first|exact (Kd.R_reads' HO187.out).2.2|(with_reducible refine Kd.C_alloc ?_ _)|(with_reducible refine Kd.C_drewN ?_ _)|(with_reducible refine Kd.C_drew ?_)))
 (case side2 => exact (Kd.R_reads' HO187.out).2.1)
 rintro e w32 ⟨rfl,hb⟩
 refine ⟨_,rfl,?_⟩
 have n0_:=Aside0.mk (Kd.R_below (by (with_reducible repeat (first|apply Kd.R_alloc|apply Kd.R_drewN|apply Kd.R_drew)); exact HO187.out) hb)
 have n1_:=Aside0.mk (Kd.R_below (by (with_reducible repeat (first|apply Kd.R_alloc|apply Kd.R_drewN|apply Kd.R_drew)); exact HO194.out) hb)
 have n2_:=Aside0.mk (blk_below (g:=gb188) (o:=.cells #[.slice Ao28 t185.length co28] 26 (0,0)) (by (with_reducible repeat (first|refine blk_drewN ?_ _|refine blk_drew ?_|refine blk_alloc ?_ _)); exact BK188.out) hb)
 have n3_:=Aside0.mk (below_step (by repeat (first|(with_reducible first|exact HB.out|apply bA|apply bD|apply bE|refine below_set ?_ GE188.out)|exact HB.out)) hb)
 clear HO187
 clear HO194
 clear BK188
 clear HB
 have HO187:=n0_
 have HO194:=n1_
 have BK188:=n2_
 have HB:=n3_
 clear n0_ n1_ n2_ n3_
 (try clear hb)
 (try clear hb2)
 (try clear hk)
 (try clear hi)
 refine hK.out _ _ ((blk_cell BK188.out 0).trans rfl) (fun hHeld => ?_)
 clear hK K
 refine norm_ (a':=?_) ?_ ?_
 rotate_left
 ·show Act.put _ (some 38) _ = _
  simp only [Act.put,lS,lZ,lC,i64_w,i32_w]
  rfl
 refine one_ (i:=11) (N:=some 46) #[tT,tT,tT,tT,tT,tT,tT,tT,tT,tT,tT,tT,fF,tT,tT,tT,tT,tT,fF,fF,fF,fF,fF,fF,fF,fF,fF,fF,fF,fF,fF,fF,fF,fF,fF,fF,fF,fF,fF,fF,fF,fF,fF,fF,fF,fF,fF,fF,fF] rfl rfl (one_of HT_.out (by kernel_rfl)) (by decide) (fun K hK => ?_)
 refine goes_ Try.func20 (by kernel_rfl) rfl #[.agg #[.slice Ao28 t185.length co28],.int .i64 (Int.tmod (wrap64 ((Int.tmod t189 (t185.length : Int)) + (Int.tmod t190 (wrap64 ((t185.length : Int) + 1))))) (t185.length : Int)),.int .i64 (Int.tmod t191 (wrap64 ((wrap64 ((t185.length : Int) + 1)) - (Int.tmod t190 (wrap64 ((t185.length : Int) + 1))))))] (by rfl) rfl rfl (by (try simp only [List.map_toArray,List.map_cons,List.map_nil]); first|done|rfl|(simp only [List.length_drop,List.length_take]; rfl)) ?_
 with_reducible refine (impl_SpanAt.calls k _ _ t185 (Int.tmod (wrap64 ((Int.tmod t189 (t185.length : Int)) + (Int.tmod t190 (wrap64 ((t185.length : Int) + 1))))) (t185.length : Int)) (Int.tmod t191 (wrap64 ((wrap64 ((t185.length : Int) + 1)) - (Int.tmod t190 (wrap64 ((t185.length : Int) + 1)))))) t196 _ ?side1 ?side2 A13.out).mono ?_
 (case side1 => repeat (first|exact (Kd.R_reads' HO187.out).2.2|(with_reducible refine Kd.C_alloc ?_ _)|(with_reducible refine Kd.C_drewN ?_ _)|(with_reducible refine Kd.C_drew ?_)))
 (case side2 => exact (Kd.R_reads' HO187.out).2.1)
 rintro e w33 ⟨rfl,hb⟩
 refine ⟨_,rfl,?_⟩
 have n0_:=Aside0.mk (Kd.R_below (by (with_reducible repeat (first|apply Kd.R_alloc|apply Kd.R_drewN|apply Kd.R_drew)); exact HO187.out) hb)
 have n1_:=Aside0.mk (Kd.R_below (by (with_reducible repeat (first|apply Kd.R_alloc|apply Kd.R_drewN|apply Kd.R_drew)); exact HO194.out) hb)
 have n2_:=Aside0.mk (blk_below (g:=gb188) (o:=.cells #[.slice Ao28 t185.length co28] 26 (0,0)) (by (with_reducible repeat (first|refine blk_drewN ?_ _|refine blk_drew ?_|refine blk_alloc ?_ _)); exact BK188.out) hb)
 have n3_:=Aside0.mk (below_step (by repeat (first|(with_reducible first|exact HB.out|apply bA|apply bD|apply bE|refine below_set ?_ GE188.out)|exact HB.out)) hb)
 clear HO187
 clear HO194
 clear BK188
 clear HB
 have HO187:=n0_
 have HO194:=n1_
 have BK188:=n2_
 have HB:=n3_
 clear n0_ n1_ n2_ n3_
 (try clear hb)
 (try clear hb2)
 (try clear hk)
 (try clear hi)
 refine hK.out _ _ ((blk_cell BK188.out 0).trans rfl) (fun hHeld => ?_)
 clear hK K
 refine norm_ (a':=?_) ?_ ?_
 rotate_left
 ·show Act.put _ (some 46) _ = _
  simp only [Act.put,lS,lZ,lC,i64_w,i32_w]
  rfl
 refine pure_ (i:=12) (N:=some 47) (v:=?_) (a':=?_) #[tT,tT,tT,tT,tT,tT,tT,tT,tT,tT,tT,tT,tT,tT,tT,tT,tT,tT,fF,fF,fF,fF,fF,fF,fF,fF,fF,fF,fF,fF,fF,fF,fF,fF,fF,fF,fF,fF,fF,fF,fF,fF,fF,fF,fF,fF,fF,fF,fF] rfl rfl (any_of HT_.out (by kernel_rfl)) (fun _ _ _ h => h) (Or.inl ⟨by rfl,?_⟩) ?_ ?_
 rotate_left
 ·intro w'
  go_simp
  first|(with_reducible rfl)|(simp only [Instr.field,go_sem, *]; rfl)
 rotate_left
 ·simp only [Act.put,lS,lZ,lC,i64_w,i32_w]
  rfl
 refine one_ (i:=18) (N:=some 53) #[tT,tT,tT,tT,tT,tT,tT,tT,tT,tT,tT,tT,tT,tT,tT,tT,tT,tT,tT,fF,fF,fF,fF,fF,fF,fF,fF,fF,fF,fF,fF,fF,fF,fF,fF,fF,fF,fF,fF,fF,fF,fF,fF,fF,fF,fF,fF,fF,fF] rfl rfl (one_of HT_.out (by kernel_rfl)) (by decide) (fun K hK => ?_)
 refine goes_ Try.func20 (by kernel_rfl) rfl #[.agg #[.slice Ao28 t185.length co28],.int .i64 (Int.tmod t189 (t185.length : Int)),.int .i64 (wrap64 ((Int.tmod t190 (wrap64 ((t185.length : Int) + 1))) + (Int.tmod t191 (wrap64 ((wrap64 ((t185.length : Int) + 1)) - (Int.tmod t190 (wrap64 ((t185.length : Int) + 1))))))))] (by rfl) rfl rfl (by (try simp only [List.map_toArray,List.map_cons,List.map_nil]); first|done|rfl|(simp only [List.length_drop,List.length_take]; rfl)) ?_
 with_reducible refine (impl_SpanAt.calls k _ _ t185 (Int.tmod t189 (t185.length : Int)) (wrap64 ((Int.tmod t190 (wrap64 ((t185.length : Int) + 1))) + (Int.tmod t191 (wrap64 ((wrap64 ((t185.length : Int) + 1)) - (Int.tmod t190 (wrap64 ((t185.length : Int) + 1)))))))) t197 _ ?side1 ?side2 A14.out).mono ?_
 (case side1 => repeat (first|exact (Kd.R_reads' HO187.out).2.2|(with_reducible refine Kd.C_alloc ?_ _)|(with_reducible refine Kd.C_drewN ?_ _)|(with_reducible refine Kd.C_drew ?_)))
 (case side2 => exact (Kd.R_reads' HO187.out).2.1)
 rintro e w34 ⟨rfl,hb⟩
 refine ⟨_,rfl,?_⟩
 have n0_:=Aside0.mk (Kd.R_below (by (with_reducible repeat (first|apply Kd.R_alloc|apply Kd.R_drewN|apply Kd.R_drew)); exact HO187.out) hb)
 have n1_:=Aside0.mk (Kd.R_below (by (with_reducible repeat (first|apply Kd.R_alloc|apply Kd.R_drewN|apply Kd.R_drew)); exact HO194.out) hb)
 have n2_:=Aside0.mk (blk_below (g:=gb188) (o:=.cells #[.slice Ao28 t185.length co28] 26 (0,0)) (by (with_reducible repeat (first|refine blk_drewN ?_ _|refine blk_drew ?_|refine blk_alloc ?_ _)); exact BK188.out) hb)
 have n3_:=Aside0.mk (below_step (by repeat (first|(with_reducible first|exact HB.out|apply bA|apply bD|apply bE|refine below_set ?_ GE188.out)|exact HB.out)) hb)
 clear HO187
 clear HO194
 clear BK188
 clear HB
 have HO187:=n0_
 have HO194:=n1_
 have BK188:=n2_
 have HB:=n3_
 clear n0_ n1_ n2_ n3_
 (try clear hb)
 (try clear hb2)
 (try clear hk)
 (try clear hi)
 refine hK.out _ _ ((blk_cell BK188.out 0).trans rfl) (fun hHeld => ?_)
 clear hK K
 refine norm_ (a':=?_) ?_ ?_
 rotate_left
 ·show Act.put _ (some 53) _ = _
  simp only [Act.put,lS,lZ,lC,i64_w,i32_w]
  rfl
 refine pure_ (i:=19) (N:=some 54) (v:=?_) (a':=?_) #[tT,tT,tT,tT,tT,tT,tT,tT,tT,tT,tT,tT,tT,tT,tT,tT,tT,tT,tT,tT,fF,fF,fF,fF,fF,fF,fF,fF,fF,fF,fF,fF,fF,fF,fF,fF,fF,fF,fF,fF,fF,fF,fF,fF,fF,fF,fF,fF,fF] rfl rfl (any_of HT_.out (by kernel_rfl)) (fun _ _ _ h => h) (Or.inl ⟨by rfl,?_⟩) ?_ ?_
 rotate_left
 ·intro w'
  go_simp
  first|(with_reducible rfl)|(simp only [Instr.field,go_sem, *]; rfl)
 rotate_left
 ·simp only [Act.put,lS,lZ,lC,i64_w,i32_w]
  rfl
 refine pure_ (i:=20) (N:=some 55) (v:=?_) (a':=?_) #[tT,tT,tT,tT,tT,tT,tT,tT,tT,tT,tT,tT,tT,tT,tT,tT,tT,tT,tT,tT,tT,fF,fF,fF,fF,fF,fF,fF,fF,fF,fF,fF,fF,fF,fF,fF,fF,fF,fF,fF,fF,fF,fF,fF,fF,fF,fF,fF,fF] rfl rfl (any_of HT_.out (by kernel_rfl)) (fun _ _ _ h => h) (Or.inl ⟨by rfl,?_⟩) ?_ ?_
 rotate_left
 ·intro w'
  go_simp
  first|(with_reducible rfl)|(simp only [Instr.field,go_sem, *]; rfl)
 rotate_left
 ·simp only [Act.put,lS,lZ,lC,i64_w,i32_w]
  rfl
 refine pure_ (i:=22) (N:=some 57) (v:=?_) (a':=?_) #[tT,tT,tT,tT,tT,tT,tT,tT,tT,tT,tT,tT,tT,tT,tT,tT,tT,tT,tT,tT,tT,fF,tT,fF,fF,fF,fF,fF,fF,fF,fF,fF,fF,fF,fF,fF,fF,fF,fF,fF,fF,fF,fF,fF,fF,fF,fF,fF,fF] rfl rfl (any_of HT_.out (by kernel_rfl)) (fun _ _ _ h => h) (Or.inl ⟨by rfl,?_⟩) ?_ ?_
 rotate_left
 ·intro w'
  go_simp
  first|(with_reducible rfl)|(simp only [Instr.field,go_sem, *]; rfl)
 rotate_left
 ·simp only [Act.put,lS,lZ,lC,i64_w,i32_w]
  rfl
 refine pure_ (i:=23) (N:=some 58) (v:=?_) (a':=?_) #[tT,tT,tT,tT,tT,tT,tT,tT,tT,tT,tT,tT,tT,tT,tT,tT,tT,tT,tT,tT,tT,fF,tT,tT,fF,fF,fF,fF,fF,fF,fF,fF,fF,fF,fF,fF,fF,fF,fF,fF,fF,fF,fF,fF,fF,fF,fF,fF,fF] rfl rfl (any_of HT_.out (by kernel_rfl)) (fun _ _ _ h => h) (Or.inl ⟨by rfl,?_⟩) ?_ ?_
 rotate_left
 ·intro w'
  go_simp
  first|(with_reducible rfl)|(simp only [Instr.field,go_sem, *]; rfl)
 rotate_left
 ·simp only [Act.put,lS,lZ,lC,i64_w,i32_w]
  rfl
 refine take_ (i:=21) (N:=some 56) (v:=?_) (a':=?_) #[tT,tT,tT,tT,tT,tT,tT,tT,tT,tT,tT,tT,tT,tT,tT,tT,tT,tT,tT,tT,tT,tT,tT,tT,fF,fF,fF,fF,fF,fF,fF,fF,fF,fF,fF,fF,fF,fF,fF,fF,fF,fF,fF,fF,fF,fF,fF,fF,fF] rfl rfl (take_ofW HT_.out HW_.out (by kernel_rfl)) (fun _ _ _ h => h) (Or.inl ⟨by rfl,?_⟩) hHeld ?_ ?_
 rotate_left
 ·intro w' s0
  go_simp
  first|(with_reducible rfl)|(simp only [Instr.field,go_sem, *]; rfl)
 rotate_left
 ·simp only [Act.put,lS,lZ,lC,i64_w,i32_w]
  rfl
 refine take_ (i:=25) (N:=some 60) (v:=?_) (a':=?_) #[tT,tT,tT,tT,tT,tT,tT,tT,tT,tT,tT,tT,tT,tT,tT,tT,tT,tT,tT,tT,tT,tT,tT,tT,fF,tT,fF,fF,fF,fF,fF,fF,fF,fF,fF,fF,fF,fF,fF,fF,fF,fF,fF,fF,fF,fF,fF,fF,fF] rfl rfl (take_ofW HT_.out HW_.out (by kernel_rfl)) (fun _ _ _ h => h) (Or.inl ⟨by rfl,?_⟩) hHeld ?_ ?_
 rotate_left
 ·intro w' s0
  go_simp
  first|(with_reducible rfl)|(simp only [Instr.field,go_sem, *]; rfl)
 rotate_left
 ·simp only [Act.put,lS,lZ,lC,i64_w,i32_w]
  rfl
 refine one_ (i:=24) (N:=some 59) #[tT,tT,tT,tT,tT,tT,tT,tT,tT,tT,tT,tT,tT,tT,tT,tT,tT,tT,tT,tT,tT,tT,tT,tT,tT,tT,fF,fF,fF,fF,fF,fF,fF,fF,fF,fF,fF,fF,fF,fF,fF,fF,fF,fF,fF,fF,fF,fF,fF] rfl rfl (one_of HT_.out (by kernel_rfl)) (by decide) (fun K hK => ?_)
 refine goes_ Try.func20 (by kernel_rfl) rfl #[.agg #[.slice Ao28 t185.length co28],.int .i64 (Int.tmod t189 (t185.length : Int)),.int .i64 (t185.length : Int)] (by rfl) rfl rfl (by (try simp only [List.map_toArray,List.map_cons,List.map_nil]); first|done|rfl|(simp only [List.length_drop,List.length_take]; rfl)) ?_
 with_reducible refine (impl_SpanAt.calls k _ _ t185 (Int.tmod t189 (t185.length : Int)) (t185.length : Int) t198 _ ?side1 ?side2 A16.out).mono ?_
 (case side1 => repeat (first|exact (Kd.R_reads' HO187.out).2.2|(with_reducible refine Kd.C_alloc ?_ _)|(with_reducible refine Kd.C_drewN ?_ _)|(with_reducible refine Kd.C_drew ?_)))
 (case side2 => exact (Kd.R_reads' HO187.out).2.1)
 rintro e w35 ⟨rfl,hb⟩
 refine ⟨_,rfl,?_⟩
 have n0_:=Aside0.mk (Kd.R_below (by (with_reducible repeat (first|apply Kd.R_alloc|apply Kd.R_drewN|apply Kd.R_drew)); exact HO187.out) hb)
 have n1_:=Aside0.mk (Kd.R_below (by (with_reducible repeat (first|apply Kd.R_alloc|apply Kd.R_drewN|apply Kd.R_drew)); exact HO194.out) hb)
 have n2_:=Aside0.mk (blk_below (g:=gb188) (o:=.cells #[.slice Ao28 t185.length co28] 26 (0,0)) (by (with_reducible repeat (first|refine blk_drewN ?_ _|refine blk_drew ?_|refine blk_alloc ?_ _)); exact BK188.out) hb)
 have n3_:=Aside0.mk (below_step (by repeat (first|(with_reducible first|exact HB.out|apply bA|apply bD|apply bE|refine below_set ?_ GE188.out)|exact HB.out)) hb)
 clear HO187
 clear HO194
 clear BK188
 clear HB
 have HO187:=n0_
 have HO194:=n1_
 have BK188:=n2_
 have HB:=n3_
 clear n0_ n1_ n2_ n3_
 (try clear hb)
 (try clear hb2)
 (try clear hk)
 (try clear hi)
 refine hK.out _ _ ((blk_cell BK188.out 0).trans rfl) (fun hHeld => ?_)
 clear hK K
 refine norm_ (a':=?_) ?_ ?_
 rotate_left
 ·show Act.put _ (some 59) _ = _
  simp only [Act.put,lS,lZ,lC,i64_w,i32_w]
  rfl
 refine one_ (i:=26) (N:=some 61) #[tT,tT,tT,tT,tT,tT,tT,tT,tT,tT,tT,tT,tT,tT,tT,tT,tT,tT,tT,tT,tT,tT,tT,tT,tT,tT,tT,fF,fF,fF,fF,fF,fF,fF,fF,fF,fF,fF,fF,fF,fF,fF,fF,fF,fF,fF,fF,fF,fF] rfl rfl (one_of HT_.out (by kernel_rfl)) (by decide) (fun K hK => ?_)
 refine goes_ Try.func13 (by kernel_rfl) rfl #[.agg #[.slice Ao28 t185.length co28]] (by rfl) rfl rfl (by (try simp only [List.map_toArray,List.map_cons,List.map_nil]); first|done|rfl|(simp only [List.length_drop,List.length_take]; rfl)) ?_
 with_reducible refine (impl_ScaleSum.calls k _ _ t185 t199 _ ?side1 ?side2 A17.out).mono ?_
 (case side1 => repeat (first|exact (Kd.R_reads' HO187.out).2.2|(with_reducible refine Kd.C_alloc ?_ _)|(with_reducible refine Kd.C_drewN ?_ _)|(with_reducible refine Kd.C_drew ?_)))
 (case side2 => exact (Kd.R_reads' HO187.out).2.1)
 rintro e w36 ⟨rfl,hb⟩
 refine ⟨_,rfl,?_⟩
 have n0_:=Aside0.mk (Kd.R_below (by (with_reducible repeat (first|apply Kd.R_alloc|apply Kd.R_drewN|apply Kd.R_drew)); exact HO187.out) hb)
 have n1_:=Aside0.mk (Kd.R_below (by (with_reducible repeat (first|apply Kd.R_alloc|apply Kd.R_drewN|apply Kd.R_drew)); exact HO194.out) hb)
 have n2_:=Aside0.mk (blk_below (g:=gb188) (o:=.cells #[.slice Ao28 t185.length co28] 26 (0,0)) (by (with_reducible repeat (first|refine blk_drewN ?_ _|refine blk_drew ?_|refine blk_alloc ?_ _)); exact BK188.out) hb)
 have n3_:=Aside0.mk (below_step (by repeat (first|(with_reducible first|exact HB.out|apply bA|apply bD|apply bE|refine below_set ?_ GE188.out)|exact HB.out)) hb)
 clear HO187
 clear HO194
 clear BK188
 clear HB
 have HO187:=n0_
 have HO194:=n1_
 have BK188:=n2_
 have HB:=n3_
 clear n0_ n1_ n2_ n3_
 (try clear hb)
 (try clear hb2)
 (try clear hk)
 (try clear hi)
 refine hK.out _ _ ((blk_cell BK188.out 0).trans rfl) (fun hHeld => ?_)
 clear hK K
 refine norm_ (a':=?_) ?_ ?_
 rotate_left
 ·show Act.put _ (some 61) _ = _
  simp only [Act.put,lS,lZ,lC,i64_w,i32_w]
  rfl
 refine pure_ (i:=27) (N:=some 62) (v:=?_) (a':=?_) #[tT,tT,tT,tT,tT,tT,tT,tT,tT,tT,tT,tT,tT,tT,tT,tT,tT,tT,tT,tT,tT,tT,tT,tT,tT,tT,tT,tT,fF,fF,fF,fF,fF,fF,fF,fF,fF,fF,fF,fF,fF,fF,fF,fF,fF,fF,fF,fF,fF] rfl rfl (any_of HT_.out (by kernel_rfl)) (fun _ _ _ h => h) (Or.inl ⟨by rfl,?_⟩) ?_ ?_
 rotate_left
 ·intro w'
  go_simp
  first|(with_reducible rfl)|(simp only [Instr.field,go_sem, *]; rfl)
 rotate_left
 ·simp only [Act.put,lS,lZ,lC,i64_w,i32_w]
  rfl
 refine pure_ (i:=28) (N:=some 63) (v:=?_) (a':=?_) #[tT,tT,tT,tT,tT,tT,tT,tT,tT,tT,tT,tT,tT,tT,tT,tT,tT,tT,tT,tT,tT,tT,tT,tT,tT,tT,tT,tT,tT,fF,fF,fF,fF,fF,fF,fF,fF,fF,fF,fF,fF,fF,fF,fF,fF,fF,fF,fF,fF] rfl rfl (any_of HT_.out (by kernel_rfl)) (fun _ _ _ h => h) (Or.inl ⟨by rfl,?_⟩) ?_ ?_
 rotate_left
 ·intro w'
  go_simp
  first|(with_reducible rfl)|(simp only [Instr.field,go_sem, *]; rfl)
 rotate_left
 ·simp only [Act.put,lS,lZ,lC,i64_w,i32_w]
  rfl
 refine pure_ (i:=29) (N:=some 64) (v:=?_) (a':=?_) #[tT,tT,tT,tT,tT,tT,tT,tT,tT,tT,tT,tT,tT,tT,tT,tT,tT,tT,tT,tT,tT,tT,tT,tT,tT,tT,tT,tT,tT,tT,fF,fF,fF,fF,fF,fF,fF,fF,fF,fF,fF,fF,fF,fF,fF,fF,fF,fF,fF] rfl rfl (any_of HT_.out (by kernel_rfl)) (fun _ _ _ h => h) (Or.inl ⟨by rfl,?_⟩) ?_ ?_
 rotate_left
 ·intro w'
  go_simp
  first|(with_reducible rfl)|(simp only [Instr.field,go_sem, *]; rfl)
 rotate_left
 ·simp only [Act.put,lS,lZ,lC,i64_w,i32_w]
  rfl
 refine pure_ (i:=30) (N:=some 65) (v:=?_) (a':=?_) #[tT,tT,tT,tT,tT,tT,tT,tT,tT,tT,tT,tT,tT,tT,tT,tT,tT,tT,tT,tT,tT,tT,tT,tT,tT,tT,tT,tT,tT,tT,tT,fF,fF,fF,fF,fF,fF,fF,fF,fF,fF,fF,fF,fF,fF,fF,fF,fF,fF] rfl rfl (any_of HT_.out (by kernel_rfl)) (fun _ _ _ h => h) (Or.inl ⟨by rfl,?_⟩) ?_ ?_
 rotate_left
 ·intro w'
  go_simp
  first|(with_reducible rfl)|(simp only [Instr.field,go_sem, *]; rfl)
 rotate_left
 ·simp only [Act.put,lS,lZ,lC,i64_w,i32_w]
  rfl
 refine pure_ (i:=32) (N:=some 67) (v:=?_) (a':=?_) #[tT,tT,tT,tT,tT,tT,tT,tT,tT,tT,tT,tT,tT,tT,tT,tT,tT,tT,tT,tT,tT,tT,tT,tT,tT,tT,tT,tT,tT,tT,tT,fF,tT,fF,fF,fF,fF,fF,fF,fF,fF,fF,fF,fF,fF,fF,fF,fF,fF] rfl rfl (any_of HT_.out (by kernel_rfl)) (fun _ _ _ h => h) (Or.inl ⟨by rfl,?_⟩) ?_ ?_
 rotate_left
 ·intro w'
  go_simp
  first|(with_reducible rfl)|(simp only [Instr.field,go_sem, *]; rfl)
 rotate_left
 ·simp only [Act.put,lS,lZ,lC,i64_w,i32_w]
  rfl
 refine pure_ (i:=33) (N:=some 68) (v:=?_) (a':=?_) #[tT,tT,tT,tT,tT,tT,tT,tT,tT,tT,tT,tT,tT,tT,tT,tT,tT,tT,tT,tT,tT,tT,tT,tT,tT,tT,tT,tT,tT,tT,tT,fF,tT,tT,fF,fF,fF,fF,fF,fF,fF,fF,fF,fF,fF,fF,fF,fF,fF] rfl rfl (any_of HT_.out (by kernel_rfl)) (fun _ _ _ h => h) (Or.inl ⟨by rfl,?_⟩) ?_ ?_
 rotate_left
 ·intro w'
  go_simp
  first|(with_reducible rfl)|(simp only [Instr.field,go_sem, *]; rfl)
 rotate_left
 ·simp only [Act.put,lS,lZ,lC,i64_w,i32_w]
  rfl
 refine take_ (i:=31) (N:=some 66) (v:=?_) (a':=?_) #[tT,tT,tT,tT,tT,tT,tT,tT,tT,tT,tT,tT,tT,tT,tT,tT,tT,tT,tT,tT,tT,tT,tT,tT,tT,tT,tT,tT,tT,tT,tT,tT,tT,tT,fF,fF,fF,fF,fF,fF,fF,fF,fF,fF,fF,fF,fF,fF,fF] rfl rfl (take_ofW HT_.out HW_.out (by kernel_rfl)) (fun _ _ _ h => h) (Or.inl ⟨by rfl,?_⟩) hHeld ?_ ?_
 rotate_left
 ·intro w' s0
  go_simp
  first|(with_reducible rfl)|(simp only [Instr.field,go_sem, *]; rfl)
 rotate_left
 ·simp only [Act.put,lS,lZ,lC,i64_w,i32_w]
  rfl
 refine one_ (i:=34) (N:=some 69) #[tT,tT,tT,tT,tT,tT,tT,tT,tT,tT,tT,tT,tT,tT,tT,tT,tT,tT,tT,tT,tT,tT,tT,tT,tT,tT,tT,tT,tT,tT,tT,tT,tT,tT,tT,fF,fF,fF,fF,fF,fF,fF,fF,fF,fF,fF,fF,fF,fF] rfl rfl (one_of HT_.out (by kernel_rfl)) (by decide) (fun K hK => ?_)
 refine goes_ Try.func20 (by kernel_rfl) rfl #[.agg #[.slice Ao28 t185.length co28],.int .i64 (Int.tmod t189 (t185.length : Int)),.int .i64 (Int.tmod t190 (wrap64 ((t185.length : Int) + 1)))] (by rfl) rfl rfl (by (try simp only [List.map_toArray,List.map_cons,List.map_nil]); first|done|rfl|(simp only [List.length_drop,List.length_take]; rfl)) ?_
 with_reducible refine (impl_SpanAt.calls k _ _ t185 (Int.tmod t189 (t185.length : Int)) (Int.tmod t190 (wrap64 ((t185.length : Int) + 1))) t200 _ ?side1 ?side2 A19.out).mono ?_
 (case side1 => repeat (first|exact (Kd.R_reads' HO187.out).2.2|(with_reducible refine Kd.C_alloc ?_ _)|(with_reducible refine Kd.C_drewN ?_ _)|(with_reducible refine Kd.C_drew ?_)))
 (case side2 => exact (Kd.R_reads' HO187.out).2.1)
 rintro e w37 ⟨rfl,hb⟩
 refine ⟨_,rfl,?_⟩
 have n0_:=Aside0.mk (Kd.R_below (by (with_reducible repeat (first|apply Kd.R_alloc|apply Kd.R_drewN|apply Kd.R_drew)); exact HO187.out) hb)
 have n1_:=Aside0.mk (Kd.R_below (by (with_reducible repeat (first|apply Kd.R_alloc|apply Kd.R_drewN|apply Kd.R_drew)); exact HO194.out) hb)
 have n2_:=Aside0.mk (blk_below (g:=gb188) (o:=.cells #[.slice Ao28 t185.length co28] 26 (0,0)) (by (with_reducible repeat (first|refine blk_drewN ?_ _|refine blk_drew ?_|refine blk_alloc ?_ _)); exact BK188.out) hb)
 have n3_:=Aside0.mk (below_step (by repeat (first|(with_reducible first|exact HB.out|apply bA|apply bD|apply bE|refine below_set ?_ GE188.out)|exact HB.out)) hb)
 clear HO187
 clear HO194
 clear BK188
 clear HB
 have HO187:=n0_
 have HO194:=n1_
 have BK188:=n2_
 have HB:=n3_
 clear n0_ n1_ n2_ n3_
 (try clear hb)
 (try clear hb2)
 (try clear hk)
 (try clear hi)
 obtain ⟨Ao38,co38,eo38⟩:=Kd.R_slice HO194.out
 (first|subst eo38|(injection eo38 with f1_ f2_ f3_; have f4_:=f1_.symm; have f5_:=f3_.symm; clear f1_ f2_ f3_; subst f4_; subst f5_))
 refine hK.out _ _ ((blk_cell BK188.out 0).trans rfl) (fun hHeld => ?_)
 clear hK K
 refine norm_ (a':=?_) ?_ ?_
 rotate_left
 ·show Act.put _ (some 69) _ = _
  simp only [Act.put,lS,lZ,lC,i64_w,i32_w]
  rfl
 refine one_ (i:=35) (N:=some 70) #[tT,tT,tT,tT,tT,tT,tT,tT,tT,tT,tT,tT,tT,tT,tT,tT,tT,tT,tT,tT,tT,tT,tT,tT,tT,tT,tT,tT,tT,tT,tT,tT,tT,tT,tT,tT,fF,fF,fF,fF,fF,fF,fF,fF,fF,fF,fF,fF,fF] rfl rfl (one_of HT_.out (by kernel_rfl)) (by decide) (fun K hK => ?_)
 refine goes_ Try.func21 (by kernel_rfl) rfl #[.slice Ao38 t192.length co38,.int .i64 t200] (by rfl) rfl rfl (by (try simp only [List.map_toArray,List.map_cons,List.map_nil]); first|done|rfl|(simp only [List.length_drop,List.length_take]; rfl)) ?_
 with_reducible refine (laws_has.calls k _ _ t192 t200 true _ ?side1 ?side2 A20.out).mono ?_
 (case side1 => repeat (first|exact (Kd.R_reads' HO194.out).2.2|(with_reducible refine Kd.C_alloc ?_ _)|(with_reducible refine Kd.C_drewN ?_ _)|(with_reducible refine Kd.C_drew ?_)))
 (case side2 => exact (Kd.R_reads' HO194.out).2.1)
 rintro e w' ⟨rfl,⟨nd,rfl⟩⟩
 refine ⟨_,rfl,?_⟩
 refine hK.out _ _ ((blk_cell BK188.out 0).trans rfl) (fun hHeld => ?_)
 clear hK K
 refine norm_ (a':=?_) ?_ ?_
 rotate_left
 ·show Act.put _ (some 70) _ = _
  simp only [Act.put,lS,lZ,lC,i64_w,i32_w]
  rfl
 refine pure_ (i:=36) (N:=some 71) (v:=?_) (a':=?_) #[tT,tT,tT,tT,tT,tT,tT,tT,tT,tT,tT,tT,tT,tT,tT,tT,tT,tT,tT,tT,tT,tT,tT,tT,tT,tT,tT,tT,tT,tT,tT,tT,tT,tT,tT,tT,tT,fF,fF,fF,fF,fF,fF,fF,fF,fF,fF,fF,fF] rfl rfl (any_of HT_.out (by kernel_rfl)) (fun _ _ _ h => h) (Or.inl ⟨by rfl,?_⟩) ?_ ?_
 rotate_left
 ·intro w'
  go_simp
  first|(with_reducible rfl)|(simp only [Instr.field,go_sem, *]; rfl)
 rotate_left
 ·simp only [Act.put,lS,lZ,lC,i64_w,i32_w]
  rfl
 refine pure_ (i:=37) (N:=some 72) (v:=?_) (a':=?_) #[tT,tT,tT,tT,tT,tT,tT,tT,tT,tT,tT,tT,tT,tT,tT,tT,tT,tT,tT,tT,tT,tT,tT,tT,tT,tT,tT,tT,tT,tT,tT,tT,tT,tT,tT,tT,tT,tT,fF,fF,fF,fF,fF,fF,fF,fF,fF,fF,fF] rfl rfl (any_of HT_.out (by kernel_rfl)) (fun _ _ _ h => h) (Or.inl ⟨by rfl,?_⟩) ?_ ?_
 rotate_left
 ·intro w'
  go_simp
  first|(with_reducible rfl)|(simp only [Instr.field,go_sem, *]; rfl)
 rotate_left
 ·simp only [Act.put,lS,lZ,lC,i64_w,i32_w]
  rfl
 refine one_ (i:=38) (N:=some 73) #[tT,tT,tT,tT,tT,tT,tT,tT,tT,tT,tT,tT,tT,tT,tT,tT,tT,tT,tT,tT,tT,tT,tT,tT,tT,tT,tT,tT,tT,tT,tT,tT,tT,tT,tT,tT,tT,tT,tT,fF,fF,fF,fF,fF,fF,fF,fF,fF,fF] rfl rfl (one_of HT_.out (by kernel_rfl)) (by decide) (fun K hK => ?_)
 refine goes_ Try.func22 (by kernel_rfl) rfl #[] (by rfl) rfl rfl (by (try simp only [List.map_toArray,List.map_cons,List.map_nil]); first|done|rfl|(simp only [List.length_drop,List.length_take]; rfl)) ?_
 with_reducible refine (impl_MajorScale.calls  t202 _ A22.out).mono ?_
 rintro e w39 ⟨v203,rfl,ho0,hb⟩
 refine ⟨_,rfl,?_⟩
 have n0_:=Aside0.mk (Kd.R_elder' (by (with_reducible repeat (first|apply Kd.R_alloc|apply Kd.R_drewN|apply Kd.R_drew)); exact HO187.out) (Kd.R_base ho0) hb)
 have n1_:=Aside0.mk (Kd.R_elder' (by (with_reducible repeat (first|apply Kd.R_alloc|apply Kd.R_drewN|apply Kd.R_drew)); exact HO194.out) (Kd.R_base ho0) hb)
 have n2_:=Aside0.mk (Kd.R_lower (Kd.R_new' (Kd.R_new' ho0 (Kd.R_lt (by (with_reducible repeat (first|apply Kd.R_alloc|apply Kd.R_drewN|apply Kd.R_drew)); exact HO187.out))) (Kd.R_lt (by (with_reducible repeat (first|apply Kd.R_alloc|apply Kd.R_drewN|apply Kd.R_drew)); exact HO194.out))) (below_size (by repeat (first|(with_reducible first|exact HB.out|apply bA|apply bD|apply bE|refine below_set ?_ GE188.out)|exact HB.out))))
 have n3_:=Aside0.mk (blk_below (g:=gb188) (o:=.cells #[.slice Ao28 t185.length co28] 26 (0,0)) (by (with_reducible repeat (first|refine blk_drewN ?_ _|refine blk_drew ?_|refine blk_alloc ?_ _)); exact BK188.out) hb)
 have n4_:=Aside0.mk (below_step (by repeat (first|(with_reducible first|exact HB.out|apply bA|apply bD|apply bE|refine below_set ?_ GE188.out)|exact HB.out)) hb)
 clear HO187
 clear HO194
 clear BK188
 clear HB
 have HO187:=n0_
 have HO194:=n1_
 have HO204:=n2_
 have BK188:=n3_
 have HB:=n4_
 clear n0_ n1_ n2_ n3_ n4_
 (try clear hb)
 (try clear hb2)
 (try clear hk)
 (try clear hi)
 (try clear ho0)
 obtain ⟨Ao40,co40,eo40⟩:=Kd.R_slice HO204.out
 (first|subst eo40|(injection eo40 with f1_ f2_ f3_; have f4_:=f1_.symm; have f5_:=f3_.symm; clear f1_ f2_ f3_; subst f4_; subst f5_))
 refine hK.out _ _ ((blk_cell BK188.out 0).trans rfl) (fun hHeld => ?_)
 clear hK K
 refine norm_ (a':=?_) ?_ ?_
 rotate_left
 ·show Act.put _ (some 73) _ = _
  simp only [Act.put,lS,lZ,lC,i64_w,i32_w]
  rfl
 refine one_ (i:=39) (N:=some 74) #[tT,tT,tT,tT,tT,tT,tT,tT,tT,tT,tT,tT,tT,tT,tT,tT,tT,tT,tT,tT,tT,tT,tT,tT,tT,tT,tT,tT,tT,tT,tT,tT,tT,tT,tT,tT,tT,tT,tT,tT,fF,fF,fF,fF,fF,fF,fF,fF,fF] rfl rfl (one_of HT_.out (by kernel_rfl)) (by decide) (fun K hK => ?_)
 refine goes_ Try.func17 (by kernel_rfl) rfl #[.agg #[.slice Ao40 t202.length co40]] (by rfl) rfl rfl (by (try simp only [List.map_toArray,List.map_cons,List.map_nil]); first|done|rfl|(simp only [List.length_drop,List.length_take]; rfl)) ?_
 with_reducible refine (impl_HasTwoSizes.calls k _ _ t202 true _ ?side1 ?side2 A23.out).mono ?_
 (case side1 => repeat (first|exact (Kd.R_reads' HO204.out).2.2|(with_reducible refine Kd.C_alloc ?_ _)|(with_reducible refine Kd.C_drewN ?_ _)|(with_reducible refine Kd.C_drew ?_)))
 (case side2 => exact (Kd.R_reads' HO204.out).2.1)
 rintro e w41 ⟨rfl,hb⟩
 refine ⟨_,rfl,?_⟩
 have n0_:=Aside0.mk (Kd.R_below (by (with_reducible repeat (first|apply Kd.R_alloc|apply Kd.R_drewN|apply Kd.R_drew)); exact HO187.out) hb)
 have n1_:=Aside0.mk (Kd.R_below (by (with_reducible repeat (first|apply Kd.R_alloc|apply Kd.R_drewN|apply Kd.R_drew)); exact HO194.out) hb)
 have n2_:=Aside0.mk (Kd.R_below (by (with_reducible repeat (first|apply Kd.R_alloc|apply Kd.R_drewN|apply Kd.R_drew)); exact HO204.out) hb)
 have n3_:=Aside0.mk (blk_below (g:=gb188) (o:=.cells #[.slice Ao28 t185.length co28] 26 (0,0)) (by (with_reducible repeat (first|refine blk_drewN ?_ _|refine blk_drew ?_|refine blk_alloc ?_ _)); exact BK188.out) hb)
 have n4_:=Aside0.mk (below_step (by repeat (first|(with_reducible first|exact HB.out|apply bA|apply bD|apply bE|refine below_set ?_ GE188.out)|exact HB.out)) hb)
 clear HO187
 clear HO194
 clear HO204
 clear BK188
 clear HB
 have HO187:=n0_
 have HO194:=n1_
 have HO204:=n2_
 have BK188:=n3_
 have HB:=n4_
 clear n0_ n1_ n2_ n3_ n4_
 (try clear hb)
 (try clear hb2)
 (try clear hk)
 (try clear hi)
 refine hK.out _ _ ((blk_cell BK188.out 0).trans rfl) (fun hHeld => ?_)
 clear hK K
 refine norm_ (a':=?_) ?_ ?_
 rotate_left
 ·show Act.put _ (some 74) _ = _
  simp only [Act.put,lS,lZ,lC,i64_w,i32_w]
  rfl
 refine pure_ (i:=40) (N:=some 75) (v:=?_) (a':=?_) #[tT,tT,tT,tT,tT,tT,tT,tT,tT,tT,tT,tT,tT,tT,tT,tT,tT,tT,tT,tT,tT,tT,tT,tT,tT,tT,tT,tT,tT,tT,tT,tT,tT,tT,tT,tT,tT,tT,tT,tT,tT,fF,fF,fF,fF,fF,fF,fF,fF] rfl rfl (any_of HT_.out (by kernel_rfl)) (fun _ _ _ h => h) (Or.inl ⟨by rfl,?_⟩) ?_ ?_
 rotate_left
 ·intro w'
  go_simp
  first|(with_reducible rfl)|(simp only [Instr.field,go_sem, *]; rfl)
 rotate_left
 ·simp only [Act.put,lS,lZ,lC,i64_w,i32_w]
  rfl
 refine pure_ (i:=41) (N:=some 76) (v:=?_) (a':=?_) #[tT,tT,tT,tT,tT,tT,tT,tT,tT,tT,tT,tT,tT,tT,tT,tT,tT,tT,tT,tT,tT,tT,tT,tT,tT,tT,tT,tT,tT,tT,tT,tT,tT,tT,tT,tT,tT,tT,tT,tT,tT,tT,fF,fF,fF,fF,fF,fF,fF] rfl rfl (any_of HT_.out (by kernel_rfl)) (fun _ _ _ h => h) (Or.inl ⟨by rfl,?_⟩) ?_ ?_
 rotate_left
 ·intro w'
  go_simp
  first|(with_reducible rfl)|(simp only [Instr.field,go_sem, *]; rfl)
 rotate_left
 ·simp only [Act.put,lS,lZ,lC,i64_w,i32_w]
  rfl
 refine pure_ (i:=43) (N:=some 78) (v:=?_) (a':=?_) #[tT,tT,tT,tT,tT,tT,tT,tT,tT,tT,tT,tT,tT,tT,tT,tT,tT,tT,tT,tT,tT,tT,tT,tT,tT,tT,tT,tT,tT,tT,tT,tT,tT,tT,tT,tT,tT,tT,tT,tT,tT,tT,fF,tT,fF,fF,fF,fF,fF] rfl rfl (any_of HT_.out (by kernel_rfl)) (fun _ _ _ h => h) (Or.inl ⟨by rfl,?_⟩) ?_ ?_
 rotate_left
 ·intro w'
  go_simp
  first|(with_reducible rfl)|(simp only [Instr.field,go_sem, *]; rfl)
 rotate_left
 ·simp only [Act.put,lS,lZ,lC,i64_w,i32_w]
  rfl
 refine take_ (i:=42) (N:=some 77) (v:=?_) (a':=?_) #[tT,tT,tT,tT,tT,tT,tT,tT,tT,tT,tT,tT,tT,tT,tT,tT,tT,tT,tT,tT,tT,tT,tT,tT,tT,tT,tT,tT,tT,tT,tT,tT,tT,tT,tT,tT,tT,tT,tT,tT,tT,tT,tT,tT,fF,fF,fF,fF,fF] rfl rfl (take_ofW HT_.out HW_.out (by kernel_rfl)) (fun _ _ _ h => h) (Or.inl ⟨by rfl,?_⟩) hHeld ?_ ?_
 rotate_left
 ·intro w' s0
  go_simp
  first|(with_reducible rfl)|(simp only [Instr.field,go_sem, *]; rfl)
 rotate_left
 ·simp only [Act.put,lS,lZ,lC,i64_w,i32_w]
  rfl
 refine one_ (i:=44) (N:=some 79) #[tT,tT,tT,tT,tT,tT,tT,tT,tT,tT,tT,tT,tT,tT,tT,tT,tT,tT,tT,tT,tT,tT,tT,tT,tT,tT,tT,tT,tT,tT,tT,tT,tT,tT,tT,tT,tT,tT,tT,tT,tT,tT,tT,tT,tT,fF,fF,fF,fF] rfl rfl (one_of HT_.out (by kernel_rfl)) (by decide) (fun K hK => ?_)
 refine goes_ Try.func19 (by kernel_rfl) rfl #[.agg #[.slice Ao28 t185.length co28],.int .i64 (t185.length : Int)] (by rfl) rfl rfl (by (try simp only [List.map_toArray,List.map_cons,List.map_nil]); first|done|rfl|(simp only [List.length_drop,List.length_take]; rfl)) ?_
 with_reducible refine (impl_SpansOf.calls k _ _ t185 (t185.length : Int) t206 _ ?side1 ?side2 A25.out).mono ?_
 (case side1 => repeat (first|exact (Kd.R_reads' HO187.out).2.2|(with_reducible refine Kd.C_alloc ?_ _)|(with_reducible refine Kd.C_drewN ?_ _)|(with_reducible refine Kd.C_drew ?_)))
 (case side2 => exact (Kd.R_reads' HO187.out).2.1)
 rintro e w42 ⟨v207,rfl,ho0,hb⟩
 refine ⟨_,rfl,?_⟩
 have n0_:=Aside0.mk (Kd.R_elder' (by (with_reducible repeat (first|apply Kd.R_alloc|apply Kd.R_drewN|apply Kd.R_drew)); exact HO187.out) (Kd.R_base ho0) hb)
 have n1_:=Aside0.mk (Kd.R_elder' (by (with_reducible repeat (first|apply Kd.R_alloc|apply Kd.R_drewN|apply Kd.R_drew)); exact HO194.out) (Kd.R_base ho0) hb)
 have n2_:=Aside0.mk (Kd.R_elder' (by (with_reducible repeat (first|apply Kd.R_alloc|apply Kd.R_drewN|apply Kd.R_drew)); exact HO204.out) (Kd.R_base ho0) hb)
 have n3_:=Aside0.mk (Kd.R_lower (Kd.R_new' (Kd.R_new' (Kd.R_new' ho0 (Kd.R_lt (by (with_reducible repeat (first|apply Kd.R_alloc|apply Kd.R_drewN|apply Kd.R_drew)); exact HO187.out))) (Kd.R_lt (by (with_reducible repeat (first|apply Kd.R_alloc|apply Kd.R_drewN|apply Kd.R_drew)); exact HO194.out))) (Kd.R_lt (by (with_reducible repeat (first|apply Kd.R_alloc|apply Kd.R_drewN|apply Kd.R_drew)); exact HO204.out))) (below_size (by repeat (first|(with_reducible first|exact HB.out|apply bA|apply bD|apply bE|refine below_set ?_ GE188.out)|exact HB.out))))
 have n4_:=Aside0.mk (blk_below (g:=gb188) (o:=.cells #[.slice Ao28 t185.length co28] 26 (0,0)) (by (with_reducible repeat (first|refine blk_drewN ?_ _|refine blk_drew ?_|refine blk_alloc ?_ _)); exact BK188.out) hb)
 have n5_:=Aside0.mk (below_step (by repeat (first|(with_reducible first|exact HB.out|apply bA|apply bD|apply bE|refine below_set ?_ GE188.out)|exact HB.out)) hb)
 clear HO187
 clear HO194
 clear HO204
 clear BK188
 clear HB
 have HO187:=n0_
 have HO194:=n1_
 have HO204:=n2_
 have HO208:=n3_
 have BK188:=n4_
 have HB:=n5_
 clear n0_ n1_ n2_ n3_ n4_ n5_
 (try clear hb)
 (try clear hb2)
 (try clear hk)
 (try clear hi)
 (try clear ho0)
 obtain ⟨Ao43,co43,eo43⟩:=Kd.R_slice HO208.out
 (first|subst eo43|(injection eo43 with f1_ f2_ f3_; have f4_:=f1_.symm; have f5_:=f3_.symm; clear f1_ f2_ f3_; subst f4_; subst f5_))
 refine hK.out _ _ ((blk_cell BK188.out 0).trans rfl) (fun hHeld => ?_)
 clear hK K
 refine norm_ (a':=?_) ?_ ?_
 rotate_left
 ·show Act.put _ (some 79) _ = _
  simp only [Act.put,lS,lZ,lC,i64_w,i32_w]
  rfl
 refine pure_ (i:=45) (N:=some 80) (v:=?_) (a':=?_) #[tT,tT,tT,tT,tT,tT,tT,tT,tT,tT,tT,tT,tT,tT,tT,tT,tT,tT,tT,tT,tT,tT,tT,tT,tT,tT,tT,tT,tT,tT,tT,tT,tT,tT,tT,tT,tT,tT,tT,tT,tT,tT,tT,tT,tT,tT,fF,fF,fF] rfl rfl (any_of HT_.out (by kernel_rfl)) (fun _ _ _ h => h) (Or.inl ⟨by rfl,?_⟩) ?_ ?_
 rotate_left
 ·intro w'
  go_simp
  first|(with_reducible rfl)|(simp only [Instr.field,go_sem, *]; rfl)
 rotate_left
 ·simp only [Act.put,lS,lZ,lC,i64_w,i32_w]
  rfl
 refine pure_ (i:=46) (N:=some 81) (v:=?_) (a':=?_) #[tT,tT,tT,tT,tT,tT,tT,tT,tT,tT,tT,tT,tT,tT,tT,tT,tT,tT,tT,tT,tT,tT,tT,tT,tT,tT,tT,tT,tT,tT,tT,tT,tT,tT,tT,tT,tT,tT,tT,tT,tT,tT,tT,tT,tT,tT,tT,fF,fF] rfl rfl (any_of HT_.out (by kernel_rfl)) (fun _ _ _ h => h) (Or.inl ⟨by rfl,?_⟩) ?_ ?_
 rotate_left
 ·intro w'
  go_simp
  first|(with_reducible rfl)|(simp only [Instr.field,go_sem, *]; rfl)
 rotate_left
 ·simp only [Act.put,lS,lZ,lC,i64_w,i32_w]
  rfl
 refine pure_ (i:=47) (N:=some 82) (v:=?_) (a':=?_) #[tT,tT,tT,tT,tT,tT,tT,tT,tT,tT,tT,tT,tT,tT,tT,tT,tT,tT,tT,tT,tT,tT,tT,tT,tT,tT,tT,tT,tT,tT,tT,tT,tT,tT,tT,tT,tT,tT,tT,tT,tT,tT,tT,tT,tT,tT,tT,tT,fF] rfl rfl (any_of HT_.out (by kernel_rfl)) (fun _ _ _ h => h) (Or.inl ⟨by rfl,?_⟩) ?_ ?_
 rotate_left
 ·intro w'
  go_simp
  first|(with_reducible rfl)|(simp only [Instr.field,go_sem, *]; rfl)
 rotate_left
 ·simp only [Act.put,lS,lZ,lC,i64_w,i32_w]
  rfl
 refine pure_ (i:=48) (N:=some 2) (v:=?_) (a':=?_) #[tT,tT,tT,tT,tT,tT,tT,tT,tT,tT,tT,tT,tT,tT,tT,tT,tT,tT,tT,tT,tT,tT,tT,tT,tT,tT,tT,tT,tT,tT,tT,tT,tT,tT,tT,tT,tT,tT,tT,tT,tT,tT,tT,tT,tT,tT,tT,tT,tT] rfl rfl (any_of HT_.out (by kernel_rfl)) (fun _ _ _ h => h) (Or.inl ⟨by rfl,?_⟩) ?_ ?_
 rotate_left
 ·intro w'
  go_simp
  first|(with_reducible rfl)|(simp only [Instr.field,go_sem, *]; rfl)
 rotate_left
 ·simp only [Act.put,lS,lZ,lC,i64_w,i32_w]
  rfl
 refine done_ (done_of HT_.out (by kernel_rfl)) ?_
 try go_wp2
 go_ret
 exact ⟨by first|rfl|(simp [errW_none,errW_some] <;> rfl)|(simp [*,errW_none,errW_some] <;> rfl),by repeat (first|(with_reducible first|exact HB.out|apply bA|apply bD|apply bE|refine below_set ?_ GE188.out)|exact HB.out)⟩
/-- THE ONE PURE STATEMENT of laws_FnSpans: yours. -/
def laws_FnSpans.Pure : Prop:=∀ (l0 : List Int),l0.length ≤ maxLen → l0.length * 1 ≤ 140737488351232 → (∀ x ∈ l0,(Lit.int .u8 x).wf = true) → ∃ k,laws_FnSpans.f k l0 = some true
theorem laws_FnSpans.walk (P : laws_FnSpans.Pure) (a0 : Option Addr) (len0 cap0 : Nat) (z0 : List Int) (w : World) (w0 : (a0 = none ∧ len0 = 0 ∧ cap0 = 0 ∧ z0 = []) ∨ ∃ x,a0 = some x ∧ len0 ≤ cap0 ∧ cap0 ≤ maxLen ∧ z0.length = cap0 ∧ (∀ i,i < z0.length → w.cell? (x.add i) = some (.int .u8 (z0.getD i 0))) ∧ ∀ n ∈ z0,(Lit.int .u8 n).wf = true) (y0 : len0 * 1 ≤ 140737488351232) :
  Calls Try.prog 4 #[.slice a0 len0 cap0] w fun e w' => e = .returned (.bool true) ∧ Below w.heap.size w w':=by
 obtain ⟨l0,rfl,hr0,hm0,hw0,hc0⟩:=ReadsInt.ofRowC w0
 obtain ⟨k,h⟩:=P l0 hm0 y0 hw0
 refine (laws_FnSpans.calls k _ _ l0 true w (Kd.C_of_reads (d:=(0 : Int)) (h1:=fun _ => rfl) hr0) hc0 h).mono ?_
 rintro e w' ⟨rfl,hd⟩
 exact ⟨rfl,hd⟩

end Go.Proofs.Ytgolkgcmmionpaa.PFnSpans
