-- WRITTEN FOR THIS CLAIM by wip/ownprint.py of this session: the print's way, with changes (the print itself does not take this law).
import Derived.Test.YtmjccdljalocbaaPFnExactGroupSumx0
import Derived.Test.YtmjccdljalocbaaPFnExactGroupSumx1
import Derived.Test.YtmjccdljalocbaaPFnExactGroupSumx2
namespace Go.Proofs.Ytmjccdljalocbaa.PFnExactGroupSum
open Go.RowKit Go.Proofs.YtmjccdljalocbaaW.PrintWords Go.Proofs.YtmjccdljalocbaaW.PrintLast Go.Proofs.YtmjccdljalocbaaW.PrintMore
attribute [local go_sem] max2_int min2_int max_two min_two max_three min_three max_four min_four   -- for this text's walks alone
set_option linter.unusedVariables false
set_option linter.unusedSimpArgs false

private abbrev tT := true
private abbrev fF := false
private abbrev lS := @List.setIfInBounds_toArray
private abbrev lZ := @List.set_cons_zero
private abbrev lC := @List.set_cons_succ
private abbrev bD := @pw_below_drewN
private abbrev bA := @below_alloc
private abbrev bE := @below_drew1
private abbrev kN := @blk_drewN
private abbrev kA := @blk_alloc
private abbrev kD := @blk_drew
private abbrev bS := @below_set
private abbrev kC := @blk_cell
private abbrev kB := @blk_below
/-! ### spec_GroupSum: function 35 -/
def spec_GroupSum.j0 : Nat → Int → Bool → List Int → Option (Int × Int × Int × Int)
 | 0,_,_,_ => none
 | k + 1,x1,x16,x165000 => if x16 = true then (some (0,0,0,0)) else ((spec_ThirdAt.f k x165000 x1).bind fun bt168 => ((spec_ThirdAt.f k x165000 (wrap64 (x1 + 4))).bind fun bt172 => ((spec_AddIntervals.f k bt168.1 bt168.2.1 bt168.2.2.1 bt168.2.2.2 bt172.1 bt172.2.1 bt172.2.2.1 bt172.2.2.2).bind fun bt176 => (if bt176.2.2.2.2 = true then ((spec_ThirdAt.f k x165000 (wrap64 (x1 + 8))).bind fun bt182 => ((spec_AddIntervals.f k bt176.1 bt176.2.1 bt176.2.2.1 bt176.2.2.2.1 bt182.1 bt182.2.1 bt182.2.2.1 bt182.2.2.2).bind fun bt186 => (if bt186.2.2.2.2 = true then (some (bt186.1,bt186.2.1,bt186.2.2.1,bt186.2.2.2.1)) else (some (0,0,0,0))))) else (some (0,0,0,0))))))
def spec_GroupSum.f (k : Nat) (l0_0 : List Int) (a1 : Int) : Option (Int × Int × Int × Int):=(spec_CircleOk.f k l0_0).bind fun t166 => (if t166 = true then ((spec_l01In.f a1 0 3).bind fun t167 => (spec_GroupSum.j0 k a1 (!t167) l0_0)) else (spec_GroupSum.j0 k a1 true l0_0))
theorem spec_GroupSum.mono_l : ∀ k,(∀ y0 y1 y2,LeO (spec_GroupSum.j0 k y0 y1 y2) (spec_GroupSum.j0 (k + 1) y0 y1 y2))
 | 0 => fun _ _ _ r h => by simp [spec_GroupSum.j0] at h
 | k + 1 => by
  have ih0:=spec_GroupSum.mono_l k
  ·intro y0 y1 y2
   unfold spec_GroupSum.j0
   repeat' first
   | (with_reducible exact ih0 _ _ _)
   | (with_reducible exact spec_AddIntervals.mono _ _ _ _ _ _ _ _ _)
   | (with_reducible exact spec_CircleOk.mono _ _)
   | (with_reducible exact spec_ThirdAt.mono _ _ _)
   | (with_reducible exact LeO.refl _)
   | (with_reducible exact LeO.none _)
   | (with_reducible refine LeO.ite ?_ ?_)
   | (with_reducible refine LeO.bind ?_ (fun _ => ?_))
   | exact ih0 _ _ _
   | exact spec_AddIntervals.mono _ _ _ _ _ _ _ _ _
   | exact spec_CircleOk.mono _ _
   | exact spec_ThirdAt.mono _ _ _
   | exact LeO.none _
   | refine LeO.ite ?_ ?_
   | refine LeO.bind ?_ (fun _ => ?_)
theorem spec_GroupSum.mono : ∀ a0 a1 k,LeO (spec_GroupSum.f k a0 a1) (spec_GroupSum.f (k + 1) a0 a1):=by
 intro a0 a1 k
 have ih0:=spec_GroupSum.mono_l k
 unfold spec_GroupSum.f
 repeat' first
   | (with_reducible exact ih0 _ _ _)
   | (with_reducible exact spec_AddIntervals.mono _ _ _ _ _ _ _ _ _)
   | (with_reducible exact spec_CircleOk.mono _ _)
   | (with_reducible exact spec_ThirdAt.mono _ _ _)
   | (with_reducible exact LeO.refl _)
   | (with_reducible exact LeO.none _)
   | (with_reducible refine LeO.ite ?_ ?_)
   | (with_reducible refine LeO.bind ?_ (fun _ => ?_))
   | exact ih0 _ _ _
   | exact spec_AddIntervals.mono _ _ _ _ _ _ _ _ _
   | exact spec_CircleOk.mono _ _
   | exact spec_ThirdAt.mono _ _ _
   | exact LeO.none _
   | refine LeO.ite ?_ ?_
   | refine LeO.bind ?_ (fun _ => ?_)
def spec_GroupSum.T3 : Bool × List (List Nat × List Nat):=(true,[([],[]),([],[]),([0,1],[0,1]),([],[]),([],[]),([4],[4]),([3,5,2],[3,5]),([2,6,6],[2,6]),([7],[7]),([8],[8]),([8],[8]),([],[]),([11,9,7,0,1,2,3,4,5,6,7,8,9,11],[9,11]),([10,12,0,1,2,3,4,5,6,7,8,9,10,11,12],[10])])
def spec_GroupSum.B3 : List Nat:=[0,0,3,0,0,16,63,127,255,511,511,0,3071,8191]
theorem spec_GroupSum.tab3 : rtab .any (opsOf Try.f35 3) = spec_GroupSum.T3:=by kernel_rfl
theorem spec_GroupSum.bits3 : waitsOk spec_GroupSum.T3.2 spec_GroupSum.B3 = true:=by kernel_rfl
def spec_GroupSum.T6 : Bool × List (List Nat × List Nat):=(true,[([],[]),([],[]),([],[]),([2],[2]),([1,3],[1,3]),([0,4,4],[0,4]),([5],[5]),([6],[6]),([6],[6]),([],[]),([9,7,5,0,1,2,3,4,5,6,7,9],[7,9]),([8,10,0,1,2,3,4,5,6,7,8,9,10],[8])])
def spec_GroupSum.B6 : List Nat:=[0,0,0,4,14,31,63,127,127,0,767,2047]
theorem spec_GroupSum.tab6 : rtab .any (opsOf Try.f35 6) = spec_GroupSum.T6:=by kernel_rfl
theorem spec_GroupSum.bits6 : waitsOk spec_GroupSum.T6.2 spec_GroupSum.B6 = true:=by kernel_rfl
set_option maxHeartbeats 8000000 in
set_option maxRecDepth 100000 in
theorem spec_GroupSum.calls (k : Nat) (A0_0 : Option Addr) (c0_0 : Nat) (l0_0 : List Int) (a1 : Int) (r1 : Int) (r2 : Int) (r3 : Int) (r4 : Int) (w : World) (hr0_0 : Kd.C (Kd.int .i64) w A0_0 l0_0.length l0_0) (hc0_0 : l0_0.length ≤ c0_0) (h : spec_GroupSum.f k l0_0 a1 = some (r1,r2,r3,r4)) :
  Calls Try.prog 35 #[.agg #[.slice A0_0 l0_0.length c0_0],.int .i64 a1] w fun e w' => e = .returned (.agg #[.int .i64 r1,.int .i64 r2,.int .i64 r3,.int .i64 r4]) ∧ Below w.heap.size w w':=by
 have hu42:=Try.underlying42
 have hu50:=Try.underlying50
 have HR0_0:=Aside0.mk hr0_0
 have HC0_0:=Aside0.mk hc0_0
 clear hr0_0 hc0_0
 have HB:=Aside0.mk (Below.refl w.heap.size w)
 have H : ((spec_CircleOk.f k l0_0).bind fun t166 => (if t166 = true then ((spec_l01In.f a1 0 3).bind fun t167 => (spec_GroupSum.j0 k a1 (!t167) l0_0)) else (spec_GroupSum.j0 k a1 true l0_0))) = some (r1,r2,r3,r4):=h
 clear h
 have HC3:=Aside0.mk H
 clear H
 go_enter Try.func35,Try.ntmps35
 go_upto_region 1 with (first|((with_reducible refine gate_dst (N:=2) rfl ?_); refine box_event ?hg (N:=2) ?hd (cs:=#[.slice A0_0 l0_0.length c0_0]) (t:=42) ?hr ?_; (case hd => rfl); (case hg => rfl); (case hr => first|(go_simp; done)|(go_simp; rfl)); intro gb164 hg w4 hbox hb; have n0_:=Aside0.mk (below_step (by repeat (first|(with_reducible first|exact HB.out|apply bA|apply bD|apply bE)|exact HB.out)) hb); have n1_:=Aside0.mk (hbox); have n2_:=Aside0.mk ((by rw [hg]; exact (below_size (by repeat (first|(with_reducible first|exact HB.out|apply bA|apply bD|apply bE)|exact HB.out))) : w.heap.size ≤ gb164)); have n3_:=Aside0.mk ((by rw [hg]; exact (below_size (by repeat (first|(with_reducible first|exact HB.out|apply bA|apply bD|apply bE)|exact HB.out))) : w.heap.size ≤ gb164)); clear HB; have HB:=n0_; have BK164:=n1_; have GW164:=n2_; have GE164:=n3_; clear n0_ n1_ n2_ n3_; clear hb hbox hg)|((with_reducible refine gate_dst (N:=4) rfl ?_); refine box_event ?hg (N:=4) ?hd (cs:=#[.int .i64 0,.int .i64 0,.int .i64 0,.int .i64 0]) (t:=50) ?hr ?_; (case hd => rfl); (case hg => rfl); (case hr => first|(go_simp; done)|(go_simp; rfl)); intro gb165 hg w5 hbox hb; have n0_:=Aside0.mk (kB (g:=gb164) (o:=.cells #[.slice A0_0 l0_0.length c0_0] 42 (0,0)) BK164.out hb); have n1_:=Aside0.mk (below_step (by repeat (first|(with_reducible first|exact HB.out|apply bA|apply bD|apply bE|refine bS ?_ GE164.out)|exact HB.out)) hb); have n2_:=Aside0.mk (hbox); have n3_:=Aside0.mk ((by rw [hg]; exact (below_size (by repeat (first|(with_reducible first|exact HB.out|apply bA|apply bD|apply bE|refine bS ?_ GE164.out)|exact HB.out))) : w.heap.size ≤ gb165)); have n4_:=Aside0.mk ((by rw [hg]; exact (below_size (by repeat (first|(with_reducible first|exact HB.out|apply bA|apply bD|apply bE|refine bS ?_ GE164.out)|exact HB.out))) : w.heap.size ≤ gb165)); have n5_:=Aside0.mk ((by rw [hg]; exact Nat.ne_of_lt (blk_lt (g:=gb164) (o:=.cells #[.slice A0_0 l0_0.length c0_0] 42 (0,0)) BK164.out) : gb164 ≠ gb165)); have n6_:=Aside0.mk ((by rw [hg]; exact Nat.ne_of_gt (blk_lt (g:=gb164) (o:=.cells #[.slice A0_0 l0_0.length c0_0] 42 (0,0)) BK164.out) : gb165 ≠ gb164)); clear BK164; clear HB; have BK164:=n0_; have HB:=n1_; have BK165:=n2_; have GW165:=n3_; have GE165:=n4_; have NB164_165:=n5_; have NB165_164:=n6_; clear n0_ n1_ n2_ n3_ n4_ n5_ n6_; clear hb hbox hg))
 (try simp only [Act.put,lS,lZ,lC])
 go_cut [16] (fun v16 wc => ∃ (kq : Nat) (x16_2 : Bool),v16 = .bool x16_2 ∧ Aside0 (spec_GroupSum.j0 kq a1 x16_2 l0_0 = some (r1,r2,r3,r4)) ∧ Aside0 (kq ≤ k) ∧ Aside0 (wc.heap[gb164]? = some (.cells #[(.slice A0_0 l0_0.length c0_0)] 42 (0,0))) ∧ Aside0 (wc.heap[gb165]? = some (.cells #[.int .i64 0,.int .i64 0,.int .i64 0,.int .i64 0] 50 (0,0))) ∧ Aside0 (Below w.heap.size w wc))
 case first =>
  have H:=HC3.out
  clear HC3
  replace H:=Option.bind_eq_some_iff.mp H
  obtain ⟨t166,A60,H⟩:=H
  replace H : (if t166 = true then ((spec_l01In.f a1 0 3).bind fun t167 => (spec_GroupSum.j0 k a1 (!t167) l0_0)) else (spec_GroupSum.j0 k a1 true l0_0)) = some (r1,r2,r3,r4):=H
  have A6:=Aside0.mk A60
  clear A60
  by_cases c7 : t166 = true
  rotate_left
  ·replace c7:=Bool.eq_false_iff.mpr c7
   subst c7
   have H1 : (spec_GroupSum.j0 k a1 true l0_0) = some (r1,r2,r3,r4):=by rw [if_neg (show ¬ (false = true) by decide)] at H; exact H
   clear H
   have H:=H1
   clear H1
   have H':=Aside0.mk H
   clear H
   have hnb12:=NB164_165.out
   have hnc12:=NB165_164.out
   have hcz13_0 : w5.cell? ⟨gb164,0,none⟩ = some (.slice A0_0 l0_0.length c0_0):=(kC BK164.out 0).trans rfl
   have hfz13_0:=blk_frozen BK164.out 0
   go_wp2_with (first|((with_reducible refine gate_callee (f:=52) rfl ?_); refine goesL_ (some 10) rfl rfl Try.func52 (by kernel_rfl) rfl #[.agg #[.slice A0_0 l0_0.length c0_0]] rfl (by (try simp only [List.map_toArray,List.map_cons,List.map_nil]); first|done|rfl|(simp only [List.length_drop,List.length_take]; rfl)) ?_; (with_reducible refine (spec_CircleOk.calls k _ _ l0_0 false _ ?side1 ?side2 A6.out).mono ?_); (case side1 => repeat (first|exact (Kd.C_below HR0_0.out HB.out)|(with_reducible refine Kd.C_alloc ?_ _)|(with_reducible refine Kd.C_drewN ?_ _)|(with_reducible refine Kd.C_drew ?_))); (case side2 => exact HC0_0.out); rintro e w14 ⟨rfl,hb⟩; refine ⟨_,rfl,?_⟩; have n0_:=Aside0.mk (kB (g:=gb164) (o:=.cells #[.slice A0_0 l0_0.length c0_0] 42 (0,0)) BK164.out hb); have n1_:=Aside0.mk (kB (g:=gb165) (o:=.cells #[.int .i64 0,.int .i64 0,.int .i64 0,.int .i64 0] 50 (0,0)) BK165.out hb); have n2_:=Aside0.mk (below_step (by repeat (first|(with_reducible first|exact HB.out|apply bA|apply bD|apply bE|refine bS ?_ GE164.out|refine bS ?_ GE165.out)|exact HB.out)) hb); clear BK164; clear BK165; clear HB; have BK164:=n0_; have BK165:=n1_; have HB:=n2_; clear n0_ n1_ n2_; (try clear hb); (try clear hb2); (try clear hk); (try clear hi)))
   go_meet
   case rel => exact ⟨_,(true),(by first|rfl|(simp; done)|(simp [*]; done)),H',⟨by first|omega|exact Nat.le_refl _⟩,⟨by (with_reducible repeat (first|refine kN ?_ _|refine kD ?_|refine kA ?_ _)); exact BK164.out⟩,⟨by (with_reducible repeat (first|refine kN ?_ _|refine kD ?_|refine kA ?_ _)); exact BK165.out⟩,⟨by repeat (first|(with_reducible first|exact HB.out|apply bA|apply bD|apply bE|refine bS ?_ GE164.out|refine bS ?_ GE165.out)|exact HB.out)⟩⟩
  subst c7
  have H1 : ((spec_l01In.f a1 0 3).bind fun t167 => (spec_GroupSum.j0 k a1 (!t167) l0_0)) = some (r1,r2,r3,r4):=by rw [if_pos rfl] at H; exact H
  clear H
  have H:=H1
  clear H1
  replace H:=Option.bind_eq_some_iff.mp H
  obtain ⟨t167,A80,H⟩:=H
  replace H : (spec_GroupSum.j0 k a1 (!t167) l0_0) = some (r1,r2,r3,r4):=H
  have A8:=Aside0.mk A80
  clear A80
  have H':=Aside0.mk H
  clear H
  have hnb9:=NB164_165.out
  have hnc9:=NB165_164.out
  have hcz10_0 : w5.cell? ⟨gb164,0,none⟩ = some (.slice A0_0 l0_0.length c0_0):=(kC BK164.out 0).trans rfl
  have hfz10_0:=blk_frozen BK164.out 0
  go_wp2_with (first|((with_reducible refine gate_callee (f:=52) rfl ?_); refine goesL_ (some 10) rfl rfl Try.func52 (by kernel_rfl) rfl #[.agg #[.slice A0_0 l0_0.length c0_0]] rfl (by (try simp only [List.map_toArray,List.map_cons,List.map_nil]); first|done|rfl|(simp only [List.length_drop,List.length_take]; rfl)) ?_; (with_reducible refine (spec_CircleOk.calls k _ _ l0_0 true _ ?side1 ?side2 A6.out).mono ?_); (case side1 => repeat (first|exact (Kd.C_below HR0_0.out HB.out)|(with_reducible refine Kd.C_alloc ?_ _)|(with_reducible refine Kd.C_drewN ?_ _)|(with_reducible refine Kd.C_drew ?_))); (case side2 => exact HC0_0.out); rintro e w11 ⟨rfl,hb⟩; refine ⟨_,rfl,?_⟩; have n0_:=Aside0.mk (kB (g:=gb164) (o:=.cells #[.slice A0_0 l0_0.length c0_0] 42 (0,0)) BK164.out hb); have n1_:=Aside0.mk (kB (g:=gb165) (o:=.cells #[.int .i64 0,.int .i64 0,.int .i64 0,.int .i64 0] 50 (0,0)) BK165.out hb); have n2_:=Aside0.mk (below_step (by repeat (first|(with_reducible first|exact HB.out|apply bA|apply bD|apply bE|refine bS ?_ GE164.out|refine bS ?_ GE165.out)|exact HB.out)) hb); clear BK164; clear BK165; clear HB; have BK164:=n0_; have BK165:=n1_; have HB:=n2_; clear n0_ n1_ n2_; (try clear hb); (try clear hb2); (try clear hk); (try clear hi))|(go_at_call 45; (with_reducible refine (spec_l01In.calls a1 0 3 t167 _ A8.out).mono ?_); rintro e w' ⟨rfl,⟨nd,rfl⟩⟩))
  go_meet
  case rel => exact ⟨_,(!t167),(by first|rfl|(simp; done)|(simp [*]; done)),H',⟨by first|omega|exact Nat.le_refl _⟩,⟨by (with_reducible repeat (first|refine kN ?_ _|refine kD ?_|refine kA ?_ _)); exact BK164.out⟩,⟨by (with_reducible repeat (first|refine kN ?_ _|refine kD ?_|refine kA ?_ _)); exact BK165.out⟩,⟨by repeat (first|(with_reducible first|exact HB.out|apply bA|apply bD|apply bE|refine bS ?_ GE164.out|refine bS ?_ GE165.out)|exact HB.out)⟩⟩
 case rest =>
  clear HC3
  try clear c1
  try clear p2
  try clear c3
  try clear c5
  try clear c7
  try clear c9
  try clear c12
  try clear hcz10_0
  try clear hcz13_0
  try clear hfz10_0
  try clear hfz13_0
  obtain ⟨kq,x16_2,rfl,HA,HJ2,BK164,BK165,HB⟩:=hcut
  cases kq with
  | zero => exact absurd HA.out (by simp [spec_GroupSum.j0])
  | succ kj2 =>
   have H:=HA.out
   clear HA
   simp only [spec_GroupSum.j0] at H
   by_cases c15 : x16_2 = true
   ·subst c15
    have H1 : (some (0,0,0,0)) = some (r1,r2,r3,r4):=by rw [if_pos rfl] at H; exact H
    clear H
    have H:=H1
    clear H1
    simp only [Option.some.injEq,Prod.mk.injEq] at H
    obtain ⟨rfl,rfl,rfl,rfl⟩:=H
    have hnb16:=NB165_164.out
    have hnc16:=NB164_165.out
    have hcz17_0 : wc.cell? ⟨gb165,0,none⟩ = some (.int .i64 0):=(kC BK165.out 0).trans rfl
    have hcz17_1 : wc.cell? ⟨gb165,1,none⟩ = some (.int .i64 0):=(kC BK165.out 1).trans rfl
    have hcz17_2 : wc.cell? ⟨gb165,2,none⟩ = some (.int .i64 0):=(kC BK165.out 2).trans rfl
    have hcz17_3 : wc.cell? ⟨gb165,3,none⟩ = some (.int .i64 0):=(kC BK165.out 3).trans rfl
    have hfz17_0:=blk_frozen BK165.out 0
    have hfz17_1:=blk_frozen BK165.out 1
    have hfz17_2:=blk_frozen BK165.out 2
    have hfz17_3:=blk_frozen BK165.out 3
    go_wp2
    refine bodyPost_ret (results_cell_row rfl _ _ gb165 50 #[.int .i64 0,.int .i64 0,.int .i64 0,.int .i64 0] (0,0) _ rfl (by (with_reducible repeat (first|refine kN ?_ _|refine kD ?_|refine kA ?_ _)); refine blk_put (cs:=#[.int .i64 0,.int .i64 0,.int .i64 0,.int .i64 0]) ?_ 3 _ rfl; (with_reducible repeat (first|refine kN ?_ _|refine kD ?_|refine kA ?_ _)); refine blk_put (cs:=#[.int .i64 0,.int .i64 0,.int .i64 0,.int .i64 0]) ?_ 2 _ rfl; (with_reducible repeat (first|refine kN ?_ _|refine kD ?_|refine kA ?_ _)); refine blk_put (cs:=#[.int .i64 0,.int .i64 0,.int .i64 0,.int .i64 0]) ?_ 1 _ rfl; (with_reducible repeat (first|refine kN ?_ _|refine kD ?_|refine kA ?_ _)); refine blk_put (cs:=#[.int .i64 0,.int .i64 0,.int .i64 0,.int .i64 0]) ?_ 0 _ rfl; (with_reducible repeat (first|refine kN ?_ _|refine kD ?_|refine kA ?_ _)); exact BK165.out) Try.underlying50 rfl (by kernel_rfl)) rfl ?_
    exact ⟨by first|rfl|(simp [errW_none,errW_some] <;> rfl)|(simp [*,errW_none,errW_some] <;> rfl),by repeat (first|(with_reducible first|exact HB.out|apply bA|apply bD|apply bE|refine bS ?_ GE164.out|refine bS ?_ GE165.out)|exact HB.out)⟩
   replace c15:=Bool.eq_false_iff.mpr c15
   subst c15
   have H1 : ((spec_ThirdAt.f kj2 l0_0 a1).bind fun bt168 => ((spec_ThirdAt.f kj2 l0_0 (wrap64 (a1 + 4))).bind fun bt172 => ((spec_AddIntervals.f kj2 bt168.1 bt168.2.1 bt168.2.2.1 bt168.2.2.2 bt172.1 bt172.2.1 bt172.2.2.1 bt172.2.2.2).bind fun bt176 => (if bt176.2.2.2.2 = true then ((spec_ThirdAt.f kj2 l0_0 (wrap64 (a1 + 8))).bind fun bt182 => ((spec_AddIntervals.f kj2 bt176.1 bt176.2.1 bt176.2.2.1 bt176.2.2.2.1 bt182.1 bt182.2.1 bt182.2.2.1 bt182.2.2.2).bind fun bt186 => (if bt186.2.2.2.2 = true then (some (bt186.1,bt186.2.1,bt186.2.2.1,bt186.2.2.2.1)) else (some (0,0,0,0))))) else (some (0,0,0,0)))))) = some (r1,r2,r3,r4):=by rw [if_neg (show ¬ (false = true) by decide)] at H; exact H
   clear H
   have H:=H1
   clear H1
   replace H:=Option.bind_eq_some_iff.mp H
   obtain ⟨⟨t168,t169,t170,t171⟩,A180,H⟩:=H
   replace H : ((spec_ThirdAt.f kj2 l0_0 (wrap64 (a1 + 4))).bind fun bt172 => ((spec_AddIntervals.f kj2 t168 t169 t170 t171 bt172.1 bt172.2.1 bt172.2.2.1 bt172.2.2.2).bind fun bt176 => (if bt176.2.2.2.2 = true then ((spec_ThirdAt.f kj2 l0_0 (wrap64 (a1 + 8))).bind fun bt182 => ((spec_AddIntervals.f kj2 bt176.1 bt176.2.1 bt176.2.2.1 bt176.2.2.2.1 bt182.1 bt182.2.1 bt182.2.2.1 bt182.2.2.2).bind fun bt186 => (if bt186.2.2.2.2 = true then (some (bt186.1,bt186.2.1,bt186.2.2.1,bt186.2.2.2.1)) else (some (0,0,0,0))))) else (some (0,0,0,0))))) = some (r1,r2,r3,r4):=H
   have A18:=Aside0.mk A180
   clear A180
   replace H:=Option.bind_eq_some_iff.mp H
   obtain ⟨⟨t172,t173,t174,t175⟩,A190,H⟩:=H
   replace H : ((spec_AddIntervals.f kj2 t168 t169 t170 t171 t172 t173 t174 t175).bind fun bt176 => (if bt176.2.2.2.2 = true then ((spec_ThirdAt.f kj2 l0_0 (wrap64 (a1 + 8))).bind fun bt182 => ((spec_AddIntervals.f kj2 bt176.1 bt176.2.1 bt176.2.2.1 bt176.2.2.2.1 bt182.1 bt182.2.1 bt182.2.2.1 bt182.2.2.2).bind fun bt186 => (if bt186.2.2.2.2 = true then (some (bt186.1,bt186.2.1,bt186.2.2.1,bt186.2.2.2.1)) else (some (0,0,0,0))))) else (some (0,0,0,0)))) = some (r1,r2,r3,r4):=H
   have A19:=Aside0.mk A190
   clear A190
   replace H:=Option.bind_eq_some_iff.mp H
   obtain ⟨⟨t176,t177,t178,t179,t180⟩,A200,H⟩:=H
   replace H : (if t180 = true then ((spec_ThirdAt.f kj2 l0_0 (wrap64 (a1 + 8))).bind fun bt182 => ((spec_AddIntervals.f kj2 t176 t177 t178 t179 bt182.1 bt182.2.1 bt182.2.2.1 bt182.2.2.2).bind fun bt186 => (if bt186.2.2.2.2 = true then (some (bt186.1,bt186.2.1,bt186.2.2.1,bt186.2.2.2.1)) else (some (0,0,0,0))))) else (some (0,0,0,0))) = some (r1,r2,r3,r4):=H
   have A20:=Aside0.mk A200
   clear A200
   by_cases c21 : t180 = true
   rotate_left
   ·replace c21:=Bool.eq_false_iff.mpr c21
    subst c21
    have H1 : (some (0,0,0,0)) = some (r1,r2,r3,r4):=by rw [if_neg (show ¬ (false = true) by decide)] at H; exact H
    clear H
    have H:=H1
    clear H1
    simp only [Option.some.injEq,Prod.mk.injEq] at H
    obtain ⟨rfl,rfl,rfl,rfl⟩:=H
    try go_wp2
    have n0_:=Aside0.mk (kD BK164.out)
    have n1_:=Aside0.mk (kD BK165.out)
    have n2_:=Aside0.mk (bE HB.out)
    clear BK164
    clear BK165
    clear HB
    have BK164:=n0_
    have BK165:=n1_
    have HB:=n2_
    clear n0_ n1_ n2_
    refine start_ (n:=14) (S:=fun w' => w'.cell? ⟨gb164,0,none⟩ = some (.slice A0_0 l0_0.length c0_0)) (ds:=[]) #[fF,fF,fF,fF,fF,fF,fF,fF,fF,fF,fF,fF,fF,fF] (by kernel_rfl) rfl rfl ((kC BK164.out 0).trans rfl) (fun hHeld => ?_); refine with_tabW spec_GroupSum.tab3 spec_GroupSum.bits3 (fun HT_ HW_ => ?_)
    generalize wc.drew = w76 at BK164 BK165 HB hHeld ⊢
    refine pure_ (i:=1) (N:=some 20) (v:=?_) (a':=?_) #[fF,tT,fF,fF,fF,fF,fF,fF,fF,fF,fF,fF,fF,fF] rfl rfl (any_of HT_.out (by kernel_rfl)) (fun _ _ _ h => h) (Or.inl ⟨by rfl,?_⟩) ?_ ?_
    rotate_left
    ·intro w'
     go_simp
     first|(with_reducible rfl)|(simp only [Instr.field,go_sem, *]; rfl)
    rotate_left
    ·simp only [Act.put,lS,lZ,lC,i64_w,i32_w]
     rfl
    refine pure_ (i:=4) (N:=some 23) (v:=?_) (a':=?_) #[fF,tT,fF,fF,tT,fF,fF,fF,fF,fF,fF,fF,fF,fF] rfl rfl (any_of HT_.out (by kernel_rfl)) (fun _ _ _ h => h) (Or.inl ⟨by rfl,?_⟩) ?_ ?_
    rotate_left
    ·intro w'
     go_simp
     first|(with_reducible rfl)|(simp only [Instr.field,go_sem, *]; rfl)
    rotate_left
    ·simp only [Act.put,lS,lZ,lC,i64_w,i32_w]
     rfl
    refine pure_ (i:=5) (N:=some 24) (v:=?_) (a':=?_) #[fF,tT,fF,fF,tT,tT,fF,fF,fF,fF,fF,fF,fF,fF] rfl rfl (any_of HT_.out (by kernel_rfl)) (fun _ _ _ h => h) (Or.inl ⟨by rfl,?_⟩) ?_ ?_
    rotate_left
    ·intro w'
     go_simp
     first|(with_reducible rfl)|(simp only [Instr.field,go_sem, *]; rfl)
    rotate_left
    ·simp only [Act.put,lS,lZ,lC,i64_w,i32_w]
     rfl
    refine take_ (i:=0) (N:=some 19) (v:=?_) (a':=?_) #[tT,tT,fF,fF,tT,tT,fF,fF,fF,fF,fF,fF,fF,fF] rfl rfl (take_ofW HT_.out HW_.out (by kernel_rfl)) (fun _ _ _ h => h) (Or.inl ⟨by rfl,?_⟩) hHeld ?_ ?_
    rotate_left
    ·intro w' s0
     go_simp
     first|(with_reducible rfl)|(simp only [Instr.field,go_sem, *]; rfl)
    rotate_left
    ·simp only [Act.put,lS,lZ,lC,i64_w,i32_w]
     rfl
    refine take_ (i:=3) (N:=some 22) (v:=?_) (a':=?_) #[tT,tT,fF,tT,tT,tT,fF,fF,fF,fF,fF,fF,fF,fF] rfl rfl (take_ofW HT_.out HW_.out (by kernel_rfl)) (fun _ _ _ h => h) (Or.inl ⟨by rfl,?_⟩) hHeld ?_ ?_
    rotate_left
    ·intro w' s0
     go_simp
     first|(with_reducible rfl)|(simp only [Instr.field,go_sem, *]; rfl)
    rotate_left
    ·simp only [Act.put,lS,lZ,lC,i64_w,i32_w]
     rfl
    refine join_ (σ:=Nat) 2 #[tT,tT,tT,tT,tT,tT,tT,tT,tT,tT,tT,tT,fF,fF] (fun s_ => [(21,.agg #[.int .i64 t168,.int .i64 t169,.int .i64 t170,.int .i64 t171]),(25,.agg #[.int .i64 t172,.int .i64 t173,.int .i64 t174,.int .i64 t175]),(26,.tuple #[.agg #[.int .i64 t176,.int .i64 t177,.int .i64 t178,.int .i64 t179],.bool false]),(5,.pointer (some ⟨s_,0,none⟩)),(18,.tuple #[.agg #[.int .i64 t176,.int .i64 t177,.int .i64 t178,.int .i64 t179],.bool false]),(27,.agg #[.int .i64 t176,.int .i64 t177,.int .i64 t178,.int .i64 t179]),(28,.bool false)]) (fun s_ w' => (w'.cell? ⟨gb164,0,none⟩ = some (.slice A0_0 l0_0.length c0_0)) ∧ (w'.heap[gb164]? = some (.cells #[.slice A0_0 l0_0.length c0_0] 42 (0,0))) ∧ (w'.heap[gb165]? = some (.cells #[.int .i64 0,.int .i64 0,.int .i64 0,.int .i64 0] 50 (0,0))) ∧ (w'.heap[s_]? = some (.cells #[.int .i64 0,.int .i64 0,.int .i64 0,.int .i64 0] 50 (0,0))) ∧ (w.heap.size ≤ s_) ∧ (w.heap.size ≤ s_) ∧ (gb164 ≠ s_) ∧ (s_ ≠ gb164) ∧ (gb165 ≠ s_) ∧ (s_ ≠ gb165) ∧ (Below w.heap.size w w')) ?_ ?_
    rotate_left
    ·intro hCont
     refine two_ (i:=2) (j:=11) (Ni:=some 21) (Nj:=some 5) #[tT,tT,tT,tT,tT,tT,fF,fF,fF,fF,fF,fF,fF,fF] #[tT,tT,fF,tT,tT,tT,fF,fF,fF,fF,fF,tT,fF,fF] rfl rfl rfl rfl (two_of HT_.out (by kernel_rfl)) (by decide) (by decide) (fun K hK => ?_) (fun K hK => ?_)
     ·skip
      refine goes_ Try.func60 (by kernel_rfl) rfl #[.agg #[.slice A0_0 l0_0.length c0_0],.int .i64 a1] (by rfl) rfl rfl (by (try simp only [List.map_toArray,List.map_cons,List.map_nil]); first|done|rfl|(simp only [List.length_drop,List.length_take]; rfl)) ?_
      with_reducible refine (spec_ThirdAt.calls kj2 _ _ l0_0 a1 t168 t169 t170 t171 _ ?side1 ?side2 A18.out).mono ?_
      (case side1 => repeat (first|exact (Kd.C_below HR0_0.out HB.out)|(with_reducible refine Kd.C_alloc ?_ _)|(with_reducible refine Kd.C_drewN ?_ _)|(with_reducible refine Kd.C_drew ?_)))
      (case side2 => exact HC0_0.out)
      rintro e w77 ⟨rfl,hb⟩
      refine ⟨_,rfl,?_⟩
      have n0_:=Aside0.mk (kB (g:=gb164) (o:=.cells #[.slice A0_0 l0_0.length c0_0] 42 (0,0)) BK164.out hb)
      have n1_:=Aside0.mk (kB (g:=gb165) (o:=.cells #[.int .i64 0,.int .i64 0,.int .i64 0,.int .i64 0] 50 (0,0)) BK165.out hb)
      have n2_:=Aside0.mk (below_step (by repeat (first|(with_reducible first|exact HB.out|apply bA|apply bD|apply bE|refine bS ?_ GE164.out|refine bS ?_ GE165.out)|exact HB.out)) hb)
      clear BK164
      clear BK165
      clear HB
      have BK164:=n0_
      have BK165:=n1_
      have HB:=n2_
      clear n0_ n1_ n2_
      (try clear hb)
      (try clear hb2)
      (try clear hk)
      (try clear hi)
      refine hK.out _ _ ((kC BK164.out 0).trans rfl) (fun hHeld => ?_)
      clear hK K
      refine norm_ (a':=?_) ?_ ?_
      rotate_left
      ·show Act.put _ (some 21) _ = _
       simp only [Act.put,lS,lZ,lC,i64_w,i32_w]
       rfl
      refine two_ (i:=6) (j:=11) (Ni:=some 25) (Nj:=some 5) #[tT,tT,tT,tT,tT,tT,tT,fF,fF,fF,fF,fF,fF,fF] #[tT,tT,tT,tT,tT,tT,fF,fF,fF,fF,fF,tT,fF,fF] rfl rfl rfl rfl (two_of HT_.out (by kernel_rfl)) (by decide) (by decide) (fun K hK => ?_) (fun K hK => ?_)
      ·skip
       refine goes_ Try.func60 (by kernel_rfl) rfl #[.agg #[.slice A0_0 l0_0.length c0_0],.int .i64 (wrap64 (a1 + 4))] (by rfl) rfl rfl (by (try simp only [List.map_toArray,List.map_cons,List.map_nil]); first|done|rfl|(simp only [List.length_drop,List.length_take]; rfl)) ?_
       with_reducible refine (spec_ThirdAt.calls kj2 _ _ l0_0 (wrap64 (a1 + 4)) t172 t173 t174 t175 _ ?side1 ?side2 A19.out).mono ?_
       (case side1 => repeat (first|exact (Kd.C_below HR0_0.out HB.out)|(with_reducible refine Kd.C_alloc ?_ _)|(with_reducible refine Kd.C_drewN ?_ _)|(with_reducible refine Kd.C_drew ?_)))
       (case side2 => exact HC0_0.out)
       rintro e w78 ⟨rfl,hb⟩
       refine ⟨_,rfl,?_⟩
       have n0_:=Aside0.mk (kB (g:=gb164) (o:=.cells #[.slice A0_0 l0_0.length c0_0] 42 (0,0)) BK164.out hb)
       have n1_:=Aside0.mk (kB (g:=gb165) (o:=.cells #[.int .i64 0,.int .i64 0,.int .i64 0,.int .i64 0] 50 (0,0)) BK165.out hb)
       have n2_:=Aside0.mk (below_step (by repeat (first|(with_reducible first|exact HB.out|apply bA|apply bD|apply bE|refine bS ?_ GE164.out|refine bS ?_ GE165.out)|exact HB.out)) hb)
       clear BK164
       clear BK165
       clear HB
       have BK164:=n0_
       have BK165:=n1_
       have HB:=n2_
       clear n0_ n1_ n2_
       (try clear hb)
       (try clear hb2)
       (try clear hk)
       (try clear hi)
       refine hK.out _ _ ((kC BK164.out 0).trans rfl) (fun hHeld => ?_)
       clear hK K
       refine norm_ (a':=?_) ?_ ?_
       rotate_left
       ·show Act.put _ (some 25) _ = _
        simp only [Act.put,lS,lZ,lC,i64_w,i32_w]
        rfl
       refine two_ (i:=7) (j:=11) (Ni:=some 26) (Nj:=some 5) #[tT,tT,tT,tT,tT,tT,tT,tT,fF,fF,fF,fF,fF,fF] #[tT,tT,tT,tT,tT,tT,tT,fF,fF,fF,fF,tT,fF,fF] rfl rfl rfl rfl (two_of HT_.out (by kernel_rfl)) (by decide) (by decide) (fun K hK => ?_) (fun K hK => ?_)
       ·skip
        refine goes_ Try.func59 (by kernel_rfl) rfl #[.agg #[.int .i64 t168,.int .i64 t169,.int .i64 t170,.int .i64 t171],.agg #[.int .i64 t172,.int .i64 t173,.int .i64 t174,.int .i64 t175]] (by rfl) rfl rfl (by (try simp only [List.map_toArray,List.map_cons,List.map_nil]); first|done|rfl|(simp only [List.length_drop,List.length_take]; rfl)) ?_
        with_reducible refine (spec_AddIntervals.calls kj2 t168 t169 t170 t171 t172 t173 t174 t175 t176 t177 t178 t179 false _ A20.out).mono ?_
        rintro e w79 ⟨rfl,hb⟩
        refine ⟨_,rfl,?_⟩
        have n0_:=Aside0.mk (kB (g:=gb164) (o:=.cells #[.slice A0_0 l0_0.length c0_0] 42 (0,0)) BK164.out hb)
        have n1_:=Aside0.mk (kB (g:=gb165) (o:=.cells #[.int .i64 0,.int .i64 0,.int .i64 0,.int .i64 0] 50 (0,0)) BK165.out hb)
        have n2_:=Aside0.mk (below_step (by repeat (first|(with_reducible first|exact HB.out|apply bA|apply bD|apply bE|refine bS ?_ GE164.out|refine bS ?_ GE165.out)|exact HB.out)) hb)
        clear BK164
        clear BK165
        clear HB
        have BK164:=n0_
        have BK165:=n1_
        have HB:=n2_
        clear n0_ n1_ n2_
        (try clear hb)
        (try clear hb2)
        (try clear hk)
        (try clear hi)
        refine hK.out _ _ ((kC BK164.out 0).trans rfl) (fun hHeld => ?_)
        clear hK K
        refine norm_ (a':=?_) ?_ ?_
        rotate_left
        ·show Act.put _ (some 26) _ = _
         simp only [Act.put,lS,lZ,lC,i64_w,i32_w]
         rfl
        refine pure_ (i:=8) (N:=some 18) (v:=?_) (a':=?_) #[tT,tT,tT,tT,tT,tT,tT,tT,tT,fF,fF,fF,fF,fF] rfl rfl (any_of HT_.out (by kernel_rfl)) (fun _ _ _ h => h) (Or.inl ⟨by rfl,?_⟩) ?_ ?_
        rotate_left
        ·intro w'
         go_simp
         first|(with_reducible rfl)|(simp only [Instr.field,go_sem, *]; rfl)
        rotate_left
        ·simp only [Act.put,lS,lZ,lC,i64_w,i32_w]
         rfl
        refine pure_ (i:=9) (N:=some 27) (v:=?_) (a':=?_) #[tT,tT,tT,tT,tT,tT,tT,tT,tT,tT,fF,fF,fF,fF] rfl rfl (any_of HT_.out (by kernel_rfl)) (fun _ _ _ h => h) (Or.inl ⟨by rfl,?_⟩) ?_ ?_
        rotate_left
        ·intro w'
         go_simp
         first|(with_reducible rfl)|(simp only [Instr.field,go_sem, *]; rfl)
        rotate_left
        ·simp only [Act.put,lS,lZ,lC,i64_w,i32_w]
         rfl
        refine pure_ (i:=10) (N:=some 28) (v:=?_) (a':=?_) #[tT,tT,tT,tT,tT,tT,tT,tT,tT,tT,tT,fF,fF,fF] rfl rfl (any_of HT_.out (by kernel_rfl)) (fun _ _ _ h => h) (Or.inl ⟨by rfl,?_⟩) ?_ ?_
        rotate_left
        ·intro w'
         go_simp
         first|(with_reducible rfl)|(simp only [Instr.field,go_sem, *]; rfl)
        rotate_left
        ·simp only [Act.put,lS,lZ,lC,i64_w,i32_w]
         rfl
        refine one_ (i:=11) (N:=some 5) #[tT,tT,tT,tT,tT,tT,tT,tT,tT,tT,tT,tT,fF,fF] rfl rfl (one_of HT_.out (by kernel_rfl)) (by decide) (fun K hK => ?_)
        refine box_step ?hg (N:=5) ?hd (cs:=#[.int .i64 0,.int .i64 0,.int .i64 0,.int .i64 0]) (t:=50) ?hr ?_; (case hd => rfl); (case hg => rfl); (case hr => first|(go_simp; done)|(go_simp; rfl))
        intro gb181 hg w80 hbox hb
        have n0_:=Aside0.mk (kB (g:=gb164) (o:=.cells #[.slice A0_0 l0_0.length c0_0] 42 (0,0)) BK164.out hb)
        have n1_:=Aside0.mk (kB (g:=gb165) (o:=.cells #[.int .i64 0,.int .i64 0,.int .i64 0,.int .i64 0] 50 (0,0)) BK165.out hb)
        have n2_:=Aside0.mk (below_step (by repeat (first|(with_reducible first|exact HB.out|apply bA|apply bD|apply bE|refine bS ?_ GE164.out|refine bS ?_ GE165.out)|exact HB.out)) hb)
        have n3_:=Aside0.mk (hbox)
        have n4_:=Aside0.mk ((by rw [hg]; exact (below_size (by repeat (first|(with_reducible first|exact HB.out|apply bA|apply bD|apply bE|refine bS ?_ GE164.out|refine bS ?_ GE165.out)|exact HB.out))) : w.heap.size ≤ gb181))
        have n5_:=Aside0.mk ((by rw [hg]; exact (below_size (by repeat (first|(with_reducible first|exact HB.out|apply bA|apply bD|apply bE|refine bS ?_ GE164.out|refine bS ?_ GE165.out)|exact HB.out))) : w.heap.size ≤ gb181))
        have n6_:=Aside0.mk ((by rw [hg]; exact Nat.ne_of_lt (blk_lt (g:=gb164) (o:=.cells #[.slice A0_0 l0_0.length c0_0] 42 (0,0)) BK164.out) : gb164 ≠ gb181))
        have n7_:=Aside0.mk ((by rw [hg]; exact Nat.ne_of_gt (blk_lt (g:=gb164) (o:=.cells #[.slice A0_0 l0_0.length c0_0] 42 (0,0)) BK164.out) : gb181 ≠ gb164))
        have n8_:=Aside0.mk ((by rw [hg]; exact Nat.ne_of_lt (blk_lt (g:=gb165) (o:=.cells #[.int .i64 0,.int .i64 0,.int .i64 0,.int .i64 0] 50 (0,0)) BK165.out) : gb165 ≠ gb181))
        have n9_:=Aside0.mk ((by rw [hg]; exact Nat.ne_of_gt (blk_lt (g:=gb165) (o:=.cells #[.int .i64 0,.int .i64 0,.int .i64 0,.int .i64 0] 50 (0,0)) BK165.out) : gb181 ≠ gb165))
        clear BK164
        clear BK165
        clear HB
        have BK164:=n0_
        have BK165:=n1_
        have HB:=n2_
        have BK181:=n3_
        have GW181:=n4_
        have GE181:=n5_
        have NB164_181:=n6_
        have NB181_164:=n7_
        have NB165_181:=n8_
        have NB181_165:=n9_
        clear n0_ n1_ n2_ n3_ n4_ n5_ n6_ n7_ n8_ n9_
        clear hb hbox hg
        refine hK.out _ _ ((kC BK164.out 0).trans rfl) (fun hHeld => ?_)
        clear hK K
        refine norm_ (a':=?_) ?_ ?_
        rotate_left
        ·show Act.put _ (some 5) _ = _
         simp only [Act.put,lS,lZ,lC,i64_w,i32_w]
         rfl
        exact norm_ (by simp only [putAll,Act.put,lS,lZ,lC]) (hCont (gb181) _ ⟨hHeld,BK164.out,BK165.out,BK181.out,GW181.out,GE181.out,NB164_181.out,NB181_164.out,NB165_181.out,NB181_165.out,(by repeat (first|(with_reducible first|exact HB.out|apply bA|apply bD|apply bE|refine bS ?_ GE164.out|refine bS ?_ GE165.out|refine bS ?_ GE181.out)|exact HB.out))⟩)
       ·skip
        refine box_step ?hg (N:=5) ?hd (cs:=#[.int .i64 0,.int .i64 0,.int .i64 0,.int .i64 0]) (t:=50) ?hr ?_; (case hd => rfl); (case hg => rfl); (case hr => first|(go_simp; done)|(go_simp; rfl))
        intro gb181 hg w79 hbox hb
        have n0_:=Aside0.mk (kB (g:=gb164) (o:=.cells #[.slice A0_0 l0_0.length c0_0] 42 (0,0)) BK164.out hb)
        have n1_:=Aside0.mk (kB (g:=gb165) (o:=.cells #[.int .i64 0,.int .i64 0,.int .i64 0,.int .i64 0] 50 (0,0)) BK165.out hb)
        have n2_:=Aside0.mk (below_step (by repeat (first|(with_reducible first|exact HB.out|apply bA|apply bD|apply bE|refine bS ?_ GE164.out|refine bS ?_ GE165.out)|exact HB.out)) hb)
        have n3_:=Aside0.mk (hbox)
        have n4_:=Aside0.mk ((by rw [hg]; exact (below_size (by repeat (first|(with_reducible first|exact HB.out|apply bA|apply bD|apply bE|refine bS ?_ GE164.out|refine bS ?_ GE165.out)|exact HB.out))) : w.heap.size ≤ gb181))
        have n5_:=Aside0.mk ((by rw [hg]; exact (below_size (by repeat (first|(with_reducible first|exact HB.out|apply bA|apply bD|apply bE|refine bS ?_ GE164.out|refine bS ?_ GE165.out)|exact HB.out))) : w.heap.size ≤ gb181))
        have n6_:=Aside0.mk ((by rw [hg]; exact Nat.ne_of_lt (blk_lt (g:=gb164) (o:=.cells #[.slice A0_0 l0_0.length c0_0] 42 (0,0)) BK164.out) : gb164 ≠ gb181))
        have n7_:=Aside0.mk ((by rw [hg]; exact Nat.ne_of_gt (blk_lt (g:=gb164) (o:=.cells #[.slice A0_0 l0_0.length c0_0] 42 (0,0)) BK164.out) : gb181 ≠ gb164))
        have n8_:=Aside0.mk ((by rw [hg]; exact Nat.ne_of_lt (blk_lt (g:=gb165) (o:=.cells #[.int .i64 0,.int .i64 0,.int .i64 0,.int .i64 0] 50 (0,0)) BK165.out) : gb165 ≠ gb181))
        have n9_:=Aside0.mk ((by rw [hg]; exact Nat.ne_of_gt (blk_lt (g:=gb165) (o:=.cells #[.int .i64 0,.int .i64 0,.int .i64 0,.int .i64 0] 50 (0,0)) BK165.out) : gb181 ≠ gb165))
        clear BK164
        clear BK165
        clear HB
        have BK164:=n0_
        have BK165:=n1_
        have HB:=n2_
        have BK181:=n3_
        have GW181:=n4_
        have GE181:=n5_
        have NB164_181:=n6_
        have NB181_164:=n7_
        have NB165_181:=n8_
        have NB181_165:=n9_
        clear n0_ n1_ n2_ n3_ n4_ n5_ n6_ n7_ n8_ n9_
        clear hb hbox hg
        refine hK.out _ _ ((kC BK164.out 0).trans rfl) (fun hHeld => ?_)
        clear hK K
        refine norm_ (a':=?_) ?_ ?_
        rotate_left
        ·show Act.put _ (some 5) _ = _
         simp only [Act.put,lS,lZ,lC,i64_w,i32_w]
         rfl
        refine one_ (i:=7) (N:=some 26) #[tT,tT,tT,tT,tT,tT,tT,tT,fF,fF,fF,tT,fF,fF] rfl rfl (one_of HT_.out (by kernel_rfl)) (by decide) (fun K hK => ?_)
        refine goes_ Try.func59 (by kernel_rfl) rfl #[.agg #[.int .i64 t168,.int .i64 t169,.int .i64 t170,.int .i64 t171],.agg #[.int .i64 t172,.int .i64 t173,.int .i64 t174,.int .i64 t175]] (by rfl) rfl rfl (by (try simp only [List.map_toArray,List.map_cons,List.map_nil]); first|done|rfl|(simp only [List.length_drop,List.length_take]; rfl)) ?_
        with_reducible refine (spec_AddIntervals.calls kj2 t168 t169 t170 t171 t172 t173 t174 t175 t176 t177 t178 t179 false _ A20.out).mono ?_
        rintro e w80 ⟨rfl,hb⟩
        refine ⟨_,rfl,?_⟩
        have n0_:=Aside0.mk (kB (g:=gb164) (o:=.cells #[.slice A0_0 l0_0.length c0_0] 42 (0,0)) BK164.out hb)
        have n1_:=Aside0.mk (kB (g:=gb165) (o:=.cells #[.int .i64 0,.int .i64 0,.int .i64 0,.int .i64 0] 50 (0,0)) BK165.out hb)
        have n2_:=Aside0.mk (kB (g:=gb181) (o:=.cells #[.int .i64 0,.int .i64 0,.int .i64 0,.int .i64 0] 50 (0,0)) BK181.out hb)
        have n3_:=Aside0.mk (below_step (by repeat (first|(with_reducible first|exact HB.out|apply bA|apply bD|apply bE|refine bS ?_ GE164.out|refine bS ?_ GE165.out|refine bS ?_ GE181.out)|exact HB.out)) hb)
        clear BK164
        clear BK165
        clear BK181
        clear HB
        have BK164:=n0_
        have BK165:=n1_
        have BK181:=n2_
        have HB:=n3_
        clear n0_ n1_ n2_ n3_
        (try clear hb)
        (try clear hb2)
        (try clear hk)
        (try clear hi)
        refine hK.out _ _ ((kC BK164.out 0).trans rfl) (fun hHeld => ?_)
        clear hK K
        refine norm_ (a':=?_) ?_ ?_
        rotate_left
        ·show Act.put _ (some 26) _ = _
         simp only [Act.put,lS,lZ,lC,i64_w,i32_w]
         rfl
        refine pure_ (i:=8) (N:=some 18) (v:=?_) (a':=?_) #[tT,tT,tT,tT,tT,tT,tT,tT,tT,fF,fF,tT,fF,fF] rfl rfl (any_of HT_.out (by kernel_rfl)) (fun _ _ _ h => h) (Or.inl ⟨by rfl,?_⟩) ?_ ?_
        rotate_left
        ·intro w'
         go_simp
         first|(with_reducible rfl)|(simp only [Instr.field,go_sem, *]; rfl)
        rotate_left
        ·simp only [Act.put,lS,lZ,lC,i64_w,i32_w]
         rfl
        refine pure_ (i:=9) (N:=some 27) (v:=?_) (a':=?_) #[tT,tT,tT,tT,tT,tT,tT,tT,tT,tT,fF,tT,fF,fF] rfl rfl (any_of HT_.out (by kernel_rfl)) (fun _ _ _ h => h) (Or.inl ⟨by rfl,?_⟩) ?_ ?_
        rotate_left
        ·intro w'
         go_simp
         first|(with_reducible rfl)|(simp only [Instr.field,go_sem, *]; rfl)
        rotate_left
        ·simp only [Act.put,lS,lZ,lC,i64_w,i32_w]
         rfl
        refine pure_ (i:=10) (N:=some 28) (v:=?_) (a':=?_) #[tT,tT,tT,tT,tT,tT,tT,tT,tT,tT,tT,tT,fF,fF] rfl rfl (any_of HT_.out (by kernel_rfl)) (fun _ _ _ h => h) (Or.inl ⟨by rfl,?_⟩) ?_ ?_
        rotate_left
        ·intro w'
         go_simp
         first|(with_reducible rfl)|(simp only [Instr.field,go_sem, *]; rfl)
        rotate_left
        ·simp only [Act.put,lS,lZ,lC,i64_w,i32_w]
         rfl
        exact norm_ (by simp only [putAll,Act.put,lS,lZ,lC]) (hCont (gb181) _ ⟨hHeld,BK164.out,BK165.out,BK181.out,GW181.out,GE181.out,NB164_181.out,NB181_164.out,NB165_181.out,NB181_165.out,(by repeat (first|(with_reducible first|exact HB.out|apply bA|apply bD|apply bE|refine bS ?_ GE164.out|refine bS ?_ GE165.out|refine bS ?_ GE181.out)|exact HB.out))⟩)
      ·skip
       refine box_step ?hg (N:=5) ?hd (cs:=#[.int .i64 0,.int .i64 0,.int .i64 0,.int .i64 0]) (t:=50) ?hr ?_; (case hd => rfl); (case hg => rfl); (case hr => first|(go_simp; done)|(go_simp; rfl))
       intro gb181 hg w78 hbox hb
       have n0_:=Aside0.mk (kB (g:=gb164) (o:=.cells #[.slice A0_0 l0_0.length c0_0] 42 (0,0)) BK164.out hb)
       have n1_:=Aside0.mk (kB (g:=gb165) (o:=.cells #[.int .i64 0,.int .i64 0,.int .i64 0,.int .i64 0] 50 (0,0)) BK165.out hb)
       have n2_:=Aside0.mk (below_step (by repeat (first|(with_reducible first|exact HB.out|apply bA|apply bD|apply bE|refine bS ?_ GE164.out|refine bS ?_ GE165.out)|exact HB.out)) hb)
       have n3_:=Aside0.mk (hbox)
       have n4_:=Aside0.mk ((by rw [hg]; exact (below_size (by repeat (first|(with_reducible first|exact HB.out|apply bA|apply bD|apply bE|refine bS ?_ GE164.out|refine bS ?_ GE165.out)|exact HB.out))) : w.heap.size ≤ gb181))
       have n5_:=Aside0.mk ((by rw [hg]; exact (below_size (by repeat (first|(with_reducible first|exact HB.out|apply bA|apply bD|apply bE|refine bS ?_ GE164.out|refine bS ?_ GE165.out)|exact HB.out))) : w.heap.size ≤ gb181))
       have n6_:=Aside0.mk ((by rw [hg]; exact Nat.ne_of_lt (blk_lt (g:=gb164) (o:=.cells #[.slice A0_0 l0_0.length c0_0] 42 (0,0)) BK164.out) : gb164 ≠ gb181))
       have n7_:=Aside0.mk ((by rw [hg]; exact Nat.ne_of_gt (blk_lt (g:=gb164) (o:=.cells #[.slice A0_0 l0_0.length c0_0] 42 (0,0)) BK164.out) : gb181 ≠ gb164))
       have n8_:=Aside0.mk ((by rw [hg]; exact Nat.ne_of_lt (blk_lt (g:=gb165) (o:=.cells #[.int .i64 0,.int .i64 0,.int .i64 0,.int .i64 0] 50 (0,0)) BK165.out) : gb165 ≠ gb181))
       have n9_:=Aside0.mk ((by rw [hg]; exact Nat.ne_of_gt (blk_lt (g:=gb165) (o:=.cells #[.int .i64 0,.int .i64 0,.int .i64 0,.int .i64 0] 50 (0,0)) BK165.out) : gb181 ≠ gb165))
       clear BK164
       clear BK165
       clear HB
       have BK164:=n0_
       have BK165:=n1_
       have HB:=n2_
       have BK181:=n3_
       have GW181:=n4_
       have GE181:=n5_
       have NB164_181:=n6_
       have NB181_164:=n7_
       have NB165_181:=n8_
       have NB181_165:=n9_
       clear n0_ n1_ n2_ n3_ n4_ n5_ n6_ n7_ n8_ n9_
       clear hb hbox hg
       refine hK.out _ _ ((kC BK164.out 0).trans rfl) (fun hHeld => ?_)
       clear hK K
       refine norm_ (a':=?_) ?_ ?_
       rotate_left
       ·show Act.put _ (some 5) _ = _
        simp only [Act.put,lS,lZ,lC,i64_w,i32_w]
        rfl
       refine one_ (i:=6) (N:=some 25) #[tT,tT,tT,tT,tT,tT,tT,fF,fF,fF,fF,tT,fF,fF] rfl rfl (one_of HT_.out (by kernel_rfl)) (by decide) (fun K hK => ?_)
       refine goes_ Try.func60 (by kernel_rfl) rfl #[.agg #[.slice A0_0 l0_0.length c0_0],.int .i64 (wrap64 (a1 + 4))] (by rfl) rfl rfl (by (try simp only [List.map_toArray,List.map_cons,List.map_nil]); first|done|rfl|(simp only [List.length_drop,List.length_take]; rfl)) ?_
       with_reducible refine (spec_ThirdAt.calls kj2 _ _ l0_0 (wrap64 (a1 + 4)) t172 t173 t174 t175 _ ?side1 ?side2 A19.out).mono ?_
       (case side1 => repeat (first|exact (Kd.C_below HR0_0.out HB.out)|(with_reducible refine Kd.C_alloc ?_ _)|(with_reducible refine Kd.C_drewN ?_ _)|(with_reducible refine Kd.C_drew ?_)))
       (case side2 => exact HC0_0.out)
       rintro e w79 ⟨rfl,hb⟩
       refine ⟨_,rfl,?_⟩
       have n0_:=Aside0.mk (kB (g:=gb164) (o:=.cells #[.slice A0_0 l0_0.length c0_0] 42 (0,0)) BK164.out hb)
       have n1_:=Aside0.mk (kB (g:=gb165) (o:=.cells #[.int .i64 0,.int .i64 0,.int .i64 0,.int .i64 0] 50 (0,0)) BK165.out hb)
       have n2_:=Aside0.mk (kB (g:=gb181) (o:=.cells #[.int .i64 0,.int .i64 0,.int .i64 0,.int .i64 0] 50 (0,0)) BK181.out hb)
       have n3_:=Aside0.mk (below_step (by repeat (first|(with_reducible first|exact HB.out|apply bA|apply bD|apply bE|refine bS ?_ GE164.out|refine bS ?_ GE165.out|refine bS ?_ GE181.out)|exact HB.out)) hb)
       clear BK164
       clear BK165
       clear BK181
       clear HB
       have BK164:=n0_
       have BK165:=n1_
       have BK181:=n2_
       have HB:=n3_
       clear n0_ n1_ n2_ n3_
       (try clear hb)
       (try clear hb2)
       (try clear hk)
       (try clear hi)
       refine hK.out _ _ ((kC BK164.out 0).trans rfl) (fun hHeld => ?_)
       clear hK K
       refine norm_ (a':=?_) ?_ ?_
       rotate_left
       ·show Act.put _ (some 25) _ = _
        simp only [Act.put,lS,lZ,lC,i64_w,i32_w]
        rfl
       refine one_ (i:=7) (N:=some 26) #[tT,tT,tT,tT,tT,tT,tT,tT,fF,fF,fF,tT,fF,fF] rfl rfl (one_of HT_.out (by kernel_rfl)) (by decide) (fun K hK => ?_)
       refine goes_ Try.func59 (by kernel_rfl) rfl #[.agg #[.int .i64 t168,.int .i64 t169,.int .i64 t170,.int .i64 t171],.agg #[.int .i64 t172,.int .i64 t173,.int .i64 t174,.int .i64 t175]] (by rfl) rfl rfl (by (try simp only [List.map_toArray,List.map_cons,List.map_nil]); first|done|rfl|(simp only [List.length_drop,List.length_take]; rfl)) ?_
       with_reducible refine (spec_AddIntervals.calls kj2 t168 t169 t170 t171 t172 t173 t174 t175 t176 t177 t178 t179 false _ A20.out).mono ?_
       rintro e w80 ⟨rfl,hb⟩
       refine ⟨_,rfl,?_⟩
       have n0_:=Aside0.mk (kB (g:=gb164) (o:=.cells #[.slice A0_0 l0_0.length c0_0] 42 (0,0)) BK164.out hb)
       have n1_:=Aside0.mk (kB (g:=gb165) (o:=.cells #[.int .i64 0,.int .i64 0,.int .i64 0,.int .i64 0] 50 (0,0)) BK165.out hb)
       have n2_:=Aside0.mk (kB (g:=gb181) (o:=.cells #[.int .i64 0,.int .i64 0,.int .i64 0,.int .i64 0] 50 (0,0)) BK181.out hb)
       have n3_:=Aside0.mk (below_step (by repeat (first|(with_reducible first|exact HB.out|apply bA|apply bD|apply bE|refine bS ?_ GE164.out|refine bS ?_ GE165.out|refine bS ?_ GE181.out)|exact HB.out)) hb)
       clear BK164
       clear BK165
       clear BK181
       clear HB
       have BK164:=n0_
       have BK165:=n1_
       have BK181:=n2_
       have HB:=n3_
       clear n0_ n1_ n2_ n3_
       (try clear hb)
       (try clear hb2)
       (try clear hk)
       (try clear hi)
       refine hK.out _ _ ((kC BK164.out 0).trans rfl) (fun hHeld => ?_)
       clear hK K
       refine norm_ (a':=?_) ?_ ?_
       rotate_left
       ·show Act.put _ (some 26) _ = _
        simp only [Act.put,lS,lZ,lC,i64_w,i32_w]
        rfl
       refine pure_ (i:=8) (N:=some 18) (v:=?_) (a':=?_) #[tT,tT,tT,tT,tT,tT,tT,tT,tT,fF,fF,tT,fF,fF] rfl rfl (any_of HT_.out (by kernel_rfl)) (fun _ _ _ h => h) (Or.inl ⟨by rfl,?_⟩) ?_ ?_
       rotate_left
       ·intro w'
        go_simp
        first|(with_reducible rfl)|(simp only [Instr.field,go_sem, *]; rfl)
       rotate_left
       ·simp only [Act.put,lS,lZ,lC,i64_w,i32_w]
        rfl
       refine pure_ (i:=9) (N:=some 27) (v:=?_) (a':=?_) #[tT,tT,tT,tT,tT,tT,tT,tT,tT,tT,fF,tT,fF,fF] rfl rfl (any_of HT_.out (by kernel_rfl)) (fun _ _ _ h => h) (Or.inl ⟨by rfl,?_⟩) ?_ ?_
       rotate_left
       ·intro w'
        go_simp
        first|(with_reducible rfl)|(simp only [Instr.field,go_sem, *]; rfl)
       rotate_left
       ·simp only [Act.put,lS,lZ,lC,i64_w,i32_w]
        rfl
       refine pure_ (i:=10) (N:=some 28) (v:=?_) (a':=?_) #[tT,tT,tT,tT,tT,tT,tT,tT,tT,tT,tT,tT,fF,fF] rfl rfl (any_of HT_.out (by kernel_rfl)) (fun _ _ _ h => h) (Or.inl ⟨by rfl,?_⟩) ?_ ?_
       rotate_left
       ·intro w'
        go_simp
        first|(with_reducible rfl)|(simp only [Instr.field,go_sem, *]; rfl)
       rotate_left
       ·simp only [Act.put,lS,lZ,lC,i64_w,i32_w]
        rfl
       exact norm_ (by simp only [putAll,Act.put,lS,lZ,lC]) (hCont (gb181) _ ⟨hHeld,BK164.out,BK165.out,BK181.out,GW181.out,GE181.out,NB164_181.out,NB181_164.out,NB165_181.out,NB181_165.out,(by repeat (first|(with_reducible first|exact HB.out|apply bA|apply bD|apply bE|refine bS ?_ GE164.out|refine bS ?_ GE165.out|refine bS ?_ GE181.out)|exact HB.out))⟩)
     ·skip
      refine box_step ?hg (N:=5) ?hd (cs:=#[.int .i64 0,.int .i64 0,.int .i64 0,.int .i64 0]) (t:=50) ?hr ?_; (case hd => rfl); (case hg => rfl); (case hr => first|(go_simp; done)|(go_simp; rfl))
      intro gb181 hg w77 hbox hb
      have n0_:=Aside0.mk (kB (g:=gb164) (o:=.cells #[.slice A0_0 l0_0.length c0_0] 42 (0,0)) BK164.out hb)
      have n1_:=Aside0.mk (kB (g:=gb165) (o:=.cells #[.int .i64 0,.int .i64 0,.int .i64 0,.int .i64 0] 50 (0,0)) BK165.out hb)
      have n2_:=Aside0.mk (below_step (by repeat (first|(with_reducible first|exact HB.out|apply bA|apply bD|apply bE|refine bS ?_ GE164.out|refine bS ?_ GE165.out)|exact HB.out)) hb)
      have n3_:=Aside0.mk (hbox)
      have n4_:=Aside0.mk ((by rw [hg]; exact (below_size (by repeat (first|(with_reducible first|exact HB.out|apply bA|apply bD|apply bE|refine bS ?_ GE164.out|refine bS ?_ GE165.out)|exact HB.out))) : w.heap.size ≤ gb181))
      have n5_:=Aside0.mk ((by rw [hg]; exact (below_size (by repeat (first|(with_reducible first|exact HB.out|apply bA|apply bD|apply bE|refine bS ?_ GE164.out|refine bS ?_ GE165.out)|exact HB.out))) : w.heap.size ≤ gb181))
      have n6_:=Aside0.mk ((by rw [hg]; exact Nat.ne_of_lt (blk_lt (g:=gb164) (o:=.cells #[.slice A0_0 l0_0.length c0_0] 42 (0,0)) BK164.out) : gb164 ≠ gb181))
      have n7_:=Aside0.mk ((by rw [hg]; exact Nat.ne_of_gt (blk_lt (g:=gb164) (o:=.cells #[.slice A0_0 l0_0.length c0_0] 42 (0,0)) BK164.out) : gb181 ≠ gb164))
      have n8_:=Aside0.mk ((by rw [hg]; exact Nat.ne_of_lt (blk_lt (g:=gb165) (o:=.cells #[.int .i64 0,.int .i64 0,.int .i64 0,.int .i64 0] 50 (0,0)) BK165.out) : gb165 ≠ gb181))
      have n9_:=Aside0.mk ((by rw [hg]; exact Nat.ne_of_gt (blk_lt (g:=gb165) (o:=.cells #[.int .i64 0,.int .i64 0,.int .i64 0,.int .i64 0] 50 (0,0)) BK165.out) : gb181 ≠ gb165))
      clear BK164
      clear BK165
      clear HB
      have BK164:=n0_
      have BK165:=n1_
      have HB:=n2_
      have BK181:=n3_
      have GW181:=n4_
      have GE181:=n5_
      have NB164_181:=n6_
      have NB181_164:=n7_
      have NB165_181:=n8_
      have NB181_165:=n9_
      clear n0_ n1_ n2_ n3_ n4_ n5_ n6_ n7_ n8_ n9_
      clear hb hbox hg
      refine hK.out _ _ ((kC BK164.out 0).trans rfl) (fun hHeld => ?_)
      clear hK K
      refine norm_ (a':=?_) ?_ ?_
      rotate_left
      ·show Act.put _ (some 5) _ = _
       simp only [Act.put,lS,lZ,lC,i64_w,i32_w]
       rfl
      refine one_ (i:=2) (N:=some 21) #[tT,tT,tT,tT,tT,tT,fF,fF,fF,fF,fF,tT,fF,fF] rfl rfl (one_of HT_.out (by kernel_rfl)) (by decide) (fun K hK => ?_)
      refine goes_ Try.func60 (by kernel_rfl) rfl #[.agg #[.slice A0_0 l0_0.length c0_0],.int .i64 a1] (by rfl) rfl rfl (by (try simp only [List.map_toArray,List.map_cons,List.map_nil]); first|done|rfl|(simp only [List.length_drop,List.length_take]; rfl)) ?_
      with_reducible refine (spec_ThirdAt.calls kj2 _ _ l0_0 a1 t168 t169 t170 t171 _ ?side1 ?side2 A18.out).mono ?_
      (case side1 => repeat (first|exact (Kd.C_below HR0_0.out HB.out)|(with_reducible refine Kd.C_alloc ?_ _)|(with_reducible refine Kd.C_drewN ?_ _)|(with_reducible refine Kd.C_drew ?_)))
      (case side2 => exact HC0_0.out)
      rintro e w78 ⟨rfl,hb⟩
      refine ⟨_,rfl,?_⟩
      have n0_:=Aside0.mk (kB (g:=gb164) (o:=.cells #[.slice A0_0 l0_0.length c0_0] 42 (0,0)) BK164.out hb)
      have n1_:=Aside0.mk (kB (g:=gb165) (o:=.cells #[.int .i64 0,.int .i64 0,.int .i64 0,.int .i64 0] 50 (0,0)) BK165.out hb)
      have n2_:=Aside0.mk (kB (g:=gb181) (o:=.cells #[.int .i64 0,.int .i64 0,.int .i64 0,.int .i64 0] 50 (0,0)) BK181.out hb)
      have n3_:=Aside0.mk (below_step (by repeat (first|(with_reducible first|exact HB.out|apply bA|apply bD|apply bE|refine bS ?_ GE164.out|refine bS ?_ GE165.out|refine bS ?_ GE181.out)|exact HB.out)) hb)
      clear BK164
      clear BK165
      clear BK181
      clear HB
      have BK164:=n0_
      have BK165:=n1_
      have BK181:=n2_
      have HB:=n3_
      clear n0_ n1_ n2_ n3_
      (try clear hb)
      (try clear hb2)
      (try clear hk)
      (try clear hi)
      refine hK.out _ _ ((kC BK164.out 0).trans rfl) (fun hHeld => ?_)
      clear hK K
      refine norm_ (a':=?_) ?_ ?_
      rotate_left
      ·show Act.put _ (some 21) _ = _
       simp only [Act.put,lS,lZ,lC,i64_w,i32_w]
       rfl
      refine one_ (i:=6) (N:=some 25) #[tT,tT,tT,tT,tT,tT,tT,fF,fF,fF,fF,tT,fF,fF] rfl rfl (one_of HT_.out (by kernel_rfl)) (by decide) (fun K hK => ?_)
      refine goes_ Try.func60 (by kernel_rfl) rfl #[.agg #[.slice A0_0 l0_0.length c0_0],.int .i64 (wrap64 (a1 + 4))] (by rfl) rfl rfl (by (try simp only [List.map_toArray,List.map_cons,List.map_nil]); first|done|rfl|(simp only [List.length_drop,List.length_take]; rfl)) ?_
      with_reducible refine (spec_ThirdAt.calls kj2 _ _ l0_0 (wrap64 (a1 + 4)) t172 t173 t174 t175 _ ?side1 ?side2 A19.out).mono ?_
      (case side1 => repeat (first|exact (Kd.C_below HR0_0.out HB.out)|(with_reducible refine Kd.C_alloc ?_ _)|(with_reducible refine Kd.C_drewN ?_ _)|(with_reducible refine Kd.C_drew ?_)))
      (case side2 => exact HC0_0.out)
      rintro e w79 ⟨rfl,hb⟩
      refine ⟨_,rfl,?_⟩
      have n0_:=Aside0.mk (kB (g:=gb164) (o:=.cells #[.slice A0_0 l0_0.length c0_0] 42 (0,0)) BK164.out hb)
      have n1_:=Aside0.mk (kB (g:=gb165) (o:=.cells #[.int .i64 0,.int .i64 0,.int .i64 0,.int .i64 0] 50 (0,0)) BK165.out hb)
      have n2_:=Aside0.mk (kB (g:=gb181) (o:=.cells #[.int .i64 0,.int .i64 0,.int .i64 0,.int .i64 0] 50 (0,0)) BK181.out hb)
      have n3_:=Aside0.mk (below_step (by repeat (first|(with_reducible first|exact HB.out|apply bA|apply bD|apply bE|refine bS ?_ GE164.out|refine bS ?_ GE165.out|refine bS ?_ GE181.out)|exact HB.out)) hb)
      clear BK164
      clear BK165
      clear BK181
      clear HB
      have BK164:=n0_
      have BK165:=n1_
      have BK181:=n2_
      have HB:=n3_
      clear n0_ n1_ n2_ n3_
      (try clear hb)
      (try clear hb2)
      (try clear hk)
      (try clear hi)
      refine hK.out _ _ ((kC BK164.out 0).trans rfl) (fun hHeld => ?_)
      clear hK K
      refine norm_ (a':=?_) ?_ ?_
      rotate_left
      ·show Act.put _ (some 25) _ = _
       simp only [Act.put,lS,lZ,lC,i64_w,i32_w]
       rfl
      refine one_ (i:=7) (N:=some 26) #[tT,tT,tT,tT,tT,tT,tT,tT,fF,fF,fF,tT,fF,fF] rfl rfl (one_of HT_.out (by kernel_rfl)) (by decide) (fun K hK => ?_)
      refine goes_ Try.func59 (by kernel_rfl) rfl #[.agg #[.int .i64 t168,.int .i64 t169,.int .i64 t170,.int .i64 t171],.agg #[.int .i64 t172,.int .i64 t173,.int .i64 t174,.int .i64 t175]] (by rfl) rfl rfl (by (try simp only [List.map_toArray,List.map_cons,List.map_nil]); first|done|rfl|(simp only [List.length_drop,List.length_take]; rfl)) ?_
      with_reducible refine (spec_AddIntervals.calls kj2 t168 t169 t170 t171 t172 t173 t174 t175 t176 t177 t178 t179 false _ A20.out).mono ?_
      rintro e w80 ⟨rfl,hb⟩
      refine ⟨_,rfl,?_⟩
      have n0_:=Aside0.mk (kB (g:=gb164) (o:=.cells #[.slice A0_0 l0_0.length c0_0] 42 (0,0)) BK164.out hb)
      have n1_:=Aside0.mk (kB (g:=gb165) (o:=.cells #[.int .i64 0,.int .i64 0,.int .i64 0,.int .i64 0] 50 (0,0)) BK165.out hb)
      have n2_:=Aside0.mk (kB (g:=gb181) (o:=.cells #[.int .i64 0,.int .i64 0,.int .i64 0,.int .i64 0] 50 (0,0)) BK181.out hb)
      have n3_:=Aside0.mk (below_step (by repeat (first|(with_reducible first|exact HB.out|apply bA|apply bD|apply bE|refine bS ?_ GE164.out|refine bS ?_ GE165.out|refine bS ?_ GE181.out)|exact HB.out)) hb)
      clear BK164
      clear BK165
      clear BK181
      clear HB
      have BK164:=n0_
      have BK165:=n1_
      have BK181:=n2_
      have HB:=n3_
      clear n0_ n1_ n2_ n3_
      (try clear hb)
      (try clear hb2)
      (try clear hk)
      (try clear hi)
      refine hK.out _ _ ((kC BK164.out 0).trans rfl) (fun hHeld => ?_)
      clear hK K
      refine norm_ (a':=?_) ?_ ?_
      rotate_left
      ·show Act.put _ (some 26) _ = _
       simp only [Act.put,lS,lZ,lC,i64_w,i32_w]
       rfl
      refine pure_ (i:=8) (N:=some 18) (v:=?_) (a':=?_) #[tT,tT,tT,tT,tT,tT,tT,tT,tT,fF,fF,tT,fF,fF] rfl rfl (any_of HT_.out (by kernel_rfl)) (fun _ _ _ h => h) (Or.inl ⟨by rfl,?_⟩) ?_ ?_
      rotate_left
      ·intro w'
       go_simp
       first|(with_reducible rfl)|(simp only [Instr.field,go_sem, *]; rfl)
      rotate_left
      ·simp only [Act.put,lS,lZ,lC,i64_w,i32_w]
       rfl
      refine pure_ (i:=9) (N:=some 27) (v:=?_) (a':=?_) #[tT,tT,tT,tT,tT,tT,tT,tT,tT,tT,fF,tT,fF,fF] rfl rfl (any_of HT_.out (by kernel_rfl)) (fun _ _ _ h => h) (Or.inl ⟨by rfl,?_⟩) ?_ ?_
      rotate_left
      ·intro w'
       go_simp
       first|(with_reducible rfl)|(simp only [Instr.field,go_sem, *]; rfl)
      rotate_left
      ·simp only [Act.put,lS,lZ,lC,i64_w,i32_w]
       rfl
      refine pure_ (i:=10) (N:=some 28) (v:=?_) (a':=?_) #[tT,tT,tT,tT,tT,tT,tT,tT,tT,tT,tT,tT,fF,fF] rfl rfl (any_of HT_.out (by kernel_rfl)) (fun _ _ _ h => h) (Or.inl ⟨by rfl,?_⟩) ?_ ?_
      rotate_left
      ·intro w'
       go_simp
       first|(with_reducible rfl)|(simp only [Instr.field,go_sem, *]; rfl)
      rotate_left
      ·simp only [Act.put,lS,lZ,lC,i64_w,i32_w]
       rfl
      exact norm_ (by simp only [putAll,Act.put,lS,lZ,lC]) (hCont (gb181) _ ⟨hHeld,BK164.out,BK165.out,BK181.out,GW181.out,GE181.out,NB164_181.out,NB181_164.out,NB165_181.out,NB181_165.out,(by repeat (first|(with_reducible first|exact HB.out|apply bA|apply bD|apply bE|refine bS ?_ GE164.out|refine bS ?_ GE165.out|refine bS ?_ GE181.out)|exact HB.out))⟩)
    rintro gb181 w81 ⟨hS_,h0_,h1_,h2_,h3_,h4_,h5_,h6_,h7_,h8_,h9_⟩
    have n0_ : Aside0 (w81.heap[gb164]? = some (.cells #[.slice A0_0 l0_0.length c0_0] 42 (0,0))):=⟨h0_⟩
    have n1_ : Aside0 (w81.heap[gb165]? = some (.cells #[.int .i64 0,.int .i64 0,.int .i64 0,.int .i64 0] 50 (0,0))):=⟨h1_⟩
    have n2_ : Aside0 (w81.heap[gb181]? = some (.cells #[.int .i64 0,.int .i64 0,.int .i64 0,.int .i64 0] 50 (0,0))):=⟨h2_⟩
    have n3_ : Aside0 (w.heap.size ≤ gb181):=⟨h3_⟩
    have n4_ : Aside0 (w.heap.size ≤ gb181):=⟨h4_⟩
    have n5_ : Aside0 (gb164 ≠ gb181):=⟨h5_⟩
    have n6_ : Aside0 (gb181 ≠ gb164):=⟨h6_⟩
    have n7_ : Aside0 (gb165 ≠ gb181):=⟨h7_⟩
    have n8_ : Aside0 (gb181 ≠ gb165):=⟨h8_⟩
    have n9_ : Aside0 (Below w.heap.size w w81):=⟨h9_⟩
    clear BK164
    clear BK165
    clear HB
    clear h0_ h1_ h2_ h3_ h4_ h5_ h6_ h7_ h8_ h9_
    have BK164:=n0_
    have BK165:=n1_
    have BK181:=n2_
    have GW181:=n3_
    have GE181:=n4_
    have NB164_181:=n5_
    have NB181_164:=n6_
    have NB165_181:=n7_
    have NB181_165:=n8_
    have HB:=n9_
    clear n0_ n1_ n2_ n3_ n4_ n5_ n6_ n7_ n8_ n9_
    have hHeld : w81.cell? ⟨gb164,0,none⟩ = some (.slice A0_0 l0_0.length c0_0):=hS_
    refine norm_ (a':=?_) ?_ ?_
    rotate_left
    ·simp only [putAll,Act.put,lS,lZ,lC]
     rfl
    refine one_ (i:=12) (N:=none) #[tT,tT,tT,tT,tT,tT,tT,tT,tT,tT,tT,tT,tT,fF] rfl rfl (one_of HT_.out (by kernel_rfl)) (by decide) (fun K hK => ?_)
    have hs82 : w81.cell? ⟨gb181,0,none⟩ = some (.int .i64 0):=(kC BK181.out 0).trans rfl
    have hfs82:=blk_frozen BK181.out 0
    have hns82_0:=NB164_181.out
    have hns82_1:=NB165_181.out
    have hms82_0:=NB181_164.out
    have hms82_1:=NB181_165.out
    have hs83 : w81.cell? ⟨gb181,1,none⟩ = some (.int .i64 0):=(kC BK181.out 1).trans rfl
    have hfs83:=blk_frozen BK181.out 1
    have hns83_0:=NB164_181.out
    have hns83_1:=NB165_181.out
    have hms83_0:=NB181_164.out
    have hms83_1:=NB181_165.out
    have hs84 : w81.cell? ⟨gb181,2,none⟩ = some (.int .i64 0):=(kC BK181.out 2).trans rfl
    have hfs84:=blk_frozen BK181.out 2
    have hns84_0:=NB164_181.out
    have hns84_1:=NB165_181.out
    have hms84_0:=NB181_164.out
    have hms84_1:=NB181_165.out
    have hs85 : w81.cell? ⟨gb181,3,none⟩ = some (.int .i64 0):=(kC BK181.out 3).trans rfl
    have hfs85:=blk_frozen BK181.out 3
    have hns85_0:=NB164_181.out
    have hns85_1:=NB165_181.out
    have hms85_0:=NB181_164.out
    have hms85_1:=NB181_165.out
    refine skip_ (w1:=?_) (by rfl) rfl ?_ ?_
    rotate_left
    ·go_simp
     rfl
    refine hK.out _ _ (((cell_far (p:=⟨gb181,_,none⟩) NB164_181.out _).trans (((cell_far (p:=⟨gb181,_,none⟩) NB164_181.out _).trans (((cell_far (p:=⟨gb181,_,none⟩) NB164_181.out _).trans (((cell_far (p:=⟨gb181,_,none⟩) NB164_181.out _).trans (hHeld))))))))) (fun hHeld => ?_)
    clear hK K
    refine pure_ (i:=13) (N:=some 6) (v:=?_) (a':=?_) #[tT,tT,tT,tT,tT,tT,tT,tT,tT,tT,tT,tT,tT,tT] rfl rfl (any_of HT_.out (by kernel_rfl)) (fun _ _ _ h => h) (Or.inl ⟨by rfl,?_⟩) ?_ ?_
    rotate_left
    ·intro w'
     go_simp
     first|(with_reducible rfl)|(simp only [Instr.field,go_sem, *]; rfl)
    rotate_left
    ·simp only [Act.put,lS,lZ,lC,i64_w,i32_w]
     rfl
    refine done_ (done_of HT_.out (by kernel_rfl)) ?_
    have hnb86:=NB165_164.out
    have hnc86:=NB164_165.out
    have hnb87:=NB165_181.out
    have hnc87:=NB181_165.out
    have hcz88_0 : w81.cell? ⟨gb165,0,none⟩ = some (.int .i64 0):=(kC BK165.out 0).trans rfl
    have hcz88_1 : w81.cell? ⟨gb165,1,none⟩ = some (.int .i64 0):=(kC BK165.out 1).trans rfl
    have hcz88_2 : w81.cell? ⟨gb165,2,none⟩ = some (.int .i64 0):=(kC BK165.out 2).trans rfl
    have hcz88_3 : w81.cell? ⟨gb165,3,none⟩ = some (.int .i64 0):=(kC BK165.out 3).trans rfl
    have hfz88_0:=blk_frozen BK165.out 0
    have hfz88_1:=blk_frozen BK165.out 1
    have hfz88_2:=blk_frozen BK165.out 2
    have hfz88_3:=blk_frozen BK165.out 3
    try go_wp2
    refine bodyPost_ret (results_cell_row rfl _ _ gb165 50 #[.int .i64 0,.int .i64 0,.int .i64 0,.int .i64 0] (0,0) _ rfl (by (with_reducible repeat (first|refine kN ?_ _|refine kD ?_|refine kA ?_ _)); refine blk_put (cs:=#[.int .i64 0,.int .i64 0,.int .i64 0,.int .i64 0]) ?_ 3 _ rfl; (with_reducible repeat (first|refine kN ?_ _|refine kD ?_|refine kA ?_ _)); refine blk_put (cs:=#[.int .i64 0,.int .i64 0,.int .i64 0,.int .i64 0]) ?_ 2 _ rfl; (with_reducible repeat (first|refine kN ?_ _|refine kD ?_|refine kA ?_ _)); refine blk_put (cs:=#[.int .i64 0,.int .i64 0,.int .i64 0,.int .i64 0]) ?_ 1 _ rfl; (with_reducible repeat (first|refine kN ?_ _|refine kD ?_|refine kA ?_ _)); refine blk_put (cs:=#[.int .i64 0,.int .i64 0,.int .i64 0,.int .i64 0]) ?_ 0 _ rfl; (with_reducible repeat (first|refine kN ?_ _|refine kD ?_|refine kA ?_ _)); refine blk_far ?_ NB165_181.out _; (with_reducible repeat (first|refine kN ?_ _|refine kD ?_|refine kA ?_ _)); refine blk_far ?_ NB165_181.out _; (with_reducible repeat (first|refine kN ?_ _|refine kD ?_|refine kA ?_ _)); refine blk_far ?_ NB165_181.out _; (with_reducible repeat (first|refine kN ?_ _|refine kD ?_|refine kA ?_ _)); refine blk_far ?_ NB165_181.out _; (with_reducible repeat (first|refine kN ?_ _|refine kD ?_|refine kA ?_ _)); exact BK165.out) Try.underlying50 rfl (by kernel_rfl)) rfl ?_
    exact ⟨by first|rfl|(simp [errW_none,errW_some] <;> rfl)|(simp [*,errW_none,errW_some] <;> rfl),by repeat (first|(with_reducible first|exact HB.out|apply bA|apply bD|apply bE|refine bS ?_ GE164.out|refine bS ?_ GE165.out|refine bS ?_ GE181.out)|exact HB.out)⟩

   subst c21
   have H1 : ((spec_ThirdAt.f kj2 l0_0 (wrap64 (a1 + 8))).bind fun bt182 => ((spec_AddIntervals.f kj2 t176 t177 t178 t179 bt182.1 bt182.2.1 bt182.2.2.1 bt182.2.2.2).bind fun bt186 => (if bt186.2.2.2.2 = true then (some (bt186.1,bt186.2.1,bt186.2.2.1,bt186.2.2.2.1)) else (some (0,0,0,0))))) = some (r1,r2,r3,r4):=by rw [if_pos rfl] at H; exact H
   clear H
   have H:=H1
   clear H1
   replace H:=Option.bind_eq_some_iff.mp H
   obtain ⟨⟨t182,t183,t184,t185⟩,A220,H⟩:=H
   replace H : ((spec_AddIntervals.f kj2 t176 t177 t178 t179 t182 t183 t184 t185).bind fun bt186 => (if bt186.2.2.2.2 = true then (some (bt186.1,bt186.2.1,bt186.2.2.1,bt186.2.2.2.1)) else (some (0,0,0,0)))) = some (r1,r2,r3,r4):=H
   have A22:=Aside0.mk A220
   clear A220
   replace H:=Option.bind_eq_some_iff.mp H
   obtain ⟨⟨t186,t187,t188,t189,t190⟩,A230,H⟩:=H
   replace H : (if t190 = true then (some (t186,t187,t188,t189)) else (some (0,0,0,0))) = some (r1,r2,r3,r4):=H
   have A23:=Aside0.mk A230
   clear A230
   by_cases c24 : t190 = true
   rotate_left
   ·replace c24:=Bool.eq_false_iff.mpr c24
    subst c24
    have H1 : (some (0,0,0,0)) = some (r1,r2,r3,r4):=by rw [if_neg (show ¬ (false = true) by decide)] at H; exact H
    clear H
    have H:=H1
    clear H1
    simp only [Option.some.injEq,Prod.mk.injEq] at H
    obtain ⟨rfl,rfl,rfl,rfl⟩:=H
    try go_wp2
    have n0_:=Aside0.mk (kD BK164.out)
    have n1_:=Aside0.mk (kD BK165.out)
    have n2_:=Aside0.mk (bE HB.out)
    clear BK164
    clear BK165
    clear HB
    have BK164:=n0_
    have BK165:=n1_
    have HB:=n2_
    clear n0_ n1_ n2_
    refine start_ (n:=14) (S:=fun w' => w'.cell? ⟨gb164,0,none⟩ = some (.slice A0_0 l0_0.length c0_0)) (ds:=[]) #[fF,fF,fF,fF,fF,fF,fF,fF,fF,fF,fF,fF,fF,fF] (by kernel_rfl) rfl rfl ((kC BK164.out 0).trans rfl) (fun hHeld => ?_); refine with_tabW spec_GroupSum.tab3 spec_GroupSum.bits3 (fun HT_ HW_ => ?_)
    generalize wc.drew = w52 at BK164 BK165 HB hHeld ⊢
    refine pure_ (i:=1) (N:=some 20) (v:=?_) (a':=?_) #[fF,tT,fF,fF,fF,fF,fF,fF,fF,fF,fF,fF,fF,fF] rfl rfl (any_of HT_.out (by kernel_rfl)) (fun _ _ _ h => h) (Or.inl ⟨by rfl,?_⟩) ?_ ?_
    rotate_left
    ·intro w'
     go_simp
     first|(with_reducible rfl)|(simp only [Instr.field,go_sem, *]; rfl)
    rotate_left
    ·simp only [Act.put,lS,lZ,lC,i64_w,i32_w]
     rfl
    refine pure_ (i:=4) (N:=some 23) (v:=?_) (a':=?_) #[fF,tT,fF,fF,tT,fF,fF,fF,fF,fF,fF,fF,fF,fF] rfl rfl (any_of HT_.out (by kernel_rfl)) (fun _ _ _ h => h) (Or.inl ⟨by rfl,?_⟩) ?_ ?_
    rotate_left
    ·intro w'
     go_simp
     first|(with_reducible rfl)|(simp only [Instr.field,go_sem, *]; rfl)
    rotate_left
    ·simp only [Act.put,lS,lZ,lC,i64_w,i32_w]
     rfl
    refine pure_ (i:=5) (N:=some 24) (v:=?_) (a':=?_) #[fF,tT,fF,fF,tT,tT,fF,fF,fF,fF,fF,fF,fF,fF] rfl rfl (any_of HT_.out (by kernel_rfl)) (fun _ _ _ h => h) (Or.inl ⟨by rfl,?_⟩) ?_ ?_
    rotate_left
    ·intro w'
     go_simp
     first|(with_reducible rfl)|(simp only [Instr.field,go_sem, *]; rfl)
    rotate_left
    ·simp only [Act.put,lS,lZ,lC,i64_w,i32_w]
     rfl
    refine take_ (i:=0) (N:=some 19) (v:=?_) (a':=?_) #[tT,tT,fF,fF,tT,tT,fF,fF,fF,fF,fF,fF,fF,fF] rfl rfl (take_ofW HT_.out HW_.out (by kernel_rfl)) (fun _ _ _ h => h) (Or.inl ⟨by rfl,?_⟩) hHeld ?_ ?_
    rotate_left
    ·intro w' s0
     go_simp
     first|(with_reducible rfl)|(simp only [Instr.field,go_sem, *]; rfl)
    rotate_left
    ·simp only [Act.put,lS,lZ,lC,i64_w,i32_w]
     rfl
    refine take_ (i:=3) (N:=some 22) (v:=?_) (a':=?_) #[tT,tT,fF,tT,tT,tT,fF,fF,fF,fF,fF,fF,fF,fF] rfl rfl (take_ofW HT_.out HW_.out (by kernel_rfl)) (fun _ _ _ h => h) (Or.inl ⟨by rfl,?_⟩) hHeld ?_ ?_
    rotate_left
    ·intro w' s0
     go_simp
     first|(with_reducible rfl)|(simp only [Instr.field,go_sem, *]; rfl)
    rotate_left
    ·simp only [Act.put,lS,lZ,lC,i64_w,i32_w]
     rfl
    refine join_ (σ:=Nat) 2 #[tT,tT,tT,tT,tT,tT,tT,tT,tT,tT,tT,tT,fF,fF] (fun s_ => [(21,.agg #[.int .i64 t168,.int .i64 t169,.int .i64 t170,.int .i64 t171]),(25,.agg #[.int .i64 t172,.int .i64 t173,.int .i64 t174,.int .i64 t175]),(26,.tuple #[.agg #[.int .i64 t176,.int .i64 t177,.int .i64 t178,.int .i64 t179],.bool true]),(5,.pointer (some ⟨s_,0,none⟩)),(18,.tuple #[.agg #[.int .i64 t176,.int .i64 t177,.int .i64 t178,.int .i64 t179],.bool true]),(27,.agg #[.int .i64 t176,.int .i64 t177,.int .i64 t178,.int .i64 t179]),(28,.bool true)]) (fun s_ w' => (w'.cell? ⟨gb164,0,none⟩ = some (.slice A0_0 l0_0.length c0_0)) ∧ (w'.heap[gb164]? = some (.cells #[.slice A0_0 l0_0.length c0_0] 42 (0,0))) ∧ (w'.heap[gb165]? = some (.cells #[.int .i64 0,.int .i64 0,.int .i64 0,.int .i64 0] 50 (0,0))) ∧ (w'.heap[s_]? = some (.cells #[.int .i64 0,.int .i64 0,.int .i64 0,.int .i64 0] 50 (0,0))) ∧ (w.heap.size ≤ s_) ∧ (w.heap.size ≤ s_) ∧ (gb164 ≠ s_) ∧ (s_ ≠ gb164) ∧ (gb165 ≠ s_) ∧ (s_ ≠ gb165) ∧ (Below w.heap.size w w')) ?_ ?_
    rotate_left
    ·intro hCont
     refine two_ (i:=2) (j:=11) (Ni:=some 21) (Nj:=some 5) #[tT,tT,tT,tT,tT,tT,fF,fF,fF,fF,fF,fF,fF,fF] #[tT,tT,fF,tT,tT,tT,fF,fF,fF,fF,fF,tT,fF,fF] rfl rfl rfl rfl (two_of HT_.out (by kernel_rfl)) (by decide) (by decide) (fun K hK => ?_) (fun K hK => ?_)
     ·skip
      refine goes_ Try.func60 (by kernel_rfl) rfl #[.agg #[.slice A0_0 l0_0.length c0_0],.int .i64 a1] (by rfl) rfl rfl (by (try simp only [List.map_toArray,List.map_cons,List.map_nil]); first|done|rfl|(simp only [List.length_drop,List.length_take]; rfl)) ?_
      with_reducible refine (spec_ThirdAt.calls kj2 _ _ l0_0 a1 t168 t169 t170 t171 _ ?side1 ?side2 A18.out).mono ?_
      (case side1 => repeat (first|exact (Kd.C_below HR0_0.out HB.out)|(with_reducible refine Kd.C_alloc ?_ _)|(with_reducible refine Kd.C_drewN ?_ _)|(with_reducible refine Kd.C_drew ?_)))
      (case side2 => exact HC0_0.out)
      rintro e w53 ⟨rfl,hb⟩
      refine ⟨_,rfl,?_⟩
      have n0_:=Aside0.mk (kB (g:=gb164) (o:=.cells #[.slice A0_0 l0_0.length c0_0] 42 (0,0)) BK164.out hb)
      have n1_:=Aside0.mk (kB (g:=gb165) (o:=.cells #[.int .i64 0,.int .i64 0,.int .i64 0,.int .i64 0] 50 (0,0)) BK165.out hb)
      have n2_:=Aside0.mk (below_step (by repeat (first|(with_reducible first|exact HB.out|apply bA|apply bD|apply bE|refine bS ?_ GE164.out|refine bS ?_ GE165.out)|exact HB.out)) hb)
      clear BK164
      clear BK165
      clear HB
      have BK164:=n0_
      have BK165:=n1_
      have HB:=n2_
      clear n0_ n1_ n2_
      (try clear hb)
      (try clear hb2)
      (try clear hk)
      (try clear hi)
      refine hK.out _ _ ((kC BK164.out 0).trans rfl) (fun hHeld => ?_)
      clear hK K
      refine norm_ (a':=?_) ?_ ?_
      rotate_left
      ·show Act.put _ (some 21) _ = _
       simp only [Act.put,lS,lZ,lC,i64_w,i32_w]
       rfl
      refine two_ (i:=6) (j:=11) (Ni:=some 25) (Nj:=some 5) #[tT,tT,tT,tT,tT,tT,tT,fF,fF,fF,fF,fF,fF,fF] #[tT,tT,tT,tT,tT,tT,fF,fF,fF,fF,fF,tT,fF,fF] rfl rfl rfl rfl (two_of HT_.out (by kernel_rfl)) (by decide) (by decide) (fun K hK => ?_) (fun K hK => ?_)
      ·skip
       refine goes_ Try.func60 (by kernel_rfl) rfl #[.agg #[.slice A0_0 l0_0.length c0_0],.int .i64 (wrap64 (a1 + 4))] (by rfl) rfl rfl (by (try simp only [List.map_toArray,List.map_cons,List.map_nil]); first|done|rfl|(simp only [List.length_drop,List.length_take]; rfl)) ?_
       with_reducible refine (spec_ThirdAt.calls kj2 _ _ l0_0 (wrap64 (a1 + 4)) t172 t173 t174 t175 _ ?side1 ?side2 A19.out).mono ?_
       (case side1 => repeat (first|exact (Kd.C_below HR0_0.out HB.out)|(with_reducible refine Kd.C_alloc ?_ _)|(with_reducible refine Kd.C_drewN ?_ _)|(with_reducible refine Kd.C_drew ?_)))
       (case side2 => exact HC0_0.out)
       rintro e w54 ⟨rfl,hb⟩
       refine ⟨_,rfl,?_⟩
       have n0_:=Aside0.mk (kB (g:=gb164) (o:=.cells #[.slice A0_0 l0_0.length c0_0] 42 (0,0)) BK164.out hb)
       have n1_:=Aside0.mk (kB (g:=gb165) (o:=.cells #[.int .i64 0,.int .i64 0,.int .i64 0,.int .i64 0] 50 (0,0)) BK165.out hb)
       have n2_:=Aside0.mk (below_step (by repeat (first|(with_reducible first|exact HB.out|apply bA|apply bD|apply bE|refine bS ?_ GE164.out|refine bS ?_ GE165.out)|exact HB.out)) hb)
       clear BK164
       clear BK165
       clear HB
       have BK164:=n0_
       have BK165:=n1_
       have HB:=n2_
       clear n0_ n1_ n2_
       (try clear hb)
       (try clear hb2)
       (try clear hk)
       (try clear hi)
       refine hK.out _ _ ((kC BK164.out 0).trans rfl) (fun hHeld => ?_)
       clear hK K
       refine norm_ (a':=?_) ?_ ?_
       rotate_left
       ·show Act.put _ (some 25) _ = _
        simp only [Act.put,lS,lZ,lC,i64_w,i32_w]
        rfl
       refine two_ (i:=7) (j:=11) (Ni:=some 26) (Nj:=some 5) #[tT,tT,tT,tT,tT,tT,tT,tT,fF,fF,fF,fF,fF,fF] #[tT,tT,tT,tT,tT,tT,tT,fF,fF,fF,fF,tT,fF,fF] rfl rfl rfl rfl (two_of HT_.out (by kernel_rfl)) (by decide) (by decide) (fun K hK => ?_) (fun K hK => ?_)
       ·skip
        refine goes_ Try.func59 (by kernel_rfl) rfl #[.agg #[.int .i64 t168,.int .i64 t169,.int .i64 t170,.int .i64 t171],.agg #[.int .i64 t172,.int .i64 t173,.int .i64 t174,.int .i64 t175]] (by rfl) rfl rfl (by (try simp only [List.map_toArray,List.map_cons,List.map_nil]); first|done|rfl|(simp only [List.length_drop,List.length_take]; rfl)) ?_
        with_reducible refine (spec_AddIntervals.calls kj2 t168 t169 t170 t171 t172 t173 t174 t175 t176 t177 t178 t179 true _ A20.out).mono ?_
        rintro e w55 ⟨rfl,hb⟩
        refine ⟨_,rfl,?_⟩
        have n0_:=Aside0.mk (kB (g:=gb164) (o:=.cells #[.slice A0_0 l0_0.length c0_0] 42 (0,0)) BK164.out hb)
        have n1_:=Aside0.mk (kB (g:=gb165) (o:=.cells #[.int .i64 0,.int .i64 0,.int .i64 0,.int .i64 0] 50 (0,0)) BK165.out hb)
        have n2_:=Aside0.mk (below_step (by repeat (first|(with_reducible first|exact HB.out|apply bA|apply bD|apply bE|refine bS ?_ GE164.out|refine bS ?_ GE165.out)|exact HB.out)) hb)
        clear BK164
        clear BK165
        clear HB
        have BK164:=n0_
        have BK165:=n1_
        have HB:=n2_
        clear n0_ n1_ n2_
        (try clear hb)
        (try clear hb2)
        (try clear hk)
        (try clear hi)
        refine hK.out _ _ ((kC BK164.out 0).trans rfl) (fun hHeld => ?_)
        clear hK K
        refine norm_ (a':=?_) ?_ ?_
        rotate_left
        ·show Act.put _ (some 26) _ = _
         simp only [Act.put,lS,lZ,lC,i64_w,i32_w]
         rfl
        refine pure_ (i:=8) (N:=some 18) (v:=?_) (a':=?_) #[tT,tT,tT,tT,tT,tT,tT,tT,tT,fF,fF,fF,fF,fF] rfl rfl (any_of HT_.out (by kernel_rfl)) (fun _ _ _ h => h) (Or.inl ⟨by rfl,?_⟩) ?_ ?_
        rotate_left
        ·intro w'
         go_simp
         first|(with_reducible rfl)|(simp only [Instr.field,go_sem, *]; rfl)
        rotate_left
        ·simp only [Act.put,lS,lZ,lC,i64_w,i32_w]
         rfl
        refine pure_ (i:=9) (N:=some 27) (v:=?_) (a':=?_) #[tT,tT,tT,tT,tT,tT,tT,tT,tT,tT,fF,fF,fF,fF] rfl rfl (any_of HT_.out (by kernel_rfl)) (fun _ _ _ h => h) (Or.inl ⟨by rfl,?_⟩) ?_ ?_
        rotate_left
        ·intro w'
         go_simp
         first|(with_reducible rfl)|(simp only [Instr.field,go_sem, *]; rfl)
        rotate_left
        ·simp only [Act.put,lS,lZ,lC,i64_w,i32_w]
         rfl
        refine pure_ (i:=10) (N:=some 28) (v:=?_) (a':=?_) #[tT,tT,tT,tT,tT,tT,tT,tT,tT,tT,tT,fF,fF,fF] rfl rfl (any_of HT_.out (by kernel_rfl)) (fun _ _ _ h => h) (Or.inl ⟨by rfl,?_⟩) ?_ ?_
        rotate_left
        ·intro w'
         go_simp
         first|(with_reducible rfl)|(simp only [Instr.field,go_sem, *]; rfl)
        rotate_left
        ·simp only [Act.put,lS,lZ,lC,i64_w,i32_w]
         rfl
        refine one_ (i:=11) (N:=some 5) #[tT,tT,tT,tT,tT,tT,tT,tT,tT,tT,tT,tT,fF,fF] rfl rfl (one_of HT_.out (by kernel_rfl)) (by decide) (fun K hK => ?_)
        refine box_step ?hg (N:=5) ?hd (cs:=#[.int .i64 0,.int .i64 0,.int .i64 0,.int .i64 0]) (t:=50) ?hr ?_; (case hd => rfl); (case hg => rfl); (case hr => first|(go_simp; done)|(go_simp; rfl))
        intro gb181 hg w56 hbox hb
        have n0_:=Aside0.mk (kB (g:=gb164) (o:=.cells #[.slice A0_0 l0_0.length c0_0] 42 (0,0)) BK164.out hb)
        have n1_:=Aside0.mk (kB (g:=gb165) (o:=.cells #[.int .i64 0,.int .i64 0,.int .i64 0,.int .i64 0] 50 (0,0)) BK165.out hb)
        have n2_:=Aside0.mk (below_step (by repeat (first|(with_reducible first|exact HB.out|apply bA|apply bD|apply bE|refine bS ?_ GE164.out|refine bS ?_ GE165.out)|exact HB.out)) hb)
        have n3_:=Aside0.mk (hbox)
        have n4_:=Aside0.mk ((by rw [hg]; exact (below_size (by repeat (first|(with_reducible first|exact HB.out|apply bA|apply bD|apply bE|refine bS ?_ GE164.out|refine bS ?_ GE165.out)|exact HB.out))) : w.heap.size ≤ gb181))
        have n5_:=Aside0.mk ((by rw [hg]; exact (below_size (by repeat (first|(with_reducible first|exact HB.out|apply bA|apply bD|apply bE|refine bS ?_ GE164.out|refine bS ?_ GE165.out)|exact HB.out))) : w.heap.size ≤ gb181))
        have n6_:=Aside0.mk ((by rw [hg]; exact Nat.ne_of_lt (blk_lt (g:=gb164) (o:=.cells #[.slice A0_0 l0_0.length c0_0] 42 (0,0)) BK164.out) : gb164 ≠ gb181))
        have n7_:=Aside0.mk ((by rw [hg]; exact Nat.ne_of_gt (blk_lt (g:=gb164) (o:=.cells #[.slice A0_0 l0_0.length c0_0] 42 (0,0)) BK164.out) : gb181 ≠ gb164))
        have n8_:=Aside0.mk ((by rw [hg]; exact Nat.ne_of_lt (blk_lt (g:=gb165) (o:=.cells #[.int .i64 0,.int .i64 0,.int .i64 0,.int .i64 0] 50 (0,0)) BK165.out) : gb165 ≠ gb181))
        have n9_:=Aside0.mk ((by rw [hg]; exact Nat.ne_of_gt (blk_lt (g:=gb165) (o:=.cells #[.int .i64 0,.int .i64 0,.int .i64 0,.int .i64 0] 50 (0,0)) BK165.out) : gb181 ≠ gb165))
        clear BK164
        clear BK165
        clear HB
        have BK164:=n0_
        have BK165:=n1_
        have HB:=n2_
        have BK181:=n3_
        have GW181:=n4_
        have GE181:=n5_
        have NB164_181:=n6_
        have NB181_164:=n7_
        have NB165_181:=n8_
        have NB181_165:=n9_
        clear n0_ n1_ n2_ n3_ n4_ n5_ n6_ n7_ n8_ n9_
        clear hb hbox hg
        refine hK.out _ _ ((kC BK164.out 0).trans rfl) (fun hHeld => ?_)
        clear hK K
        refine norm_ (a':=?_) ?_ ?_
        rotate_left
        ·show Act.put _ (some 5) _ = _
         simp only [Act.put,lS,lZ,lC,i64_w,i32_w]
         rfl
        exact norm_ (by simp only [putAll,Act.put,lS,lZ,lC]) (hCont (gb181) _ ⟨hHeld,BK164.out,BK165.out,BK181.out,GW181.out,GE181.out,NB164_181.out,NB181_164.out,NB165_181.out,NB181_165.out,(by repeat (first|(with_reducible first|exact HB.out|apply bA|apply bD|apply bE|refine bS ?_ GE164.out|refine bS ?_ GE165.out|refine bS ?_ GE181.out)|exact HB.out))⟩)
       ·skip
        refine box_step ?hg (N:=5) ?hd (cs:=#[.int .i64 0,.int .i64 0,.int .i64 0,.int .i64 0]) (t:=50) ?hr ?_; (case hd => rfl); (case hg => rfl); (case hr => first|(go_simp; done)|(go_simp; rfl))
        intro gb181 hg w55 hbox hb
        have n0_:=Aside0.mk (kB (g:=gb164) (o:=.cells #[.slice A0_0 l0_0.length c0_0] 42 (0,0)) BK164.out hb)
        have n1_:=Aside0.mk (kB (g:=gb165) (o:=.cells #[.int .i64 0,.int .i64 0,.int .i64 0,.int .i64 0] 50 (0,0)) BK165.out hb)
        have n2_:=Aside0.mk (below_step (by repeat (first|(with_reducible first|exact HB.out|apply bA|apply bD|apply bE|refine bS ?_ GE164.out|refine bS ?_ GE165.out)|exact HB.out)) hb)
        have n3_:=Aside0.mk (hbox)
        have n4_:=Aside0.mk ((by rw [hg]; exact (below_size (by repeat (first|(with_reducible first|exact HB.out|apply bA|apply bD|apply bE|refine bS ?_ GE164.out|refine bS ?_ GE165.out)|exact HB.out))) : w.heap.size ≤ gb181))
        have n5_:=Aside0.mk ((by rw [hg]; exact (below_size (by repeat (first|(with_reducible first|exact HB.out|apply bA|apply bD|apply bE|refine bS ?_ GE164.out|refine bS ?_ GE165.out)|exact HB.out))) : w.heap.size ≤ gb181))
        have n6_:=Aside0.mk ((by rw [hg]; exact Nat.ne_of_lt (blk_lt (g:=gb164) (o:=.cells #[.slice A0_0 l0_0.length c0_0] 42 (0,0)) BK164.out) : gb164 ≠ gb181))
        have n7_:=Aside0.mk ((by rw [hg]; exact Nat.ne_of_gt (blk_lt (g:=gb164) (o:=.cells #[.slice A0_0 l0_0.length c0_0] 42 (0,0)) BK164.out) : gb181 ≠ gb164))
        have n8_:=Aside0.mk ((by rw [hg]; exact Nat.ne_of_lt (blk_lt (g:=gb165) (o:=.cells #[.int .i64 0,.int .i64 0,.int .i64 0,.int .i64 0] 50 (0,0)) BK165.out) : gb165 ≠ gb181))
        have n9_:=Aside0.mk ((by rw [hg]; exact Nat.ne_of_gt (blk_lt (g:=gb165) (o:=.cells #[.int .i64 0,.int .i64 0,.int .i64 0,.int .i64 0] 50 (0,0)) BK165.out) : gb181 ≠ gb165))
        clear BK164
        clear BK165
        clear HB
        have BK164:=n0_
        have BK165:=n1_
        have HB:=n2_
        have BK181:=n3_
        have GW181:=n4_
        have GE181:=n5_
        have NB164_181:=n6_
        have NB181_164:=n7_
        have NB165_181:=n8_
        have NB181_165:=n9_
        clear n0_ n1_ n2_ n3_ n4_ n5_ n6_ n7_ n8_ n9_
        clear hb hbox hg
        refine hK.out _ _ ((kC BK164.out 0).trans rfl) (fun hHeld => ?_)
        clear hK K
        refine norm_ (a':=?_) ?_ ?_
        rotate_left
        ·show Act.put _ (some 5) _ = _
         simp only [Act.put,lS,lZ,lC,i64_w,i32_w]
         rfl
        refine one_ (i:=7) (N:=some 26) #[tT,tT,tT,tT,tT,tT,tT,tT,fF,fF,fF,tT,fF,fF] rfl rfl (one_of HT_.out (by kernel_rfl)) (by decide) (fun K hK => ?_)
        refine goes_ Try.func59 (by kernel_rfl) rfl #[.agg #[.int .i64 t168,.int .i64 t169,.int .i64 t170,.int .i64 t171],.agg #[.int .i64 t172,.int .i64 t173,.int .i64 t174,.int .i64 t175]] (by rfl) rfl rfl (by (try simp only [List.map_toArray,List.map_cons,List.map_nil]); first|done|rfl|(simp only [List.length_drop,List.length_take]; rfl)) ?_
        with_reducible refine (spec_AddIntervals.calls kj2 t168 t169 t170 t171 t172 t173 t174 t175 t176 t177 t178 t179 true _ A20.out).mono ?_
        rintro e w56 ⟨rfl,hb⟩
        refine ⟨_,rfl,?_⟩
        have n0_:=Aside0.mk (kB (g:=gb164) (o:=.cells #[.slice A0_0 l0_0.length c0_0] 42 (0,0)) BK164.out hb)
        have n1_:=Aside0.mk (kB (g:=gb165) (o:=.cells #[.int .i64 0,.int .i64 0,.int .i64 0,.int .i64 0] 50 (0,0)) BK165.out hb)
        have n2_:=Aside0.mk (kB (g:=gb181) (o:=.cells #[.int .i64 0,.int .i64 0,.int .i64 0,.int .i64 0] 50 (0,0)) BK181.out hb)
        have n3_:=Aside0.mk (below_step (by repeat (first|(with_reducible first|exact HB.out|apply bA|apply bD|apply bE|refine bS ?_ GE164.out|refine bS ?_ GE165.out|refine bS ?_ GE181.out)|exact HB.out)) hb)
        clear BK164
        clear BK165
        clear BK181
        clear HB
        have BK164:=n0_
        have BK165:=n1_
        have BK181:=n2_
        have HB:=n3_
        clear n0_ n1_ n2_ n3_
        (try clear hb)
        (try clear hb2)
        (try clear hk)
        (try clear hi)
        refine hK.out _ _ ((kC BK164.out 0).trans rfl) (fun hHeld => ?_)
        clear hK K
        refine norm_ (a':=?_) ?_ ?_
        rotate_left
        ·show Act.put _ (some 26) _ = _
         simp only [Act.put,lS,lZ,lC,i64_w,i32_w]
         rfl
        refine pure_ (i:=8) (N:=some 18) (v:=?_) (a':=?_) #[tT,tT,tT,tT,tT,tT,tT,tT,tT,fF,fF,tT,fF,fF] rfl rfl (any_of HT_.out (by kernel_rfl)) (fun _ _ _ h => h) (Or.inl ⟨by rfl,?_⟩) ?_ ?_
        rotate_left
        ·intro w'
         go_simp
         first|(with_reducible rfl)|(simp only [Instr.field,go_sem, *]; rfl)
        rotate_left
        ·simp only [Act.put,lS,lZ,lC,i64_w,i32_w]
         rfl
        refine pure_ (i:=9) (N:=some 27) (v:=?_) (a':=?_) #[tT,tT,tT,tT,tT,tT,tT,tT,tT,tT,fF,tT,fF,fF] rfl rfl (any_of HT_.out (by kernel_rfl)) (fun _ _ _ h => h) (Or.inl ⟨by rfl,?_⟩) ?_ ?_
        rotate_left
        ·intro w'
         go_simp
         first|(with_reducible rfl)|(simp only [Instr.field,go_sem, *]; rfl)
        rotate_left
        ·simp only [Act.put,lS,lZ,lC,i64_w,i32_w]
         rfl
        refine pure_ (i:=10) (N:=some 28) (v:=?_) (a':=?_) #[tT,tT,tT,tT,tT,tT,tT,tT,tT,tT,tT,tT,fF,fF] rfl rfl (any_of HT_.out (by kernel_rfl)) (fun _ _ _ h => h) (Or.inl ⟨by rfl,?_⟩) ?_ ?_
        rotate_left
        ·intro w'
         go_simp
         first|(with_reducible rfl)|(simp only [Instr.field,go_sem, *]; rfl)
        rotate_left
        ·simp only [Act.put,lS,lZ,lC,i64_w,i32_w]
         rfl
        exact norm_ (by simp only [putAll,Act.put,lS,lZ,lC]) (hCont (gb181) _ ⟨hHeld,BK164.out,BK165.out,BK181.out,GW181.out,GE181.out,NB164_181.out,NB181_164.out,NB165_181.out,NB181_165.out,(by repeat (first|(with_reducible first|exact HB.out|apply bA|apply bD|apply bE|refine bS ?_ GE164.out|refine bS ?_ GE165.out|refine bS ?_ GE181.out)|exact HB.out))⟩)
      ·skip
       refine box_step ?hg (N:=5) ?hd (cs:=#[.int .i64 0,.int .i64 0,.int .i64 0,.int .i64 0]) (t:=50) ?hr ?_; (case hd => rfl); (case hg => rfl); (case hr => first|(go_simp; done)|(go_simp; rfl))
       intro gb181 hg w54 hbox hb
       have n0_:=Aside0.mk (kB (g:=gb164) (o:=.cells #[.slice A0_0 l0_0.length c0_0] 42 (0,0)) BK164.out hb)
       have n1_:=Aside0.mk (kB (g:=gb165) (o:=.cells #[.int .i64 0,.int .i64 0,.int .i64 0,.int .i64 0] 50 (0,0)) BK165.out hb)
       have n2_:=Aside0.mk (below_step (by repeat (first|(with_reducible first|exact HB.out|apply bA|apply bD|apply bE|refine bS ?_ GE164.out|refine bS ?_ GE165.out)|exact HB.out)) hb)
       have n3_:=Aside0.mk (hbox)
       have n4_:=Aside0.mk ((by rw [hg]; exact (below_size (by repeat (first|(with_reducible first|exact HB.out|apply bA|apply bD|apply bE|refine bS ?_ GE164.out|refine bS ?_ GE165.out)|exact HB.out))) : w.heap.size ≤ gb181))
       have n5_:=Aside0.mk ((by rw [hg]; exact (below_size (by repeat (first|(with_reducible first|exact HB.out|apply bA|apply bD|apply bE|refine bS ?_ GE164.out|refine bS ?_ GE165.out)|exact HB.out))) : w.heap.size ≤ gb181))
       have n6_:=Aside0.mk ((by rw [hg]; exact Nat.ne_of_lt (blk_lt (g:=gb164) (o:=.cells #[.slice A0_0 l0_0.length c0_0] 42 (0,0)) BK164.out) : gb164 ≠ gb181))
       have n7_:=Aside0.mk ((by rw [hg]; exact Nat.ne_of_gt (blk_lt (g:=gb164) (o:=.cells #[.slice A0_0 l0_0.length c0_0] 42 (0,0)) BK164.out) : gb181 ≠ gb164))
       have n8_:=Aside0.mk ((by rw [hg]; exact Nat.ne_of_lt (blk_lt (g:=gb165) (o:=.cells #[.int .i64 0,.int .i64 0,.int .i64 0,.int .i64 0] 50 (0,0)) BK165.out) : gb165 ≠ gb181))
       have n9_:=Aside0.mk ((by rw [hg]; exact Nat.ne_of_gt (blk_lt (g:=gb165) (o:=.cells #[.int .i64 0,.int .i64 0,.int .i64 0,.int .i64 0] 50 (0,0)) BK165.out) : gb181 ≠ gb165))
       clear BK164
       clear BK165
       clear HB
       have BK164:=n0_
       have BK165:=n1_
       have HB:=n2_
       have BK181:=n3_
       have GW181:=n4_
       have GE181:=n5_
       have NB164_181:=n6_
       have NB181_164:=n7_
       have NB165_181:=n8_
       have NB181_165:=n9_
       clear n0_ n1_ n2_ n3_ n4_ n5_ n6_ n7_ n8_ n9_
       clear hb hbox hg
       refine hK.out _ _ ((kC BK164.out 0).trans rfl) (fun hHeld => ?_)
       clear hK K
       refine norm_ (a':=?_) ?_ ?_
       rotate_left
       ·show Act.put _ (some 5) _ = _
        simp only [Act.put,lS,lZ,lC,i64_w,i32_w]
        rfl
       refine one_ (i:=6) (N:=some 25) #[tT,tT,tT,tT,tT,tT,tT,fF,fF,fF,fF,tT,fF,fF] rfl rfl (one_of HT_.out (by kernel_rfl)) (by decide) (fun K hK => ?_)
       refine goes_ Try.func60 (by kernel_rfl) rfl #[.agg #[.slice A0_0 l0_0.length c0_0],.int .i64 (wrap64 (a1 + 4))] (by rfl) rfl rfl (by (try simp only [List.map_toArray,List.map_cons,List.map_nil]); first|done|rfl|(simp only [List.length_drop,List.length_take]; rfl)) ?_
       with_reducible refine (spec_ThirdAt.calls kj2 _ _ l0_0 (wrap64 (a1 + 4)) t172 t173 t174 t175 _ ?side1 ?side2 A19.out).mono ?_
       (case side1 => repeat (first|exact (Kd.C_below HR0_0.out HB.out)|(with_reducible refine Kd.C_alloc ?_ _)|(with_reducible refine Kd.C_drewN ?_ _)|(with_reducible refine Kd.C_drew ?_)))
       (case side2 => exact HC0_0.out)
       rintro e w55 ⟨rfl,hb⟩
       refine ⟨_,rfl,?_⟩
       have n0_:=Aside0.mk (kB (g:=gb164) (o:=.cells #[.slice A0_0 l0_0.length c0_0] 42 (0,0)) BK164.out hb)
       have n1_:=Aside0.mk (kB (g:=gb165) (o:=.cells #[.int .i64 0,.int .i64 0,.int .i64 0,.int .i64 0] 50 (0,0)) BK165.out hb)
       have n2_:=Aside0.mk (kB (g:=gb181) (o:=.cells #[.int .i64 0,.int .i64 0,.int .i64 0,.int .i64 0] 50 (0,0)) BK181.out hb)
       have n3_:=Aside0.mk (below_step (by repeat (first|(with_reducible first|exact HB.out|apply bA|apply bD|apply bE|refine bS ?_ GE164.out|refine bS ?_ GE165.out|refine bS ?_ GE181.out)|exact HB.out)) hb)
       clear BK164
       clear BK165
       clear BK181
       clear HB
       have BK164:=n0_
       have BK165:=n1_
       have BK181:=n2_
       have HB:=n3_
       clear n0_ n1_ n2_ n3_
       (try clear hb)
       (try clear hb2)
       (try clear hk)
       (try clear hi)
       refine hK.out _ _ ((kC BK164.out 0).trans rfl) (fun hHeld => ?_)
       clear hK K
       refine norm_ (a':=?_) ?_ ?_
       rotate_left
       ·show Act.put _ (some 25) _ = _
        simp only [Act.put,lS,lZ,lC,i64_w,i32_w]
        rfl
       refine one_ (i:=7) (N:=some 26) #[tT,tT,tT,tT,tT,tT,tT,tT,fF,fF,fF,tT,fF,fF] rfl rfl (one_of HT_.out (by kernel_rfl)) (by decide) (fun K hK => ?_)
       refine goes_ Try.func59 (by kernel_rfl) rfl #[.agg #[.int .i64 t168,.int .i64 t169,.int .i64 t170,.int .i64 t171],.agg #[.int .i64 t172,.int .i64 t173,.int .i64 t174,.int .i64 t175]] (by rfl) rfl rfl (by (try simp only [List.map_toArray,List.map_cons,List.map_nil]); first|done|rfl|(simp only [List.length_drop,List.length_take]; rfl)) ?_
       with_reducible refine (spec_AddIntervals.calls kj2 t168 t169 t170 t171 t172 t173 t174 t175 t176 t177 t178 t179 true _ A20.out).mono ?_
       rintro e w56 ⟨rfl,hb⟩
       refine ⟨_,rfl,?_⟩
       have n0_:=Aside0.mk (kB (g:=gb164) (o:=.cells #[.slice A0_0 l0_0.length c0_0] 42 (0,0)) BK164.out hb)
       have n1_:=Aside0.mk (kB (g:=gb165) (o:=.cells #[.int .i64 0,.int .i64 0,.int .i64 0,.int .i64 0] 50 (0,0)) BK165.out hb)
       have n2_:=Aside0.mk (kB (g:=gb181) (o:=.cells #[.int .i64 0,.int .i64 0,.int .i64 0,.int .i64 0] 50 (0,0)) BK181.out hb)
       have n3_:=Aside0.mk (below_step (by repeat (first|(with_reducible first|exact HB.out|apply bA|apply bD|apply bE|refine bS ?_ GE164.out|refine bS ?_ GE165.out|refine bS ?_ GE181.out)|exact HB.out)) hb)
       clear BK164
       clear BK165
       clear BK181
       clear HB
       have BK164:=n0_
       have BK165:=n1_
       have BK181:=n2_
       have HB:=n3_
       clear n0_ n1_ n2_ n3_
       (try clear hb)
       (try clear hb2)
       (try clear hk)
       (try clear hi)
       refine hK.out _ _ ((kC BK164.out 0).trans rfl) (fun hHeld => ?_)
       clear hK K
       refine norm_ (a':=?_) ?_ ?_
       rotate_left
       ·show Act.put _ (some 26) _ = _
        simp only [Act.put,lS,lZ,lC,i64_w,i32_w]
        rfl
       refine pure_ (i:=8) (N:=some 18) (v:=?_) (a':=?_) #[tT,tT,tT,tT,tT,tT,tT,tT,tT,fF,fF,tT,fF,fF] rfl rfl (any_of HT_.out (by kernel_rfl)) (fun _ _ _ h => h) (Or.inl ⟨by rfl,?_⟩) ?_ ?_
       rotate_left
       ·intro w'
        go_simp
        first|(with_reducible rfl)|(simp only [Instr.field,go_sem, *]; rfl)
       rotate_left
       ·simp only [Act.put,lS,lZ,lC,i64_w,i32_w]
        rfl
       refine pure_ (i:=9) (N:=some 27) (v:=?_) (a':=?_) #[tT,tT,tT,tT,tT,tT,tT,tT,tT,tT,fF,tT,fF,fF] rfl rfl (any_of HT_.out (by kernel_rfl)) (fun _ _ _ h => h) (Or.inl ⟨by rfl,?_⟩) ?_ ?_
       rotate_left
       ·intro w'
        go_simp
        first|(with_reducible rfl)|(simp only [Instr.field,go_sem, *]; rfl)
       rotate_left
       ·simp only [Act.put,lS,lZ,lC,i64_w,i32_w]
        rfl
       refine pure_ (i:=10) (N:=some 28) (v:=?_) (a':=?_) #[tT,tT,tT,tT,tT,tT,tT,tT,tT,tT,tT,tT,fF,fF] rfl rfl (any_of HT_.out (by kernel_rfl)) (fun _ _ _ h => h) (Or.inl ⟨by rfl,?_⟩) ?_ ?_
       rotate_left
       ·intro w'
        go_simp
        first|(with_reducible rfl)|(simp only [Instr.field,go_sem, *]; rfl)
       rotate_left
       ·simp only [Act.put,lS,lZ,lC,i64_w,i32_w]
        rfl
       exact norm_ (by simp only [putAll,Act.put,lS,lZ,lC]) (hCont (gb181) _ ⟨hHeld,BK164.out,BK165.out,BK181.out,GW181.out,GE181.out,NB164_181.out,NB181_164.out,NB165_181.out,NB181_165.out,(by repeat (first|(with_reducible first|exact HB.out|apply bA|apply bD|apply bE|refine bS ?_ GE164.out|refine bS ?_ GE165.out|refine bS ?_ GE181.out)|exact HB.out))⟩)
     ·skip
      refine box_step ?hg (N:=5) ?hd (cs:=#[.int .i64 0,.int .i64 0,.int .i64 0,.int .i64 0]) (t:=50) ?hr ?_; (case hd => rfl); (case hg => rfl); (case hr => first|(go_simp; done)|(go_simp; rfl))
      intro gb181 hg w53 hbox hb
      have n0_:=Aside0.mk (kB (g:=gb164) (o:=.cells #[.slice A0_0 l0_0.length c0_0] 42 (0,0)) BK164.out hb)
      have n1_:=Aside0.mk (kB (g:=gb165) (o:=.cells #[.int .i64 0,.int .i64 0,.int .i64 0,.int .i64 0] 50 (0,0)) BK165.out hb)
      have n2_:=Aside0.mk (below_step (by repeat (first|(with_reducible first|exact HB.out|apply bA|apply bD|apply bE|refine bS ?_ GE164.out|refine bS ?_ GE165.out)|exact HB.out)) hb)
      have n3_:=Aside0.mk (hbox)
      have n4_:=Aside0.mk ((by rw [hg]; exact (below_size (by repeat (first|(with_reducible first|exact HB.out|apply bA|apply bD|apply bE|refine bS ?_ GE164.out|refine bS ?_ GE165.out)|exact HB.out))) : w.heap.size ≤ gb181))
      have n5_:=Aside0.mk ((by rw [hg]; exact (below_size (by repeat (first|(with_reducible first|exact HB.out|apply bA|apply bD|apply bE|refine bS ?_ GE164.out|refine bS ?_ GE165.out)|exact HB.out))) : w.heap.size ≤ gb181))
      have n6_:=Aside0.mk ((by rw [hg]; exact Nat.ne_of_lt (blk_lt (g:=gb164) (o:=.cells #[.slice A0_0 l0_0.length c0_0] 42 (0,0)) BK164.out) : gb164 ≠ gb181))
      have n7_:=Aside0.mk ((by rw [hg]; exact Nat.ne_of_gt (blk_lt (g:=gb164) (o:=.cells #[.slice A0_0 l0_0.length c0_0] 42 (0,0)) BK164.out) : gb181 ≠ gb164))
      have n8_:=Aside0.mk ((by rw [hg]; exact Nat.ne_of_lt (blk_lt (g:=gb165) (o:=.cells #[.int .i64 0,.int .i64 0,.int .i64 0,.int .i64 0] 50 (0,0)) BK165.out) : gb165 ≠ gb181))
      have n9_:=Aside0.mk ((by rw [hg]; exact Nat.ne_of_gt (blk_lt (g:=gb165) (o:=.cells #[.int .i64 0,.int .i64 0,.int .i64 0,.int .i64 0] 50 (0,0)) BK165.out) : gb181 ≠ gb165))
      clear BK164
      clear BK165
      clear HB
      have BK164:=n0_
      have BK165:=n1_
      have HB:=n2_
      have BK181:=n3_
      have GW181:=n4_
      have GE181:=n5_
      have NB164_181:=n6_
      have NB181_164:=n7_
      have NB165_181:=n8_
      have NB181_165:=n9_
      clear n0_ n1_ n2_ n3_ n4_ n5_ n6_ n7_ n8_ n9_
      clear hb hbox hg
      refine hK.out _ _ ((kC BK164.out 0).trans rfl) (fun hHeld => ?_)
      clear hK K
      refine norm_ (a':=?_) ?_ ?_
      rotate_left
      ·show Act.put _ (some 5) _ = _
       simp only [Act.put,lS,lZ,lC,i64_w,i32_w]
       rfl
      refine one_ (i:=2) (N:=some 21) #[tT,tT,tT,tT,tT,tT,fF,fF,fF,fF,fF,tT,fF,fF] rfl rfl (one_of HT_.out (by kernel_rfl)) (by decide) (fun K hK => ?_)
      refine goes_ Try.func60 (by kernel_rfl) rfl #[.agg #[.slice A0_0 l0_0.length c0_0],.int .i64 a1] (by rfl) rfl rfl (by (try simp only [List.map_toArray,List.map_cons,List.map_nil]); first|done|rfl|(simp only [List.length_drop,List.length_take]; rfl)) ?_
      with_reducible refine (spec_ThirdAt.calls kj2 _ _ l0_0 a1 t168 t169 t170 t171 _ ?side1 ?side2 A18.out).mono ?_
      (case side1 => repeat (first|exact (Kd.C_below HR0_0.out HB.out)|(with_reducible refine Kd.C_alloc ?_ _)|(with_reducible refine Kd.C_drewN ?_ _)|(with_reducible refine Kd.C_drew ?_)))
      (case side2 => exact HC0_0.out)
      rintro e w54 ⟨rfl,hb⟩
      refine ⟨_,rfl,?_⟩
      have n0_:=Aside0.mk (kB (g:=gb164) (o:=.cells #[.slice A0_0 l0_0.length c0_0] 42 (0,0)) BK164.out hb)
      have n1_:=Aside0.mk (kB (g:=gb165) (o:=.cells #[.int .i64 0,.int .i64 0,.int .i64 0,.int .i64 0] 50 (0,0)) BK165.out hb)
      have n2_:=Aside0.mk (kB (g:=gb181) (o:=.cells #[.int .i64 0,.int .i64 0,.int .i64 0,.int .i64 0] 50 (0,0)) BK181.out hb)
      have n3_:=Aside0.mk (below_step (by repeat (first|(with_reducible first|exact HB.out|apply bA|apply bD|apply bE|refine bS ?_ GE164.out|refine bS ?_ GE165.out|refine bS ?_ GE181.out)|exact HB.out)) hb)
      clear BK164
      clear BK165
      clear BK181
      clear HB
      have BK164:=n0_
      have BK165:=n1_
      have BK181:=n2_
      have HB:=n3_
      clear n0_ n1_ n2_ n3_
      (try clear hb)
      (try clear hb2)
      (try clear hk)
      (try clear hi)
      refine hK.out _ _ ((kC BK164.out 0).trans rfl) (fun hHeld => ?_)
      clear hK K
      refine norm_ (a':=?_) ?_ ?_
      rotate_left
      ·show Act.put _ (some 21) _ = _
       simp only [Act.put,lS,lZ,lC,i64_w,i32_w]
       rfl
      refine one_ (i:=6) (N:=some 25) #[tT,tT,tT,tT,tT,tT,tT,fF,fF,fF,fF,tT,fF,fF] rfl rfl (one_of HT_.out (by kernel_rfl)) (by decide) (fun K hK => ?_)
      refine goes_ Try.func60 (by kernel_rfl) rfl #[.agg #[.slice A0_0 l0_0.length c0_0],.int .i64 (wrap64 (a1 + 4))] (by rfl) rfl rfl (by (try simp only [List.map_toArray,List.map_cons,List.map_nil]); first|done|rfl|(simp only [List.length_drop,List.length_take]; rfl)) ?_
      with_reducible refine (spec_ThirdAt.calls kj2 _ _ l0_0 (wrap64 (a1 + 4)) t172 t173 t174 t175 _ ?side1 ?side2 A19.out).mono ?_
      (case side1 => repeat (first|exact (Kd.C_below HR0_0.out HB.out)|(with_reducible refine Kd.C_alloc ?_ _)|(with_reducible refine Kd.C_drewN ?_ _)|(with_reducible refine Kd.C_drew ?_)))
      (case side2 => exact HC0_0.out)
      rintro e w55 ⟨rfl,hb⟩
      refine ⟨_,rfl,?_⟩
      have n0_:=Aside0.mk (kB (g:=gb164) (o:=.cells #[.slice A0_0 l0_0.length c0_0] 42 (0,0)) BK164.out hb)
      have n1_:=Aside0.mk (kB (g:=gb165) (o:=.cells #[.int .i64 0,.int .i64 0,.int .i64 0,.int .i64 0] 50 (0,0)) BK165.out hb)
      have n2_:=Aside0.mk (kB (g:=gb181) (o:=.cells #[.int .i64 0,.int .i64 0,.int .i64 0,.int .i64 0] 50 (0,0)) BK181.out hb)
      have n3_:=Aside0.mk (below_step (by repeat (first|(with_reducible first|exact HB.out|apply bA|apply bD|apply bE|refine bS ?_ GE164.out|refine bS ?_ GE165.out|refine bS ?_ GE181.out)|exact HB.out)) hb)
      clear BK164
      clear BK165
      clear BK181
      clear HB
      have BK164:=n0_
      have BK165:=n1_
      have BK181:=n2_
      have HB:=n3_
      clear n0_ n1_ n2_ n3_
      (try clear hb)
      (try clear hb2)
      (try clear hk)
      (try clear hi)
      refine hK.out _ _ ((kC BK164.out 0).trans rfl) (fun hHeld => ?_)
      clear hK K
      refine norm_ (a':=?_) ?_ ?_
      rotate_left
      ·show Act.put _ (some 25) _ = _
       simp only [Act.put,lS,lZ,lC,i64_w,i32_w]
       rfl
      refine one_ (i:=7) (N:=some 26) #[tT,tT,tT,tT,tT,tT,tT,tT,fF,fF,fF,tT,fF,fF] rfl rfl (one_of HT_.out (by kernel_rfl)) (by decide) (fun K hK => ?_)
      refine goes_ Try.func59 (by kernel_rfl) rfl #[.agg #[.int .i64 t168,.int .i64 t169,.int .i64 t170,.int .i64 t171],.agg #[.int .i64 t172,.int .i64 t173,.int .i64 t174,.int .i64 t175]] (by rfl) rfl rfl (by (try simp only [List.map_toArray,List.map_cons,List.map_nil]); first|done|rfl|(simp only [List.length_drop,List.length_take]; rfl)) ?_
      with_reducible refine (spec_AddIntervals.calls kj2 t168 t169 t170 t171 t172 t173 t174 t175 t176 t177 t178 t179 true _ A20.out).mono ?_
      rintro e w56 ⟨rfl,hb⟩
      refine ⟨_,rfl,?_⟩
      have n0_:=Aside0.mk (kB (g:=gb164) (o:=.cells #[.slice A0_0 l0_0.length c0_0] 42 (0,0)) BK164.out hb)
      have n1_:=Aside0.mk (kB (g:=gb165) (o:=.cells #[.int .i64 0,.int .i64 0,.int .i64 0,.int .i64 0] 50 (0,0)) BK165.out hb)
      have n2_:=Aside0.mk (kB (g:=gb181) (o:=.cells #[.int .i64 0,.int .i64 0,.int .i64 0,.int .i64 0] 50 (0,0)) BK181.out hb)
      have n3_:=Aside0.mk (below_step (by repeat (first|(with_reducible first|exact HB.out|apply bA|apply bD|apply bE|refine bS ?_ GE164.out|refine bS ?_ GE165.out|refine bS ?_ GE181.out)|exact HB.out)) hb)
      clear BK164
      clear BK165
      clear BK181
      clear HB
      have BK164:=n0_
      have BK165:=n1_
      have BK181:=n2_
      have HB:=n3_
      clear n0_ n1_ n2_ n3_
      (try clear hb)
      (try clear hb2)
      (try clear hk)
      (try clear hi)
      refine hK.out _ _ ((kC BK164.out 0).trans rfl) (fun hHeld => ?_)
      clear hK K
      refine norm_ (a':=?_) ?_ ?_
      rotate_left
      ·show Act.put _ (some 26) _ = _
       simp only [Act.put,lS,lZ,lC,i64_w,i32_w]
       rfl
      refine pure_ (i:=8) (N:=some 18) (v:=?_) (a':=?_) #[tT,tT,tT,tT,tT,tT,tT,tT,tT,fF,fF,tT,fF,fF] rfl rfl (any_of HT_.out (by kernel_rfl)) (fun _ _ _ h => h) (Or.inl ⟨by rfl,?_⟩) ?_ ?_
      rotate_left
      ·intro w'
       go_simp
       first|(with_reducible rfl)|(simp only [Instr.field,go_sem, *]; rfl)
      rotate_left
      ·simp only [Act.put,lS,lZ,lC,i64_w,i32_w]
       rfl
      refine pure_ (i:=9) (N:=some 27) (v:=?_) (a':=?_) #[tT,tT,tT,tT,tT,tT,tT,tT,tT,tT,fF,tT,fF,fF] rfl rfl (any_of HT_.out (by kernel_rfl)) (fun _ _ _ h => h) (Or.inl ⟨by rfl,?_⟩) ?_ ?_
      rotate_left
      ·intro w'
       go_simp
       first|(with_reducible rfl)|(simp only [Instr.field,go_sem, *]; rfl)
      rotate_left
      ·simp only [Act.put,lS,lZ,lC,i64_w,i32_w]
       rfl
      refine pure_ (i:=10) (N:=some 28) (v:=?_) (a':=?_) #[tT,tT,tT,tT,tT,tT,tT,tT,tT,tT,tT,tT,fF,fF] rfl rfl (any_of HT_.out (by kernel_rfl)) (fun _ _ _ h => h) (Or.inl ⟨by rfl,?_⟩) ?_ ?_
      rotate_left
      ·intro w'
       go_simp
       first|(with_reducible rfl)|(simp only [Instr.field,go_sem, *]; rfl)
      rotate_left
      ·simp only [Act.put,lS,lZ,lC,i64_w,i32_w]
       rfl
      exact norm_ (by simp only [putAll,Act.put,lS,lZ,lC]) (hCont (gb181) _ ⟨hHeld,BK164.out,BK165.out,BK181.out,GW181.out,GE181.out,NB164_181.out,NB181_164.out,NB165_181.out,NB181_165.out,(by repeat (first|(with_reducible first|exact HB.out|apply bA|apply bD|apply bE|refine bS ?_ GE164.out|refine bS ?_ GE165.out|refine bS ?_ GE181.out)|exact HB.out))⟩)
    rintro gb181 w57 ⟨hS_,h0_,h1_,h2_,h3_,h4_,h5_,h6_,h7_,h8_,h9_⟩
    have n0_ : Aside0 (w57.heap[gb164]? = some (.cells #[.slice A0_0 l0_0.length c0_0] 42 (0,0))):=⟨h0_⟩
    have n1_ : Aside0 (w57.heap[gb165]? = some (.cells #[.int .i64 0,.int .i64 0,.int .i64 0,.int .i64 0] 50 (0,0))):=⟨h1_⟩
    have n2_ : Aside0 (w57.heap[gb181]? = some (.cells #[.int .i64 0,.int .i64 0,.int .i64 0,.int .i64 0] 50 (0,0))):=⟨h2_⟩
    have n3_ : Aside0 (w.heap.size ≤ gb181):=⟨h3_⟩
    have n4_ : Aside0 (w.heap.size ≤ gb181):=⟨h4_⟩
    have n5_ : Aside0 (gb164 ≠ gb181):=⟨h5_⟩
    have n6_ : Aside0 (gb181 ≠ gb164):=⟨h6_⟩
    have n7_ : Aside0 (gb165 ≠ gb181):=⟨h7_⟩
    have n8_ : Aside0 (gb181 ≠ gb165):=⟨h8_⟩
    have n9_ : Aside0 (Below w.heap.size w w57):=⟨h9_⟩
    clear BK164
    clear BK165
    clear HB
    clear h0_ h1_ h2_ h3_ h4_ h5_ h6_ h7_ h8_ h9_
    have BK164:=n0_
    have BK165:=n1_
    have BK181:=n2_
    have GW181:=n3_
    have GE181:=n4_
    have NB164_181:=n5_
    have NB181_164:=n6_
    have NB165_181:=n7_
    have NB181_165:=n8_
    have HB:=n9_
    clear n0_ n1_ n2_ n3_ n4_ n5_ n6_ n7_ n8_ n9_
    have hHeld : w57.cell? ⟨gb164,0,none⟩ = some (.slice A0_0 l0_0.length c0_0):=hS_
    refine norm_ (a':=?_) ?_ ?_
    rotate_left
    ·simp only [putAll,Act.put,lS,lZ,lC]
     rfl
    refine one_ (i:=12) (N:=none) #[tT,tT,tT,tT,tT,tT,tT,tT,tT,tT,tT,tT,tT,fF] rfl rfl (one_of HT_.out (by kernel_rfl)) (by decide) (fun K hK => ?_)
    have hs58 : w57.cell? ⟨gb181,0,none⟩ = some (.int .i64 0):=(kC BK181.out 0).trans rfl
    have hfs58:=blk_frozen BK181.out 0
    have hns58_0:=NB164_181.out
    have hns58_1:=NB165_181.out
    have hms58_0:=NB181_164.out
    have hms58_1:=NB181_165.out
    have hs59 : w57.cell? ⟨gb181,1,none⟩ = some (.int .i64 0):=(kC BK181.out 1).trans rfl
    have hfs59:=blk_frozen BK181.out 1
    have hns59_0:=NB164_181.out
    have hns59_1:=NB165_181.out
    have hms59_0:=NB181_164.out
    have hms59_1:=NB181_165.out
    have hs60 : w57.cell? ⟨gb181,2,none⟩ = some (.int .i64 0):=(kC BK181.out 2).trans rfl
    have hfs60:=blk_frozen BK181.out 2
    have hns60_0:=NB164_181.out
    have hns60_1:=NB165_181.out
    have hms60_0:=NB181_164.out
    have hms60_1:=NB181_165.out
    have hs61 : w57.cell? ⟨gb181,3,none⟩ = some (.int .i64 0):=(kC BK181.out 3).trans rfl
    have hfs61:=blk_frozen BK181.out 3
    have hns61_0:=NB164_181.out
    have hns61_1:=NB165_181.out
    have hms61_0:=NB181_164.out
    have hms61_1:=NB181_165.out
    refine skip_ (w1:=?_) (by rfl) rfl ?_ ?_
    rotate_left
    ·go_simp
     rfl
    refine hK.out _ _ (((cell_far (p:=⟨gb181,_,none⟩) NB164_181.out _).trans (((cell_far (p:=⟨gb181,_,none⟩) NB164_181.out _).trans (((cell_far (p:=⟨gb181,_,none⟩) NB164_181.out _).trans (((cell_far (p:=⟨gb181,_,none⟩) NB164_181.out _).trans (hHeld))))))))) (fun hHeld => ?_)
    clear hK K
    refine pure_ (i:=13) (N:=some 6) (v:=?_) (a':=?_) #[tT,tT,tT,tT,tT,tT,tT,tT,tT,tT,tT,tT,tT,tT] rfl rfl (any_of HT_.out (by kernel_rfl)) (fun _ _ _ h => h) (Or.inl ⟨by rfl,?_⟩) ?_ ?_
    rotate_left
    ·intro w'
     go_simp
     first|(with_reducible rfl)|(simp only [Instr.field,go_sem, *]; rfl)
    rotate_left
    ·simp only [Act.put,lS,lZ,lC,i64_w,i32_w]
     rfl
    refine done_ (done_of HT_.out (by kernel_rfl)) ?_
    try go_wp2
    have n0_ : Aside0 (((((w57.setCell ⟨gb181,0,none⟩ (.int .i64 t176)).setCell ⟨gb181,1,none⟩ (.int .i64 t177)).setCell ⟨gb181,2,none⟩ (.int .i64 t178)).setCell ⟨gb181,3,none⟩ (.int .i64 t179)).heap[gb164]? = some (.cells #[.slice A0_0 l0_0.length c0_0] 42 (0,0))):=⟨by (with_reducible repeat (first|refine kN ?_ _|refine kD ?_|refine kA ?_ _)); refine blk_far ?_ NB164_181.out _; (with_reducible repeat (first|refine kN ?_ _|refine kD ?_|refine kA ?_ _)); refine blk_far ?_ NB164_181.out _; (with_reducible repeat (first|refine kN ?_ _|refine kD ?_|refine kA ?_ _)); refine blk_far ?_ NB164_181.out _; (with_reducible repeat (first|refine kN ?_ _|refine kD ?_|refine kA ?_ _)); refine blk_far ?_ NB164_181.out _; (with_reducible repeat (first|refine kN ?_ _|refine kD ?_|refine kA ?_ _)); exact BK164.out⟩
    have n1_ : Aside0 (((((w57.setCell ⟨gb181,0,none⟩ (.int .i64 t176)).setCell ⟨gb181,1,none⟩ (.int .i64 t177)).setCell ⟨gb181,2,none⟩ (.int .i64 t178)).setCell ⟨gb181,3,none⟩ (.int .i64 t179)).heap[gb165]? = some (.cells #[.int .i64 0,.int .i64 0,.int .i64 0,.int .i64 0] 50 (0,0))):=⟨by (with_reducible repeat (first|refine kN ?_ _|refine kD ?_|refine kA ?_ _)); refine blk_far ?_ NB165_181.out _; (with_reducible repeat (first|refine kN ?_ _|refine kD ?_|refine kA ?_ _)); refine blk_far ?_ NB165_181.out _; (with_reducible repeat (first|refine kN ?_ _|refine kD ?_|refine kA ?_ _)); refine blk_far ?_ NB165_181.out _; (with_reducible repeat (first|refine kN ?_ _|refine kD ?_|refine kA ?_ _)); refine blk_far ?_ NB165_181.out _; (with_reducible repeat (first|refine kN ?_ _|refine kD ?_|refine kA ?_ _)); exact BK165.out⟩
    have n2_ : Aside0 (((((w57.setCell ⟨gb181,0,none⟩ (.int .i64 t176)).setCell ⟨gb181,1,none⟩ (.int .i64 t177)).setCell ⟨gb181,2,none⟩ (.int .i64 t178)).setCell ⟨gb181,3,none⟩ (.int .i64 t179)).heap[gb181]? = some (.cells #[.int .i64 t176,.int .i64 t177,.int .i64 t178,.int .i64 t179] 50 (0,0))):=⟨by (with_reducible repeat (first|refine kN ?_ _|refine kD ?_|refine kA ?_ _)); refine blk_put (cs:=#[.int .i64 t176,.int .i64 t177,.int .i64 t178,.int .i64 0]) ?_ 3 _ rfl; (with_reducible repeat (first|refine kN ?_ _|refine kD ?_|refine kA ?_ _)); refine blk_put (cs:=#[.int .i64 t176,.int .i64 t177,.int .i64 0,.int .i64 0]) ?_ 2 _ rfl; (with_reducible repeat (first|refine kN ?_ _|refine kD ?_|refine kA ?_ _)); refine blk_put (cs:=#[.int .i64 t176,.int .i64 0,.int .i64 0,.int .i64 0]) ?_ 1 _ rfl; (with_reducible repeat (first|refine kN ?_ _|refine kD ?_|refine kA ?_ _)); refine blk_put (cs:=#[.int .i64 0,.int .i64 0,.int .i64 0,.int .i64 0]) ?_ 0 _ rfl; (with_reducible repeat (first|refine kN ?_ _|refine kD ?_|refine kA ?_ _)); exact BK181.out⟩
    have n3_ : Aside0 (Below w.heap.size w ((((w57.setCell ⟨gb181,0,none⟩ (.int .i64 t176)).setCell ⟨gb181,1,none⟩ (.int .i64 t177)).setCell ⟨gb181,2,none⟩ (.int .i64 t178)).setCell ⟨gb181,3,none⟩ (.int .i64 t179))):=⟨by repeat (first|(with_reducible first|exact HB.out|apply bA|apply bD|apply bE|refine bS ?_ GE164.out|refine bS ?_ GE165.out|refine bS ?_ GE181.out)|exact HB.out)⟩
    (try clear BK164)
    (try clear BK165)
    (try clear BK181)
    (try clear HB)
    generalize ((((w57.setCell ⟨gb181,0,none⟩ (.int .i64 t176)).setCell ⟨gb181,1,none⟩ (.int .i64 t177)).setCell ⟨gb181,2,none⟩ (.int .i64 t178)).setCell ⟨gb181,3,none⟩ (.int .i64 t179)) = w62 at n0_ n1_ n2_ n3_ ⊢
    have BK164:=n0_
    have BK165:=n1_
    have BK181:=n2_
    have HB:=n3_
    clear n0_ n1_ n2_ n3_
    have n0_:=Aside0.mk (kD BK164.out)
    have n1_:=Aside0.mk (kD BK165.out)
    have n2_:=Aside0.mk (kD BK181.out)
    have n3_:=Aside0.mk (bE HB.out)
    clear BK164
    clear BK165
    clear BK181
    clear HB
    have BK164:=n0_
    have BK165:=n1_
    have BK181:=n2_
    have HB:=n3_
    clear n0_ n1_ n2_ n3_
    refine start_ (n:=12) (S:=fun w' => w'.cell? ⟨gb181,0,none⟩ = some (.int .i64 t176) ∧ w'.cell? ⟨gb181,1,none⟩ = some (.int .i64 t177) ∧ w'.cell? ⟨gb181,2,none⟩ = some (.int .i64 t178) ∧ w'.cell? ⟨gb181,3,none⟩ = some (.int .i64 t179) ∧ w'.cell? ⟨gb164,0,none⟩ = some (.slice A0_0 l0_0.length c0_0)) (ds:=[]) #[fF,fF,fF,fF,fF,fF,fF,fF,fF,fF,fF,fF] (by kernel_rfl) rfl rfl ⟨(kC BK181.out 0).trans rfl,(kC BK181.out 1).trans rfl,(kC BK181.out 2).trans rfl,(kC BK181.out 3).trans rfl,(kC BK164.out 0).trans rfl⟩ (fun hHeld => ?_); refine with_tabW spec_GroupSum.tab6 spec_GroupSum.bits6 (fun HT_ HW_ => ?_)
    generalize w62.drew = w63 at BK164 BK165 BK181 HB hHeld ⊢
    refine pure_ (i:=2) (N:=some 35) (v:=?_) (a':=?_) #[fF,fF,tT,fF,fF,fF,fF,fF,fF,fF,fF,fF] rfl rfl (any_of HT_.out (by kernel_rfl)) (fun _ _ _ h => h) (Or.inl ⟨by rfl,?_⟩) ?_ ?_
    rotate_left
    ·intro w'
     go_simp
     first|(with_reducible rfl)|(simp only [Instr.field,go_sem, *]; rfl)
    rotate_left
    ·simp only [Act.put,lS,lZ,lC,i64_w,i32_w]
     rfl
    refine pure_ (i:=3) (N:=some 36) (v:=?_) (a':=?_) #[fF,fF,tT,tT,fF,fF,fF,fF,fF,fF,fF,fF] rfl rfl (any_of HT_.out (by kernel_rfl)) (fun _ _ _ h => h) (Or.inl ⟨by rfl,?_⟩) ?_ ?_
    rotate_left
    ·intro w'
     go_simp
     first|(with_reducible rfl)|(simp only [Instr.field,go_sem, *]; rfl)
    rotate_left
    ·simp only [Act.put,lS,lZ,lC,i64_w,i32_w]
     rfl
    refine take_ (i:=0) (N:=some 33) (v:=?_) (a':=?_) #[tT,fF,tT,tT,fF,fF,fF,fF,fF,fF,fF,fF] rfl rfl (take_ofW HT_.out HW_.out (by kernel_rfl)) (fun _ _ _ h => h) (Or.inl ⟨by rfl,?_⟩) hHeld ?_ ?_
    rotate_left
    ·rintro w' ⟨s0,s1,s2,s3,s4⟩
     go_simp
     first|(with_reducible rfl)|(simp only [Instr.field,go_sem, *]; rfl)
    rotate_left
    ·simp only [Act.put,lS,lZ,lC,i64_w,i32_w]
     rfl
    refine take_ (i:=1) (N:=some 34) (v:=?_) (a':=?_) #[tT,tT,tT,tT,fF,fF,fF,fF,fF,fF,fF,fF] rfl rfl (take_ofW HT_.out HW_.out (by kernel_rfl)) (fun _ _ _ h => h) (Or.inl ⟨by rfl,?_⟩) hHeld ?_ ?_
    rotate_left
    ·rintro w' ⟨s0,s1,s2,s3,s4⟩
     go_simp
     first|(with_reducible rfl)|(simp only [Instr.field,go_sem, *]; rfl)
    rotate_left
    ·simp only [Act.put,lS,lZ,lC,i64_w,i32_w]
     rfl
    refine join_ (σ:=Nat) 2 #[tT,tT,tT,tT,tT,tT,tT,tT,tT,tT,fF,fF] (fun s_ => [(37,.agg #[.int .i64 t182,.int .i64 t183,.int .i64 t184,.int .i64 t185]),(38,.tuple #[.agg #[.int .i64 t186,.int .i64 t187,.int .i64 t188,.int .i64 t189],.bool false]),(7,.pointer (some ⟨s_,0,none⟩)),(32,.tuple #[.agg #[.int .i64 t186,.int .i64 t187,.int .i64 t188,.int .i64 t189],.bool false]),(39,.agg #[.int .i64 t186,.int .i64 t187,.int .i64 t188,.int .i64 t189]),(40,.bool false)]) (fun s_ w' => (w'.cell? ⟨gb181,0,none⟩ = some (.int .i64 t176) ∧ w'.cell? ⟨gb181,1,none⟩ = some (.int .i64 t177) ∧ w'.cell? ⟨gb181,2,none⟩ = some (.int .i64 t178) ∧ w'.cell? ⟨gb181,3,none⟩ = some (.int .i64 t179) ∧ w'.cell? ⟨gb164,0,none⟩ = some (.slice A0_0 l0_0.length c0_0)) ∧ (w'.heap[gb164]? = some (.cells #[.slice A0_0 l0_0.length c0_0] 42 (0,0))) ∧ (w'.heap[gb165]? = some (.cells #[.int .i64 0,.int .i64 0,.int .i64 0,.int .i64 0] 50 (0,0))) ∧ (w'.heap[gb181]? = some (.cells #[.int .i64 t176,.int .i64 t177,.int .i64 t178,.int .i64 t179] 50 (0,0))) ∧ (w'.heap[s_]? = some (.cells #[.int .i64 0,.int .i64 0,.int .i64 0,.int .i64 0] 50 (0,0))) ∧ (w.heap.size ≤ s_) ∧ (w.heap.size ≤ s_) ∧ (gb164 ≠ s_) ∧ (s_ ≠ gb164) ∧ (gb165 ≠ s_) ∧ (s_ ≠ gb165) ∧ (gb181 ≠ s_) ∧ (s_ ≠ gb181) ∧ (Below w.heap.size w w')) ?_ ?_
    rotate_left
    ·intro hCont
     refine two_ (i:=4) (j:=9) (Ni:=some 37) (Nj:=some 7) #[tT,tT,tT,tT,tT,fF,fF,fF,fF,fF,fF,fF] #[tT,tT,tT,tT,fF,fF,fF,fF,fF,tT,fF,fF] rfl rfl rfl rfl (two_of HT_.out (by kernel_rfl)) (by decide) (by decide) (fun K hK => ?_) (fun K hK => ?_)
     ·skip
      refine goes_ Try.func60 (by kernel_rfl) rfl #[.agg #[.slice A0_0 l0_0.length c0_0],.int .i64 (wrap64 (a1 + 8))] (by rfl) rfl rfl (by (try simp only [List.map_toArray,List.map_cons,List.map_nil]); first|done|rfl|(simp only [List.length_drop,List.length_take]; rfl)) ?_
      with_reducible refine (spec_ThirdAt.calls kj2 _ _ l0_0 (wrap64 (a1 + 8)) t182 t183 t184 t185 _ ?side1 ?side2 A22.out).mono ?_
      (case side1 => repeat (first|exact (Kd.C_below HR0_0.out HB.out)|(with_reducible refine Kd.C_alloc ?_ _)|(with_reducible refine Kd.C_drewN ?_ _)|(with_reducible refine Kd.C_drew ?_)))
      (case side2 => exact HC0_0.out)
      rintro e w64 ⟨rfl,hb⟩
      refine ⟨_,rfl,?_⟩
      have n0_:=Aside0.mk (kB (g:=gb164) (o:=.cells #[.slice A0_0 l0_0.length c0_0] 42 (0,0)) BK164.out hb)
      have n1_:=Aside0.mk (kB (g:=gb165) (o:=.cells #[.int .i64 0,.int .i64 0,.int .i64 0,.int .i64 0] 50 (0,0)) BK165.out hb)
      have n2_:=Aside0.mk (kB (g:=gb181) (o:=.cells #[.int .i64 t176,.int .i64 t177,.int .i64 t178,.int .i64 t179] 50 (0,0)) BK181.out hb)
      have n3_:=Aside0.mk (below_step (by repeat (first|(with_reducible first|exact HB.out|apply bA|apply bD|apply bE|refine bS ?_ GE164.out|refine bS ?_ GE165.out|refine bS ?_ GE181.out)|exact HB.out)) hb)
      clear BK164
      clear BK165
      clear BK181
      clear HB
      have BK164:=n0_
      have BK165:=n1_
      have BK181:=n2_
      have HB:=n3_
      clear n0_ n1_ n2_ n3_
      (try clear hb)
      (try clear hb2)
      (try clear hk)
      (try clear hi)
      refine hK.out _ _ ⟨(kC BK181.out 0).trans rfl,(kC BK181.out 1).trans rfl,(kC BK181.out 2).trans rfl,(kC BK181.out 3).trans rfl,(kC BK164.out 0).trans rfl⟩ (fun hHeld => ?_)
      clear hK K
      refine norm_ (a':=?_) ?_ ?_
      rotate_left
      ·show Act.put _ (some 37) _ = _
       simp only [Act.put,lS,lZ,lC,i64_w,i32_w]
       rfl
      refine two_ (i:=5) (j:=9) (Ni:=some 38) (Nj:=some 7) #[tT,tT,tT,tT,tT,tT,fF,fF,fF,fF,fF,fF] #[tT,tT,tT,tT,tT,fF,fF,fF,fF,tT,fF,fF] rfl rfl rfl rfl (two_of HT_.out (by kernel_rfl)) (by decide) (by decide) (fun K hK => ?_) (fun K hK => ?_)
      ·skip
       refine goes_ Try.func59 (by kernel_rfl) rfl #[.agg #[.int .i64 t176,.int .i64 t177,.int .i64 t178,.int .i64 t179],.agg #[.int .i64 t182,.int .i64 t183,.int .i64 t184,.int .i64 t185]] (by rfl) rfl rfl (by (try simp only [List.map_toArray,List.map_cons,List.map_nil]); first|done|rfl|(simp only [List.length_drop,List.length_take]; rfl)) ?_
       with_reducible refine (spec_AddIntervals.calls kj2 t176 t177 t178 t179 t182 t183 t184 t185 t186 t187 t188 t189 false _ A23.out).mono ?_
       rintro e w65 ⟨rfl,hb⟩
       refine ⟨_,rfl,?_⟩
       have n0_:=Aside0.mk (kB (g:=gb164) (o:=.cells #[.slice A0_0 l0_0.length c0_0] 42 (0,0)) BK164.out hb)
       have n1_:=Aside0.mk (kB (g:=gb165) (o:=.cells #[.int .i64 0,.int .i64 0,.int .i64 0,.int .i64 0] 50 (0,0)) BK165.out hb)
       have n2_:=Aside0.mk (kB (g:=gb181) (o:=.cells #[.int .i64 t176,.int .i64 t177,.int .i64 t178,.int .i64 t179] 50 (0,0)) BK181.out hb)
       have n3_:=Aside0.mk (below_step (by repeat (first|(with_reducible first|exact HB.out|apply bA|apply bD|apply bE|refine bS ?_ GE164.out|refine bS ?_ GE165.out|refine bS ?_ GE181.out)|exact HB.out)) hb)
       clear BK164
       clear BK165
       clear BK181
       clear HB
       have BK164:=n0_
       have BK165:=n1_
       have BK181:=n2_
       have HB:=n3_
       clear n0_ n1_ n2_ n3_
       (try clear hb)
       (try clear hb2)
       (try clear hk)
       (try clear hi)
       refine hK.out _ _ ⟨(kC BK181.out 0).trans rfl,(kC BK181.out 1).trans rfl,(kC BK181.out 2).trans rfl,(kC BK181.out 3).trans rfl,(kC BK164.out 0).trans rfl⟩ (fun hHeld => ?_)
       clear hK K
       refine norm_ (a':=?_) ?_ ?_
       rotate_left
       ·show Act.put _ (some 38) _ = _
        simp only [Act.put,lS,lZ,lC,i64_w,i32_w]
        rfl
       refine pure_ (i:=6) (N:=some 32) (v:=?_) (a':=?_) #[tT,tT,tT,tT,tT,tT,tT,fF,fF,fF,fF,fF] rfl rfl (any_of HT_.out (by kernel_rfl)) (fun _ _ _ h => h) (Or.inl ⟨by rfl,?_⟩) ?_ ?_
       rotate_left
       ·intro w'
        go_simp
        first|(with_reducible rfl)|(simp only [Instr.field,go_sem, *]; rfl)
       rotate_left
       ·simp only [Act.put,lS,lZ,lC,i64_w,i32_w]
        rfl
       refine pure_ (i:=7) (N:=some 39) (v:=?_) (a':=?_) #[tT,tT,tT,tT,tT,tT,tT,tT,fF,fF,fF,fF] rfl rfl (any_of HT_.out (by kernel_rfl)) (fun _ _ _ h => h) (Or.inl ⟨by rfl,?_⟩) ?_ ?_
       rotate_left
       ·intro w'
        go_simp
        first|(with_reducible rfl)|(simp only [Instr.field,go_sem, *]; rfl)
       rotate_left
       ·simp only [Act.put,lS,lZ,lC,i64_w,i32_w]
        rfl
       refine pure_ (i:=8) (N:=some 40) (v:=?_) (a':=?_) #[tT,tT,tT,tT,tT,tT,tT,tT,tT,fF,fF,fF] rfl rfl (any_of HT_.out (by kernel_rfl)) (fun _ _ _ h => h) (Or.inl ⟨by rfl,?_⟩) ?_ ?_
       rotate_left
       ·intro w'
        go_simp
        first|(with_reducible rfl)|(simp only [Instr.field,go_sem, *]; rfl)
       rotate_left
       ·simp only [Act.put,lS,lZ,lC,i64_w,i32_w]
        rfl
       refine one_ (i:=9) (N:=some 7) #[tT,tT,tT,tT,tT,tT,tT,tT,tT,tT,fF,fF] rfl rfl (one_of HT_.out (by kernel_rfl)) (by decide) (fun K hK => ?_)
       refine box_step ?hg (N:=7) ?hd (cs:=#[.int .i64 0,.int .i64 0,.int .i64 0,.int .i64 0]) (t:=50) ?hr ?_; (case hd => rfl); (case hg => rfl); (case hr => first|(go_simp; done)|(go_simp; rfl))
       intro gb191 hg w66 hbox hb
       have n0_:=Aside0.mk (kB (g:=gb164) (o:=.cells #[.slice A0_0 l0_0.length c0_0] 42 (0,0)) BK164.out hb)
       have n1_:=Aside0.mk (kB (g:=gb165) (o:=.cells #[.int .i64 0,.int .i64 0,.int .i64 0,.int .i64 0] 50 (0,0)) BK165.out hb)
       have n2_:=Aside0.mk (kB (g:=gb181) (o:=.cells #[.int .i64 t176,.int .i64 t177,.int .i64 t178,.int .i64 t179] 50 (0,0)) BK181.out hb)
       have n3_:=Aside0.mk (below_step (by repeat (first|(with_reducible first|exact HB.out|apply bA|apply bD|apply bE|refine bS ?_ GE164.out|refine bS ?_ GE165.out|refine bS ?_ GE181.out)|exact HB.out)) hb)
       have n4_:=Aside0.mk (hbox)
       have n5_:=Aside0.mk ((by rw [hg]; exact (below_size (by repeat (first|(with_reducible first|exact HB.out|apply bA|apply bD|apply bE|refine bS ?_ GE164.out|refine bS ?_ GE165.out|refine bS ?_ GE181.out)|exact HB.out))) : w.heap.size ≤ gb191))
       have n6_:=Aside0.mk ((by rw [hg]; exact (below_size (by repeat (first|(with_reducible first|exact HB.out|apply bA|apply bD|apply bE|refine bS ?_ GE164.out|refine bS ?_ GE165.out|refine bS ?_ GE181.out)|exact HB.out))) : w.heap.size ≤ gb191))
       have n7_:=Aside0.mk ((by rw [hg]; exact Nat.ne_of_lt (blk_lt (g:=gb164) (o:=.cells #[.slice A0_0 l0_0.length c0_0] 42 (0,0)) BK164.out) : gb164 ≠ gb191))
       have n8_:=Aside0.mk ((by rw [hg]; exact Nat.ne_of_gt (blk_lt (g:=gb164) (o:=.cells #[.slice A0_0 l0_0.length c0_0] 42 (0,0)) BK164.out) : gb191 ≠ gb164))
       have n9_:=Aside0.mk ((by rw [hg]; exact Nat.ne_of_lt (blk_lt (g:=gb165) (o:=.cells #[.int .i64 0,.int .i64 0,.int .i64 0,.int .i64 0] 50 (0,0)) BK165.out) : gb165 ≠ gb191))
       have n10_:=Aside0.mk ((by rw [hg]; exact Nat.ne_of_gt (blk_lt (g:=gb165) (o:=.cells #[.int .i64 0,.int .i64 0,.int .i64 0,.int .i64 0] 50 (0,0)) BK165.out) : gb191 ≠ gb165))
       have n11_:=Aside0.mk ((by rw [hg]; exact Nat.ne_of_lt (blk_lt (g:=gb181) (o:=.cells #[.int .i64 t176,.int .i64 t177,.int .i64 t178,.int .i64 t179] 50 (0,0)) BK181.out) : gb181 ≠ gb191))
       have n12_:=Aside0.mk ((by rw [hg]; exact Nat.ne_of_gt (blk_lt (g:=gb181) (o:=.cells #[.int .i64 t176,.int .i64 t177,.int .i64 t178,.int .i64 t179] 50 (0,0)) BK181.out) : gb191 ≠ gb181))
       clear BK164
       clear BK165
       clear BK181
       clear HB
       have BK164:=n0_
       have BK165:=n1_
       have BK181:=n2_
       have HB:=n3_
       have BK191:=n4_
       have GW191:=n5_
       have GE191:=n6_
       have NB164_191:=n7_
       have NB191_164:=n8_
       have NB165_191:=n9_
       have NB191_165:=n10_
       have NB181_191:=n11_
       have NB191_181:=n12_
       clear n0_ n1_ n2_ n3_ n4_ n5_ n6_ n7_ n8_ n9_ n10_ n11_ n12_
       clear hb hbox hg
       refine hK.out _ _ ⟨(kC BK181.out 0).trans rfl,(kC BK181.out 1).trans rfl,(kC BK181.out 2).trans rfl,(kC BK181.out 3).trans rfl,(kC BK164.out 0).trans rfl⟩ (fun hHeld => ?_)
       clear hK K
       refine norm_ (a':=?_) ?_ ?_
       rotate_left
       ·show Act.put _ (some 7) _ = _
        simp only [Act.put,lS,lZ,lC,i64_w,i32_w]
        rfl
       exact norm_ (by simp only [putAll,Act.put,lS,lZ,lC]) (hCont (gb191) _ ⟨hHeld,BK164.out,BK165.out,BK181.out,BK191.out,GW191.out,GE191.out,NB164_191.out,NB191_164.out,NB165_191.out,NB191_165.out,NB181_191.out,NB191_181.out,(by repeat (first|(with_reducible first|exact HB.out|apply bA|apply bD|apply bE|refine bS ?_ GE164.out|refine bS ?_ GE165.out|refine bS ?_ GE181.out|refine bS ?_ GE191.out)|exact HB.out))⟩)
      ·skip
       refine box_step ?hg (N:=7) ?hd (cs:=#[.int .i64 0,.int .i64 0,.int .i64 0,.int .i64 0]) (t:=50) ?hr ?_; (case hd => rfl); (case hg => rfl); (case hr => first|(go_simp; done)|(go_simp; rfl))
       intro gb191 hg w65 hbox hb
       have n0_:=Aside0.mk (kB (g:=gb164) (o:=.cells #[.slice A0_0 l0_0.length c0_0] 42 (0,0)) BK164.out hb)
       have n1_:=Aside0.mk (kB (g:=gb165) (o:=.cells #[.int .i64 0,.int .i64 0,.int .i64 0,.int .i64 0] 50 (0,0)) BK165.out hb)
       have n2_:=Aside0.mk (kB (g:=gb181) (o:=.cells #[.int .i64 t176,.int .i64 t177,.int .i64 t178,.int .i64 t179] 50 (0,0)) BK181.out hb)
       have n3_:=Aside0.mk (below_step (by repeat (first|(with_reducible first|exact HB.out|apply bA|apply bD|apply bE|refine bS ?_ GE164.out|refine bS ?_ GE165.out|refine bS ?_ GE181.out)|exact HB.out)) hb)
       have n4_:=Aside0.mk (hbox)
       have n5_:=Aside0.mk ((by rw [hg]; exact (below_size (by repeat (first|(with_reducible first|exact HB.out|apply bA|apply bD|apply bE|refine bS ?_ GE164.out|refine bS ?_ GE165.out|refine bS ?_ GE181.out)|exact HB.out))) : w.heap.size ≤ gb191))
       have n6_:=Aside0.mk ((by rw [hg]; exact (below_size (by repeat (first|(with_reducible first|exact HB.out|apply bA|apply bD|apply bE|refine bS ?_ GE164.out|refine bS ?_ GE165.out|refine bS ?_ GE181.out)|exact HB.out))) : w.heap.size ≤ gb191))
       have n7_:=Aside0.mk ((by rw [hg]; exact Nat.ne_of_lt (blk_lt (g:=gb164) (o:=.cells #[.slice A0_0 l0_0.length c0_0] 42 (0,0)) BK164.out) : gb164 ≠ gb191))
       have n8_:=Aside0.mk ((by rw [hg]; exact Nat.ne_of_gt (blk_lt (g:=gb164) (o:=.cells #[.slice A0_0 l0_0.length c0_0] 42 (0,0)) BK164.out) : gb191 ≠ gb164))
       have n9_:=Aside0.mk ((by rw [hg]; exact Nat.ne_of_lt (blk_lt (g:=gb165) (o:=.cells #[.int .i64 0,.int .i64 0,.int .i64 0,.int .i64 0] 50 (0,0)) BK165.out) : gb165 ≠ gb191))
       have n10_:=Aside0.mk ((by rw [hg]; exact Nat.ne_of_gt (blk_lt (g:=gb165) (o:=.cells #[.int .i64 0,.int .i64 0,.int .i64 0,.int .i64 0] 50 (0,0)) BK165.out) : gb191 ≠ gb165))
       have n11_:=Aside0.mk ((by rw [hg]; exact Nat.ne_of_lt (blk_lt (g:=gb181) (o:=.cells #[.int .i64 t176,.int .i64 t177,.int .i64 t178,.int .i64 t179] 50 (0,0)) BK181.out) : gb181 ≠ gb191))
       have n12_:=Aside0.mk ((by rw [hg]; exact Nat.ne_of_gt (blk_lt (g:=gb181) (o:=.cells #[.int .i64 t176,.int .i64 t177,.int .i64 t178,.int .i64 t179] 50 (0,0)) BK181.out) : gb191 ≠ gb181))
       clear BK164
       clear BK165
       clear BK181
       clear HB
       have BK164:=n0_
       have BK165:=n1_
       have BK181:=n2_
       have HB:=n3_
       have BK191:=n4_
       have GW191:=n5_
       have GE191:=n6_
       have NB164_191:=n7_
       have NB191_164:=n8_
       have NB165_191:=n9_
       have NB191_165:=n10_
       have NB181_191:=n11_
       have NB191_181:=n12_
       clear n0_ n1_ n2_ n3_ n4_ n5_ n6_ n7_ n8_ n9_ n10_ n11_ n12_
       clear hb hbox hg
       refine hK.out _ _ ⟨(kC BK181.out 0).trans rfl,(kC BK181.out 1).trans rfl,(kC BK181.out 2).trans rfl,(kC BK181.out 3).trans rfl,(kC BK164.out 0).trans rfl⟩ (fun hHeld => ?_)
       clear hK K
       refine norm_ (a':=?_) ?_ ?_
       rotate_left
       ·show Act.put _ (some 7) _ = _
        simp only [Act.put,lS,lZ,lC,i64_w,i32_w]
        rfl
       refine one_ (i:=5) (N:=some 38) #[tT,tT,tT,tT,tT,tT,fF,fF,fF,tT,fF,fF] rfl rfl (one_of HT_.out (by kernel_rfl)) (by decide) (fun K hK => ?_)
       refine goes_ Try.func59 (by kernel_rfl) rfl #[.agg #[.int .i64 t176,.int .i64 t177,.int .i64 t178,.int .i64 t179],.agg #[.int .i64 t182,.int .i64 t183,.int .i64 t184,.int .i64 t185]] (by rfl) rfl rfl (by (try simp only [List.map_toArray,List.map_cons,List.map_nil]); first|done|rfl|(simp only [List.length_drop,List.length_take]; rfl)) ?_
       with_reducible refine (spec_AddIntervals.calls kj2 t176 t177 t178 t179 t182 t183 t184 t185 t186 t187 t188 t189 false _ A23.out).mono ?_
       rintro e w66 ⟨rfl,hb⟩
       refine ⟨_,rfl,?_⟩
       have n0_:=Aside0.mk (kB (g:=gb164) (o:=.cells #[.slice A0_0 l0_0.length c0_0] 42 (0,0)) BK164.out hb)
       have n1_:=Aside0.mk (kB (g:=gb165) (o:=.cells #[.int .i64 0,.int .i64 0,.int .i64 0,.int .i64 0] 50 (0,0)) BK165.out hb)
       have n2_:=Aside0.mk (kB (g:=gb181) (o:=.cells #[.int .i64 t176,.int .i64 t177,.int .i64 t178,.int .i64 t179] 50 (0,0)) BK181.out hb)
       have n3_:=Aside0.mk (kB (g:=gb191) (o:=.cells #[.int .i64 0,.int .i64 0,.int .i64 0,.int .i64 0] 50 (0,0)) BK191.out hb)
       have n4_:=Aside0.mk (below_step (by repeat (first|(with_reducible first|exact HB.out|apply bA|apply bD|apply bE|refine bS ?_ GE164.out|refine bS ?_ GE165.out|refine bS ?_ GE181.out|refine bS ?_ GE191.out)|exact HB.out)) hb)
       clear BK164
       clear BK165
       clear BK181
       clear BK191
       clear HB
       have BK164:=n0_
       have BK165:=n1_
       have BK181:=n2_
       have BK191:=n3_
       have HB:=n4_
       clear n0_ n1_ n2_ n3_ n4_
       (try clear hb)
       (try clear hb2)
       (try clear hk)
       (try clear hi)
       refine hK.out _ _ ⟨(kC BK181.out 0).trans rfl,(kC BK181.out 1).trans rfl,(kC BK181.out 2).trans rfl,(kC BK181.out 3).trans rfl,(kC BK164.out 0).trans rfl⟩ (fun hHeld => ?_)
       clear hK K
       refine norm_ (a':=?_) ?_ ?_
       rotate_left
       ·show Act.put _ (some 38) _ = _
        simp only [Act.put,lS,lZ,lC,i64_w,i32_w]
        rfl
       refine pure_ (i:=6) (N:=some 32) (v:=?_) (a':=?_) #[tT,tT,tT,tT,tT,tT,tT,fF,fF,tT,fF,fF] rfl rfl (any_of HT_.out (by kernel_rfl)) (fun _ _ _ h => h) (Or.inl ⟨by rfl,?_⟩) ?_ ?_
       rotate_left
       ·intro w'
        go_simp
        first|(with_reducible rfl)|(simp only [Instr.field,go_sem, *]; rfl)
       rotate_left
       ·simp only [Act.put,lS,lZ,lC,i64_w,i32_w]
        rfl
       refine pure_ (i:=7) (N:=some 39) (v:=?_) (a':=?_) #[tT,tT,tT,tT,tT,tT,tT,tT,fF,tT,fF,fF] rfl rfl (any_of HT_.out (by kernel_rfl)) (fun _ _ _ h => h) (Or.inl ⟨by rfl,?_⟩) ?_ ?_
       rotate_left
       ·intro w'
        go_simp
        first|(with_reducible rfl)|(simp only [Instr.field,go_sem, *]; rfl)
       rotate_left
       ·simp only [Act.put,lS,lZ,lC,i64_w,i32_w]
        rfl
       refine pure_ (i:=8) (N:=some 40) (v:=?_) (a':=?_) #[tT,tT,tT,tT,tT,tT,tT,tT,tT,tT,fF,fF] rfl rfl (any_of HT_.out (by kernel_rfl)) (fun _ _ _ h => h) (Or.inl ⟨by rfl,?_⟩) ?_ ?_
       rotate_left
       ·intro w'
        go_simp
        first|(with_reducible rfl)|(simp only [Instr.field,go_sem, *]; rfl)
       rotate_left
       ·simp only [Act.put,lS,lZ,lC,i64_w,i32_w]
        rfl
       exact norm_ (by simp only [putAll,Act.put,lS,lZ,lC]) (hCont (gb191) _ ⟨hHeld,BK164.out,BK165.out,BK181.out,BK191.out,GW191.out,GE191.out,NB164_191.out,NB191_164.out,NB165_191.out,NB191_165.out,NB181_191.out,NB191_181.out,(by repeat (first|(with_reducible first|exact HB.out|apply bA|apply bD|apply bE|refine bS ?_ GE164.out|refine bS ?_ GE165.out|refine bS ?_ GE181.out|refine bS ?_ GE191.out)|exact HB.out))⟩)
     ·skip
      refine box_step ?hg (N:=7) ?hd (cs:=#[.int .i64 0,.int .i64 0,.int .i64 0,.int .i64 0]) (t:=50) ?hr ?_; (case hd => rfl); (case hg => rfl); (case hr => first|(go_simp; done)|(go_simp; rfl))
      intro gb191 hg w64 hbox hb
      have n0_:=Aside0.mk (kB (g:=gb164) (o:=.cells #[.slice A0_0 l0_0.length c0_0] 42 (0,0)) BK164.out hb)
      have n1_:=Aside0.mk (kB (g:=gb165) (o:=.cells #[.int .i64 0,.int .i64 0,.int .i64 0,.int .i64 0] 50 (0,0)) BK165.out hb)
      have n2_:=Aside0.mk (kB (g:=gb181) (o:=.cells #[.int .i64 t176,.int .i64 t177,.int .i64 t178,.int .i64 t179] 50 (0,0)) BK181.out hb)
      have n3_:=Aside0.mk (below_step (by repeat (first|(with_reducible first|exact HB.out|apply bA|apply bD|apply bE|refine bS ?_ GE164.out|refine bS ?_ GE165.out|refine bS ?_ GE181.out)|exact HB.out)) hb)
      have n4_:=Aside0.mk (hbox)
      have n5_:=Aside0.mk ((by rw [hg]; exact (below_size (by repeat (first|(with_reducible first|exact HB.out|apply bA|apply bD|apply bE|refine bS ?_ GE164.out|refine bS ?_ GE165.out|refine bS ?_ GE181.out)|exact HB.out))) : w.heap.size ≤ gb191))
      have n6_:=Aside0.mk ((by rw [hg]; exact (below_size (by repeat (first|(with_reducible first|exact HB.out|apply bA|apply bD|apply bE|refine bS ?_ GE164.out|refine bS ?_ GE165.out|refine bS ?_ GE181.out)|exact HB.out))) : w.heap.size ≤ gb191))
      have n7_:=Aside0.mk ((by rw [hg]; exact Nat.ne_of_lt (blk_lt (g:=gb164) (o:=.cells #[.slice A0_0 l0_0.length c0_0] 42 (0,0)) BK164.out) : gb164 ≠ gb191))
      have n8_:=Aside0.mk ((by rw [hg]; exact Nat.ne_of_gt (blk_lt (g:=gb164) (o:=.cells #[.slice A0_0 l0_0.length c0_0] 42 (0,0)) BK164.out) : gb191 ≠ gb164))
      have n9_:=Aside0.mk ((by rw [hg]; exact Nat.ne_of_lt (blk_lt (g:=gb165) (o:=.cells #[.int .i64 0,.int .i64 0,.int .i64 0,.int .i64 0] 50 (0,0)) BK165.out) : gb165 ≠ gb191))
      have n10_:=Aside0.mk ((by rw [hg]; exact Nat.ne_of_gt (blk_lt (g:=gb165) (o:=.cells #[.int .i64 0,.int .i64 0,.int .i64 0,.int .i64 0] 50 (0,0)) BK165.out) : gb191 ≠ gb165))
      have n11_:=Aside0.mk ((by rw [hg]; exact Nat.ne_of_lt (blk_lt (g:=gb181) (o:=.cells #[.int .i64 t176,.int .i64 t177,.int .i64 t178,.int .i64 t179] 50 (0,0)) BK181.out) : gb181 ≠ gb191))
      have n12_:=Aside0.mk ((by rw [hg]; exact Nat.ne_of_gt (blk_lt (g:=gb181) (o:=.cells #[.int .i64 t176,.int .i64 t177,.int .i64 t178,.int .i64 t179] 50 (0,0)) BK181.out) : gb191 ≠ gb181))
      clear BK164
      clear BK165
      clear BK181
      clear HB
      have BK164:=n0_
      have BK165:=n1_
      have BK181:=n2_
      have HB:=n3_
      have BK191:=n4_
      have GW191:=n5_
      have GE191:=n6_
      have NB164_191:=n7_
      have NB191_164:=n8_
      have NB165_191:=n9_
      have NB191_165:=n10_
      have NB181_191:=n11_
      have NB191_181:=n12_
      clear n0_ n1_ n2_ n3_ n4_ n5_ n6_ n7_ n8_ n9_ n10_ n11_ n12_
      clear hb hbox hg
      refine hK.out _ _ ⟨(kC BK181.out 0).trans rfl,(kC BK181.out 1).trans rfl,(kC BK181.out 2).trans rfl,(kC BK181.out 3).trans rfl,(kC BK164.out 0).trans rfl⟩ (fun hHeld => ?_)
      clear hK K
      refine norm_ (a':=?_) ?_ ?_
      rotate_left
      ·show Act.put _ (some 7) _ = _
       simp only [Act.put,lS,lZ,lC,i64_w,i32_w]
       rfl
      refine one_ (i:=4) (N:=some 37) #[tT,tT,tT,tT,tT,fF,fF,fF,fF,tT,fF,fF] rfl rfl (one_of HT_.out (by kernel_rfl)) (by decide) (fun K hK => ?_)
      refine goes_ Try.func60 (by kernel_rfl) rfl #[.agg #[.slice A0_0 l0_0.length c0_0],.int .i64 (wrap64 (a1 + 8))] (by rfl) rfl rfl (by (try simp only [List.map_toArray,List.map_cons,List.map_nil]); first|done|rfl|(simp only [List.length_drop,List.length_take]; rfl)) ?_
      with_reducible refine (spec_ThirdAt.calls kj2 _ _ l0_0 (wrap64 (a1 + 8)) t182 t183 t184 t185 _ ?side1 ?side2 A22.out).mono ?_
      (case side1 => repeat (first|exact (Kd.C_below HR0_0.out HB.out)|(with_reducible refine Kd.C_alloc ?_ _)|(with_reducible refine Kd.C_drewN ?_ _)|(with_reducible refine Kd.C_drew ?_)))
      (case side2 => exact HC0_0.out)
      rintro e w65 ⟨rfl,hb⟩
      refine ⟨_,rfl,?_⟩
      have n0_:=Aside0.mk (kB (g:=gb164) (o:=.cells #[.slice A0_0 l0_0.length c0_0] 42 (0,0)) BK164.out hb)
      have n1_:=Aside0.mk (kB (g:=gb165) (o:=.cells #[.int .i64 0,.int .i64 0,.int .i64 0,.int .i64 0] 50 (0,0)) BK165.out hb)
      have n2_:=Aside0.mk (kB (g:=gb181) (o:=.cells #[.int .i64 t176,.int .i64 t177,.int .i64 t178,.int .i64 t179] 50 (0,0)) BK181.out hb)
      have n3_:=Aside0.mk (kB (g:=gb191) (o:=.cells #[.int .i64 0,.int .i64 0,.int .i64 0,.int .i64 0] 50 (0,0)) BK191.out hb)
      have n4_:=Aside0.mk (below_step (by repeat (first|(with_reducible first|exact HB.out|apply bA|apply bD|apply bE|refine bS ?_ GE164.out|refine bS ?_ GE165.out|refine bS ?_ GE181.out|refine bS ?_ GE191.out)|exact HB.out)) hb)
      clear BK164
      clear BK165
      clear BK181
      clear BK191
      clear HB
      have BK164:=n0_
      have BK165:=n1_
      have BK181:=n2_
      have BK191:=n3_
      have HB:=n4_
      clear n0_ n1_ n2_ n3_ n4_
      (try clear hb)
      (try clear hb2)
      (try clear hk)
      (try clear hi)
      refine hK.out _ _ ⟨(kC BK181.out 0).trans rfl,(kC BK181.out 1).trans rfl,(kC BK181.out 2).trans rfl,(kC BK181.out 3).trans rfl,(kC BK164.out 0).trans rfl⟩ (fun hHeld => ?_)
      clear hK K
      refine norm_ (a':=?_) ?_ ?_
      rotate_left
      ·show Act.put _ (some 37) _ = _
       simp only [Act.put,lS,lZ,lC,i64_w,i32_w]
       rfl
      refine one_ (i:=5) (N:=some 38) #[tT,tT,tT,tT,tT,tT,fF,fF,fF,tT,fF,fF] rfl rfl (one_of HT_.out (by kernel_rfl)) (by decide) (fun K hK => ?_)
      refine goes_ Try.func59 (by kernel_rfl) rfl #[.agg #[.int .i64 t176,.int .i64 t177,.int .i64 t178,.int .i64 t179],.agg #[.int .i64 t182,.int .i64 t183,.int .i64 t184,.int .i64 t185]] (by rfl) rfl rfl (by (try simp only [List.map_toArray,List.map_cons,List.map_nil]); first|done|rfl|(simp only [List.length_drop,List.length_take]; rfl)) ?_
      with_reducible refine (spec_AddIntervals.calls kj2 t176 t177 t178 t179 t182 t183 t184 t185 t186 t187 t188 t189 false _ A23.out).mono ?_
      rintro e w66 ⟨rfl,hb⟩
      refine ⟨_,rfl,?_⟩
      have n0_:=Aside0.mk (kB (g:=gb164) (o:=.cells #[.slice A0_0 l0_0.length c0_0] 42 (0,0)) BK164.out hb)
      have n1_:=Aside0.mk (kB (g:=gb165) (o:=.cells #[.int .i64 0,.int .i64 0,.int .i64 0,.int .i64 0] 50 (0,0)) BK165.out hb)
      have n2_:=Aside0.mk (kB (g:=gb181) (o:=.cells #[.int .i64 t176,.int .i64 t177,.int .i64 t178,.int .i64 t179] 50 (0,0)) BK181.out hb)
      have n3_:=Aside0.mk (kB (g:=gb191) (o:=.cells #[.int .i64 0,.int .i64 0,.int .i64 0,.int .i64 0] 50 (0,0)) BK191.out hb)
      have n4_:=Aside0.mk (below_step (by repeat (first|(with_reducible first|exact HB.out|apply bA|apply bD|apply bE|refine bS ?_ GE164.out|refine bS ?_ GE165.out|refine bS ?_ GE181.out|refine bS ?_ GE191.out)|exact HB.out)) hb)
      clear BK164
      clear BK165
      clear BK181
      clear BK191
      clear HB
      have BK164:=n0_
      have BK165:=n1_
      have BK181:=n2_
      have BK191:=n3_
      have HB:=n4_
      clear n0_ n1_ n2_ n3_ n4_
      (try clear hb)
      (try clear hb2)
      (try clear hk)
      (try clear hi)
      refine hK.out _ _ ⟨(kC BK181.out 0).trans rfl,(kC BK181.out 1).trans rfl,(kC BK181.out 2).trans rfl,(kC BK181.out 3).trans rfl,(kC BK164.out 0).trans rfl⟩ (fun hHeld => ?_)
      clear hK K
      refine norm_ (a':=?_) ?_ ?_
      rotate_left
      ·show Act.put _ (some 38) _ = _
       simp only [Act.put,lS,lZ,lC,i64_w,i32_w]
       rfl
      refine pure_ (i:=6) (N:=some 32) (v:=?_) (a':=?_) #[tT,tT,tT,tT,tT,tT,tT,fF,fF,tT,fF,fF] rfl rfl (any_of HT_.out (by kernel_rfl)) (fun _ _ _ h => h) (Or.inl ⟨by rfl,?_⟩) ?_ ?_
      rotate_left
      ·intro w'
       go_simp
       first|(with_reducible rfl)|(simp only [Instr.field,go_sem, *]; rfl)
      rotate_left
      ·simp only [Act.put,lS,lZ,lC,i64_w,i32_w]
       rfl
      refine pure_ (i:=7) (N:=some 39) (v:=?_) (a':=?_) #[tT,tT,tT,tT,tT,tT,tT,tT,fF,tT,fF,fF] rfl rfl (any_of HT_.out (by kernel_rfl)) (fun _ _ _ h => h) (Or.inl ⟨by rfl,?_⟩) ?_ ?_
      rotate_left
      ·intro w'
       go_simp
       first|(with_reducible rfl)|(simp only [Instr.field,go_sem, *]; rfl)
      rotate_left
      ·simp only [Act.put,lS,lZ,lC,i64_w,i32_w]
       rfl
      refine pure_ (i:=8) (N:=some 40) (v:=?_) (a':=?_) #[tT,tT,tT,tT,tT,tT,tT,tT,tT,tT,fF,fF] rfl rfl (any_of HT_.out (by kernel_rfl)) (fun _ _ _ h => h) (Or.inl ⟨by rfl,?_⟩) ?_ ?_
      rotate_left
      ·intro w'
       go_simp
       first|(with_reducible rfl)|(simp only [Instr.field,go_sem, *]; rfl)
      rotate_left
      ·simp only [Act.put,lS,lZ,lC,i64_w,i32_w]
       rfl
      exact norm_ (by simp only [putAll,Act.put,lS,lZ,lC]) (hCont (gb191) _ ⟨hHeld,BK164.out,BK165.out,BK181.out,BK191.out,GW191.out,GE191.out,NB164_191.out,NB191_164.out,NB165_191.out,NB191_165.out,NB181_191.out,NB191_181.out,(by repeat (first|(with_reducible first|exact HB.out|apply bA|apply bD|apply bE|refine bS ?_ GE164.out|refine bS ?_ GE165.out|refine bS ?_ GE181.out|refine bS ?_ GE191.out)|exact HB.out))⟩)
    rintro gb191 w67 ⟨hS_,h0_,h1_,h2_,h3_,h4_,h5_,h6_,h7_,h8_,h9_,h10_,h11_,h12_⟩
    have n0_ : Aside0 (w67.heap[gb164]? = some (.cells #[.slice A0_0 l0_0.length c0_0] 42 (0,0))):=⟨h0_⟩
    have n1_ : Aside0 (w67.heap[gb165]? = some (.cells #[.int .i64 0,.int .i64 0,.int .i64 0,.int .i64 0] 50 (0,0))):=⟨h1_⟩
    have n2_ : Aside0 (w67.heap[gb181]? = some (.cells #[.int .i64 t176,.int .i64 t177,.int .i64 t178,.int .i64 t179] 50 (0,0))):=⟨h2_⟩
    have n3_ : Aside0 (w67.heap[gb191]? = some (.cells #[.int .i64 0,.int .i64 0,.int .i64 0,.int .i64 0] 50 (0,0))):=⟨h3_⟩
    have n4_ : Aside0 (w.heap.size ≤ gb191):=⟨h4_⟩
    have n5_ : Aside0 (w.heap.size ≤ gb191):=⟨h5_⟩
    have n6_ : Aside0 (gb164 ≠ gb191):=⟨h6_⟩
    have n7_ : Aside0 (gb191 ≠ gb164):=⟨h7_⟩
    have n8_ : Aside0 (gb165 ≠ gb191):=⟨h8_⟩
    have n9_ : Aside0 (gb191 ≠ gb165):=⟨h9_⟩
    have n10_ : Aside0 (gb181 ≠ gb191):=⟨h10_⟩
    have n11_ : Aside0 (gb191 ≠ gb181):=⟨h11_⟩
    have n12_ : Aside0 (Below w.heap.size w w67):=⟨h12_⟩
    clear BK164
    clear BK165
    clear BK181
    clear HB
    clear h0_ h1_ h2_ h3_ h4_ h5_ h6_ h7_ h8_ h9_ h10_ h11_ h12_
    have BK164:=n0_
    have BK165:=n1_
    have BK181:=n2_
    have BK191:=n3_
    have GW191:=n4_
    have GE191:=n5_
    have NB164_191:=n6_
    have NB191_164:=n7_
    have NB165_191:=n8_
    have NB191_165:=n9_
    have NB181_191:=n10_
    have NB191_181:=n11_
    have HB:=n12_
    clear n0_ n1_ n2_ n3_ n4_ n5_ n6_ n7_ n8_ n9_ n10_ n11_ n12_
    have hHeld : w67.cell? ⟨gb181,0,none⟩ = some (.int .i64 t176) ∧ w67.cell? ⟨gb181,1,none⟩ = some (.int .i64 t177) ∧ w67.cell? ⟨gb181,2,none⟩ = some (.int .i64 t178) ∧ w67.cell? ⟨gb181,3,none⟩ = some (.int .i64 t179) ∧ w67.cell? ⟨gb164,0,none⟩ = some (.slice A0_0 l0_0.length c0_0):=hS_
    refine norm_ (a':=?_) ?_ ?_
    rotate_left
    ·simp only [putAll,Act.put,lS,lZ,lC]
     rfl
    refine one_ (i:=10) (N:=none) #[tT,tT,tT,tT,tT,tT,tT,tT,tT,tT,tT,fF] rfl rfl (one_of HT_.out (by kernel_rfl)) (by decide) (fun K hK => ?_)
    have hs68 : w67.cell? ⟨gb191,0,none⟩ = some (.int .i64 0):=(kC BK191.out 0).trans rfl
    have hfs68:=blk_frozen BK191.out 0
    have hns68_0:=NB164_191.out
    have hns68_1:=NB165_191.out
    have hns68_2:=NB181_191.out
    have hms68_0:=NB191_164.out
    have hms68_1:=NB191_165.out
    have hms68_2:=NB191_181.out
    have hs69 : w67.cell? ⟨gb191,1,none⟩ = some (.int .i64 0):=(kC BK191.out 1).trans rfl
    have hfs69:=blk_frozen BK191.out 1
    have hns69_0:=NB164_191.out
    have hns69_1:=NB165_191.out
    have hns69_2:=NB181_191.out
    have hms69_0:=NB191_164.out
    have hms69_1:=NB191_165.out
    have hms69_2:=NB191_181.out
    have hs70 : w67.cell? ⟨gb191,2,none⟩ = some (.int .i64 0):=(kC BK191.out 2).trans rfl
    have hfs70:=blk_frozen BK191.out 2
    have hns70_0:=NB164_191.out
    have hns70_1:=NB165_191.out
    have hns70_2:=NB181_191.out
    have hms70_0:=NB191_164.out
    have hms70_1:=NB191_165.out
    have hms70_2:=NB191_181.out
    have hs71 : w67.cell? ⟨gb191,3,none⟩ = some (.int .i64 0):=(kC BK191.out 3).trans rfl
    have hfs71:=blk_frozen BK191.out 3
    have hns71_0:=NB164_191.out
    have hns71_1:=NB165_191.out
    have hns71_2:=NB181_191.out
    have hms71_0:=NB191_164.out
    have hms71_1:=NB191_165.out
    have hms71_2:=NB191_181.out
    refine skip_ (w1:=?_) (by rfl) rfl ?_ ?_
    rotate_left
    ·go_simp
     rfl
    refine hK.out _ _ ⟨((cell_far (p:=⟨gb191,_,none⟩) NB181_191.out _).trans (((cell_far (p:=⟨gb191,_,none⟩) NB181_191.out _).trans (((cell_far (p:=⟨gb191,_,none⟩) NB181_191.out _).trans (((cell_far (p:=⟨gb191,_,none⟩) NB181_191.out _).trans (hHeld.1)))))))),((cell_far (p:=⟨gb191,_,none⟩) NB181_191.out _).trans (((cell_far (p:=⟨gb191,_,none⟩) NB181_191.out _).trans (((cell_far (p:=⟨gb191,_,none⟩) NB181_191.out _).trans (((cell_far (p:=⟨gb191,_,none⟩) NB181_191.out _).trans (hHeld.2.1)))))))),((cell_far (p:=⟨gb191,_,none⟩) NB181_191.out _).trans (((cell_far (p:=⟨gb191,_,none⟩) NB181_191.out _).trans (((cell_far (p:=⟨gb191,_,none⟩) NB181_191.out _).trans (((cell_far (p:=⟨gb191,_,none⟩) NB181_191.out _).trans (hHeld.2.2.1)))))))),((cell_far (p:=⟨gb191,_,none⟩) NB181_191.out _).trans (((cell_far (p:=⟨gb191,_,none⟩) NB181_191.out _).trans (((cell_far (p:=⟨gb191,_,none⟩) NB181_191.out _).trans (((cell_far (p:=⟨gb191,_,none⟩) NB181_191.out _).trans (hHeld.2.2.2.1)))))))),((cell_far (p:=⟨gb191,_,none⟩) NB164_191.out _).trans (((cell_far (p:=⟨gb191,_,none⟩) NB164_191.out _).trans (((cell_far (p:=⟨gb191,_,none⟩) NB164_191.out _).trans (((cell_far (p:=⟨gb191,_,none⟩) NB164_191.out _).trans (hHeld.2.2.2.2))))))))⟩ (fun hHeld => ?_)
    clear hK K
    refine pure_ (i:=11) (N:=some 8) (v:=?_) (a':=?_) #[tT,tT,tT,tT,tT,tT,tT,tT,tT,tT,tT,tT] rfl rfl (any_of HT_.out (by kernel_rfl)) (fun _ _ _ h => h) (Or.inl ⟨by rfl,?_⟩) ?_ ?_
    rotate_left
    ·intro w'
     go_simp
     first|(with_reducible rfl)|(simp only [Instr.field,go_sem, *]; rfl)
    rotate_left
    ·simp only [Act.put,lS,lZ,lC,i64_w,i32_w]
     rfl
    refine done_ (done_of HT_.out (by kernel_rfl)) ?_
    have hnb72:=NB165_164.out
    have hnc72:=NB164_165.out
    have hnb73:=NB165_181.out
    have hnc73:=NB181_165.out
    have hnb74:=NB165_191.out
    have hnc74:=NB191_165.out
    have hcz75_0 : w67.cell? ⟨gb165,0,none⟩ = some (.int .i64 0):=(kC BK165.out 0).trans rfl
    have hcz75_1 : w67.cell? ⟨gb165,1,none⟩ = some (.int .i64 0):=(kC BK165.out 1).trans rfl
    have hcz75_2 : w67.cell? ⟨gb165,2,none⟩ = some (.int .i64 0):=(kC BK165.out 2).trans rfl
    have hcz75_3 : w67.cell? ⟨gb165,3,none⟩ = some (.int .i64 0):=(kC BK165.out 3).trans rfl
    have hfz75_0:=blk_frozen BK165.out 0
    have hfz75_1:=blk_frozen BK165.out 1
    have hfz75_2:=blk_frozen BK165.out 2
    have hfz75_3:=blk_frozen BK165.out 3
    try go_wp2
    refine bodyPost_ret (results_cell_row rfl _ _ gb165 50 #[.int .i64 0,.int .i64 0,.int .i64 0,.int .i64 0] (0,0) _ rfl (by (with_reducible repeat (first|refine kN ?_ _|refine kD ?_|refine kA ?_ _)); refine blk_put (cs:=#[.int .i64 0,.int .i64 0,.int .i64 0,.int .i64 0]) ?_ 3 _ rfl; (with_reducible repeat (first|refine kN ?_ _|refine kD ?_|refine kA ?_ _)); refine blk_put (cs:=#[.int .i64 0,.int .i64 0,.int .i64 0,.int .i64 0]) ?_ 2 _ rfl; (with_reducible repeat (first|refine kN ?_ _|refine kD ?_|refine kA ?_ _)); refine blk_put (cs:=#[.int .i64 0,.int .i64 0,.int .i64 0,.int .i64 0]) ?_ 1 _ rfl; (with_reducible repeat (first|refine kN ?_ _|refine kD ?_|refine kA ?_ _)); refine blk_put (cs:=#[.int .i64 0,.int .i64 0,.int .i64 0,.int .i64 0]) ?_ 0 _ rfl; (with_reducible repeat (first|refine kN ?_ _|refine kD ?_|refine kA ?_ _)); refine blk_far ?_ NB165_191.out _; (with_reducible repeat (first|refine kN ?_ _|refine kD ?_|refine kA ?_ _)); refine blk_far ?_ NB165_191.out _; (with_reducible repeat (first|refine kN ?_ _|refine kD ?_|refine kA ?_ _)); refine blk_far ?_ NB165_191.out _; (with_reducible repeat (first|refine kN ?_ _|refine kD ?_|refine kA ?_ _)); refine blk_far ?_ NB165_191.out _; (with_reducible repeat (first|refine kN ?_ _|refine kD ?_|refine kA ?_ _)); exact BK165.out) Try.underlying50 rfl (by kernel_rfl)) rfl ?_
    exact ⟨by first|rfl|(simp [errW_none,errW_some] <;> rfl)|(simp [*,errW_none,errW_some] <;> rfl),by repeat (first|(with_reducible first|exact HB.out|apply bA|apply bD|apply bE|refine bS ?_ GE164.out|refine bS ?_ GE165.out|refine bS ?_ GE181.out|refine bS ?_ GE191.out)|exact HB.out)⟩
   subst c24
   have H1 : (some (t186,t187,t188,t189)) = some (r1,r2,r3,r4):=by rw [if_pos rfl] at H; exact H
   clear H
   have H:=H1
   clear H1
   simp only [Option.some.injEq,Prod.mk.injEq] at H
   obtain ⟨rfl,rfl,rfl,rfl⟩:=H
   try go_wp2
   have n0_:=Aside0.mk (kD BK164.out)
   have n1_:=Aside0.mk (kD BK165.out)
   have n2_:=Aside0.mk (bE HB.out)
   clear BK164
   clear BK165
   clear HB
   have BK164:=n0_
   have BK165:=n1_
   have HB:=n2_
   clear n0_ n1_ n2_
   refine start_ (n:=14) (S:=fun w' => w'.cell? ⟨gb164,0,none⟩ = some (.slice A0_0 l0_0.length c0_0)) (ds:=[]) #[fF,fF,fF,fF,fF,fF,fF,fF,fF,fF,fF,fF,fF,fF] (by kernel_rfl) rfl rfl ((kC BK164.out 0).trans rfl) (fun hHeld => ?_); refine with_tabW spec_GroupSum.tab3 spec_GroupSum.bits3 (fun HT_ HW_ => ?_)
   generalize wc.drew = w25 at BK164 BK165 HB hHeld ⊢
   refine pure_ (i:=1) (N:=some 20) (v:=?_) (a':=?_) #[fF,tT,fF,fF,fF,fF,fF,fF,fF,fF,fF,fF,fF,fF] rfl rfl (any_of HT_.out (by kernel_rfl)) (fun _ _ _ h => h) (Or.inl ⟨by rfl,?_⟩) ?_ ?_
   rotate_left
   ·intro w'
    go_simp
    first|(with_reducible rfl)|(simp only [Instr.field,go_sem, *]; rfl)
   rotate_left
   ·simp only [Act.put,lS,lZ,lC,i64_w,i32_w]
    rfl
   refine pure_ (i:=4) (N:=some 23) (v:=?_) (a':=?_) #[fF,tT,fF,fF,tT,fF,fF,fF,fF,fF,fF,fF,fF,fF] rfl rfl (any_of HT_.out (by kernel_rfl)) (fun _ _ _ h => h) (Or.inl ⟨by rfl,?_⟩) ?_ ?_
   rotate_left
   ·intro w'
    go_simp
    first|(with_reducible rfl)|(simp only [Instr.field,go_sem, *]; rfl)
   rotate_left
   ·simp only [Act.put,lS,lZ,lC,i64_w,i32_w]
    rfl
   refine pure_ (i:=5) (N:=some 24) (v:=?_) (a':=?_) #[fF,tT,fF,fF,tT,tT,fF,fF,fF,fF,fF,fF,fF,fF] rfl rfl (any_of HT_.out (by kernel_rfl)) (fun _ _ _ h => h) (Or.inl ⟨by rfl,?_⟩) ?_ ?_
   rotate_left
   ·intro w'
    go_simp
    first|(with_reducible rfl)|(simp only [Instr.field,go_sem, *]; rfl)
   rotate_left
   ·simp only [Act.put,lS,lZ,lC,i64_w,i32_w]
    rfl
   refine take_ (i:=0) (N:=some 19) (v:=?_) (a':=?_) #[tT,tT,fF,fF,tT,tT,fF,fF,fF,fF,fF,fF,fF,fF] rfl rfl (take_ofW HT_.out HW_.out (by kernel_rfl)) (fun _ _ _ h => h) (Or.inl ⟨by rfl,?_⟩) hHeld ?_ ?_
   rotate_left
   ·intro w' s0
    go_simp
    first|(with_reducible rfl)|(simp only [Instr.field,go_sem, *]; rfl)
   rotate_left
   ·simp only [Act.put,lS,lZ,lC,i64_w,i32_w]
    rfl
   refine take_ (i:=3) (N:=some 22) (v:=?_) (a':=?_) #[tT,tT,fF,tT,tT,tT,fF,fF,fF,fF,fF,fF,fF,fF] rfl rfl (take_ofW HT_.out HW_.out (by kernel_rfl)) (fun _ _ _ h => h) (Or.inl ⟨by rfl,?_⟩) hHeld ?_ ?_
   rotate_left
   ·intro w' s0
    go_simp
    first|(with_reducible rfl)|(simp only [Instr.field,go_sem, *]; rfl)
   rotate_left
   ·simp only [Act.put,lS,lZ,lC,i64_w,i32_w]
    rfl
   refine join_ (σ:=Nat) 2 #[tT,tT,tT,tT,tT,tT,tT,tT,tT,tT,tT,tT,fF,fF] (fun s_ => [(21,.agg #[.int .i64 t168,.int .i64 t169,.int .i64 t170,.int .i64 t171]),(25,.agg #[.int .i64 t172,.int .i64 t173,.int .i64 t174,.int .i64 t175]),(26,.tuple #[.agg #[.int .i64 t176,.int .i64 t177,.int .i64 t178,.int .i64 t179],.bool true]),(5,.pointer (some ⟨s_,0,none⟩)),(18,.tuple #[.agg #[.int .i64 t176,.int .i64 t177,.int .i64 t178,.int .i64 t179],.bool true]),(27,.agg #[.int .i64 t176,.int .i64 t177,.int .i64 t178,.int .i64 t179]),(28,.bool true)]) (fun s_ w' => (w'.cell? ⟨gb164,0,none⟩ = some (.slice A0_0 l0_0.length c0_0)) ∧ (w'.heap[gb164]? = some (.cells #[.slice A0_0 l0_0.length c0_0] 42 (0,0))) ∧ (w'.heap[gb165]? = some (.cells #[.int .i64 0,.int .i64 0,.int .i64 0,.int .i64 0] 50 (0,0))) ∧ (w'.heap[s_]? = some (.cells #[.int .i64 0,.int .i64 0,.int .i64 0,.int .i64 0] 50 (0,0))) ∧ (w.heap.size ≤ s_) ∧ (w.heap.size ≤ s_) ∧ (gb164 ≠ s_) ∧ (s_ ≠ gb164) ∧ (gb165 ≠ s_) ∧ (s_ ≠ gb165) ∧ (Below w.heap.size w w')) ?_ ?_
   rotate_left
   ·intro hCont
    refine two_ (i:=2) (j:=11) (Ni:=some 21) (Nj:=some 5) #[tT,tT,tT,tT,tT,tT,fF,fF,fF,fF,fF,fF,fF,fF] #[tT,tT,fF,tT,tT,tT,fF,fF,fF,fF,fF,tT,fF,fF] rfl rfl rfl rfl (two_of HT_.out (by kernel_rfl)) (by decide) (by decide) (fun K hK => ?_) (fun K hK => ?_)
    ·skip
     refine goes_ Try.func60 (by kernel_rfl) rfl #[.agg #[.slice A0_0 l0_0.length c0_0],.int .i64 a1] (by rfl) rfl rfl (by (try simp only [List.map_toArray,List.map_cons,List.map_nil]); first|done|rfl|(simp only [List.length_drop,List.length_take]; rfl)) ?_
     with_reducible refine (spec_ThirdAt.calls kj2 _ _ l0_0 a1 t168 t169 t170 t171 _ ?side1 ?side2 A18.out).mono ?_
     (case side1 => repeat (first|exact (Kd.C_below HR0_0.out HB.out)|(with_reducible refine Kd.C_alloc ?_ _)|(with_reducible refine Kd.C_drewN ?_ _)|(with_reducible refine Kd.C_drew ?_)))
     (case side2 => exact HC0_0.out)
     rintro e w26 ⟨rfl,hb⟩
     refine ⟨_,rfl,?_⟩
     have n0_:=Aside0.mk (kB (g:=gb164) (o:=.cells #[.slice A0_0 l0_0.length c0_0] 42 (0,0)) BK164.out hb)
     have n1_:=Aside0.mk (kB (g:=gb165) (o:=.cells #[.int .i64 0,.int .i64 0,.int .i64 0,.int .i64 0] 50 (0,0)) BK165.out hb)
     have n2_:=Aside0.mk (below_step (by repeat (first|(with_reducible first|exact HB.out|apply bA|apply bD|apply bE|refine bS ?_ GE164.out|refine bS ?_ GE165.out)|exact HB.out)) hb)
     clear BK164
     clear BK165
     clear HB
     have BK164:=n0_
     have BK165:=n1_
     have HB:=n2_
     clear n0_ n1_ n2_
     (try clear hb)
     (try clear hb2)
     (try clear hk)
     (try clear hi)
     refine hK.out _ _ ((kC BK164.out 0).trans rfl) (fun hHeld => ?_)
     clear hK K
     refine norm_ (a':=?_) ?_ ?_
     rotate_left
     ·show Act.put _ (some 21) _ = _
      simp only [Act.put,lS,lZ,lC,i64_w,i32_w]
      rfl
     refine two_ (i:=6) (j:=11) (Ni:=some 25) (Nj:=some 5) #[tT,tT,tT,tT,tT,tT,tT,fF,fF,fF,fF,fF,fF,fF] #[tT,tT,tT,tT,tT,tT,fF,fF,fF,fF,fF,tT,fF,fF] rfl rfl rfl rfl (two_of HT_.out (by kernel_rfl)) (by decide) (by decide) (fun K hK => ?_) (fun K hK => ?_)
     ·skip
      refine goes_ Try.func60 (by kernel_rfl) rfl #[.agg #[.slice A0_0 l0_0.length c0_0],.int .i64 (wrap64 (a1 + 4))] (by rfl) rfl rfl (by (try simp only [List.map_toArray,List.map_cons,List.map_nil]); first|done|rfl|(simp only [List.length_drop,List.length_take]; rfl)) ?_
      with_reducible refine (spec_ThirdAt.calls kj2 _ _ l0_0 (wrap64 (a1 + 4)) t172 t173 t174 t175 _ ?side1 ?side2 A19.out).mono ?_
      (case side1 => repeat (first|exact (Kd.C_below HR0_0.out HB.out)|(with_reducible refine Kd.C_alloc ?_ _)|(with_reducible refine Kd.C_drewN ?_ _)|(with_reducible refine Kd.C_drew ?_)))
      (case side2 => exact HC0_0.out)
      rintro e w27 ⟨rfl,hb⟩
      refine ⟨_,rfl,?_⟩
      have n0_:=Aside0.mk (kB (g:=gb164) (o:=.cells #[.slice A0_0 l0_0.length c0_0] 42 (0,0)) BK164.out hb)
      have n1_:=Aside0.mk (kB (g:=gb165) (o:=.cells #[.int .i64 0,.int .i64 0,.int .i64 0,.int .i64 0] 50 (0,0)) BK165.out hb)
      have n2_:=Aside0.mk (below_step (by repeat (first|(with_reducible first|exact HB.out|apply bA|apply bD|apply bE|refine bS ?_ GE164.out|refine bS ?_ GE165.out)|exact HB.out)) hb)
      clear BK164
      clear BK165
      clear HB
      have BK164:=n0_
      have BK165:=n1_
      have HB:=n2_
      clear n0_ n1_ n2_
      (try clear hb)
      (try clear hb2)
      (try clear hk)
      (try clear hi)
      refine hK.out _ _ ((kC BK164.out 0).trans rfl) (fun hHeld => ?_)
      clear hK K
      refine norm_ (a':=?_) ?_ ?_
      rotate_left
      ·show Act.put _ (some 25) _ = _
       simp only [Act.put,lS,lZ,lC,i64_w,i32_w]
       rfl
      refine two_ (i:=7) (j:=11) (Ni:=some 26) (Nj:=some 5) #[tT,tT,tT,tT,tT,tT,tT,tT,fF,fF,fF,fF,fF,fF] #[tT,tT,tT,tT,tT,tT,tT,fF,fF,fF,fF,tT,fF,fF] rfl rfl rfl rfl (two_of HT_.out (by kernel_rfl)) (by decide) (by decide) (fun K hK => ?_) (fun K hK => ?_)
      ·skip
       refine goes_ Try.func59 (by kernel_rfl) rfl #[.agg #[.int .i64 t168,.int .i64 t169,.int .i64 t170,.int .i64 t171],.agg #[.int .i64 t172,.int .i64 t173,.int .i64 t174,.int .i64 t175]] (by rfl) rfl rfl (by (try simp only [List.map_toArray,List.map_cons,List.map_nil]); first|done|rfl|(simp only [List.length_drop,List.length_take]; rfl)) ?_
       with_reducible refine (spec_AddIntervals.calls kj2 t168 t169 t170 t171 t172 t173 t174 t175 t176 t177 t178 t179 true _ A20.out).mono ?_
       rintro e w28 ⟨rfl,hb⟩
       refine ⟨_,rfl,?_⟩
       have n0_:=Aside0.mk (kB (g:=gb164) (o:=.cells #[.slice A0_0 l0_0.length c0_0] 42 (0,0)) BK164.out hb)
       have n1_:=Aside0.mk (kB (g:=gb165) (o:=.cells #[.int .i64 0,.int .i64 0,.int .i64 0,.int .i64 0] 50 (0,0)) BK165.out hb)
       have n2_:=Aside0.mk (below_step (by repeat (first|(with_reducible first|exact HB.out|apply bA|apply bD|apply bE|refine bS ?_ GE164.out|refine bS ?_ GE165.out)|exact HB.out)) hb)
       clear BK164
       clear BK165
       clear HB
       have BK164:=n0_
       have BK165:=n1_
       have HB:=n2_
       clear n0_ n1_ n2_
       (try clear hb)
       (try clear hb2)
       (try clear hk)
       (try clear hi)
       refine hK.out _ _ ((kC BK164.out 0).trans rfl) (fun hHeld => ?_)
       clear hK K
       refine norm_ (a':=?_) ?_ ?_
       rotate_left
       ·show Act.put _ (some 26) _ = _
        simp only [Act.put,lS,lZ,lC,i64_w,i32_w]
        rfl
       refine pure_ (i:=8) (N:=some 18) (v:=?_) (a':=?_) #[tT,tT,tT,tT,tT,tT,tT,tT,tT,fF,fF,fF,fF,fF] rfl rfl (any_of HT_.out (by kernel_rfl)) (fun _ _ _ h => h) (Or.inl ⟨by rfl,?_⟩) ?_ ?_
       rotate_left
       ·intro w'
        go_simp
        first|(with_reducible rfl)|(simp only [Instr.field,go_sem, *]; rfl)
       rotate_left
       ·simp only [Act.put,lS,lZ,lC,i64_w,i32_w]
        rfl
       refine pure_ (i:=9) (N:=some 27) (v:=?_) (a':=?_) #[tT,tT,tT,tT,tT,tT,tT,tT,tT,tT,fF,fF,fF,fF] rfl rfl (any_of HT_.out (by kernel_rfl)) (fun _ _ _ h => h) (Or.inl ⟨by rfl,?_⟩) ?_ ?_
       rotate_left
       ·intro w'
        go_simp
        first|(with_reducible rfl)|(simp only [Instr.field,go_sem, *]; rfl)
       rotate_left
       ·simp only [Act.put,lS,lZ,lC,i64_w,i32_w]
        rfl
       refine pure_ (i:=10) (N:=some 28) (v:=?_) (a':=?_) #[tT,tT,tT,tT,tT,tT,tT,tT,tT,tT,tT,fF,fF,fF] rfl rfl (any_of HT_.out (by kernel_rfl)) (fun _ _ _ h => h) (Or.inl ⟨by rfl,?_⟩) ?_ ?_
       rotate_left
       ·intro w'
        go_simp
        first|(with_reducible rfl)|(simp only [Instr.field,go_sem, *]; rfl)
       rotate_left
       ·simp only [Act.put,lS,lZ,lC,i64_w,i32_w]
        rfl
       refine one_ (i:=11) (N:=some 5) #[tT,tT,tT,tT,tT,tT,tT,tT,tT,tT,tT,tT,fF,fF] rfl rfl (one_of HT_.out (by kernel_rfl)) (by decide) (fun K hK => ?_)
       refine box_step ?hg (N:=5) ?hd (cs:=#[.int .i64 0,.int .i64 0,.int .i64 0,.int .i64 0]) (t:=50) ?hr ?_; (case hd => rfl); (case hg => rfl); (case hr => first|(go_simp; done)|(go_simp; rfl))
       intro gb181 hg w29 hbox hb
       have n0_:=Aside0.mk (kB (g:=gb164) (o:=.cells #[.slice A0_0 l0_0.length c0_0] 42 (0,0)) BK164.out hb)
       have n1_:=Aside0.mk (kB (g:=gb165) (o:=.cells #[.int .i64 0,.int .i64 0,.int .i64 0,.int .i64 0] 50 (0,0)) BK165.out hb)
       have n2_:=Aside0.mk (below_step (by repeat (first|(with_reducible first|exact HB.out|apply bA|apply bD|apply bE|refine bS ?_ GE164.out|refine bS ?_ GE165.out)|exact HB.out)) hb)
       have n3_:=Aside0.mk (hbox)
       have n4_:=Aside0.mk ((by rw [hg]; exact (below_size (by repeat (first|(with_reducible first|exact HB.out|apply bA|apply bD|apply bE|refine bS ?_ GE164.out|refine bS ?_ GE165.out)|exact HB.out))) : w.heap.size ≤ gb181))
       have n5_:=Aside0.mk ((by rw [hg]; exact (below_size (by repeat (first|(with_reducible first|exact HB.out|apply bA|apply bD|apply bE|refine bS ?_ GE164.out|refine bS ?_ GE165.out)|exact HB.out))) : w.heap.size ≤ gb181))
       have n6_:=Aside0.mk ((by rw [hg]; exact Nat.ne_of_lt (blk_lt (g:=gb164) (o:=.cells #[.slice A0_0 l0_0.length c0_0] 42 (0,0)) BK164.out) : gb164 ≠ gb181))
       have n7_:=Aside0.mk ((by rw [hg]; exact Nat.ne_of_gt (blk_lt (g:=gb164) (o:=.cells #[.slice A0_0 l0_0.length c0_0] 42 (0,0)) BK164.out) : gb181 ≠ gb164))
       have n8_:=Aside0.mk ((by rw [hg]; exact Nat.ne_of_lt (blk_lt (g:=gb165) (o:=.cells #[.int .i64 0,.int .i64 0,.int .i64 0,.int .i64 0] 50 (0,0)) BK165.out) : gb165 ≠ gb181))
       have n9_:=Aside0.mk ((by rw [hg]; exact Nat.ne_of_gt (blk_lt (g:=gb165) (o:=.cells #[.int .i64 0,.int .i64 0,.int .i64 0,.int .i64 0] 50 (0,0)) BK165.out) : gb181 ≠ gb165))
       clear BK164
       clear BK165
       clear HB
       have BK164:=n0_
       have BK165:=n1_
       have HB:=n2_
       have BK181:=n3_
       have GW181:=n4_
       have GE181:=n5_
       have NB164_181:=n6_
       have NB181_164:=n7_
       have NB165_181:=n8_
       have NB181_165:=n9_
       clear n0_ n1_ n2_ n3_ n4_ n5_ n6_ n7_ n8_ n9_
       clear hb hbox hg
       refine hK.out _ _ ((kC BK164.out 0).trans rfl) (fun hHeld => ?_)
       clear hK K
       refine norm_ (a':=?_) ?_ ?_
       rotate_left
       ·show Act.put _ (some 5) _ = _
        simp only [Act.put,lS,lZ,lC,i64_w,i32_w]
        rfl
       exact norm_ (by simp only [putAll,Act.put,lS,lZ,lC]) (hCont (gb181) _ ⟨hHeld,BK164.out,BK165.out,BK181.out,GW181.out,GE181.out,NB164_181.out,NB181_164.out,NB165_181.out,NB181_165.out,(by repeat (first|(with_reducible first|exact HB.out|apply bA|apply bD|apply bE|refine bS ?_ GE164.out|refine bS ?_ GE165.out|refine bS ?_ GE181.out)|exact HB.out))⟩)
      ·skip
       refine box_step ?hg (N:=5) ?hd (cs:=#[.int .i64 0,.int .i64 0,.int .i64 0,.int .i64 0]) (t:=50) ?hr ?_; (case hd => rfl); (case hg => rfl); (case hr => first|(go_simp; done)|(go_simp; rfl))
       intro gb181 hg w28 hbox hb
       have n0_:=Aside0.mk (kB (g:=gb164) (o:=.cells #[.slice A0_0 l0_0.length c0_0] 42 (0,0)) BK164.out hb)
       have n1_:=Aside0.mk (kB (g:=gb165) (o:=.cells #[.int .i64 0,.int .i64 0,.int .i64 0,.int .i64 0] 50 (0,0)) BK165.out hb)
       have n2_:=Aside0.mk (below_step (by repeat (first|(with_reducible first|exact HB.out|apply bA|apply bD|apply bE|refine bS ?_ GE164.out|refine bS ?_ GE165.out)|exact HB.out)) hb)
       have n3_:=Aside0.mk (hbox)
       have n4_:=Aside0.mk ((by rw [hg]; exact (below_size (by repeat (first|(with_reducible first|exact HB.out|apply bA|apply bD|apply bE|refine bS ?_ GE164.out|refine bS ?_ GE165.out)|exact HB.out))) : w.heap.size ≤ gb181))
       have n5_:=Aside0.mk ((by rw [hg]; exact (below_size (by repeat (first|(with_reducible first|exact HB.out|apply bA|apply bD|apply bE|refine bS ?_ GE164.out|refine bS ?_ GE165.out)|exact HB.out))) : w.heap.size ≤ gb181))
       have n6_:=Aside0.mk ((by rw [hg]; exact Nat.ne_of_lt (blk_lt (g:=gb164) (o:=.cells #[.slice A0_0 l0_0.length c0_0] 42 (0,0)) BK164.out) : gb164 ≠ gb181))
       have n7_:=Aside0.mk ((by rw [hg]; exact Nat.ne_of_gt (blk_lt (g:=gb164) (o:=.cells #[.slice A0_0 l0_0.length c0_0] 42 (0,0)) BK164.out) : gb181 ≠ gb164))
       have n8_:=Aside0.mk ((by rw [hg]; exact Nat.ne_of_lt (blk_lt (g:=gb165) (o:=.cells #[.int .i64 0,.int .i64 0,.int .i64 0,.int .i64 0] 50 (0,0)) BK165.out) : gb165 ≠ gb181))
       have n9_:=Aside0.mk ((by rw [hg]; exact Nat.ne_of_gt (blk_lt (g:=gb165) (o:=.cells #[.int .i64 0,.int .i64 0,.int .i64 0,.int .i64 0] 50 (0,0)) BK165.out) : gb181 ≠ gb165))
       clear BK164
       clear BK165
       clear HB
       have BK164:=n0_
       have BK165:=n1_
       have HB:=n2_
       have BK181:=n3_
       have GW181:=n4_
       have GE181:=n5_
       have NB164_181:=n6_
       have NB181_164:=n7_
       have NB165_181:=n8_
       have NB181_165:=n9_
       clear n0_ n1_ n2_ n3_ n4_ n5_ n6_ n7_ n8_ n9_
       clear hb hbox hg
       refine hK.out _ _ ((kC BK164.out 0).trans rfl) (fun hHeld => ?_)
       clear hK K
       refine norm_ (a':=?_) ?_ ?_
       rotate_left
       ·show Act.put _ (some 5) _ = _
        simp only [Act.put,lS,lZ,lC,i64_w,i32_w]
        rfl
       refine one_ (i:=7) (N:=some 26) #[tT,tT,tT,tT,tT,tT,tT,tT,fF,fF,fF,tT,fF,fF] rfl rfl (one_of HT_.out (by kernel_rfl)) (by decide) (fun K hK => ?_)
       refine goes_ Try.func59 (by kernel_rfl) rfl #[.agg #[.int .i64 t168,.int .i64 t169,.int .i64 t170,.int .i64 t171],.agg #[.int .i64 t172,.int .i64 t173,.int .i64 t174,.int .i64 t175]] (by rfl) rfl rfl (by (try simp only [List.map_toArray,List.map_cons,List.map_nil]); first|done|rfl|(simp only [List.length_drop,List.length_take]; rfl)) ?_
       with_reducible refine (spec_AddIntervals.calls kj2 t168 t169 t170 t171 t172 t173 t174 t175 t176 t177 t178 t179 true _ A20.out).mono ?_
       rintro e w29 ⟨rfl,hb⟩
       refine ⟨_,rfl,?_⟩
       have n0_:=Aside0.mk (kB (g:=gb164) (o:=.cells #[.slice A0_0 l0_0.length c0_0] 42 (0,0)) BK164.out hb)
       have n1_:=Aside0.mk (kB (g:=gb165) (o:=.cells #[.int .i64 0,.int .i64 0,.int .i64 0,.int .i64 0] 50 (0,0)) BK165.out hb)
       have n2_:=Aside0.mk (kB (g:=gb181) (o:=.cells #[.int .i64 0,.int .i64 0,.int .i64 0,.int .i64 0] 50 (0,0)) BK181.out hb)
       have n3_:=Aside0.mk (below_step (by repeat (first|(with_reducible first|exact HB.out|apply bA|apply bD|apply bE|refine bS ?_ GE164.out|refine bS ?_ GE165.out|refine bS ?_ GE181.out)|exact HB.out)) hb)
       clear BK164
       clear BK165
       clear BK181
       clear HB
       have BK164:=n0_
       have BK165:=n1_
       have BK181:=n2_
       have HB:=n3_
       clear n0_ n1_ n2_ n3_
       (try clear hb)
       (try clear hb2)
       (try clear hk)
       (try clear hi)
       refine hK.out _ _ ((kC BK164.out 0).trans rfl) (fun hHeld => ?_)
       clear hK K
       refine norm_ (a':=?_) ?_ ?_
       rotate_left
       ·show Act.put _ (some 26) _ = _
        simp only [Act.put,lS,lZ,lC,i64_w,i32_w]
        rfl
       refine pure_ (i:=8) (N:=some 18) (v:=?_) (a':=?_) #[tT,tT,tT,tT,tT,tT,tT,tT,tT,fF,fF,tT,fF,fF] rfl rfl (any_of HT_.out (by kernel_rfl)) (fun _ _ _ h => h) (Or.inl ⟨by rfl,?_⟩) ?_ ?_
       rotate_left
       ·intro w'
        go_simp
        first|(with_reducible rfl)|(simp only [Instr.field,go_sem, *]; rfl)
       rotate_left
       ·simp only [Act.put,lS,lZ,lC,i64_w,i32_w]
        rfl
       refine pure_ (i:=9) (N:=some 27) (v:=?_) (a':=?_) #[tT,tT,tT,tT,tT,tT,tT,tT,tT,tT,fF,tT,fF,fF] rfl rfl (any_of HT_.out (by kernel_rfl)) (fun _ _ _ h => h) (Or.inl ⟨by rfl,?_⟩) ?_ ?_
       rotate_left
       ·intro w'
        go_simp
        first|(with_reducible rfl)|(simp only [Instr.field,go_sem, *]; rfl)
       rotate_left
       ·simp only [Act.put,lS,lZ,lC,i64_w,i32_w]
        rfl
       refine pure_ (i:=10) (N:=some 28) (v:=?_) (a':=?_) #[tT,tT,tT,tT,tT,tT,tT,tT,tT,tT,tT,tT,fF,fF] rfl rfl (any_of HT_.out (by kernel_rfl)) (fun _ _ _ h => h) (Or.inl ⟨by rfl,?_⟩) ?_ ?_
       rotate_left
       ·intro w'
        go_simp
        first|(with_reducible rfl)|(simp only [Instr.field,go_sem, *]; rfl)
       rotate_left
       ·simp only [Act.put,lS,lZ,lC,i64_w,i32_w]
        rfl
       exact norm_ (by simp only [putAll,Act.put,lS,lZ,lC]) (hCont (gb181) _ ⟨hHeld,BK164.out,BK165.out,BK181.out,GW181.out,GE181.out,NB164_181.out,NB181_164.out,NB165_181.out,NB181_165.out,(by repeat (first|(with_reducible first|exact HB.out|apply bA|apply bD|apply bE|refine bS ?_ GE164.out|refine bS ?_ GE165.out|refine bS ?_ GE181.out)|exact HB.out))⟩)
     ·skip
      refine box_step ?hg (N:=5) ?hd (cs:=#[.int .i64 0,.int .i64 0,.int .i64 0,.int .i64 0]) (t:=50) ?hr ?_; (case hd => rfl); (case hg => rfl); (case hr => first|(go_simp; done)|(go_simp; rfl))
      intro gb181 hg w27 hbox hb
      have n0_:=Aside0.mk (kB (g:=gb164) (o:=.cells #[.slice A0_0 l0_0.length c0_0] 42 (0,0)) BK164.out hb)
      have n1_:=Aside0.mk (kB (g:=gb165) (o:=.cells #[.int .i64 0,.int .i64 0,.int .i64 0,.int .i64 0] 50 (0,0)) BK165.out hb)
      have n2_:=Aside0.mk (below_step (by repeat (first|(with_reducible first|exact HB.out|apply bA|apply bD|apply bE|refine bS ?_ GE164.out|refine bS ?_ GE165.out)|exact HB.out)) hb)
      have n3_:=Aside0.mk (hbox)
      have n4_:=Aside0.mk ((by rw [hg]; exact (below_size (by repeat (first|(with_reducible first|exact HB.out|apply bA|apply bD|apply bE|refine bS ?_ GE164.out|refine bS ?_ GE165.out)|exact HB.out))) : w.heap.size ≤ gb181))
      have n5_:=Aside0.mk ((by rw [hg]; exact (below_size (by repeat (first|(with_reducible first|exact HB.out|apply bA|apply bD|apply bE|refine bS ?_ GE164.out|refine bS ?_ GE165.out)|exact HB.out))) : w.heap.size ≤ gb181))
      have n6_:=Aside0.mk ((by rw [hg]; exact Nat.ne_of_lt (blk_lt (g:=gb164) (o:=.cells #[.slice A0_0 l0_0.length c0_0] 42 (0,0)) BK164.out) : gb164 ≠ gb181))
      have n7_:=Aside0.mk ((by rw [hg]; exact Nat.ne_of_gt (blk_lt (g:=gb164) (o:=.cells #[.slice A0_0 l0_0.length c0_0] 42 (0,0)) BK164.out) : gb181 ≠ gb164))
      have n8_:=Aside0.mk ((by rw [hg]; exact Nat.ne_of_lt (blk_lt (g:=gb165) (o:=.cells #[.int .i64 0,.int .i64 0,.int .i64 0,.int .i64 0] 50 (0,0)) BK165.out) : gb165 ≠ gb181))
      have n9_:=Aside0.mk ((by rw [hg]; exact Nat.ne_of_gt (blk_lt (g:=gb165) (o:=.cells #[.int .i64 0,.int .i64 0,.int .i64 0,.int .i64 0] 50 (0,0)) BK165.out) : gb181 ≠ gb165))
      clear BK164
      clear BK165
      clear HB
      have BK164:=n0_
      have BK165:=n1_
      have HB:=n2_
      have BK181:=n3_
      have GW181:=n4_
      have GE181:=n5_
      have NB164_181:=n6_
      have NB181_164:=n7_
      have NB165_181:=n8_
      have NB181_165:=n9_
      clear n0_ n1_ n2_ n3_ n4_ n5_ n6_ n7_ n8_ n9_
      clear hb hbox hg
      refine hK.out _ _ ((kC BK164.out 0).trans rfl) (fun hHeld => ?_)
      clear hK K
      refine norm_ (a':=?_) ?_ ?_
      rotate_left
      ·show Act.put _ (some 5) _ = _
       simp only [Act.put,lS,lZ,lC,i64_w,i32_w]
       rfl
      refine one_ (i:=6) (N:=some 25) #[tT,tT,tT,tT,tT,tT,tT,fF,fF,fF,fF,tT,fF,fF] rfl rfl (one_of HT_.out (by kernel_rfl)) (by decide) (fun K hK => ?_)
      refine goes_ Try.func60 (by kernel_rfl) rfl #[.agg #[.slice A0_0 l0_0.length c0_0],.int .i64 (wrap64 (a1 + 4))] (by rfl) rfl rfl (by (try simp only [List.map_toArray,List.map_cons,List.map_nil]); first|done|rfl|(simp only [List.length_drop,List.length_take]; rfl)) ?_
      with_reducible refine (spec_ThirdAt.calls kj2 _ _ l0_0 (wrap64 (a1 + 4)) t172 t173 t174 t175 _ ?side1 ?side2 A19.out).mono ?_
      (case side1 => repeat (first|exact (Kd.C_below HR0_0.out HB.out)|(with_reducible refine Kd.C_alloc ?_ _)|(with_reducible refine Kd.C_drewN ?_ _)|(with_reducible refine Kd.C_drew ?_)))
      (case side2 => exact HC0_0.out)
      rintro e w28 ⟨rfl,hb⟩
      refine ⟨_,rfl,?_⟩
      have n0_:=Aside0.mk (kB (g:=gb164) (o:=.cells #[.slice A0_0 l0_0.length c0_0] 42 (0,0)) BK164.out hb)
      have n1_:=Aside0.mk (kB (g:=gb165) (o:=.cells #[.int .i64 0,.int .i64 0,.int .i64 0,.int .i64 0] 50 (0,0)) BK165.out hb)
      have n2_:=Aside0.mk (kB (g:=gb181) (o:=.cells #[.int .i64 0,.int .i64 0,.int .i64 0,.int .i64 0] 50 (0,0)) BK181.out hb)
      have n3_:=Aside0.mk (below_step (by repeat (first|(with_reducible first|exact HB.out|apply bA|apply bD|apply bE|refine bS ?_ GE164.out|refine bS ?_ GE165.out|refine bS ?_ GE181.out)|exact HB.out)) hb)
      clear BK164
      clear BK165
      clear BK181
      clear HB
      have BK164:=n0_
      have BK165:=n1_
      have BK181:=n2_
      have HB:=n3_
      clear n0_ n1_ n2_ n3_
      (try clear hb)
      (try clear hb2)
      (try clear hk)
      (try clear hi)
      refine hK.out _ _ ((kC BK164.out 0).trans rfl) (fun hHeld => ?_)
      clear hK K
      refine norm_ (a':=?_) ?_ ?_
      rotate_left
      ·show Act.put _ (some 25) _ = _
       simp only [Act.put,lS,lZ,lC,i64_w,i32_w]
       rfl
      refine one_ (i:=7) (N:=some 26) #[tT,tT,tT,tT,tT,tT,tT,tT,fF,fF,fF,tT,fF,fF] rfl rfl (one_of HT_.out (by kernel_rfl)) (by decide) (fun K hK => ?_)
      refine goes_ Try.func59 (by kernel_rfl) rfl #[.agg #[.int .i64 t168,.int .i64 t169,.int .i64 t170,.int .i64 t171],.agg #[.int .i64 t172,.int .i64 t173,.int .i64 t174,.int .i64 t175]] (by rfl) rfl rfl (by (try simp only [List.map_toArray,List.map_cons,List.map_nil]); first|done|rfl|(simp only [List.length_drop,List.length_take]; rfl)) ?_
      with_reducible refine (spec_AddIntervals.calls kj2 t168 t169 t170 t171 t172 t173 t174 t175 t176 t177 t178 t179 true _ A20.out).mono ?_
      rintro e w29 ⟨rfl,hb⟩
      refine ⟨_,rfl,?_⟩
      have n0_:=Aside0.mk (kB (g:=gb164) (o:=.cells #[.slice A0_0 l0_0.length c0_0] 42 (0,0)) BK164.out hb)
      have n1_:=Aside0.mk (kB (g:=gb165) (o:=.cells #[.int .i64 0,.int .i64 0,.int .i64 0,.int .i64 0] 50 (0,0)) BK165.out hb)
      have n2_:=Aside0.mk (kB (g:=gb181) (o:=.cells #[.int .i64 0,.int .i64 0,.int .i64 0,.int .i64 0] 50 (0,0)) BK181.out hb)
      have n3_:=Aside0.mk (below_step (by repeat (first|(with_reducible first|exact HB.out|apply bA|apply bD|apply bE|refine bS ?_ GE164.out|refine bS ?_ GE165.out|refine bS ?_ GE181.out)|exact HB.out)) hb)
      clear BK164
      clear BK165
      clear BK181
      clear HB
      have BK164:=n0_
      have BK165:=n1_
      have BK181:=n2_
      have HB:=n3_
      clear n0_ n1_ n2_ n3_
      (try clear hb)
      (try clear hb2)
      (try clear hk)
      (try clear hi)
      refine hK.out _ _ ((kC BK164.out 0).trans rfl) (fun hHeld => ?_)
      clear hK K
      refine norm_ (a':=?_) ?_ ?_
      rotate_left
      ·show Act.put _ (some 26) _ = _
       simp only [Act.put,lS,lZ,lC,i64_w,i32_w]
       rfl
      refine pure_ (i:=8) (N:=some 18) (v:=?_) (a':=?_) #[tT,tT,tT,tT,tT,tT,tT,tT,tT,fF,fF,tT,fF,fF] rfl rfl (any_of HT_.out (by kernel_rfl)) (fun _ _ _ h => h) (Or.inl ⟨by rfl,?_⟩) ?_ ?_
      rotate_left
      ·intro w'
       go_simp
       first|(with_reducible rfl)|(simp only [Instr.field,go_sem, *]; rfl)
      rotate_left
      ·simp only [Act.put,lS,lZ,lC,i64_w,i32_w]
       rfl
      refine pure_ (i:=9) (N:=some 27) (v:=?_) (a':=?_) #[tT,tT,tT,tT,tT,tT,tT,tT,tT,tT,fF,tT,fF,fF] rfl rfl (any_of HT_.out (by kernel_rfl)) (fun _ _ _ h => h) (Or.inl ⟨by rfl,?_⟩) ?_ ?_
      rotate_left
      ·intro w'
       go_simp
       first|(with_reducible rfl)|(simp only [Instr.field,go_sem, *]; rfl)
      rotate_left
      ·simp only [Act.put,lS,lZ,lC,i64_w,i32_w]
       rfl
      refine pure_ (i:=10) (N:=some 28) (v:=?_) (a':=?_) #[tT,tT,tT,tT,tT,tT,tT,tT,tT,tT,tT,tT,fF,fF] rfl rfl (any_of HT_.out (by kernel_rfl)) (fun _ _ _ h => h) (Or.inl ⟨by rfl,?_⟩) ?_ ?_
      rotate_left
      ·intro w'
       go_simp
       first|(with_reducible rfl)|(simp only [Instr.field,go_sem, *]; rfl)
      rotate_left
      ·simp only [Act.put,lS,lZ,lC,i64_w,i32_w]
       rfl
      exact norm_ (by simp only [putAll,Act.put,lS,lZ,lC]) (hCont (gb181) _ ⟨hHeld,BK164.out,BK165.out,BK181.out,GW181.out,GE181.out,NB164_181.out,NB181_164.out,NB165_181.out,NB181_165.out,(by repeat (first|(with_reducible first|exact HB.out|apply bA|apply bD|apply bE|refine bS ?_ GE164.out|refine bS ?_ GE165.out|refine bS ?_ GE181.out)|exact HB.out))⟩)
    ·skip
     refine box_step ?hg (N:=5) ?hd (cs:=#[.int .i64 0,.int .i64 0,.int .i64 0,.int .i64 0]) (t:=50) ?hr ?_; (case hd => rfl); (case hg => rfl); (case hr => first|(go_simp; done)|(go_simp; rfl))
     intro gb181 hg w26 hbox hb
     have n0_:=Aside0.mk (kB (g:=gb164) (o:=.cells #[.slice A0_0 l0_0.length c0_0] 42 (0,0)) BK164.out hb)
     have n1_:=Aside0.mk (kB (g:=gb165) (o:=.cells #[.int .i64 0,.int .i64 0,.int .i64 0,.int .i64 0] 50 (0,0)) BK165.out hb)
     have n2_:=Aside0.mk (below_step (by repeat (first|(with_reducible first|exact HB.out|apply bA|apply bD|apply bE|refine bS ?_ GE164.out|refine bS ?_ GE165.out)|exact HB.out)) hb)
     have n3_:=Aside0.mk (hbox)
     have n4_:=Aside0.mk ((by rw [hg]; exact (below_size (by repeat (first|(with_reducible first|exact HB.out|apply bA|apply bD|apply bE|refine bS ?_ GE164.out|refine bS ?_ GE165.out)|exact HB.out))) : w.heap.size ≤ gb181))
     have n5_:=Aside0.mk ((by rw [hg]; exact (below_size (by repeat (first|(with_reducible first|exact HB.out|apply bA|apply bD|apply bE|refine bS ?_ GE164.out|refine bS ?_ GE165.out)|exact HB.out))) : w.heap.size ≤ gb181))
     have n6_:=Aside0.mk ((by rw [hg]; exact Nat.ne_of_lt (blk_lt (g:=gb164) (o:=.cells #[.slice A0_0 l0_0.length c0_0] 42 (0,0)) BK164.out) : gb164 ≠ gb181))
     have n7_:=Aside0.mk ((by rw [hg]; exact Nat.ne_of_gt (blk_lt (g:=gb164) (o:=.cells #[.slice A0_0 l0_0.length c0_0] 42 (0,0)) BK164.out) : gb181 ≠ gb164))
     have n8_:=Aside0.mk ((by rw [hg]; exact Nat.ne_of_lt (blk_lt (g:=gb165) (o:=.cells #[.int .i64 0,.int .i64 0,.int .i64 0,.int .i64 0] 50 (0,0)) BK165.out) : gb165 ≠ gb181))
     have n9_:=Aside0.mk ((by rw [hg]; exact Nat.ne_of_gt (blk_lt (g:=gb165) (o:=.cells #[.int .i64 0,.int .i64 0,.int .i64 0,.int .i64 0] 50 (0,0)) BK165.out) : gb181 ≠ gb165))
     clear BK164
     clear BK165
     clear HB
     have BK164:=n0_
     have BK165:=n1_
     have HB:=n2_
     have BK181:=n3_
     have GW181:=n4_
     have GE181:=n5_
     have NB164_181:=n6_
     have NB181_164:=n7_
     have NB165_181:=n8_
     have NB181_165:=n9_
     clear n0_ n1_ n2_ n3_ n4_ n5_ n6_ n7_ n8_ n9_
     clear hb hbox hg
     refine hK.out _ _ ((kC BK164.out 0).trans rfl) (fun hHeld => ?_)
     clear hK K
     refine norm_ (a':=?_) ?_ ?_
     rotate_left
     ·show Act.put _ (some 5) _ = _
      simp only [Act.put,lS,lZ,lC,i64_w,i32_w]
      rfl
     refine one_ (i:=2) (N:=some 21) #[tT,tT,tT,tT,tT,tT,fF,fF,fF,fF,fF,tT,fF,fF] rfl rfl (one_of HT_.out (by kernel_rfl)) (by decide) (fun K hK => ?_)
     refine goes_ Try.func60 (by kernel_rfl) rfl #[.agg #[.slice A0_0 l0_0.length c0_0],.int .i64 a1] (by rfl) rfl rfl (by (try simp only [List.map_toArray,List.map_cons,List.map_nil]); first|done|rfl|(simp only [List.length_drop,List.length_take]; rfl)) ?_
     with_reducible refine (spec_ThirdAt.calls kj2 _ _ l0_0 a1 t168 t169 t170 t171 _ ?side1 ?side2 A18.out).mono ?_
     (case side1 => repeat (first|exact (Kd.C_below HR0_0.out HB.out)|(with_reducible refine Kd.C_alloc ?_ _)|(with_reducible refine Kd.C_drewN ?_ _)|(with_reducible refine Kd.C_drew ?_)))
     (case side2 => exact HC0_0.out)
     rintro e w27 ⟨rfl,hb⟩
     refine ⟨_,rfl,?_⟩
     have n0_:=Aside0.mk (kB (g:=gb164) (o:=.cells #[.slice A0_0 l0_0.length c0_0] 42 (0,0)) BK164.out hb)
     have n1_:=Aside0.mk (kB (g:=gb165) (o:=.cells #[.int .i64 0,.int .i64 0,.int .i64 0,.int .i64 0] 50 (0,0)) BK165.out hb)
     have n2_:=Aside0.mk (kB (g:=gb181) (o:=.cells #[.int .i64 0,.int .i64 0,.int .i64 0,.int .i64 0] 50 (0,0)) BK181.out hb)
     have n3_:=Aside0.mk (below_step (by repeat (first|(with_reducible first|exact HB.out|apply bA|apply bD|apply bE|refine bS ?_ GE164.out|refine bS ?_ GE165.out|refine bS ?_ GE181.out)|exact HB.out)) hb)
     clear BK164
     clear BK165
     clear BK181
     clear HB
     have BK164:=n0_
     have BK165:=n1_
     have BK181:=n2_
     have HB:=n3_
     clear n0_ n1_ n2_ n3_
     (try clear hb)
     (try clear hb2)
     (try clear hk)
     (try clear hi)
     refine hK.out _ _ ((kC BK164.out 0).trans rfl) (fun hHeld => ?_)
     clear hK K
     refine norm_ (a':=?_) ?_ ?_
     rotate_left
     ·show Act.put _ (some 21) _ = _
      simp only [Act.put,lS,lZ,lC,i64_w,i32_w]
      rfl
     refine one_ (i:=6) (N:=some 25) #[tT,tT,tT,tT,tT,tT,tT,fF,fF,fF,fF,tT,fF,fF] rfl rfl (one_of HT_.out (by kernel_rfl)) (by decide) (fun K hK => ?_)
     refine goes_ Try.func60 (by kernel_rfl) rfl #[.agg #[.slice A0_0 l0_0.length c0_0],.int .i64 (wrap64 (a1 + 4))] (by rfl) rfl rfl (by (try simp only [List.map_toArray,List.map_cons,List.map_nil]); first|done|rfl|(simp only [List.length_drop,List.length_take]; rfl)) ?_
     with_reducible refine (spec_ThirdAt.calls kj2 _ _ l0_0 (wrap64 (a1 + 4)) t172 t173 t174 t175 _ ?side1 ?side2 A19.out).mono ?_
     (case side1 => repeat (first|exact (Kd.C_below HR0_0.out HB.out)|(with_reducible refine Kd.C_alloc ?_ _)|(with_reducible refine Kd.C_drewN ?_ _)|(with_reducible refine Kd.C_drew ?_)))
     (case side2 => exact HC0_0.out)
     rintro e w28 ⟨rfl,hb⟩
     refine ⟨_,rfl,?_⟩
     have n0_:=Aside0.mk (kB (g:=gb164) (o:=.cells #[.slice A0_0 l0_0.length c0_0] 42 (0,0)) BK164.out hb)
     have n1_:=Aside0.mk (kB (g:=gb165) (o:=.cells #[.int .i64 0,.int .i64 0,.int .i64 0,.int .i64 0] 50 (0,0)) BK165.out hb)
     have n2_:=Aside0.mk (kB (g:=gb181) (o:=.cells #[.int .i64 0,.int .i64 0,.int .i64 0,.int .i64 0] 50 (0,0)) BK181.out hb)
     have n3_:=Aside0.mk (below_step (by repeat (first|(with_reducible first|exact HB.out|apply bA|apply bD|apply bE|refine bS ?_ GE164.out|refine bS ?_ GE165.out|refine bS ?_ GE181.out)|exact HB.out)) hb)
     clear BK164
     clear BK165
     clear BK181
     clear HB
     have BK164:=n0_
     have BK165:=n1_
     have BK181:=n2_
     have HB:=n3_
     clear n0_ n1_ n2_ n3_
     (try clear hb)
     (try clear hb2)
     (try clear hk)
     (try clear hi)
     refine hK.out _ _ ((kC BK164.out 0).trans rfl) (fun hHeld => ?_)
     clear hK K
     refine norm_ (a':=?_) ?_ ?_
     rotate_left
     ·show Act.put _ (some 25) _ = _
      simp only [Act.put,lS,lZ,lC,i64_w,i32_w]
      rfl
     refine one_ (i:=7) (N:=some 26) #[tT,tT,tT,tT,tT,tT,tT,tT,fF,fF,fF,tT,fF,fF] rfl rfl (one_of HT_.out (by kernel_rfl)) (by decide) (fun K hK => ?_)
     refine goes_ Try.func59 (by kernel_rfl) rfl #[.agg #[.int .i64 t168,.int .i64 t169,.int .i64 t170,.int .i64 t171],.agg #[.int .i64 t172,.int .i64 t173,.int .i64 t174,.int .i64 t175]] (by rfl) rfl rfl (by (try simp only [List.map_toArray,List.map_cons,List.map_nil]); first|done|rfl|(simp only [List.length_drop,List.length_take]; rfl)) ?_
     with_reducible refine (spec_AddIntervals.calls kj2 t168 t169 t170 t171 t172 t173 t174 t175 t176 t177 t178 t179 true _ A20.out).mono ?_
     rintro e w29 ⟨rfl,hb⟩
     refine ⟨_,rfl,?_⟩
     have n0_:=Aside0.mk (kB (g:=gb164) (o:=.cells #[.slice A0_0 l0_0.length c0_0] 42 (0,0)) BK164.out hb)
     have n1_:=Aside0.mk (kB (g:=gb165) (o:=.cells #[.int .i64 0,.int .i64 0,.int .i64 0,.int .i64 0] 50 (0,0)) BK165.out hb)
     have n2_:=Aside0.mk (kB (g:=gb181) (o:=.cells #[.int .i64 0,.int .i64 0,.int .i64 0,.int .i64 0] 50 (0,0)) BK181.out hb)
     have n3_:=Aside0.mk (below_step (by repeat (first|(with_reducible first|exact HB.out|apply bA|apply bD|apply bE|refine bS ?_ GE164.out|refine bS ?_ GE165.out|refine bS ?_ GE181.out)|exact HB.out)) hb)
     clear BK164
     clear BK165
     clear BK181
     clear HB
     have BK164:=n0_
     have BK165:=n1_
     have BK181:=n2_
     have HB:=n3_
     clear n0_ n1_ n2_ n3_
     (try clear hb)
     (try clear hb2)
     (try clear hk)
     (try clear hi)
     refine hK.out _ _ ((kC BK164.out 0).trans rfl) (fun hHeld => ?_)
     clear hK K
     refine norm_ (a':=?_) ?_ ?_
     rotate_left
     ·show Act.put _ (some 26) _ = _
      simp only [Act.put,lS,lZ,lC,i64_w,i32_w]
      rfl
     refine pure_ (i:=8) (N:=some 18) (v:=?_) (a':=?_) #[tT,tT,tT,tT,tT,tT,tT,tT,tT,fF,fF,tT,fF,fF] rfl rfl (any_of HT_.out (by kernel_rfl)) (fun _ _ _ h => h) (Or.inl ⟨by rfl,?_⟩) ?_ ?_
     rotate_left
     ·intro w'
      go_simp
      first|(with_reducible rfl)|(simp only [Instr.field,go_sem, *]; rfl)
     rotate_left
     ·simp only [Act.put,lS,lZ,lC,i64_w,i32_w]
      rfl
     refine pure_ (i:=9) (N:=some 27) (v:=?_) (a':=?_) #[tT,tT,tT,tT,tT,tT,tT,tT,tT,tT,fF,tT,fF,fF] rfl rfl (any_of HT_.out (by kernel_rfl)) (fun _ _ _ h => h) (Or.inl ⟨by rfl,?_⟩) ?_ ?_
     rotate_left
     ·intro w'
      go_simp
      first|(with_reducible rfl)|(simp only [Instr.field,go_sem, *]; rfl)
     rotate_left
     ·simp only [Act.put,lS,lZ,lC,i64_w,i32_w]
      rfl
     refine pure_ (i:=10) (N:=some 28) (v:=?_) (a':=?_) #[tT,tT,tT,tT,tT,tT,tT,tT,tT,tT,tT,tT,fF,fF] rfl rfl (any_of HT_.out (by kernel_rfl)) (fun _ _ _ h => h) (Or.inl ⟨by rfl,?_⟩) ?_ ?_
     rotate_left
     ·intro w'
      go_simp
      first|(with_reducible rfl)|(simp only [Instr.field,go_sem, *]; rfl)
     rotate_left
     ·simp only [Act.put,lS,lZ,lC,i64_w,i32_w]
      rfl
     exact norm_ (by simp only [putAll,Act.put,lS,lZ,lC]) (hCont (gb181) _ ⟨hHeld,BK164.out,BK165.out,BK181.out,GW181.out,GE181.out,NB164_181.out,NB181_164.out,NB165_181.out,NB181_165.out,(by repeat (first|(with_reducible first|exact HB.out|apply bA|apply bD|apply bE|refine bS ?_ GE164.out|refine bS ?_ GE165.out|refine bS ?_ GE181.out)|exact HB.out))⟩)
   rintro gb181 w30 ⟨hS_,h0_,h1_,h2_,h3_,h4_,h5_,h6_,h7_,h8_,h9_⟩
   have n0_ : Aside0 (w30.heap[gb164]? = some (.cells #[.slice A0_0 l0_0.length c0_0] 42 (0,0))):=⟨h0_⟩
   have n1_ : Aside0 (w30.heap[gb165]? = some (.cells #[.int .i64 0,.int .i64 0,.int .i64 0,.int .i64 0] 50 (0,0))):=⟨h1_⟩
   have n2_ : Aside0 (w30.heap[gb181]? = some (.cells #[.int .i64 0,.int .i64 0,.int .i64 0,.int .i64 0] 50 (0,0))):=⟨h2_⟩
   have n3_ : Aside0 (w.heap.size ≤ gb181):=⟨h3_⟩
   have n4_ : Aside0 (w.heap.size ≤ gb181):=⟨h4_⟩
   have n5_ : Aside0 (gb164 ≠ gb181):=⟨h5_⟩
   have n6_ : Aside0 (gb181 ≠ gb164):=⟨h6_⟩
   have n7_ : Aside0 (gb165 ≠ gb181):=⟨h7_⟩
   have n8_ : Aside0 (gb181 ≠ gb165):=⟨h8_⟩
   have n9_ : Aside0 (Below w.heap.size w w30):=⟨h9_⟩
   clear BK164
   clear BK165
   clear HB
   clear h0_ h1_ h2_ h3_ h4_ h5_ h6_ h7_ h8_ h9_
   have BK164:=n0_
   have BK165:=n1_
   have BK181:=n2_
   have GW181:=n3_
   have GE181:=n4_
   have NB164_181:=n5_
   have NB181_164:=n6_
   have NB165_181:=n7_
   have NB181_165:=n8_
   have HB:=n9_
   clear n0_ n1_ n2_ n3_ n4_ n5_ n6_ n7_ n8_ n9_
   have hHeld : w30.cell? ⟨gb164,0,none⟩ = some (.slice A0_0 l0_0.length c0_0):=hS_
   refine norm_ (a':=?_) ?_ ?_
   rotate_left
   ·simp only [putAll,Act.put,lS,lZ,lC]
    rfl
   refine one_ (i:=12) (N:=none) #[tT,tT,tT,tT,tT,tT,tT,tT,tT,tT,tT,tT,tT,fF] rfl rfl (one_of HT_.out (by kernel_rfl)) (by decide) (fun K hK => ?_)
   have hs31 : w30.cell? ⟨gb181,0,none⟩ = some (.int .i64 0):=(kC BK181.out 0).trans rfl
   have hfs31:=blk_frozen BK181.out 0
   have hns31_0:=NB164_181.out
   have hns31_1:=NB165_181.out
   have hms31_0:=NB181_164.out
   have hms31_1:=NB181_165.out
   have hs32 : w30.cell? ⟨gb181,1,none⟩ = some (.int .i64 0):=(kC BK181.out 1).trans rfl
   have hfs32:=blk_frozen BK181.out 1
   have hns32_0:=NB164_181.out
   have hns32_1:=NB165_181.out
   have hms32_0:=NB181_164.out
   have hms32_1:=NB181_165.out
   have hs33 : w30.cell? ⟨gb181,2,none⟩ = some (.int .i64 0):=(kC BK181.out 2).trans rfl
   have hfs33:=blk_frozen BK181.out 2
   have hns33_0:=NB164_181.out
   have hns33_1:=NB165_181.out
   have hms33_0:=NB181_164.out
   have hms33_1:=NB181_165.out
   have hs34 : w30.cell? ⟨gb181,3,none⟩ = some (.int .i64 0):=(kC BK181.out 3).trans rfl
   have hfs34:=blk_frozen BK181.out 3
   have hns34_0:=NB164_181.out
   have hns34_1:=NB165_181.out
   have hms34_0:=NB181_164.out
   have hms34_1:=NB181_165.out
   refine skip_ (w1:=?_) (by rfl) rfl ?_ ?_
   rotate_left
   ·go_simp
    rfl
   refine hK.out _ _ (((cell_far (p:=⟨gb181,_,none⟩) NB164_181.out _).trans (((cell_far (p:=⟨gb181,_,none⟩) NB164_181.out _).trans (((cell_far (p:=⟨gb181,_,none⟩) NB164_181.out _).trans (((cell_far (p:=⟨gb181,_,none⟩) NB164_181.out _).trans (hHeld))))))))) (fun hHeld => ?_)
   clear hK K
   refine pure_ (i:=13) (N:=some 6) (v:=?_) (a':=?_) #[tT,tT,tT,tT,tT,tT,tT,tT,tT,tT,tT,tT,tT,tT] rfl rfl (any_of HT_.out (by kernel_rfl)) (fun _ _ _ h => h) (Or.inl ⟨by rfl,?_⟩) ?_ ?_
   rotate_left
   ·intro w'
    go_simp
    first|(with_reducible rfl)|(simp only [Instr.field,go_sem, *]; rfl)
   rotate_left
   ·simp only [Act.put,lS,lZ,lC,i64_w,i32_w]
    rfl
   refine done_ (done_of HT_.out (by kernel_rfl)) ?_
   try go_wp2
   have n0_ : Aside0 (((((w30.setCell ⟨gb181,0,none⟩ (.int .i64 t176)).setCell ⟨gb181,1,none⟩ (.int .i64 t177)).setCell ⟨gb181,2,none⟩ (.int .i64 t178)).setCell ⟨gb181,3,none⟩ (.int .i64 t179)).heap[gb164]? = some (.cells #[.slice A0_0 l0_0.length c0_0] 42 (0,0))):=⟨by (with_reducible repeat (first|refine kN ?_ _|refine kD ?_|refine kA ?_ _)); refine blk_far ?_ NB164_181.out _; (with_reducible repeat (first|refine kN ?_ _|refine kD ?_|refine kA ?_ _)); refine blk_far ?_ NB164_181.out _; (with_reducible repeat (first|refine kN ?_ _|refine kD ?_|refine kA ?_ _)); refine blk_far ?_ NB164_181.out _; (with_reducible repeat (first|refine kN ?_ _|refine kD ?_|refine kA ?_ _)); refine blk_far ?_ NB164_181.out _; (with_reducible repeat (first|refine kN ?_ _|refine kD ?_|refine kA ?_ _)); exact BK164.out⟩
   have n1_ : Aside0 (((((w30.setCell ⟨gb181,0,none⟩ (.int .i64 t176)).setCell ⟨gb181,1,none⟩ (.int .i64 t177)).setCell ⟨gb181,2,none⟩ (.int .i64 t178)).setCell ⟨gb181,3,none⟩ (.int .i64 t179)).heap[gb165]? = some (.cells #[.int .i64 0,.int .i64 0,.int .i64 0,.int .i64 0] 50 (0,0))):=⟨by (with_reducible repeat (first|refine kN ?_ _|refine kD ?_|refine kA ?_ _)); refine blk_far ?_ NB165_181.out _; (with_reducible repeat (first|refine kN ?_ _|refine kD ?_|refine kA ?_ _)); refine blk_far ?_ NB165_181.out _; (with_reducible repeat (first|refine kN ?_ _|refine kD ?_|refine kA ?_ _)); refine blk_far ?_ NB165_181.out _; (with_reducible repeat (first|refine kN ?_ _|refine kD ?_|refine kA ?_ _)); refine blk_far ?_ NB165_181.out _; (with_reducible repeat (first|refine kN ?_ _|refine kD ?_|refine kA ?_ _)); exact BK165.out⟩
   have n2_ : Aside0 (((((w30.setCell ⟨gb181,0,none⟩ (.int .i64 t176)).setCell ⟨gb181,1,none⟩ (.int .i64 t177)).setCell ⟨gb181,2,none⟩ (.int .i64 t178)).setCell ⟨gb181,3,none⟩ (.int .i64 t179)).heap[gb181]? = some (.cells #[.int .i64 t176,.int .i64 t177,.int .i64 t178,.int .i64 t179] 50 (0,0))):=⟨by (with_reducible repeat (first|refine kN ?_ _|refine kD ?_|refine kA ?_ _)); refine blk_put (cs:=#[.int .i64 t176,.int .i64 t177,.int .i64 t178,.int .i64 0]) ?_ 3 _ rfl; (with_reducible repeat (first|refine kN ?_ _|refine kD ?_|refine kA ?_ _)); refine blk_put (cs:=#[.int .i64 t176,.int .i64 t177,.int .i64 0,.int .i64 0]) ?_ 2 _ rfl; (with_reducible repeat (first|refine kN ?_ _|refine kD ?_|refine kA ?_ _)); refine blk_put (cs:=#[.int .i64 t176,.int .i64 0,.int .i64 0,.int .i64 0]) ?_ 1 _ rfl; (with_reducible repeat (first|refine kN ?_ _|refine kD ?_|refine kA ?_ _)); refine blk_put (cs:=#[.int .i64 0,.int .i64 0,.int .i64 0,.int .i64 0]) ?_ 0 _ rfl; (with_reducible repeat (first|refine kN ?_ _|refine kD ?_|refine kA ?_ _)); exact BK181.out⟩
   have n3_ : Aside0 (Below w.heap.size w ((((w30.setCell ⟨gb181,0,none⟩ (.int .i64 t176)).setCell ⟨gb181,1,none⟩ (.int .i64 t177)).setCell ⟨gb181,2,none⟩ (.int .i64 t178)).setCell ⟨gb181,3,none⟩ (.int .i64 t179))):=⟨by repeat (first|(with_reducible first|exact HB.out|apply bA|apply bD|apply bE|refine bS ?_ GE164.out|refine bS ?_ GE165.out|refine bS ?_ GE181.out)|exact HB.out)⟩
   (try clear BK164)
   (try clear BK165)
   (try clear BK181)
   (try clear HB)
   generalize ((((w30.setCell ⟨gb181,0,none⟩ (.int .i64 t176)).setCell ⟨gb181,1,none⟩ (.int .i64 t177)).setCell ⟨gb181,2,none⟩ (.int .i64 t178)).setCell ⟨gb181,3,none⟩ (.int .i64 t179)) = w35 at n0_ n1_ n2_ n3_ ⊢
   have BK164:=n0_
   have BK165:=n1_
   have BK181:=n2_
   have HB:=n3_
   clear n0_ n1_ n2_ n3_
   have n0_:=Aside0.mk (kD BK164.out)
   have n1_:=Aside0.mk (kD BK165.out)
   have n2_:=Aside0.mk (kD BK181.out)
   have n3_:=Aside0.mk (bE HB.out)
   clear BK164
   clear BK165
   clear BK181
   clear HB
   have BK164:=n0_
   have BK165:=n1_
   have BK181:=n2_
   have HB:=n3_
   clear n0_ n1_ n2_ n3_
   refine start_ (n:=12) (S:=fun w' => w'.cell? ⟨gb181,0,none⟩ = some (.int .i64 t176) ∧ w'.cell? ⟨gb181,1,none⟩ = some (.int .i64 t177) ∧ w'.cell? ⟨gb181,2,none⟩ = some (.int .i64 t178) ∧ w'.cell? ⟨gb181,3,none⟩ = some (.int .i64 t179) ∧ w'.cell? ⟨gb164,0,none⟩ = some (.slice A0_0 l0_0.length c0_0)) (ds:=[]) #[fF,fF,fF,fF,fF,fF,fF,fF,fF,fF,fF,fF] (by kernel_rfl) rfl rfl ⟨(kC BK181.out 0).trans rfl,(kC BK181.out 1).trans rfl,(kC BK181.out 2).trans rfl,(kC BK181.out 3).trans rfl,(kC BK164.out 0).trans rfl⟩ (fun hHeld => ?_); refine with_tabW spec_GroupSum.tab6 spec_GroupSum.bits6 (fun HT_ HW_ => ?_)
   generalize w35.drew = w36 at BK164 BK165 BK181 HB hHeld ⊢
   refine pure_ (i:=2) (N:=some 35) (v:=?_) (a':=?_) #[fF,fF,tT,fF,fF,fF,fF,fF,fF,fF,fF,fF] rfl rfl (any_of HT_.out (by kernel_rfl)) (fun _ _ _ h => h) (Or.inl ⟨by rfl,?_⟩) ?_ ?_
   rotate_left
   ·intro w'
    go_simp
    first|(with_reducible rfl)|(simp only [Instr.field,go_sem, *]; rfl)
   rotate_left
   ·simp only [Act.put,lS,lZ,lC,i64_w,i32_w]
    rfl
   refine pure_ (i:=3) (N:=some 36) (v:=?_) (a':=?_) #[fF,fF,tT,tT,fF,fF,fF,fF,fF,fF,fF,fF] rfl rfl (any_of HT_.out (by kernel_rfl)) (fun _ _ _ h => h) (Or.inl ⟨by rfl,?_⟩) ?_ ?_
   rotate_left
   ·intro w'
    go_simp
    first|(with_reducible rfl)|(simp only [Instr.field,go_sem, *]; rfl)
   rotate_left
   ·simp only [Act.put,lS,lZ,lC,i64_w,i32_w]
    rfl
   refine take_ (i:=0) (N:=some 33) (v:=?_) (a':=?_) #[tT,fF,tT,tT,fF,fF,fF,fF,fF,fF,fF,fF] rfl rfl (take_ofW HT_.out HW_.out (by kernel_rfl)) (fun _ _ _ h => h) (Or.inl ⟨by rfl,?_⟩) hHeld ?_ ?_
   rotate_left
   ·rintro w' ⟨s0,s1,s2,s3,s4⟩
    go_simp
    first|(with_reducible rfl)|(simp only [Instr.field,go_sem, *]; rfl)
   rotate_left
   ·simp only [Act.put,lS,lZ,lC,i64_w,i32_w]
    rfl
   refine take_ (i:=1) (N:=some 34) (v:=?_) (a':=?_) #[tT,tT,tT,tT,fF,fF,fF,fF,fF,fF,fF,fF] rfl rfl (take_ofW HT_.out HW_.out (by kernel_rfl)) (fun _ _ _ h => h) (Or.inl ⟨by rfl,?_⟩) hHeld ?_ ?_
   rotate_left
   ·rintro w' ⟨s0,s1,s2,s3,s4⟩
    go_simp
    first|(with_reducible rfl)|(simp only [Instr.field,go_sem, *]; rfl)
   rotate_left
   ·simp only [Act.put,lS,lZ,lC,i64_w,i32_w]
    rfl
   refine join_ (σ:=Nat) 2 #[tT,tT,tT,tT,tT,tT,tT,tT,tT,tT,fF,fF] (fun s_ => [(37,.agg #[.int .i64 t182,.int .i64 t183,.int .i64 t184,.int .i64 t185]),(38,.tuple #[.agg #[.int .i64 t186,.int .i64 t187,.int .i64 t188,.int .i64 t189],.bool true]),(7,.pointer (some ⟨s_,0,none⟩)),(32,.tuple #[.agg #[.int .i64 t186,.int .i64 t187,.int .i64 t188,.int .i64 t189],.bool true]),(39,.agg #[.int .i64 t186,.int .i64 t187,.int .i64 t188,.int .i64 t189]),(40,.bool true)]) (fun s_ w' => (w'.cell? ⟨gb181,0,none⟩ = some (.int .i64 t176) ∧ w'.cell? ⟨gb181,1,none⟩ = some (.int .i64 t177) ∧ w'.cell? ⟨gb181,2,none⟩ = some (.int .i64 t178) ∧ w'.cell? ⟨gb181,3,none⟩ = some (.int .i64 t179) ∧ w'.cell? ⟨gb164,0,none⟩ = some (.slice A0_0 l0_0.length c0_0)) ∧ (w'.heap[gb164]? = some (.cells #[.slice A0_0 l0_0.length c0_0] 42 (0,0))) ∧ (w'.heap[gb165]? = some (.cells #[.int .i64 0,.int .i64 0,.int .i64 0,.int .i64 0] 50 (0,0))) ∧ (w'.heap[gb181]? = some (.cells #[.int .i64 t176,.int .i64 t177,.int .i64 t178,.int .i64 t179] 50 (0,0))) ∧ (w'.heap[s_]? = some (.cells #[.int .i64 0,.int .i64 0,.int .i64 0,.int .i64 0] 50 (0,0))) ∧ (w.heap.size ≤ s_) ∧ (w.heap.size ≤ s_) ∧ (gb164 ≠ s_) ∧ (s_ ≠ gb164) ∧ (gb165 ≠ s_) ∧ (s_ ≠ gb165) ∧ (gb181 ≠ s_) ∧ (s_ ≠ gb181) ∧ (Below w.heap.size w w')) ?_ ?_
   rotate_left
   ·intro hCont
    refine two_ (i:=4) (j:=9) (Ni:=some 37) (Nj:=some 7) #[tT,tT,tT,tT,tT,fF,fF,fF,fF,fF,fF,fF] #[tT,tT,tT,tT,fF,fF,fF,fF,fF,tT,fF,fF] rfl rfl rfl rfl (two_of HT_.out (by kernel_rfl)) (by decide) (by decide) (fun K hK => ?_) (fun K hK => ?_)
    ·skip
     refine goes_ Try.func60 (by kernel_rfl) rfl #[.agg #[.slice A0_0 l0_0.length c0_0],.int .i64 (wrap64 (a1 + 8))] (by rfl) rfl rfl (by (try simp only [List.map_toArray,List.map_cons,List.map_nil]); first|done|rfl|(simp only [List.length_drop,List.length_take]; rfl)) ?_
     with_reducible refine (spec_ThirdAt.calls kj2 _ _ l0_0 (wrap64 (a1 + 8)) t182 t183 t184 t185 _ ?side1 ?side2 A22.out).mono ?_
     (case side1 => repeat (first|exact (Kd.C_below HR0_0.out HB.out)|(with_reducible refine Kd.C_alloc ?_ _)|(with_reducible refine Kd.C_drewN ?_ _)|(with_reducible refine Kd.C_drew ?_)))
     (case side2 => exact HC0_0.out)
     rintro e w37 ⟨rfl,hb⟩
     refine ⟨_,rfl,?_⟩
     have n0_:=Aside0.mk (kB (g:=gb164) (o:=.cells #[.slice A0_0 l0_0.length c0_0] 42 (0,0)) BK164.out hb)
     have n1_:=Aside0.mk (kB (g:=gb165) (o:=.cells #[.int .i64 0,.int .i64 0,.int .i64 0,.int .i64 0] 50 (0,0)) BK165.out hb)
     have n2_:=Aside0.mk (kB (g:=gb181) (o:=.cells #[.int .i64 t176,.int .i64 t177,.int .i64 t178,.int .i64 t179] 50 (0,0)) BK181.out hb)
     have n3_:=Aside0.mk (below_step (by repeat (first|(with_reducible first|exact HB.out|apply bA|apply bD|apply bE|refine bS ?_ GE164.out|refine bS ?_ GE165.out|refine bS ?_ GE181.out)|exact HB.out)) hb)
     clear BK164
     clear BK165
     clear BK181
     clear HB
     have BK164:=n0_
     have BK165:=n1_
     have BK181:=n2_
     have HB:=n3_
     clear n0_ n1_ n2_ n3_
     (try clear hb)
     (try clear hb2)
     (try clear hk)
     (try clear hi)
     refine hK.out _ _ ⟨(kC BK181.out 0).trans rfl,(kC BK181.out 1).trans rfl,(kC BK181.out 2).trans rfl,(kC BK181.out 3).trans rfl,(kC BK164.out 0).trans rfl⟩ (fun hHeld => ?_)
     clear hK K
     refine norm_ (a':=?_) ?_ ?_
     rotate_left
     ·show Act.put _ (some 37) _ = _
      simp only [Act.put,lS,lZ,lC,i64_w,i32_w]
      rfl
     refine two_ (i:=5) (j:=9) (Ni:=some 38) (Nj:=some 7) #[tT,tT,tT,tT,tT,tT,fF,fF,fF,fF,fF,fF] #[tT,tT,tT,tT,tT,fF,fF,fF,fF,tT,fF,fF] rfl rfl rfl rfl (two_of HT_.out (by kernel_rfl)) (by decide) (by decide) (fun K hK => ?_) (fun K hK => ?_)
     ·skip
      refine goes_ Try.func59 (by kernel_rfl) rfl #[.agg #[.int .i64 t176,.int .i64 t177,.int .i64 t178,.int .i64 t179],.agg #[.int .i64 t182,.int .i64 t183,.int .i64 t184,.int .i64 t185]] (by rfl) rfl rfl (by (try simp only [List.map_toArray,List.map_cons,List.map_nil]); first|done|rfl|(simp only [List.length_drop,List.length_take]; rfl)) ?_
      with_reducible refine (spec_AddIntervals.calls kj2 t176 t177 t178 t179 t182 t183 t184 t185 t186 t187 t188 t189 true _ A23.out).mono ?_
      rintro e w38 ⟨rfl,hb⟩
      refine ⟨_,rfl,?_⟩
      have n0_:=Aside0.mk (kB (g:=gb164) (o:=.cells #[.slice A0_0 l0_0.length c0_0] 42 (0,0)) BK164.out hb)
      have n1_:=Aside0.mk (kB (g:=gb165) (o:=.cells #[.int .i64 0,.int .i64 0,.int .i64 0,.int .i64 0] 50 (0,0)) BK165.out hb)
      have n2_:=Aside0.mk (kB (g:=gb181) (o:=.cells #[.int .i64 t176,.int .i64 t177,.int .i64 t178,.int .i64 t179] 50 (0,0)) BK181.out hb)
      have n3_:=Aside0.mk (below_step (by repeat (first|(with_reducible first|exact HB.out|apply bA|apply bD|apply bE|refine bS ?_ GE164.out|refine bS ?_ GE165.out|refine bS ?_ GE181.out)|exact HB.out)) hb)
      clear BK164
      clear BK165
      clear BK181
      clear HB
      have BK164:=n0_
      have BK165:=n1_
      have BK181:=n2_
      have HB:=n3_
      clear n0_ n1_ n2_ n3_
      (try clear hb)
      (try clear hb2)
      (try clear hk)
      (try clear hi)
      refine hK.out _ _ ⟨(kC BK181.out 0).trans rfl,(kC BK181.out 1).trans rfl,(kC BK181.out 2).trans rfl,(kC BK181.out 3).trans rfl,(kC BK164.out 0).trans rfl⟩ (fun hHeld => ?_)
      clear hK K
      refine norm_ (a':=?_) ?_ ?_
      rotate_left
      ·show Act.put _ (some 38) _ = _
       simp only [Act.put,lS,lZ,lC,i64_w,i32_w]
       rfl
      refine pure_ (i:=6) (N:=some 32) (v:=?_) (a':=?_) #[tT,tT,tT,tT,tT,tT,tT,fF,fF,fF,fF,fF] rfl rfl (any_of HT_.out (by kernel_rfl)) (fun _ _ _ h => h) (Or.inl ⟨by rfl,?_⟩) ?_ ?_
      rotate_left
      ·intro w'
       go_simp
       first|(with_reducible rfl)|(simp only [Instr.field,go_sem, *]; rfl)
      rotate_left
      ·simp only [Act.put,lS,lZ,lC,i64_w,i32_w]
       rfl
      refine pure_ (i:=7) (N:=some 39) (v:=?_) (a':=?_) #[tT,tT,tT,tT,tT,tT,tT,tT,fF,fF,fF,fF] rfl rfl (any_of HT_.out (by kernel_rfl)) (fun _ _ _ h => h) (Or.inl ⟨by rfl,?_⟩) ?_ ?_
      rotate_left
      ·intro w'
       go_simp
       first|(with_reducible rfl)|(simp only [Instr.field,go_sem, *]; rfl)
      rotate_left
      ·simp only [Act.put,lS,lZ,lC,i64_w,i32_w]
       rfl
      refine pure_ (i:=8) (N:=some 40) (v:=?_) (a':=?_) #[tT,tT,tT,tT,tT,tT,tT,tT,tT,fF,fF,fF] rfl rfl (any_of HT_.out (by kernel_rfl)) (fun _ _ _ h => h) (Or.inl ⟨by rfl,?_⟩) ?_ ?_
      rotate_left
      ·intro w'
       go_simp
       first|(with_reducible rfl)|(simp only [Instr.field,go_sem, *]; rfl)
      rotate_left
      ·simp only [Act.put,lS,lZ,lC,i64_w,i32_w]
       rfl
      refine one_ (i:=9) (N:=some 7) #[tT,tT,tT,tT,tT,tT,tT,tT,tT,tT,fF,fF] rfl rfl (one_of HT_.out (by kernel_rfl)) (by decide) (fun K hK => ?_)
      refine box_step ?hg (N:=7) ?hd (cs:=#[.int .i64 0,.int .i64 0,.int .i64 0,.int .i64 0]) (t:=50) ?hr ?_; (case hd => rfl); (case hg => rfl); (case hr => first|(go_simp; done)|(go_simp; rfl))
      intro gb191 hg w39 hbox hb
      have n0_:=Aside0.mk (kB (g:=gb164) (o:=.cells #[.slice A0_0 l0_0.length c0_0] 42 (0,0)) BK164.out hb)
      have n1_:=Aside0.mk (kB (g:=gb165) (o:=.cells #[.int .i64 0,.int .i64 0,.int .i64 0,.int .i64 0] 50 (0,0)) BK165.out hb)
      have n2_:=Aside0.mk (kB (g:=gb181) (o:=.cells #[.int .i64 t176,.int .i64 t177,.int .i64 t178,.int .i64 t179] 50 (0,0)) BK181.out hb)
      have n3_:=Aside0.mk (below_step (by repeat (first|(with_reducible first|exact HB.out|apply bA|apply bD|apply bE|refine bS ?_ GE164.out|refine bS ?_ GE165.out|refine bS ?_ GE181.out)|exact HB.out)) hb)
      have n4_:=Aside0.mk (hbox)
      have n5_:=Aside0.mk ((by rw [hg]; exact (below_size (by repeat (first|(with_reducible first|exact HB.out|apply bA|apply bD|apply bE|refine bS ?_ GE164.out|refine bS ?_ GE165.out|refine bS ?_ GE181.out)|exact HB.out))) : w.heap.size ≤ gb191))
      have n6_:=Aside0.mk ((by rw [hg]; exact (below_size (by repeat (first|(with_reducible first|exact HB.out|apply bA|apply bD|apply bE|refine bS ?_ GE164.out|refine bS ?_ GE165.out|refine bS ?_ GE181.out)|exact HB.out))) : w.heap.size ≤ gb191))
      have n7_:=Aside0.mk ((by rw [hg]; exact Nat.ne_of_lt (blk_lt (g:=gb164) (o:=.cells #[.slice A0_0 l0_0.length c0_0] 42 (0,0)) BK164.out) : gb164 ≠ gb191))
      have n8_:=Aside0.mk ((by rw [hg]; exact Nat.ne_of_gt (blk_lt (g:=gb164) (o:=.cells #[.slice A0_0 l0_0.length c0_0] 42 (0,0)) BK164.out) : gb191 ≠ gb164))
      have n9_:=Aside0.mk ((by rw [hg]; exact Nat.ne_of_lt (blk_lt (g:=gb165) (o:=.cells #[.int .i64 0,.int .i64 0,.int .i64 0,.int .i64 0] 50 (0,0)) BK165.out) : gb165 ≠ gb191))
      have n10_:=Aside0.mk ((by rw [hg]; exact Nat.ne_of_gt (blk_lt (g:=gb165) (o:=.cells #[.int .i64 0,.int .i64 0,.int .i64 0,.int .i64 0] 50 (0,0)) BK165.out) : gb191 ≠ gb165))
      have n11_:=Aside0.mk ((by rw [hg]; exact Nat.ne_of_lt (blk_lt (g:=gb181) (o:=.cells #[.int .i64 t176,.int .i64 t177,.int .i64 t178,.int .i64 t179] 50 (0,0)) BK181.out) : gb181 ≠ gb191))
      have n12_:=Aside0.mk ((by rw [hg]; exact Nat.ne_of_gt (blk_lt (g:=gb181) (o:=.cells #[.int .i64 t176,.int .i64 t177,.int .i64 t178,.int .i64 t179] 50 (0,0)) BK181.out) : gb191 ≠ gb181))
      clear BK164
      clear BK165
      clear BK181
      clear HB
      have BK164:=n0_
      have BK165:=n1_
      have BK181:=n2_
      have HB:=n3_
      have BK191:=n4_
      have GW191:=n5_
      have GE191:=n6_
      have NB164_191:=n7_
      have NB191_164:=n8_
      have NB165_191:=n9_
      have NB191_165:=n10_
      have NB181_191:=n11_
      have NB191_181:=n12_
      clear n0_ n1_ n2_ n3_ n4_ n5_ n6_ n7_ n8_ n9_ n10_ n11_ n12_
      clear hb hbox hg
      refine hK.out _ _ ⟨(kC BK181.out 0).trans rfl,(kC BK181.out 1).trans rfl,(kC BK181.out 2).trans rfl,(kC BK181.out 3).trans rfl,(kC BK164.out 0).trans rfl⟩ (fun hHeld => ?_)
      clear hK K
      refine norm_ (a':=?_) ?_ ?_
      rotate_left
      ·show Act.put _ (some 7) _ = _
       simp only [Act.put,lS,lZ,lC,i64_w,i32_w]
       rfl
      exact norm_ (by simp only [putAll,Act.put,lS,lZ,lC]) (hCont (gb191) _ ⟨hHeld,BK164.out,BK165.out,BK181.out,BK191.out,GW191.out,GE191.out,NB164_191.out,NB191_164.out,NB165_191.out,NB191_165.out,NB181_191.out,NB191_181.out,(by repeat (first|(with_reducible first|exact HB.out|apply bA|apply bD|apply bE|refine bS ?_ GE164.out|refine bS ?_ GE165.out|refine bS ?_ GE181.out|refine bS ?_ GE191.out)|exact HB.out))⟩)
     ·skip
      refine box_step ?hg (N:=7) ?hd (cs:=#[.int .i64 0,.int .i64 0,.int .i64 0,.int .i64 0]) (t:=50) ?hr ?_; (case hd => rfl); (case hg => rfl); (case hr => first|(go_simp; done)|(go_simp; rfl))
      intro gb191 hg w38 hbox hb
      have n0_:=Aside0.mk (kB (g:=gb164) (o:=.cells #[.slice A0_0 l0_0.length c0_0] 42 (0,0)) BK164.out hb)
      have n1_:=Aside0.mk (kB (g:=gb165) (o:=.cells #[.int .i64 0,.int .i64 0,.int .i64 0,.int .i64 0] 50 (0,0)) BK165.out hb)
      have n2_:=Aside0.mk (kB (g:=gb181) (o:=.cells #[.int .i64 t176,.int .i64 t177,.int .i64 t178,.int .i64 t179] 50 (0,0)) BK181.out hb)
      have n3_:=Aside0.mk (below_step (by repeat (first|(with_reducible first|exact HB.out|apply bA|apply bD|apply bE|refine bS ?_ GE164.out|refine bS ?_ GE165.out|refine bS ?_ GE181.out)|exact HB.out)) hb)
      have n4_:=Aside0.mk (hbox)
      have n5_:=Aside0.mk ((by rw [hg]; exact (below_size (by repeat (first|(with_reducible first|exact HB.out|apply bA|apply bD|apply bE|refine bS ?_ GE164.out|refine bS ?_ GE165.out|refine bS ?_ GE181.out)|exact HB.out))) : w.heap.size ≤ gb191))
      have n6_:=Aside0.mk ((by rw [hg]; exact (below_size (by repeat (first|(with_reducible first|exact HB.out|apply bA|apply bD|apply bE|refine bS ?_ GE164.out|refine bS ?_ GE165.out|refine bS ?_ GE181.out)|exact HB.out))) : w.heap.size ≤ gb191))
      have n7_:=Aside0.mk ((by rw [hg]; exact Nat.ne_of_lt (blk_lt (g:=gb164) (o:=.cells #[.slice A0_0 l0_0.length c0_0] 42 (0,0)) BK164.out) : gb164 ≠ gb191))
      have n8_:=Aside0.mk ((by rw [hg]; exact Nat.ne_of_gt (blk_lt (g:=gb164) (o:=.cells #[.slice A0_0 l0_0.length c0_0] 42 (0,0)) BK164.out) : gb191 ≠ gb164))
      have n9_:=Aside0.mk ((by rw [hg]; exact Nat.ne_of_lt (blk_lt (g:=gb165) (o:=.cells #[.int .i64 0,.int .i64 0,.int .i64 0,.int .i64 0] 50 (0,0)) BK165.out) : gb165 ≠ gb191))
      have n10_:=Aside0.mk ((by rw [hg]; exact Nat.ne_of_gt (blk_lt (g:=gb165) (o:=.cells #[.int .i64 0,.int .i64 0,.int .i64 0,.int .i64 0] 50 (0,0)) BK165.out) : gb191 ≠ gb165))
      have n11_:=Aside0.mk ((by rw [hg]; exact Nat.ne_of_lt (blk_lt (g:=gb181) (o:=.cells #[.int .i64 t176,.int .i64 t177,.int .i64 t178,.int .i64 t179] 50 (0,0)) BK181.out) : gb181 ≠ gb191))
      have n12_:=Aside0.mk ((by rw [hg]; exact Nat.ne_of_gt (blk_lt (g:=gb181) (o:=.cells #[.int .i64 t176,.int .i64 t177,.int .i64 t178,.int .i64 t179] 50 (0,0)) BK181.out) : gb191 ≠ gb181))
      clear BK164
      clear BK165
      clear BK181
      clear HB
      have BK164:=n0_
      have BK165:=n1_
      have BK181:=n2_
      have HB:=n3_
      have BK191:=n4_
      have GW191:=n5_
      have GE191:=n6_
      have NB164_191:=n7_
      have NB191_164:=n8_
      have NB165_191:=n9_
      have NB191_165:=n10_
      have NB181_191:=n11_
      have NB191_181:=n12_
      clear n0_ n1_ n2_ n3_ n4_ n5_ n6_ n7_ n8_ n9_ n10_ n11_ n12_
      clear hb hbox hg
      refine hK.out _ _ ⟨(kC BK181.out 0).trans rfl,(kC BK181.out 1).trans rfl,(kC BK181.out 2).trans rfl,(kC BK181.out 3).trans rfl,(kC BK164.out 0).trans rfl⟩ (fun hHeld => ?_)
      clear hK K
      refine norm_ (a':=?_) ?_ ?_
      rotate_left
      ·show Act.put _ (some 7) _ = _
       simp only [Act.put,lS,lZ,lC,i64_w,i32_w]
       rfl
      refine one_ (i:=5) (N:=some 38) #[tT,tT,tT,tT,tT,tT,fF,fF,fF,tT,fF,fF] rfl rfl (one_of HT_.out (by kernel_rfl)) (by decide) (fun K hK => ?_)
      refine goes_ Try.func59 (by kernel_rfl) rfl #[.agg #[.int .i64 t176,.int .i64 t177,.int .i64 t178,.int .i64 t179],.agg #[.int .i64 t182,.int .i64 t183,.int .i64 t184,.int .i64 t185]] (by rfl) rfl rfl (by (try simp only [List.map_toArray,List.map_cons,List.map_nil]); first|done|rfl|(simp only [List.length_drop,List.length_take]; rfl)) ?_
      with_reducible refine (spec_AddIntervals.calls kj2 t176 t177 t178 t179 t182 t183 t184 t185 t186 t187 t188 t189 true _ A23.out).mono ?_
      rintro e w39 ⟨rfl,hb⟩
      refine ⟨_,rfl,?_⟩
      have n0_:=Aside0.mk (kB (g:=gb164) (o:=.cells #[.slice A0_0 l0_0.length c0_0] 42 (0,0)) BK164.out hb)
      have n1_:=Aside0.mk (kB (g:=gb165) (o:=.cells #[.int .i64 0,.int .i64 0,.int .i64 0,.int .i64 0] 50 (0,0)) BK165.out hb)
      have n2_:=Aside0.mk (kB (g:=gb181) (o:=.cells #[.int .i64 t176,.int .i64 t177,.int .i64 t178,.int .i64 t179] 50 (0,0)) BK181.out hb)
      have n3_:=Aside0.mk (kB (g:=gb191) (o:=.cells #[.int .i64 0,.int .i64 0,.int .i64 0,.int .i64 0] 50 (0,0)) BK191.out hb)
      have n4_:=Aside0.mk (below_step (by repeat (first|(with_reducible first|exact HB.out|apply bA|apply bD|apply bE|refine bS ?_ GE164.out|refine bS ?_ GE165.out|refine bS ?_ GE181.out|refine bS ?_ GE191.out)|exact HB.out)) hb)
      clear BK164
      clear BK165
      clear BK181
      clear BK191
      clear HB
      have BK164:=n0_
      have BK165:=n1_
      have BK181:=n2_
      have BK191:=n3_
      have HB:=n4_
      clear n0_ n1_ n2_ n3_ n4_
      (try clear hb)
      (try clear hb2)
      (try clear hk)
      (try clear hi)
      refine hK.out _ _ ⟨(kC BK181.out 0).trans rfl,(kC BK181.out 1).trans rfl,(kC BK181.out 2).trans rfl,(kC BK181.out 3).trans rfl,(kC BK164.out 0).trans rfl⟩ (fun hHeld => ?_)
      clear hK K
      refine norm_ (a':=?_) ?_ ?_
      rotate_left
      ·show Act.put _ (some 38) _ = _
       simp only [Act.put,lS,lZ,lC,i64_w,i32_w]
       rfl
      refine pure_ (i:=6) (N:=some 32) (v:=?_) (a':=?_) #[tT,tT,tT,tT,tT,tT,tT,fF,fF,tT,fF,fF] rfl rfl (any_of HT_.out (by kernel_rfl)) (fun _ _ _ h => h) (Or.inl ⟨by rfl,?_⟩) ?_ ?_
      rotate_left
      ·intro w'
       go_simp
       first|(with_reducible rfl)|(simp only [Instr.field,go_sem, *]; rfl)
      rotate_left
      ·simp only [Act.put,lS,lZ,lC,i64_w,i32_w]
       rfl
      refine pure_ (i:=7) (N:=some 39) (v:=?_) (a':=?_) #[tT,tT,tT,tT,tT,tT,tT,tT,fF,tT,fF,fF] rfl rfl (any_of HT_.out (by kernel_rfl)) (fun _ _ _ h => h) (Or.inl ⟨by rfl,?_⟩) ?_ ?_
      rotate_left
      ·intro w'
       go_simp
       first|(with_reducible rfl)|(simp only [Instr.field,go_sem, *]; rfl)
      rotate_left
      ·simp only [Act.put,lS,lZ,lC,i64_w,i32_w]
       rfl
      refine pure_ (i:=8) (N:=some 40) (v:=?_) (a':=?_) #[tT,tT,tT,tT,tT,tT,tT,tT,tT,tT,fF,fF] rfl rfl (any_of HT_.out (by kernel_rfl)) (fun _ _ _ h => h) (Or.inl ⟨by rfl,?_⟩) ?_ ?_
      rotate_left
      ·intro w'
       go_simp
       first|(with_reducible rfl)|(simp only [Instr.field,go_sem, *]; rfl)
      rotate_left
      ·simp only [Act.put,lS,lZ,lC,i64_w,i32_w]
       rfl
      exact norm_ (by simp only [putAll,Act.put,lS,lZ,lC]) (hCont (gb191) _ ⟨hHeld,BK164.out,BK165.out,BK181.out,BK191.out,GW191.out,GE191.out,NB164_191.out,NB191_164.out,NB165_191.out,NB191_165.out,NB181_191.out,NB191_181.out,(by repeat (first|(with_reducible first|exact HB.out|apply bA|apply bD|apply bE|refine bS ?_ GE164.out|refine bS ?_ GE165.out|refine bS ?_ GE181.out|refine bS ?_ GE191.out)|exact HB.out))⟩)
    ·skip
     refine box_step ?hg (N:=7) ?hd (cs:=#[.int .i64 0,.int .i64 0,.int .i64 0,.int .i64 0]) (t:=50) ?hr ?_; (case hd => rfl); (case hg => rfl); (case hr => first|(go_simp; done)|(go_simp; rfl))
     intro gb191 hg w37 hbox hb
     have n0_:=Aside0.mk (kB (g:=gb164) (o:=.cells #[.slice A0_0 l0_0.length c0_0] 42 (0,0)) BK164.out hb)
     have n1_:=Aside0.mk (kB (g:=gb165) (o:=.cells #[.int .i64 0,.int .i64 0,.int .i64 0,.int .i64 0] 50 (0,0)) BK165.out hb)
     have n2_:=Aside0.mk (kB (g:=gb181) (o:=.cells #[.int .i64 t176,.int .i64 t177,.int .i64 t178,.int .i64 t179] 50 (0,0)) BK181.out hb)
     have n3_:=Aside0.mk (below_step (by repeat (first|(with_reducible first|exact HB.out|apply bA|apply bD|apply bE|refine bS ?_ GE164.out|refine bS ?_ GE165.out|refine bS ?_ GE181.out)|exact HB.out)) hb)
     have n4_:=Aside0.mk (hbox)
     have n5_:=Aside0.mk ((by rw [hg]; exact (below_size (by repeat (first|(with_reducible first|exact HB.out|apply bA|apply bD|apply bE|refine bS ?_ GE164.out|refine bS ?_ GE165.out|refine bS ?_ GE181.out)|exact HB.out))) : w.heap.size ≤ gb191))
     have n6_:=Aside0.mk ((by rw [hg]; exact (below_size (by repeat (first|(with_reducible first|exact HB.out|apply bA|apply bD|apply bE|refine bS ?_ GE164.out|refine bS ?_ GE165.out|refine bS ?_ GE181.out)|exact HB.out))) : w.heap.size ≤ gb191))
     have n7_:=Aside0.mk ((by rw [hg]; exact Nat.ne_of_lt (blk_lt (g:=gb164) (o:=.cells #[.slice A0_0 l0_0.length c0_0] 42 (0,0)) BK164.out) : gb164 ≠ gb191))
     have n8_:=Aside0.mk ((by rw [hg]; exact Nat.ne_of_gt (blk_lt (g:=gb164) (o:=.cells #[.slice A0_0 l0_0.length c0_0] 42 (0,0)) BK164.out) : gb191 ≠ gb164))
     have n9_:=Aside0.mk ((by rw [hg]; exact Nat.ne_of_lt (blk_lt (g:=gb165) (o:=.cells #[.int .i64 0,.int .i64 0,.int .i64 0,.int .i64 0] 50 (0,0)) BK165.out) : gb165 ≠ gb191))
     have n10_:=Aside0.mk ((by rw [hg]; exact Nat.ne_of_gt (blk_lt (g:=gb165) (o:=.cells #[.int .i64 0,.int .i64 0,.int .i64 0,.int .i64 0] 50 (0,0)) BK165.out) : gb191 ≠ gb165))
     have n11_:=Aside0.mk ((by rw [hg]; exact Nat.ne_of_lt (blk_lt (g:=gb181) (o:=.cells #[.int .i64 t176,.int .i64 t177,.int .i64 t178,.int .i64 t179] 50 (0,0)) BK181.out) : gb181 ≠ gb191))
     have n12_:=Aside0.mk ((by rw [hg]; exact Nat.ne_of_gt (blk_lt (g:=gb181) (o:=.cells #[.int .i64 t176,.int .i64 t177,.int .i64 t178,.int .i64 t179] 50 (0,0)) BK181.out) : gb191 ≠ gb181))
     clear BK164
     clear BK165
     clear BK181
     clear HB
     have BK164:=n0_
     have BK165:=n1_
     have BK181:=n2_
     have HB:=n3_
     have BK191:=n4_
     have GW191:=n5_
     have GE191:=n6_
     have NB164_191:=n7_
     have NB191_164:=n8_
     have NB165_191:=n9_
     have NB191_165:=n10_
     have NB181_191:=n11_
     have NB191_181:=n12_
     clear n0_ n1_ n2_ n3_ n4_ n5_ n6_ n7_ n8_ n9_ n10_ n11_ n12_
     clear hb hbox hg
     refine hK.out _ _ ⟨(kC BK181.out 0).trans rfl,(kC BK181.out 1).trans rfl,(kC BK181.out 2).trans rfl,(kC BK181.out 3).trans rfl,(kC BK164.out 0).trans rfl⟩ (fun hHeld => ?_)
     clear hK K
     refine norm_ (a':=?_) ?_ ?_
     rotate_left
     ·show Act.put _ (some 7) _ = _
      simp only [Act.put,lS,lZ,lC,i64_w,i32_w]
      rfl
     refine one_ (i:=4) (N:=some 37) #[tT,tT,tT,tT,tT,fF,fF,fF,fF,tT,fF,fF] rfl rfl (one_of HT_.out (by kernel_rfl)) (by decide) (fun K hK => ?_)
     refine goes_ Try.func60 (by kernel_rfl) rfl #[.agg #[.slice A0_0 l0_0.length c0_0],.int .i64 (wrap64 (a1 + 8))] (by rfl) rfl rfl (by (try simp only [List.map_toArray,List.map_cons,List.map_nil]); first|done|rfl|(simp only [List.length_drop,List.length_take]; rfl)) ?_
     with_reducible refine (spec_ThirdAt.calls kj2 _ _ l0_0 (wrap64 (a1 + 8)) t182 t183 t184 t185 _ ?side1 ?side2 A22.out).mono ?_
     (case side1 => repeat (first|exact (Kd.C_below HR0_0.out HB.out)|(with_reducible refine Kd.C_alloc ?_ _)|(with_reducible refine Kd.C_drewN ?_ _)|(with_reducible refine Kd.C_drew ?_)))
     (case side2 => exact HC0_0.out)
     rintro e w38 ⟨rfl,hb⟩
     refine ⟨_,rfl,?_⟩
     have n0_:=Aside0.mk (kB (g:=gb164) (o:=.cells #[.slice A0_0 l0_0.length c0_0] 42 (0,0)) BK164.out hb)
     have n1_:=Aside0.mk (kB (g:=gb165) (o:=.cells #[.int .i64 0,.int .i64 0,.int .i64 0,.int .i64 0] 50 (0,0)) BK165.out hb)
     have n2_:=Aside0.mk (kB (g:=gb181) (o:=.cells #[.int .i64 t176,.int .i64 t177,.int .i64 t178,.int .i64 t179] 50 (0,0)) BK181.out hb)
     have n3_:=Aside0.mk (kB (g:=gb191) (o:=.cells #[.int .i64 0,.int .i64 0,.int .i64 0,.int .i64 0] 50 (0,0)) BK191.out hb)
     have n4_:=Aside0.mk (below_step (by repeat (first|(with_reducible first|exact HB.out|apply bA|apply bD|apply bE|refine bS ?_ GE164.out|refine bS ?_ GE165.out|refine bS ?_ GE181.out|refine bS ?_ GE191.out)|exact HB.out)) hb)
     clear BK164
     clear BK165
     clear BK181
     clear BK191
     clear HB
     have BK164:=n0_
     have BK165:=n1_
     have BK181:=n2_
     have BK191:=n3_
     have HB:=n4_
     clear n0_ n1_ n2_ n3_ n4_
     (try clear hb)
     (try clear hb2)
     (try clear hk)
     (try clear hi)
     refine hK.out _ _ ⟨(kC BK181.out 0).trans rfl,(kC BK181.out 1).trans rfl,(kC BK181.out 2).trans rfl,(kC BK181.out 3).trans rfl,(kC BK164.out 0).trans rfl⟩ (fun hHeld => ?_)
     clear hK K
     refine norm_ (a':=?_) ?_ ?_
     rotate_left
     ·show Act.put _ (some 37) _ = _
      simp only [Act.put,lS,lZ,lC,i64_w,i32_w]
      rfl
     refine one_ (i:=5) (N:=some 38) #[tT,tT,tT,tT,tT,tT,fF,fF,fF,tT,fF,fF] rfl rfl (one_of HT_.out (by kernel_rfl)) (by decide) (fun K hK => ?_)
     refine goes_ Try.func59 (by kernel_rfl) rfl #[.agg #[.int .i64 t176,.int .i64 t177,.int .i64 t178,.int .i64 t179],.agg #[.int .i64 t182,.int .i64 t183,.int .i64 t184,.int .i64 t185]] (by rfl) rfl rfl (by (try simp only [List.map_toArray,List.map_cons,List.map_nil]); first|done|rfl|(simp only [List.length_drop,List.length_take]; rfl)) ?_
     with_reducible refine (spec_AddIntervals.calls kj2 t176 t177 t178 t179 t182 t183 t184 t185 t186 t187 t188 t189 true _ A23.out).mono ?_
     rintro e w39 ⟨rfl,hb⟩
     refine ⟨_,rfl,?_⟩
     have n0_:=Aside0.mk (kB (g:=gb164) (o:=.cells #[.slice A0_0 l0_0.length c0_0] 42 (0,0)) BK164.out hb)
     have n1_:=Aside0.mk (kB (g:=gb165) (o:=.cells #[.int .i64 0,.int .i64 0,.int .i64 0,.int .i64 0] 50 (0,0)) BK165.out hb)
     have n2_:=Aside0.mk (kB (g:=gb181) (o:=.cells #[.int .i64 t176,.int .i64 t177,.int .i64 t178,.int .i64 t179] 50 (0,0)) BK181.out hb)
     have n3_:=Aside0.mk (kB (g:=gb191) (o:=.cells #[.int .i64 0,.int .i64 0,.int .i64 0,.int .i64 0] 50 (0,0)) BK191.out hb)
     have n4_:=Aside0.mk (below_step (by repeat (first|(with_reducible first|exact HB.out|apply bA|apply bD|apply bE|refine bS ?_ GE164.out|refine bS ?_ GE165.out|refine bS ?_ GE181.out|refine bS ?_ GE191.out)|exact HB.out)) hb)
     clear BK164
     clear BK165
     clear BK181
     clear BK191
     clear HB
     have BK164:=n0_
     have BK165:=n1_
     have BK181:=n2_
     have BK191:=n3_
     have HB:=n4_
     clear n0_ n1_ n2_ n3_ n4_
     (try clear hb)
     (try clear hb2)
     (try clear hk)
     (try clear hi)
     refine hK.out _ _ ⟨(kC BK181.out 0).trans rfl,(kC BK181.out 1).trans rfl,(kC BK181.out 2).trans rfl,(kC BK181.out 3).trans rfl,(kC BK164.out 0).trans rfl⟩ (fun hHeld => ?_)
     clear hK K
     refine norm_ (a':=?_) ?_ ?_
     rotate_left
     ·show Act.put _ (some 38) _ = _
      simp only [Act.put,lS,lZ,lC,i64_w,i32_w]
      rfl
     refine pure_ (i:=6) (N:=some 32) (v:=?_) (a':=?_) #[tT,tT,tT,tT,tT,tT,tT,fF,fF,tT,fF,fF] rfl rfl (any_of HT_.out (by kernel_rfl)) (fun _ _ _ h => h) (Or.inl ⟨by rfl,?_⟩) ?_ ?_
     rotate_left
     ·intro w'
      go_simp
      first|(with_reducible rfl)|(simp only [Instr.field,go_sem, *]; rfl)
     rotate_left
     ·simp only [Act.put,lS,lZ,lC,i64_w,i32_w]
      rfl
     refine pure_ (i:=7) (N:=some 39) (v:=?_) (a':=?_) #[tT,tT,tT,tT,tT,tT,tT,tT,fF,tT,fF,fF] rfl rfl (any_of HT_.out (by kernel_rfl)) (fun _ _ _ h => h) (Or.inl ⟨by rfl,?_⟩) ?_ ?_
     rotate_left
     ·intro w'
      go_simp
      first|(with_reducible rfl)|(simp only [Instr.field,go_sem, *]; rfl)
     rotate_left
     ·simp only [Act.put,lS,lZ,lC,i64_w,i32_w]
      rfl
     refine pure_ (i:=8) (N:=some 40) (v:=?_) (a':=?_) #[tT,tT,tT,tT,tT,tT,tT,tT,tT,tT,fF,fF] rfl rfl (any_of HT_.out (by kernel_rfl)) (fun _ _ _ h => h) (Or.inl ⟨by rfl,?_⟩) ?_ ?_
     rotate_left
     ·intro w'
      go_simp
      first|(with_reducible rfl)|(simp only [Instr.field,go_sem, *]; rfl)
     rotate_left
     ·simp only [Act.put,lS,lZ,lC,i64_w,i32_w]
      rfl
     exact norm_ (by simp only [putAll,Act.put,lS,lZ,lC]) (hCont (gb191) _ ⟨hHeld,BK164.out,BK165.out,BK181.out,BK191.out,GW191.out,GE191.out,NB164_191.out,NB191_164.out,NB165_191.out,NB191_165.out,NB181_191.out,NB191_181.out,(by repeat (first|(with_reducible first|exact HB.out|apply bA|apply bD|apply bE|refine bS ?_ GE164.out|refine bS ?_ GE165.out|refine bS ?_ GE181.out|refine bS ?_ GE191.out)|exact HB.out))⟩)
   rintro gb191 w40 ⟨hS_,h0_,h1_,h2_,h3_,h4_,h5_,h6_,h7_,h8_,h9_,h10_,h11_,h12_⟩
   have n0_ : Aside0 (w40.heap[gb164]? = some (.cells #[.slice A0_0 l0_0.length c0_0] 42 (0,0))):=⟨h0_⟩
   have n1_ : Aside0 (w40.heap[gb165]? = some (.cells #[.int .i64 0,.int .i64 0,.int .i64 0,.int .i64 0] 50 (0,0))):=⟨h1_⟩
   have n2_ : Aside0 (w40.heap[gb181]? = some (.cells #[.int .i64 t176,.int .i64 t177,.int .i64 t178,.int .i64 t179] 50 (0,0))):=⟨h2_⟩
   have n3_ : Aside0 (w40.heap[gb191]? = some (.cells #[.int .i64 0,.int .i64 0,.int .i64 0,.int .i64 0] 50 (0,0))):=⟨h3_⟩
   have n4_ : Aside0 (w.heap.size ≤ gb191):=⟨h4_⟩
   have n5_ : Aside0 (w.heap.size ≤ gb191):=⟨h5_⟩
   have n6_ : Aside0 (gb164 ≠ gb191):=⟨h6_⟩
   have n7_ : Aside0 (gb191 ≠ gb164):=⟨h7_⟩
   have n8_ : Aside0 (gb165 ≠ gb191):=⟨h8_⟩
   have n9_ : Aside0 (gb191 ≠ gb165):=⟨h9_⟩
   have n10_ : Aside0 (gb181 ≠ gb191):=⟨h10_⟩
   have n11_ : Aside0 (gb191 ≠ gb181):=⟨h11_⟩
   have n12_ : Aside0 (Below w.heap.size w w40):=⟨h12_⟩
   clear BK164
   clear BK165
   clear BK181
   clear HB
   clear h0_ h1_ h2_ h3_ h4_ h5_ h6_ h7_ h8_ h9_ h10_ h11_ h12_
   have BK164:=n0_
   have BK165:=n1_
   have BK181:=n2_
   have BK191:=n3_
   have GW191:=n4_
   have GE191:=n5_
   have NB164_191:=n6_
   have NB191_164:=n7_
   have NB165_191:=n8_
   have NB191_165:=n9_
   have NB181_191:=n10_
   have NB191_181:=n11_
   have HB:=n12_
   clear n0_ n1_ n2_ n3_ n4_ n5_ n6_ n7_ n8_ n9_ n10_ n11_ n12_
   have hHeld : w40.cell? ⟨gb181,0,none⟩ = some (.int .i64 t176) ∧ w40.cell? ⟨gb181,1,none⟩ = some (.int .i64 t177) ∧ w40.cell? ⟨gb181,2,none⟩ = some (.int .i64 t178) ∧ w40.cell? ⟨gb181,3,none⟩ = some (.int .i64 t179) ∧ w40.cell? ⟨gb164,0,none⟩ = some (.slice A0_0 l0_0.length c0_0):=hS_
   refine norm_ (a':=?_) ?_ ?_
   rotate_left
   ·simp only [putAll,Act.put,lS,lZ,lC]
    rfl
   refine one_ (i:=10) (N:=none) #[tT,tT,tT,tT,tT,tT,tT,tT,tT,tT,tT,fF] rfl rfl (one_of HT_.out (by kernel_rfl)) (by decide) (fun K hK => ?_)
   have hs41 : w40.cell? ⟨gb191,0,none⟩ = some (.int .i64 0):=(kC BK191.out 0).trans rfl
   have hfs41:=blk_frozen BK191.out 0
   have hns41_0:=NB164_191.out
   have hns41_1:=NB165_191.out
   have hns41_2:=NB181_191.out
   have hms41_0:=NB191_164.out
   have hms41_1:=NB191_165.out
   have hms41_2:=NB191_181.out
   have hs42 : w40.cell? ⟨gb191,1,none⟩ = some (.int .i64 0):=(kC BK191.out 1).trans rfl
   have hfs42:=blk_frozen BK191.out 1
   have hns42_0:=NB164_191.out
   have hns42_1:=NB165_191.out
   have hns42_2:=NB181_191.out
   have hms42_0:=NB191_164.out
   have hms42_1:=NB191_165.out
   have hms42_2:=NB191_181.out
   have hs43 : w40.cell? ⟨gb191,2,none⟩ = some (.int .i64 0):=(kC BK191.out 2).trans rfl
   have hfs43:=blk_frozen BK191.out 2
   have hns43_0:=NB164_191.out
   have hns43_1:=NB165_191.out
   have hns43_2:=NB181_191.out
   have hms43_0:=NB191_164.out
   have hms43_1:=NB191_165.out
   have hms43_2:=NB191_181.out
   have hs44 : w40.cell? ⟨gb191,3,none⟩ = some (.int .i64 0):=(kC BK191.out 3).trans rfl
   have hfs44:=blk_frozen BK191.out 3
   have hns44_0:=NB164_191.out
   have hns44_1:=NB165_191.out
   have hns44_2:=NB181_191.out
   have hms44_0:=NB191_164.out
   have hms44_1:=NB191_165.out
   have hms44_2:=NB191_181.out
   refine skip_ (w1:=?_) (by rfl) rfl ?_ ?_
   rotate_left
   ·go_simp
    rfl
   refine hK.out _ _ ⟨((cell_far (p:=⟨gb191,_,none⟩) NB181_191.out _).trans (((cell_far (p:=⟨gb191,_,none⟩) NB181_191.out _).trans (((cell_far (p:=⟨gb191,_,none⟩) NB181_191.out _).trans (((cell_far (p:=⟨gb191,_,none⟩) NB181_191.out _).trans (hHeld.1)))))))),((cell_far (p:=⟨gb191,_,none⟩) NB181_191.out _).trans (((cell_far (p:=⟨gb191,_,none⟩) NB181_191.out _).trans (((cell_far (p:=⟨gb191,_,none⟩) NB181_191.out _).trans (((cell_far (p:=⟨gb191,_,none⟩) NB181_191.out _).trans (hHeld.2.1)))))))),((cell_far (p:=⟨gb191,_,none⟩) NB181_191.out _).trans (((cell_far (p:=⟨gb191,_,none⟩) NB181_191.out _).trans (((cell_far (p:=⟨gb191,_,none⟩) NB181_191.out _).trans (((cell_far (p:=⟨gb191,_,none⟩) NB181_191.out _).trans (hHeld.2.2.1)))))))),((cell_far (p:=⟨gb191,_,none⟩) NB181_191.out _).trans (((cell_far (p:=⟨gb191,_,none⟩) NB181_191.out _).trans (((cell_far (p:=⟨gb191,_,none⟩) NB181_191.out _).trans (((cell_far (p:=⟨gb191,_,none⟩) NB181_191.out _).trans (hHeld.2.2.2.1)))))))),((cell_far (p:=⟨gb191,_,none⟩) NB164_191.out _).trans (((cell_far (p:=⟨gb191,_,none⟩) NB164_191.out _).trans (((cell_far (p:=⟨gb191,_,none⟩) NB164_191.out _).trans (((cell_far (p:=⟨gb191,_,none⟩) NB164_191.out _).trans (hHeld.2.2.2.2))))))))⟩ (fun hHeld => ?_)
   clear hK K
   refine pure_ (i:=11) (N:=some 8) (v:=?_) (a':=?_) #[tT,tT,tT,tT,tT,tT,tT,tT,tT,tT,tT,tT] rfl rfl (any_of HT_.out (by kernel_rfl)) (fun _ _ _ h => h) (Or.inl ⟨by rfl,?_⟩) ?_ ?_
   rotate_left
   ·intro w'
    go_simp
    first|(with_reducible rfl)|(simp only [Instr.field,go_sem, *]; rfl)
   rotate_left
   ·simp only [Act.put,lS,lZ,lC,i64_w,i32_w]
    rfl
   refine done_ (done_of HT_.out (by kernel_rfl)) ?_
   have hnb45:=NB191_164.out
   have hnc45:=NB164_191.out
   have hnb46:=NB191_165.out
   have hnc46:=NB165_191.out
   have hnb47:=NB191_181.out
   have hnc47:=NB181_191.out
   have hcz48_0 : w40.cell? ⟨gb191,0,none⟩ = some (.int .i64 0):=(kC BK191.out 0).trans rfl
   have hcz48_1 : w40.cell? ⟨gb191,1,none⟩ = some (.int .i64 0):=(kC BK191.out 1).trans rfl
   have hcz48_2 : w40.cell? ⟨gb191,2,none⟩ = some (.int .i64 0):=(kC BK191.out 2).trans rfl
   have hcz48_3 : w40.cell? ⟨gb191,3,none⟩ = some (.int .i64 0):=(kC BK191.out 3).trans rfl
   have hfz48_0:=blk_frozen BK191.out 0
   have hfz48_1:=blk_frozen BK191.out 1
   have hfz48_2:=blk_frozen BK191.out 2
   have hfz48_3:=blk_frozen BK191.out 3
   have hnb49:=NB165_164.out
   have hnc49:=NB164_165.out
   have hnb50:=NB165_181.out
   have hnc50:=NB181_165.out
   have hcz51_0 : w40.cell? ⟨gb165,0,none⟩ = some (.int .i64 0):=(kC BK165.out 0).trans rfl
   have hcz51_1 : w40.cell? ⟨gb165,1,none⟩ = some (.int .i64 0):=(kC BK165.out 1).trans rfl
   have hcz51_2 : w40.cell? ⟨gb165,2,none⟩ = some (.int .i64 0):=(kC BK165.out 2).trans rfl
   have hcz51_3 : w40.cell? ⟨gb165,3,none⟩ = some (.int .i64 0):=(kC BK165.out 3).trans rfl
   have hfz51_0:=blk_frozen BK165.out 0
   have hfz51_1:=blk_frozen BK165.out 1
   have hfz51_2:=blk_frozen BK165.out 2
   have hfz51_3:=blk_frozen BK165.out 3
   try go_wp2
   refine bodyPost_ret (results_cell_row rfl _ _ gb165 50 #[.int .i64 t186,.int .i64 t187,.int .i64 t188,.int .i64 t189] (0,0) _ rfl (by (with_reducible repeat (first|refine kN ?_ _|refine kD ?_|refine kA ?_ _)); refine blk_put (cs:=#[.int .i64 t186,.int .i64 t187,.int .i64 t188,.int .i64 0]) ?_ 3 _ rfl; (with_reducible repeat (first|refine kN ?_ _|refine kD ?_|refine kA ?_ _)); refine blk_put (cs:=#[.int .i64 t186,.int .i64 t187,.int .i64 0,.int .i64 0]) ?_ 2 _ rfl; (with_reducible repeat (first|refine kN ?_ _|refine kD ?_|refine kA ?_ _)); refine blk_put (cs:=#[.int .i64 t186,.int .i64 0,.int .i64 0,.int .i64 0]) ?_ 1 _ rfl; (with_reducible repeat (first|refine kN ?_ _|refine kD ?_|refine kA ?_ _)); refine blk_put (cs:=#[.int .i64 0,.int .i64 0,.int .i64 0,.int .i64 0]) ?_ 0 _ rfl; (with_reducible repeat (first|refine kN ?_ _|refine kD ?_|refine kA ?_ _)); refine blk_far ?_ NB165_191.out _; (with_reducible repeat (first|refine kN ?_ _|refine kD ?_|refine kA ?_ _)); refine blk_far ?_ NB165_191.out _; (with_reducible repeat (first|refine kN ?_ _|refine kD ?_|refine kA ?_ _)); refine blk_far ?_ NB165_191.out _; (with_reducible repeat (first|refine kN ?_ _|refine kD ?_|refine kA ?_ _)); refine blk_far ?_ NB165_191.out _; (with_reducible repeat (first|refine kN ?_ _|refine kD ?_|refine kA ?_ _)); exact BK165.out) Try.underlying50 rfl (by kernel_rfl)) rfl ?_
   exact ⟨by first|rfl|(simp [errW_none,errW_some] <;> rfl)|(simp [*,errW_none,errW_some] <;> rfl),by repeat (first|(with_reducible first|exact HB.out|apply bA|apply bD|apply bE|refine bS ?_ GE164.out|refine bS ?_ GE165.out|refine bS ?_ GE181.out|refine bS ?_ GE191.out)|exact HB.out)⟩
end Go.Proofs.Ytmjccdljalocbaa.PFnExactGroupSum
