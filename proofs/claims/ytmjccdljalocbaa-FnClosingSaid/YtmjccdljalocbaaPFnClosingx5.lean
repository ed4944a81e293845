-- WRITTEN FOR THIS CLAIM by wip/ownprint.py of this session: the print's way, with changes (the print itself does not take this law).
import Derived.Test.YtmjccdljalocbaaPFnClosingx0
import Derived.Test.YtmjccdljalocbaaPFnClosingx2
import Derived.Test.YtmjccdljalocbaaPFnClosingx4
namespace Go.Proofs.Ytmjccdljalocbaa.PFnClosing
open Go.RowKit Go.Proofs.YtmjccdljalocbaaW.PrintWords Go.Proofs.YtmjccdljalocbaaW.PrintLast Go.Proofs.YtmjccdljalocbaaW.PrintMore
attribute [local go_sem] max2_int min2_int max_two min_two max_three min_three max_four min_four   -- for this text's walks alone
set_option linter.unusedVariables false
set_option linter.unusedSimpArgs false

private abbrev tT := true
private abbrev fF := false
private abbrev lS := @List.setIfInBounds_toArray
private abbrev lZ := @List.set_cons_zero
private abbrev lC := @List.set_cons_succ
private abbrev bD := @pw_below_drewN
private abbrev bA := @below_alloc
private abbrev bE := @below_drew1
private abbrev kN := @blk_drewN
private abbrev kA := @blk_alloc
private abbrev kD := @blk_drew
private abbrev bS := @below_set
private abbrev kC := @blk_cell
private abbrev kB := @blk_below
/-! ### impl_GroupSum: function 36 -/
def impl_GroupSum.j0 : Nat → Int → Bool → List Int → Option (Int × Int × Int × Int)
 | 0,_,_,_ => none
 | k + 1,x1,x16,x167000 => if x16 = true then (some (0,0,0,0)) else ((impl_ThirdAt.f k x167000 x1).bind fun bt170 => ((impl_ThirdAt.f k x167000 (wrap64 (x1 + 4))).bind fun bt174 => ((impl_AddIntervals.f k bt170.1 bt170.2.1 bt170.2.2.1 bt170.2.2.2 bt174.1 bt174.2.1 bt174.2.2.1 bt174.2.2.2).bind fun bt178 => ((impl_ThirdAt.f k x167000 (wrap64 (x1 + 8))).bind fun bt184 => ((impl_AddIntervals.f k bt178.1 bt178.2.1 bt178.2.2.1 bt178.2.2.2.1 bt184.1 bt184.2.1 bt184.2.2.1 bt184.2.2.2).bind fun bt188 => (if bt178.2.2.2.2 = true then (if bt188.2.2.2.2 = true then (some (bt188.1,bt188.2.1,bt188.2.2.1,bt188.2.2.2.1)) else (some (0,0,0,0))) else (some (0,0,0,0))))))))
def impl_GroupSum.f (k : Nat) (l0_0 : List Int) (a1 : Int) : Option (Int × Int × Int × Int):=(impl_CircleOk.f k l0_0).bind fun t168 => (if t168 = true then ((impl_within.f a1 0 3).bind fun t169 => (impl_GroupSum.j0 k a1 (!t169) l0_0)) else (impl_GroupSum.j0 k a1 true l0_0))
theorem impl_GroupSum.mono_l : ∀ k,(∀ y0 y1 y2,LeO (impl_GroupSum.j0 k y0 y1 y2) (impl_GroupSum.j0 (k + 1) y0 y1 y2))
 | 0 => fun _ _ _ r h => by simp [impl_GroupSum.j0] at h
 | k + 1 => by
  have ih0:=impl_GroupSum.mono_l k
  ·intro y0 y1 y2
   unfold impl_GroupSum.j0
   repeat' first
   | (with_reducible exact ih0 _ _ _)
   | (with_reducible exact impl_AddIntervals.mono _ _ _ _ _ _ _ _ _)
   | (with_reducible exact impl_CircleOk.mono _ _)
   | (with_reducible exact impl_ThirdAt.mono _ _ _)
   | (with_reducible exact LeO.refl _)
   | (with_reducible exact LeO.none _)
   | (with_reducible refine LeO.ite ?_ ?_)
   | (with_reducible refine LeO.bind ?_ (fun _ => ?_))
   | exact ih0 _ _ _
   | exact impl_AddIntervals.mono _ _ _ _ _ _ _ _ _
   | exact impl_CircleOk.mono _ _
   | exact impl_ThirdAt.mono _ _ _
   | exact LeO.none _
   | refine LeO.ite ?_ ?_
   | refine LeO.bind ?_ (fun _ => ?_)
theorem impl_GroupSum.mono : ∀ a0 a1 k,LeO (impl_GroupSum.f k a0 a1) (impl_GroupSum.f (k + 1) a0 a1):=by
 intro a0 a1 k
 have ih0:=impl_GroupSum.mono_l k
 unfold impl_GroupSum.f
 repeat' first
   | (with_reducible exact ih0 _ _ _)
   | (with_reducible exact impl_AddIntervals.mono _ _ _ _ _ _ _ _ _)
   | (with_reducible exact impl_CircleOk.mono _ _)
   | (with_reducible exact impl_ThirdAt.mono _ _ _)
   | (with_reducible exact LeO.refl _)
   | (with_reducible exact LeO.none _)
   | (with_reducible refine LeO.ite ?_ ?_)
   | (with_reducible refine LeO.bind ?_ (fun _ => ?_))
   | exact ih0 _ _ _
   | exact impl_AddIntervals.mono _ _ _ _ _ _ _ _ _
   | exact impl_CircleOk.mono _ _
   | exact impl_ThirdAt.mono _ _ _
   | exact LeO.none _
   | refine LeO.ite ?_ ?_
   | refine LeO.bind ?_ (fun _ => ?_)
def impl_GroupSum.T3 : Bool × List (List Nat × List Nat):=(true,[([],[]),([],[]),([0,1],[0,1]),([],[]),([],[]),([4],[4]),([3,5,2],[3,5]),([2,6,6],[2,6]),([7],[7]),([8],[8]),([8],[8]),([],[]),([11,9,7,0,1,2,3,4,5,6,7,8,9,11],[9,11]),([10,12,0,1,2,3,4,5,6,7,8,9,10,11,12],[10])])
def impl_GroupSum.B3 : List Nat:=[0,0,3,0,0,16,63,127,255,511,511,0,3071,8191]
theorem impl_GroupSum.tab3 : rtab .any (opsOf Try.f36 3) = impl_GroupSum.T3:=by kernel_rfl
theorem impl_GroupSum.bits3 : waitsOk impl_GroupSum.T3.2 impl_GroupSum.B3 = true:=by kernel_rfl
def impl_GroupSum.T4 : Bool × List (List Nat × List Nat):=(true,[([],[]),([],[]),([],[]),([2],[2]),([1,3],[1,3]),([0,4,4],[0,4]),([5],[5]),([6],[6]),([6],[6]),([],[]),([9,7,5,0,1,2,3,4,5,6,7,9],[7,9]),([8,10,0,1,2,3,4,5,6,7,8,9,10],[8])])
def impl_GroupSum.B4 : List Nat:=[0,0,0,4,14,31,63,127,127,0,767,2047]
theorem impl_GroupSum.tab4 : rtab .any (opsOf Try.f36 4) = impl_GroupSum.T4:=by kernel_rfl
theorem impl_GroupSum.bits4 : waitsOk impl_GroupSum.T4.2 impl_GroupSum.B4 = true:=by kernel_rfl
set_option maxHeartbeats 8000000 in
set_option maxRecDepth 100000 in
theorem impl_GroupSum.calls (k : Nat) (A0_0 : Option Addr) (c0_0 : Nat) (l0_0 : List Int) (a1 : Int) (r1 : Int) (r2 : Int) (r3 : Int) (r4 : Int) (w : World) (hr0_0 : Kd.C (Kd.int .i64) w A0_0 l0_0.length l0_0) (hc0_0 : l0_0.length ≤ c0_0) (h : impl_GroupSum.f k l0_0 a1 = some (r1,r2,r3,r4)) :
  Calls Try.prog 36 #[.agg #[.slice A0_0 l0_0.length c0_0],.int .i64 a1] w fun e w' => e = .returned (.agg #[.int .i64 r1,.int .i64 r2,.int .i64 r3,.int .i64 r4]) ∧ Below w.heap.size w w':=by
 have hu42:=Try.underlying42
 have hu50:=Try.underlying50
 have HR0_0:=Aside0.mk hr0_0
 have HC0_0:=Aside0.mk hc0_0
 clear hr0_0 hc0_0
 have HB:=Aside0.mk (Below.refl w.heap.size w)
 have H : ((impl_CircleOk.f k l0_0).bind fun t168 => (if t168 = true then ((impl_within.f a1 0 3).bind fun t169 => (impl_GroupSum.j0 k a1 (!t169) l0_0)) else (impl_GroupSum.j0 k a1 true l0_0))) = some (r1,r2,r3,r4):=h
 clear h
 have HC3:=Aside0.mk H
 clear H
 go_enter Try.func36,Try.ntmps36
 go_upto_region 1 with (first|((with_reducible refine gate_dst (N:=2) rfl ?_); refine box_event ?hg (N:=2) ?hd (cs:=#[.slice A0_0 l0_0.length c0_0]) (t:=42) ?hr ?_; (case hd => rfl); (case hg => rfl); (case hr => first|(go_simp; done)|(go_simp; rfl)); intro gb166 hg w4 hbox hb; have n0_:=Aside0.mk (below_step (by repeat (first|(with_reducible first|exact HB.out|apply bA|apply bD|apply bE)|exact HB.out)) hb); have n1_:=Aside0.mk (hbox); have n2_:=Aside0.mk ((by rw [hg]; exact (below_size (by repeat (first|(with_reducible first|exact HB.out|apply bA|apply bD|apply bE)|exact HB.out))) : w.heap.size ≤ gb166)); have n3_:=Aside0.mk ((by rw [hg]; exact (below_size (by repeat (first|(with_reducible first|exact HB.out|apply bA|apply bD|apply bE)|exact HB.out))) : w.heap.size ≤ gb166)); clear HB; have HB:=n0_; have BK166:=n1_; have GW166:=n2_; have GE166:=n3_; clear n0_ n1_ n2_ n3_; clear hb hbox hg)|((with_reducible refine gate_dst (N:=4) rfl ?_); refine box_event ?hg (N:=4) ?hd (cs:=#[.int .i64 0,.int .i64 0,.int .i64 0,.int .i64 0]) (t:=50) ?hr ?_; (case hd => rfl); (case hg => rfl); (case hr => first|(go_simp; done)|(go_simp; rfl)); intro gb167 hg w5 hbox hb; have n0_:=Aside0.mk (kB (g:=gb166) (o:=.cells #[.slice A0_0 l0_0.length c0_0] 42 (0,0)) (by (with_reducible repeat (first|refine kN ?_ _|refine kD ?_|refine kA ?_ _)); exact BK166.out) hb); have n1_:=Aside0.mk (below_step (by repeat (first|(with_reducible first|exact HB.out|apply bA|apply bD|apply bE|refine bS ?_ GE166.out)|exact HB.out)) hb); have n2_:=Aside0.mk (hbox); have n3_:=Aside0.mk ((by rw [hg]; exact (below_size (by repeat (first|(with_reducible first|exact HB.out|apply bA|apply bD|apply bE|refine bS ?_ GE166.out)|exact HB.out))) : w.heap.size ≤ gb167)); have n4_:=Aside0.mk ((by rw [hg]; exact (below_size (by repeat (first|(with_reducible first|exact HB.out|apply bA|apply bD|apply bE|refine bS ?_ GE166.out)|exact HB.out))) : w.heap.size ≤ gb167)); have n5_:=Aside0.mk ((by rw [hg]; exact Nat.ne_of_lt (blk_lt (g:=gb166) (o:=.cells #[.slice A0_0 l0_0.length c0_0] 42 (0,0)) (by (with_reducible repeat (first|refine kN ?_ _|refine kD ?_|refine kA ?_ _)); exact BK166.out)) : gb166 ≠ gb167)); have n6_:=Aside0.mk ((by rw [hg]; exact Nat.ne_of_gt (blk_lt (g:=gb166) (o:=.cells #[.slice A0_0 l0_0.length c0_0] 42 (0,0)) (by (with_reducible repeat (first|refine kN ?_ _|refine kD ?_|refine kA ?_ _)); exact BK166.out)) : gb167 ≠ gb166)); clear BK166; clear HB; have BK166:=n0_; have HB:=n1_; have BK167:=n2_; have GW167:=n3_; have GE167:=n4_; have NB166_167:=n5_; have NB167_166:=n6_; clear n0_ n1_ n2_ n3_ n4_ n5_ n6_; clear hb hbox hg))
 (try simp only [Act.put,lS,lZ,lC])
 go_cut [16] (fun v16 wc => ∃ (kq : Nat) (x16_2 : Bool),v16 = .bool x16_2 ∧ Aside0 (impl_GroupSum.j0 kq a1 x16_2 l0_0 = some (r1,r2,r3,r4)) ∧ Aside0 (kq ≤ k) ∧ Aside0 (wc.heap[gb166]? = some (.cells #[(.slice A0_0 l0_0.length c0_0)] 42 (0,0))) ∧ Aside0 (wc.heap[gb167]? = some (.cells #[.int .i64 0,.int .i64 0,.int .i64 0,.int .i64 0] 50 (0,0))) ∧ Aside0 (Below w.heap.size w wc))
 case first =>
  have H:=HC3.out
  clear HC3
  replace H:=Option.bind_eq_some_iff.mp H
  obtain ⟨t168,A60,H⟩:=H
  replace H : (if t168 = true then ((impl_within.f a1 0 3).bind fun t169 => (impl_GroupSum.j0 k a1 (!t169) l0_0)) else (impl_GroupSum.j0 k a1 true l0_0)) = some (r1,r2,r3,r4):=H
  have A6:=Aside0.mk A60
  clear A60
  by_cases c7 : t168 = true
  rotate_left
  ·replace c7:=Bool.eq_false_iff.mpr c7
   subst c7
   have H1 : (impl_GroupSum.j0 k a1 true l0_0) = some (r1,r2,r3,r4):=by rw [if_neg (show ¬ (false = true) by decide)] at H; exact H
   clear H
   have H:=H1
   clear H1
   have H':=Aside0.mk H
   clear H
   have hnb12:=NB166_167.out
   have hnc12:=NB167_166.out
   have hcz13_0 : w5.cell? ⟨gb166,0,none⟩ = some (.slice A0_0 l0_0.length c0_0):=(kC BK166.out 0).trans rfl
   have hfz13_0:=blk_frozen BK166.out 0
   go_wp2_with (first|((with_reducible refine gate_callee (f:=54) rfl ?_); refine goesL_ (some 10) rfl rfl Try.func54 (by kernel_rfl) rfl #[.agg #[.slice A0_0 l0_0.length c0_0]] rfl (by (try simp only [List.map_toArray,List.map_cons,List.map_nil]); first|done|rfl|(simp only [List.length_drop,List.length_take]; rfl)) ?_; (with_reducible refine (impl_CircleOk.calls k _ _ l0_0 false _ ?side1 ?side2 A6.out).mono ?_); (case side1 => repeat (first|exact (Kd.C_below HR0_0.out HB.out)|(with_reducible refine Kd.C_alloc ?_ _)|(with_reducible refine Kd.C_drewN ?_ _)|(with_reducible refine Kd.C_drew ?_))); (case side2 => exact HC0_0.out); rintro e w14 ⟨rfl,hb⟩; refine ⟨_,rfl,?_⟩; have n0_:=Aside0.mk (kB (g:=gb166) (o:=.cells #[.slice A0_0 l0_0.length c0_0] 42 (0,0)) (by (with_reducible repeat (first|refine kN ?_ _|refine kD ?_|refine kA ?_ _)); exact BK166.out) hb); have n1_:=Aside0.mk (kB (g:=gb167) (o:=.cells #[.int .i64 0,.int .i64 0,.int .i64 0,.int .i64 0] 50 (0,0)) (by (with_reducible repeat (first|refine kN ?_ _|refine kD ?_|refine kA ?_ _)); exact BK167.out) hb); have n2_:=Aside0.mk (below_step (by repeat (first|(with_reducible first|exact HB.out|apply bA|apply bD|apply bE|refine bS ?_ GE166.out|refine bS ?_ GE167.out)|exact HB.out)) hb); clear BK166; clear BK167; clear HB; have BK166:=n0_; have BK167:=n1_; have HB:=n2_; clear n0_ n1_ n2_; (try clear hb); (try clear hb2); (try clear hk); (try clear hi)))
   go_meet
   case rel => exact ⟨_,(true),(by first|rfl|(simp; done)|(simp [*]; done)),H',⟨by first|omega|exact Nat.le_refl _⟩,⟨by (with_reducible repeat (first|refine kN ?_ _|refine kD ?_|refine kA ?_ _)); exact BK166.out⟩,⟨by (with_reducible repeat (first|refine kN ?_ _|refine kD ?_|refine kA ?_ _)); exact BK167.out⟩,⟨by repeat (first|(with_reducible first|exact HB.out|apply bA|apply bD|apply bE|refine bS ?_ GE166.out|refine bS ?_ GE167.out)|exact HB.out)⟩⟩
  subst c7
  have H1 : ((impl_within.f a1 0 3).bind fun t169 => (impl_GroupSum.j0 k a1 (!t169) l0_0)) = some (r1,r2,r3,r4):=by rw [if_pos rfl] at H; exact H
  clear H
  have H:=H1
  clear H1
  replace H:=Option.bind_eq_some_iff.mp H
  obtain ⟨t169,A80,H⟩:=H
  replace H : (impl_GroupSum.j0 k a1 (!t169) l0_0) = some (r1,r2,r3,r4):=H
  have A8:=Aside0.mk A80
  clear A80
  have H':=Aside0.mk H
  clear H
  have hnb9:=NB166_167.out
  have hnc9:=NB167_166.out
  have hcz10_0 : w5.cell? ⟨gb166,0,none⟩ = some (.slice A0_0 l0_0.length c0_0):=(kC BK166.out 0).trans rfl
  have hfz10_0:=blk_frozen BK166.out 0
  go_wp2_with (first|((with_reducible refine gate_callee (f:=54) rfl ?_); refine goesL_ (some 10) rfl rfl Try.func54 (by kernel_rfl) rfl #[.agg #[.slice A0_0 l0_0.length c0_0]] rfl (by (try simp only [List.map_toArray,List.map_cons,List.map_nil]); first|done|rfl|(simp only [List.length_drop,List.length_take]; rfl)) ?_; (with_reducible refine (impl_CircleOk.calls k _ _ l0_0 true _ ?side1 ?side2 A6.out).mono ?_); (case side1 => repeat (first|exact (Kd.C_below HR0_0.out HB.out)|(with_reducible refine Kd.C_alloc ?_ _)|(with_reducible refine Kd.C_drewN ?_ _)|(with_reducible refine Kd.C_drew ?_))); (case side2 => exact HC0_0.out); rintro e w11 ⟨rfl,hb⟩; refine ⟨_,rfl,?_⟩; have n0_:=Aside0.mk (kB (g:=gb166) (o:=.cells #[.slice A0_0 l0_0.length c0_0] 42 (0,0)) (by (with_reducible repeat (first|refine kN ?_ _|refine kD ?_|refine kA ?_ _)); exact BK166.out) hb); have n1_:=Aside0.mk (kB (g:=gb167) (o:=.cells #[.int .i64 0,.int .i64 0,.int .i64 0,.int .i64 0] 50 (0,0)) (by (with_reducible repeat (first|refine kN ?_ _|refine kD ?_|refine kA ?_ _)); exact BK167.out) hb); have n2_:=Aside0.mk (below_step (by repeat (first|(with_reducible first|exact HB.out|apply bA|apply bD|apply bE|refine bS ?_ GE166.out|refine bS ?_ GE167.out)|exact HB.out)) hb); clear BK166; clear BK167; clear HB; have BK166:=n0_; have BK167:=n1_; have HB:=n2_; clear n0_ n1_ n2_; (try clear hb); (try clear hb2); (try clear hk); (try clear hi))|(go_at_call 46; (with_reducible refine (impl_within.calls a1 0 3 t169 _ A8.out).mono ?_); rintro e w' ⟨rfl,⟨nd,rfl⟩⟩))
  go_meet
  case rel => exact ⟨_,(!t169),(by first|rfl|(simp; done)|(simp [*]; done)),H',⟨by first|omega|exact Nat.le_refl _⟩,⟨by (with_reducible repeat (first|refine kN ?_ _|refine kD ?_|refine kA ?_ _)); exact BK166.out⟩,⟨by (with_reducible repeat (first|refine kN ?_ _|refine kD ?_|refine kA ?_ _)); exact BK167.out⟩,⟨by repeat (first|(with_reducible first|exact HB.out|apply bA|apply bD|apply bE|refine bS ?_ GE166.out|refine bS ?_ GE167.out)|exact HB.out)⟩⟩
 case rest =>
  clear HC3
  try clear c1
  try clear p2
  try clear c3
  try clear c5
  try clear c7
  try clear c9
  try clear c12
  try clear hcz10_0
  try clear hcz13_0
  try clear hfz10_0
  try clear hfz13_0
  obtain ⟨kq,x16_2,rfl,HA,HJ2,BK166,BK167,HB⟩:=hcut
  cases kq with
  | zero => exact absurd HA.out (by simp [impl_GroupSum.j0])
  | succ kj2 =>
   have H:=HA.out
   clear HA
   simp only [impl_GroupSum.j0] at H
   by_cases c15 : x16_2 = true
   ·subst c15
    have H1 : (some (0,0,0,0)) = some (r1,r2,r3,r4):=by rw [if_pos rfl] at H; exact H
    clear H
    have H:=H1
    clear H1
    simp only [Option.some.injEq,Prod.mk.injEq] at H
    obtain ⟨rfl,rfl,rfl,rfl⟩:=H
    have hnb16:=NB167_166.out
    have hnc16:=NB166_167.out
    have hcz17_0 : wc.cell? ⟨gb167,0,none⟩ = some (.int .i64 0):=(kC BK167.out 0).trans rfl
    have hcz17_1 : wc.cell? ⟨gb167,1,none⟩ = some (.int .i64 0):=(kC BK167.out 1).trans rfl
    have hcz17_2 : wc.cell? ⟨gb167,2,none⟩ = some (.int .i64 0):=(kC BK167.out 2).trans rfl
    have hcz17_3 : wc.cell? ⟨gb167,3,none⟩ = some (.int .i64 0):=(kC BK167.out 3).trans rfl
    have hfz17_0:=blk_frozen BK167.out 0
    have hfz17_1:=blk_frozen BK167.out 1
    have hfz17_2:=blk_frozen BK167.out 2
    have hfz17_3:=blk_frozen BK167.out 3
    go_wp2
    refine bodyPost_ret (results_cell_row rfl _ _ gb167 50 #[.int .i64 0,.int .i64 0,.int .i64 0,.int .i64 0] (0,0) _ rfl (by (with_reducible repeat (first|refine kN ?_ _|refine kD ?_|refine kA ?_ _)); refine blk_put (cs:=#[.int .i64 0,.int .i64 0,.int .i64 0,.int .i64 0]) ?_ 3 _ rfl; (with_reducible repeat (first|refine kN ?_ _|refine kD ?_|refine kA ?_ _)); refine blk_put (cs:=#[.int .i64 0,.int .i64 0,.int .i64 0,.int .i64 0]) ?_ 2 _ rfl; (with_reducible repeat (first|refine kN ?_ _|refine kD ?_|refine kA ?_ _)); refine blk_put (cs:=#[.int .i64 0,.int .i64 0,.int .i64 0,.int .i64 0]) ?_ 1 _ rfl; (with_reducible repeat (first|refine kN ?_ _|refine kD ?_|refine kA ?_ _)); refine blk_put (cs:=#[.int .i64 0,.int .i64 0,.int .i64 0,.int .i64 0]) ?_ 0 _ rfl; (with_reducible repeat (first|refine kN ?_ _|refine kD ?_|refine kA ?_ _)); exact BK167.out) Try.underlying50 rfl (by kernel_rfl)) rfl ?_
    exact ⟨by first|rfl|(simp [errW_none,errW_some] <;> rfl)|(simp [*,errW_none,errW_some] <;> rfl),by repeat (first|(with_reducible first|exact HB.out|apply bA|apply bD|apply bE|refine bS ?_ GE166.out|refine bS ?_ GE167.out)|exact HB.out)⟩
   replace c15:=Bool.eq_false_iff.mpr c15
   subst c15
   have H1 : ((impl_ThirdAt.f kj2 l0_0 a1).bind fun bt170 => ((impl_ThirdAt.f kj2 l0_0 (wrap64 (a1 + 4))).bind fun bt174 => ((impl_AddIntervals.f kj2 bt170.1 bt170.2.1 bt170.2.2.1 bt170.2.2.2 bt174.1 bt174.2.1 bt174.2.2.1 bt174.2.2.2).bind fun bt178 => ((impl_ThirdAt.f kj2 l0_0 (wrap64 (a1 + 8))).bind fun bt184 => ((impl_AddIntervals.f kj2 bt178.1 bt178.2.1 bt178.2.2.1 bt178.2.2.2.1 bt184.1 bt184.2.1 bt184.2.2.1 bt184.2.2.2).bind fun bt188 => (if bt178.2.2.2.2 = true then (if bt188.2.2.2.2 = true then (some (bt188.1,bt188.2.1,bt188.2.2.1,bt188.2.2.2.1)) else (some (0,0,0,0))) else (some (0,0,0,0)))))))) = some (r1,r2,r3,r4):=by rw [if_neg (show ¬ (false = true) by decide)] at H; exact H
   clear H
   have H:=H1
   clear H1
   replace H:=Option.bind_eq_some_iff.mp H
   obtain ⟨⟨t170,t171,t172,t173⟩,A180,H⟩:=H
   replace H : ((impl_ThirdAt.f kj2 l0_0 (wrap64 (a1 + 4))).bind fun bt174 => ((impl_AddIntervals.f kj2 t170 t171 t172 t173 bt174.1 bt174.2.1 bt174.2.2.1 bt174.2.2.2).bind fun bt178 => ((impl_ThirdAt.f kj2 l0_0 (wrap64 (a1 + 8))).bind fun bt184 => ((impl_AddIntervals.f kj2 bt178.1 bt178.2.1 bt178.2.2.1 bt178.2.2.2.1 bt184.1 bt184.2.1 bt184.2.2.1 bt184.2.2.2).bind fun bt188 => (if bt178.2.2.2.2 = true then (if bt188.2.2.2.2 = true then (some (bt188.1,bt188.2.1,bt188.2.2.1,bt188.2.2.2.1)) else (some (0,0,0,0))) else (some (0,0,0,0))))))) = some (r1,r2,r3,r4):=H
   have A18:=Aside0.mk A180
   clear A180
   replace H:=Option.bind_eq_some_iff.mp H
   obtain ⟨⟨t174,t175,t176,t177⟩,A190,H⟩:=H
   replace H : ((impl_AddIntervals.f kj2 t170 t171 t172 t173 t174 t175 t176 t177).bind fun bt178 => ((impl_ThirdAt.f kj2 l0_0 (wrap64 (a1 + 8))).bind fun bt184 => ((impl_AddIntervals.f kj2 bt178.1 bt178.2.1 bt178.2.2.1 bt178.2.2.2.1 bt184.1 bt184.2.1 bt184.2.2.1 bt184.2.2.2).bind fun bt188 => (if bt178.2.2.2.2 = true then (if bt188.2.2.2.2 = true then (some (bt188.1,bt188.2.1,bt188.2.2.1,bt188.2.2.2.1)) else (some (0,0,0,0))) else (some (0,0,0,0)))))) = some (r1,r2,r3,r4):=H
   have A19:=Aside0.mk A190
   clear A190
   replace H:=Option.bind_eq_some_iff.mp H
   obtain ⟨⟨t178,t179,t180,t181,t182⟩,A200,H⟩:=H
   replace H : ((impl_ThirdAt.f kj2 l0_0 (wrap64 (a1 + 8))).bind fun bt184 => ((impl_AddIntervals.f kj2 t178 t179 t180 t181 bt184.1 bt184.2.1 bt184.2.2.1 bt184.2.2.2).bind fun bt188 => (if t182 = true then (if bt188.2.2.2.2 = true then (some (bt188.1,bt188.2.1,bt188.2.2.1,bt188.2.2.2.1)) else (some (0,0,0,0))) else (some (0,0,0,0))))) = some (r1,r2,r3,r4):=H
   have A20:=Aside0.mk A200
   clear A200
   replace H:=Option.bind_eq_some_iff.mp H
   obtain ⟨⟨t184,t185,t186,t187⟩,A210,H⟩:=H
   replace H : ((impl_AddIntervals.f kj2 t178 t179 t180 t181 t184 t185 t186 t187).bind fun bt188 => (if t182 = true then (if bt188.2.2.2.2 = true then (some (bt188.1,bt188.2.1,bt188.2.2.1,bt188.2.2.2.1)) else (some (0,0,0,0))) else (some (0,0,0,0)))) = some (r1,r2,r3,r4):=H
   have A21:=Aside0.mk A210
   clear A210
   replace H:=Option.bind_eq_some_iff.mp H
   obtain ⟨⟨t188,t189,t190,t191,t192⟩,A220,H⟩:=H
   replace H : (if t182 = true then (if t192 = true then (some (t188,t189,t190,t191)) else (some (0,0,0,0))) else (some (0,0,0,0))) = some (r1,r2,r3,r4):=H
   have A22:=Aside0.mk A220
   clear A220
   by_cases c23 : t182 = true
   rotate_left
   ·replace c23:=Bool.eq_false_iff.mpr c23
    subst c23
    have H1 : (some (0,0,0,0)) = some (r1,r2,r3,r4):=by rw [if_neg (show ¬ (false = true) by decide)] at H; exact H
    clear H
    have H:=H1
    clear H1
    simp only [Option.some.injEq,Prod.mk.injEq] at H
    obtain ⟨rfl,rfl,rfl,rfl⟩:=H
    try go_wp2
    have n0_:=Aside0.mk (kD BK166.out)
    have n1_:=Aside0.mk (kD BK167.out)
    have n2_:=Aside0.mk (bE HB.out)
    clear BK166
    clear BK167
    clear HB
    have BK166:=n0_
    have BK167:=n1_
    have HB:=n2_
    clear n0_ n1_ n2_
    refine start_ (n:=14) (S:=fun w' => w'.cell? ⟨gb166,0,none⟩ = some (.slice A0_0 l0_0.length c0_0)) (ds:=[]) #[fF,fF,fF,fF,fF,fF,fF,fF,fF,fF,fF,fF,fF,fF] (by kernel_rfl) rfl rfl ((kC BK166.out 0).trans rfl) (fun hHeld => ?_); refine with_tabW impl_GroupSum.tab3 impl_GroupSum.bits3 (fun HT_ HW_ => ?_)
    generalize wc.drew = w76 at BK166 BK167 HB hHeld ⊢
    refine pure_ (i:=1) (N:=some 20) (v:=?_) (a':=?_) #[fF,tT,fF,fF,fF,fF,fF,fF,fF,fF,fF,fF,fF,fF] rfl rfl (any_of HT_.out (by kernel_rfl)) (fun _ _ _ h => h) (Or.inl ⟨by rfl,?_⟩) ?_ ?_
    rotate_left
    ·intro w'
     go_simp
     first|(with_reducible rfl)|(simp only [Instr.field,go_sem, *]; rfl)
    rotate_left
    ·simp only [Act.put,lS,lZ,lC,i64_w,i32_w]
     rfl
    refine pure_ (i:=4) (N:=some 23) (v:=?_) (a':=?_) #[fF,tT,fF,fF,tT,fF,fF,fF,fF,fF,fF,fF,fF,fF] rfl rfl (any_of HT_.out (by kernel_rfl)) (fun _ _ _ h => h) (Or.inl ⟨by rfl,?_⟩) ?_ ?_
    rotate_left
    ·intro w'
     go_simp
     first|(with_reducible rfl)|(simp only [Instr.field,go_sem, *]; rfl)
    rotate_left
    ·simp only [Act.put,lS,lZ,lC,i64_w,i32_w]
     rfl
    refine pure_ (i:=5) (N:=some 24) (v:=?_) (a':=?_) #[fF,tT,fF,fF,tT,tT,fF,fF,fF,fF,fF,fF,fF,fF] rfl rfl (any_of HT_.out (by kernel_rfl)) (fun _ _ _ h => h) (Or.inl ⟨by rfl,?_⟩) ?_ ?_
    rotate_left
    ·intro w'
     go_simp
     first|(with_reducible rfl)|(simp only [Instr.field,go_sem, *]; rfl)
    rotate_left
    ·simp only [Act.put,lS,lZ,lC,i64_w,i32_w]
     rfl
    refine take_ (i:=0) (N:=some 19) (v:=?_) (a':=?_) #[tT,tT,fF,fF,tT,tT,fF,fF,fF,fF,fF,fF,fF,fF] rfl rfl (take_ofW HT_.out HW_.out (by kernel_rfl)) (fun _ _ _ h => h) (Or.inl ⟨by rfl,?_⟩) hHeld ?_ ?_
    rotate_left
    ·intro w' s0
     go_simp
     first|(with_reducible rfl)|(simp only [Instr.field,go_sem, *]; rfl)
    rotate_left
    ·simp only [Act.put,lS,lZ,lC,i64_w,i32_w]
     rfl
    refine take_ (i:=3) (N:=some 22) (v:=?_) (a':=?_) #[tT,tT,fF,tT,tT,tT,fF,fF,fF,fF,fF,fF,fF,fF] rfl rfl (take_ofW HT_.out HW_.out (by kernel_rfl)) (fun _ _ _ h => h) (Or.inl ⟨by rfl,?_⟩) hHeld ?_ ?_
    rotate_left
    ·intro w' s0
     go_simp
     first|(with_reducible rfl)|(simp only [Instr.field,go_sem, *]; rfl)
    rotate_left
    ·simp only [Act.put,lS,lZ,lC,i64_w,i32_w]
     rfl
    refine join_ (σ:=Nat) 2 #[tT,tT,tT,tT,tT,tT,tT,tT,tT,tT,tT,tT,fF,fF] (fun s_ => [(21,.agg #[.int .i64 t170,.int .i64 t171,.int .i64 t172,.int .i64 t173]),(25,.agg #[.int .i64 t174,.int .i64 t175,.int .i64 t176,.int .i64 t177]),(26,.tuple #[.agg #[.int .i64 t178,.int .i64 t179,.int .i64 t180,.int .i64 t181],.bool false]),(5,.pointer (some ⟨s_,0,none⟩)),(18,.tuple #[.agg #[.int .i64 t178,.int .i64 t179,.int .i64 t180,.int .i64 t181],.bool false]),(27,.agg #[.int .i64 t178,.int .i64 t179,.int .i64 t180,.int .i64 t181]),(28,.bool false)]) (fun s_ w' => (w'.cell? ⟨gb166,0,none⟩ = some (.slice A0_0 l0_0.length c0_0)) ∧ (w'.heap[gb166]? = some (.cells #[.slice A0_0 l0_0.length c0_0] 42 (0,0))) ∧ (w'.heap[gb167]? = some (.cells #[.int .i64 0,.int .i64 0,.int .i64 0,.int .i64 0] 50 (0,0))) ∧ (w'.heap[s_]? = some (.cells #[.int .i64 0,.int .i64 0,.int .i64 0,.int .i64 0] 50 (0,0))) ∧ (w.heap.size ≤ s_) ∧ (w.heap.size ≤ s_) ∧ (gb166 ≠ s_) ∧ (s_ ≠ gb166) ∧ (gb167 ≠ s_) ∧ (s_ ≠ gb167) ∧ (Below w.heap.size w w')) ?_ ?_
    rotate_left
    ·intro hCont
     refine two_ (i:=2) (j:=11) (Ni:=some 21) (Nj:=some 5) #[tT,tT,tT,tT,tT,tT,fF,fF,fF,fF,fF,fF,fF,fF] #[tT,tT,fF,tT,tT,tT,fF,fF,fF,fF,fF,tT,fF,fF] rfl rfl rfl rfl (two_of HT_.out (by kernel_rfl)) (by decide) (by decide) (fun K hK => ?_) (fun K hK => ?_)
     ·skip
      refine goes_ Try.func62 (by kernel_rfl) rfl #[.agg #[.slice A0_0 l0_0.length c0_0],.int .i64 a1] (by rfl) rfl rfl (by (try simp only [List.map_toArray,List.map_cons,List.map_nil]); first|done|rfl|(simp only [List.length_drop,List.length_take]; rfl)) ?_
      with_reducible refine (impl_ThirdAt.calls kj2 _ _ l0_0 a1 t170 t171 t172 t173 _ ?side1 ?side2 A18.out).mono ?_
      (case side1 => repeat (first|exact (Kd.C_below HR0_0.out HB.out)|(with_reducible refine Kd.C_alloc ?_ _)|(with_reducible refine Kd.C_drewN ?_ _)|(with_reducible refine Kd.C_drew ?_)))
      (case side2 => exact HC0_0.out)
      rintro e w77 ⟨rfl,hb⟩
      refine ⟨_,rfl,?_⟩
      have n0_:=Aside0.mk (kB (g:=gb166) (o:=.cells #[.slice A0_0 l0_0.length c0_0] 42 (0,0)) (by (with_reducible repeat (first|refine kN ?_ _|refine kD ?_|refine kA ?_ _)); exact BK166.out) hb)
      have n1_:=Aside0.mk (kB (g:=gb167) (o:=.cells #[.int .i64 0,.int .i64 0,.int .i64 0,.int .i64 0] 50 (0,0)) (by (with_reducible repeat (first|refine kN ?_ _|refine kD ?_|refine kA ?_ _)); exact BK167.out) hb)
      have n2_:=Aside0.mk (below_step (by repeat (first|(with_reducible first|exact HB.out|apply bA|apply bD|apply bE|refine bS ?_ GE166.out|refine bS ?_ GE167.out)|exact HB.out)) hb)
      clear BK166
      clear BK167
      clear HB
      have BK166:=n0_
      have BK167:=n1_
      have HB:=n2_
      clear n0_ n1_ n2_
      (try clear hb)
      (try clear hb2)
      (try clear hk)
      (try clear hi)
      refine hK.out _ _ ((kC BK166.out 0).trans rfl) (fun hHeld => ?_)
      clear hK K
      refine norm_ (a':=?_) ?_ ?_
      rotate_left
      ·show Act.put _ (some 21) _ = _
       simp only [Act.put,lS,lZ,lC,i64_w,i32_w]
       rfl
      refine two_ (i:=6) (j:=11) (Ni:=some 25) (Nj:=some 5) #[tT,tT,tT,tT,tT,tT,tT,fF,fF,fF,fF,fF,fF,fF] #[tT,tT,tT,tT,tT,tT,fF,fF,fF,fF,fF,tT,fF,fF] rfl rfl rfl rfl (two_of HT_.out (by kernel_rfl)) (by decide) (by decide) (fun K hK => ?_) (fun K hK => ?_)
      ·skip
       refine goes_ Try.func62 (by kernel_rfl) rfl #[.agg #[.slice A0_0 l0_0.length c0_0],.int .i64 (wrap64 (a1 + 4))] (by rfl) rfl rfl (by (try simp only [List.map_toArray,List.map_cons,List.map_nil]); first|done|rfl|(simp only [List.length_drop,List.length_take]; rfl)) ?_
       with_reducible refine (impl_ThirdAt.calls kj2 _ _ l0_0 (wrap64 (a1 + 4)) t174 t175 t176 t177 _ ?side1 ?side2 A19.out).mono ?_
       (case side1 => repeat (first|exact (Kd.C_below HR0_0.out HB.out)|(with_reducible refine Kd.C_alloc ?_ _)|(with_reducible refine Kd.C_drewN ?_ _)|(with_reducible refine Kd.C_drew ?_)))
       (case side2 => exact HC0_0.out)
       rintro e w78 ⟨rfl,hb⟩
       refine ⟨_,rfl,?_⟩
       have n0_:=Aside0.mk (kB (g:=gb166) (o:=.cells #[.slice A0_0 l0_0.length c0_0] 42 (0,0)) (by (with_reducible repeat (first|refine kN ?_ _|refine kD ?_|refine kA ?_ _)); exact BK166.out) hb)
       have n1_:=Aside0.mk (kB (g:=gb167) (o:=.cells #[.int .i64 0,.int .i64 0,.int .i64 0,.int .i64 0] 50 (0,0)) (by (with_reducible repeat (first|refine kN ?_ _|refine kD ?_|refine kA ?_ _)); exact BK167.out) hb)
       have n2_:=Aside0.mk (below_step (by repeat (first|(with_reducible first|exact HB.out|apply bA|apply bD|apply bE|refine bS ?_ GE166.out|refine bS ?_ GE167.out)|exact HB.out)) hb)
       clear BK166
       clear BK167
       clear HB
       have BK166:=n0_
       have BK167:=n1_
       have HB:=n2_
       clear n0_ n1_ n2_
       (try clear hb)
       (try clear hb2)
       (try clear hk)
       (try clear hi)
       refine hK.out _ _ ((kC BK166.out 0).trans rfl) (fun hHeld => ?_)
       clear hK K
       refine norm_ (a':=?_) ?_ ?_
       rotate_left
       ·show Act.put _ (some 25) _ = _
        simp only [Act.put,lS,lZ,lC,i64_w,i32_w]
        rfl
       refine two_ (i:=7) (j:=11) (Ni:=some 26) (Nj:=some 5) #[tT,tT,tT,tT,tT,tT,tT,tT,fF,fF,fF,fF,fF,fF] #[tT,tT,tT,tT,tT,tT,tT,fF,fF,fF,fF,tT,fF,fF] rfl rfl rfl rfl (two_of HT_.out (by kernel_rfl)) (by decide) (by decide) (fun K hK => ?_) (fun K hK => ?_)
       ·skip
        refine goes_ Try.func61 (by kernel_rfl) rfl #[.agg #[.int .i64 t170,.int .i64 t171,.int .i64 t172,.int .i64 t173],.agg #[.int .i64 t174,.int .i64 t175,.int .i64 t176,.int .i64 t177]] (by rfl) rfl rfl (by (try simp only [List.map_toArray,List.map_cons,List.map_nil]); first|done|rfl|(simp only [List.length_drop,List.length_take]; rfl)) ?_
        with_reducible refine (impl_AddIntervals.calls kj2 t170 t171 t172 t173 t174 t175 t176 t177 t178 t179 t180 t181 false _ A20.out).mono ?_
        rintro e w79 ⟨rfl,hb⟩
        refine ⟨_,rfl,?_⟩
        have n0_:=Aside0.mk (kB (g:=gb166) (o:=.cells #[.slice A0_0 l0_0.length c0_0] 42 (0,0)) (by (with_reducible repeat (first|refine kN ?_ _|refine kD ?_|refine kA ?_ _)); exact BK166.out) hb)
        have n1_:=Aside0.mk (kB (g:=gb167) (o:=.cells #[.int .i64 0,.int .i64 0,.int .i64 0,.int .i64 0] 50 (0,0)) (by (with_reducible repeat (first|refine kN ?_ _|refine kD ?_|refine kA ?_ _)); exact BK167.out) hb)
        have n2_:=Aside0.mk (below_step (by repeat (first|(with_reducible first|exact HB.out|apply bA|apply bD|apply bE|refine bS ?_ GE166.out|refine bS ?_ GE167.out)|exact HB.out)) hb)
        clear BK166
        clear BK167
        clear HB
        have BK166:=n0_
        have BK167:=n1_
        have HB:=n2_
        clear n0_ n1_ n2_
        (try clear hb)
        (try clear hb2)
        (try clear hk)
        (try clear hi)
        refine hK.out _ _ ((kC BK166.out 0).trans rfl) (fun hHeld => ?_)
        clear hK K
        refine norm_ (a':=?_) ?_ ?_
        rotate_left
        ·show Act.put _ (some 26) _ = _
         simp only [Act.put,lS,lZ,lC,i64_w,i32_w]
         rfl
        refine pure_ (i:=8) (N:=some 18) (v:=?_) (a':=?_) #[tT,tT,tT,tT,tT,tT,tT,tT,tT,fF,fF,fF,fF,fF] rfl rfl (any_of HT_.out (by kernel_rfl)) (fun _ _ _ h => h) (Or.inl ⟨by rfl,?_⟩) ?_ ?_
        rotate_left
        ·intro w'
         go_simp
         first|(with_reducible rfl)|(simp only [Instr.field,go_sem, *]; rfl)
        rotate_left
        ·simp only [Act.put,lS,lZ,lC,i64_w,i32_w]
         rfl
        refine pure_ (i:=9) (N:=some 27) (v:=?_) (a':=?_) #[tT,tT,tT,tT,tT,tT,tT,tT,tT,tT,fF,fF,fF,fF] rfl rfl (any_of HT_.out (by kernel_rfl)) (fun _ _ _ h => h) (Or.inl ⟨by rfl,?_⟩) ?_ ?_
        rotate_left
        ·intro w'
         go_simp
         first|(with_reducible rfl)|(simp only [Instr.field,go_sem, *]; rfl)
        rotate_left
        ·simp only [Act.put,lS,lZ,lC,i64_w,i32_w]
         rfl
        refine pure_ (i:=10) (N:=some 28) (v:=?_) (a':=?_) #[tT,tT,tT,tT,tT,tT,tT,tT,tT,tT,tT,fF,fF,fF] rfl rfl (any_of HT_.out (by kernel_rfl)) (fun _ _ _ h => h) (Or.inl ⟨by rfl,?_⟩) ?_ ?_
        rotate_left
        ·intro w'
         go_simp
         first|(with_reducible rfl)|(simp only [Instr.field,go_sem, *]; rfl)
        rotate_left
        ·simp only [Act.put,lS,lZ,lC,i64_w,i32_w]
         rfl
        refine one_ (i:=11) (N:=some 5) #[tT,tT,tT,tT,tT,tT,tT,tT,tT,tT,tT,tT,fF,fF] rfl rfl (one_of HT_.out (by kernel_rfl)) (by decide) (fun K hK => ?_)
        refine box_step ?hg (N:=5) ?hd (cs:=#[.int .i64 0,.int .i64 0,.int .i64 0,.int .i64 0]) (t:=50) ?hr ?_; (case hd => rfl); (case hg => rfl); (case hr => first|(go_simp; done)|(go_simp; rfl))
        intro gb183 hg w80 hbox hb
        have n0_:=Aside0.mk (kB (g:=gb166) (o:=.cells #[.slice A0_0 l0_0.length c0_0] 42 (0,0)) (by (with_reducible repeat (first|refine kN ?_ _|refine kD ?_|refine kA ?_ _)); exact BK166.out) hb)
        have n1_:=Aside0.mk (kB (g:=gb167) (o:=.cells #[.int .i64 0,.int .i64 0,.int .i64 0,.int .i64 0] 50 (0,0)) (by (with_reducible repeat (first|refine kN ?_ _|refine kD ?_|refine kA ?_ _)); exact BK167.out) hb)
        have n2_:=Aside0.mk (below_step (by repeat (first|(with_reducible first|exact HB.out|apply bA|apply bD|apply bE|refine bS ?_ GE166.out|refine bS ?_ GE167.out)|exact HB.out)) hb)
        have n3_:=Aside0.mk (hbox)
        have n4_:=Aside0.mk ((by rw [hg]; exact (below_size (by repeat (first|(with_reducible first|exact HB.out|apply bA|apply bD|apply bE|refine bS ?_ GE166.out|refine bS ?_ GE167.out)|exact HB.out))) : w.heap.size ≤ gb183))
        have n5_:=Aside0.mk ((by rw [hg]; exact (below_size (by repeat (first|(with_reducible first|exact HB.out|apply bA|apply bD|apply bE|refine bS ?_ GE166.out|refine bS ?_ GE167.out)|exact HB.out))) : w.heap.size ≤ gb183))
        have n6_:=Aside0.mk ((by rw [hg]; exact Nat.ne_of_lt (blk_lt (g:=gb166) (o:=.cells #[.slice A0_0 l0_0.length c0_0] 42 (0,0)) (by (with_reducible repeat (first|refine kN ?_ _|refine kD ?_|refine kA ?_ _)); exact BK166.out)) : gb166 ≠ gb183))
        have n7_:=Aside0.mk ((by rw [hg]; exact Nat.ne_of_gt (blk_lt (g:=gb166) (o:=.cells #[.slice A0_0 l0_0.length c0_0] 42 (0,0)) (by (with_reducible repeat (first|refine kN ?_ _|refine kD ?_|refine kA ?_ _)); exact BK166.out)) : gb183 ≠ gb166))
        have n8_:=Aside0.mk ((by rw [hg]; exact Nat.ne_of_lt (blk_lt (g:=gb167) (o:=.cells #[.int .i64 0,.int .i64 0,.int .i64 0,.int .i64 0] 50 (0,0)) (by (with_reducible repeat (first|refine kN ?_ _|refine kD ?_|refine kA ?_ _)); exact BK167.out)) : gb167 ≠ gb183))
        have n9_:=Aside0.mk ((by rw [hg]; exact Nat.ne_of_gt (blk_lt (g:=gb167) (o:=.cells #[.int .i64 0,.int .i64 0,.int .i64 0,.int .i64 0] 50 (0,0)) (by (with_reducible repeat (first|refine kN ?_ _|refine kD ?_|refine kA ?_ _)); exact BK167.out)) : gb183 ≠ gb167))
        clear BK166
        clear BK167
        clear HB
        have BK166:=n0_
        have BK167:=n1_
        have HB:=n2_
        have BK183:=n3_
        have GW183:=n4_
        have GE183:=n5_
        have NB166_183:=n6_
        have NB183_166:=n7_
        have NB167_183:=n8_
        have NB183_167:=n9_
        clear n0_ n1_ n2_ n3_ n4_ n5_ n6_ n7_ n8_ n9_
        clear hb hbox hg
        refine hK.out _ _ ((kC BK166.out 0).trans rfl) (fun hHeld => ?_)
        clear hK K
        refine norm_ (a':=?_) ?_ ?_
        rotate_left
        ·show Act.put _ (some 5) _ = _
         simp only [Act.put,lS,lZ,lC,i64_w,i32_w]
         rfl
        exact norm_ (by simp only [putAll,Act.put,lS,lZ,lC]) (hCont (gb183) _ ⟨hHeld,(by (with_reducible repeat (first|refine kN ?_ _|refine kD ?_|refine kA ?_ _)); exact BK166.out),(by (with_reducible repeat (first|refine kN ?_ _|refine kD ?_|refine kA ?_ _)); exact BK167.out),(by (with_reducible repeat (first|refine kN ?_ _|refine kD ?_|refine kA ?_ _)); exact BK183.out),GW183.out,GE183.out,NB166_183.out,NB183_166.out,NB167_183.out,NB183_167.out,(by repeat (first|(with_reducible first|exact HB.out|apply bA|apply bD|apply bE|refine bS ?_ GE166.out|refine bS ?_ GE167.out|refine bS ?_ GE183.out)|exact HB.out))⟩)
       ·skip
        refine box_step ?hg (N:=5) ?hd (cs:=#[.int .i64 0,.int .i64 0,.int .i64 0,.int .i64 0]) (t:=50) ?hr ?_; (case hd => rfl); (case hg => rfl); (case hr => first|(go_simp; done)|(go_simp; rfl))
        intro gb183 hg w79 hbox hb
        have n0_:=Aside0.mk (kB (g:=gb166) (o:=.cells #[.slice A0_0 l0_0.length c0_0] 42 (0,0)) (by (with_reducible repeat (first|refine kN ?_ _|refine kD ?_|refine kA ?_ _)); exact BK166.out) hb)
        have n1_:=Aside0.mk (kB (g:=gb167) (o:=.cells #[.int .i64 0,.int .i64 0,.int .i64 0,.int .i64 0] 50 (0,0)) (by (with_reducible repeat (first|refine kN ?_ _|refine kD ?_|refine kA ?_ _)); exact BK167.out) hb)
        have n2_:=Aside0.mk (below_step (by repeat (first|(with_reducible first|exact HB.out|apply bA|apply bD|apply bE|refine bS ?_ GE166.out|refine bS ?_ GE167.out)|exact HB.out)) hb)
        have n3_:=Aside0.mk (hbox)
        have n4_:=Aside0.mk ((by rw [hg]; exact (below_size (by repeat (first|(with_reducible first|exact HB.out|apply bA|apply bD|apply bE|refine bS ?_ GE166.out|refine bS ?_ GE167.out)|exact HB.out))) : w.heap.size ≤ gb183))
        have n5_:=Aside0.mk ((by rw [hg]; exact (below_size (by repeat (first|(with_reducible first|exact HB.out|apply bA|apply bD|apply bE|refine bS ?_ GE166.out|refine bS ?_ GE167.out)|exact HB.out))) : w.heap.size ≤ gb183))
        have n6_:=Aside0.mk ((by rw [hg]; exact Nat.ne_of_lt (blk_lt (g:=gb166) (o:=.cells #[.slice A0_0 l0_0.length c0_0] 42 (0,0)) (by (with_reducible repeat (first|refine kN ?_ _|refine kD ?_|refine kA ?_ _)); exact BK166.out)) : gb166 ≠ gb183))
        have n7_:=Aside0.mk ((by rw [hg]; exact Nat.ne_of_gt (blk_lt (g:=gb166) (o:=.cells #[.slice A0_0 l0_0.length c0_0] 42 (0,0)) (by (with_reducible repeat (first|refine kN ?_ _|refine kD ?_|refine kA ?_ _)); exact BK166.out)) : gb183 ≠ gb166))
        have n8_:=Aside0.mk ((by rw [hg]; exact Nat.ne_of_lt (blk_lt (g:=gb167) (o:=.cells #[.int .i64 0,.int .i64 0,.int .i64 0,.int .i64 0] 50 (0,0)) (by (with_reducible repeat (first|refine kN ?_ _|refine kD ?_|refine kA ?_ _)); exact BK167.out)) : gb167 ≠ gb183))
        have n9_:=Aside0.mk ((by rw [hg]; exact Nat.ne_of_gt (blk_lt (g:=gb167) (o:=.cells #[.int .i64 0,.int .i64 0,.int .i64 0,.int .i64 0] 50 (0,0)) (by (with_reducible repeat (first|refine kN ?_ _|refine kD ?_|refine kA ?_ _)); exact BK167.out)) : gb183 ≠ gb167))
        clear BK166
        clear BK167
        clear HB
        have BK166:=n0_
        have BK167:=n1_
        have HB:=n2_
        have BK183:=n3_
        have GW183:=n4_
        have GE183:=n5_
        have NB166_183:=n6_
        have NB183_166:=n7_
        have NB167_183:=n8_
        have NB183_167:=n9_
        clear n0_ n1_ n2_ n3_ n4_ n5_ n6_ n7_ n8_ n9_
        clear hb hbox hg
        refine hK.out _ _ ((kC BK166.out 0).trans rfl) (fun hHeld => ?_)
        clear hK K
        refine norm_ (a':=?_) ?_ ?_
        rotate_left
        ·show Act.put _ (some 5) _ = _
         simp only [Act.put,lS,lZ,lC,i64_w,i32_w]
         rfl
        refine one_ (i:=7) (N:=some 26) #[tT,tT,tT,tT,tT,tT,tT,tT,fF,fF,fF,tT,fF,fF] rfl rfl (one_of HT_.out (by kernel_rfl)) (by decide) (fun K hK => ?_)
        refine goes_ Try.func61 (by kernel_rfl) rfl #[.agg #[.int .i64 t170,.int .i64 t171,.int .i64 t172,.int .i64 t173],.agg #[.int .i64 t174,.int .i64 t175,.int .i64 t176,.int .i64 t177]] (by rfl) rfl rfl (by (try simp only [List.map_toArray,List.map_cons,List.map_nil]); first|done|rfl|(simp only [List.length_drop,List.length_take]; rfl)) ?_
        with_reducible refine (impl_AddIntervals.calls kj2 t170 t171 t172 t173 t174 t175 t176 t177 t178 t179 t180 t181 false _ A20.out).mono ?_
        rintro e w80 ⟨rfl,hb⟩
        refine ⟨_,rfl,?_⟩
        have n0_:=Aside0.mk (kB (g:=gb166) (o:=.cells #[.slice A0_0 l0_0.length c0_0] 42 (0,0)) (by (with_reducible repeat (first|refine kN ?_ _|refine kD ?_|refine kA ?_ _)); exact BK166.out) hb)
        have n1_:=Aside0.mk (kB (g:=gb167) (o:=.cells #[.int .i64 0,.int .i64 0,.int .i64 0,.int .i64 0] 50 (0,0)) (by (with_reducible repeat (first|refine kN ?_ _|refine kD ?_|refine kA ?_ _)); exact BK167.out) hb)
        have n2_:=Aside0.mk (kB (g:=gb183) (o:=.cells #[.int .i64 0,.int .i64 0,.int .i64 0,.int .i64 0] 50 (0,0)) (by (with_reducible repeat (first|refine kN ?_ _|refine kD ?_|refine kA ?_ _)); exact BK183.out) hb)
        have n3_:=Aside0.mk (below_step (by repeat (first|(with_reducible first|exact HB.out|apply bA|apply bD|apply bE|refine bS ?_ GE166.out|refine bS ?_ GE167.out|refine bS ?_ GE183.out)|exact HB.out)) hb)
        clear BK166
        clear BK167
        clear BK183
        clear HB
        have BK166:=n0_
        have BK167:=n1_
        have BK183:=n2_
        have HB:=n3_
        clear n0_ n1_ n2_ n3_
        (try clear hb)
        (try clear hb2)
        (try clear hk)
        (try clear hi)
        refine hK.out _ _ ((kC BK166.out 0).trans rfl) (fun hHeld => ?_)
        clear hK K
        refine norm_ (a':=?_) ?_ ?_
        rotate_left
        ·show Act.put _ (some 26) _ = _
         simp only [Act.put,lS,lZ,lC,i64_w,i32_w]
         rfl
        refine pure_ (i:=8) (N:=some 18) (v:=?_) (a':=?_) #[tT,tT,tT,tT,tT,tT,tT,tT,tT,fF,fF,tT,fF,fF] rfl rfl (any_of HT_.out (by kernel_rfl)) (fun _ _ _ h => h) (Or.inl ⟨by rfl,?_⟩) ?_ ?_
        rotate_left
        ·intro w'
         go_simp
         first|(with_reducible rfl)|(simp only [Instr.field,go_sem, *]; rfl)
        rotate_left
        ·simp only [Act.put,lS,lZ,lC,i64_w,i32_w]
         rfl
        refine pure_ (i:=9) (N:=some 27) (v:=?_) (a':=?_) #[tT,tT,tT,tT,tT,tT,tT,tT,tT,tT,fF,tT,fF,fF] rfl rfl (any_of HT_.out (by kernel_rfl)) (fun _ _ _ h => h) (Or.inl ⟨by rfl,?_⟩) ?_ ?_
        rotate_left
        ·intro w'
         go_simp
         first|(with_reducible rfl)|(simp only [Instr.field,go_sem, *]; rfl)
        rotate_left
        ·simp only [Act.put,lS,lZ,lC,i64_w,i32_w]
         rfl
        refine pure_ (i:=10) (N:=some 28) (v:=?_) (a':=?_) #[tT,tT,tT,tT,tT,tT,tT,tT,tT,tT,tT,tT,fF,fF] rfl rfl (any_of HT_.out (by kernel_rfl)) (fun _ _ _ h => h) (Or.inl ⟨by rfl,?_⟩) ?_ ?_
        rotate_left
        ·intro w'
         go_simp
         first|(with_reducible rfl)|(simp only [Instr.field,go_sem, *]; rfl)
        rotate_left
        ·simp only [Act.put,lS,lZ,lC,i64_w,i32_w]
         rfl
        exact norm_ (by simp only [putAll,Act.put,lS,lZ,lC]) (hCont (gb183) _ ⟨hHeld,(by (with_reducible repeat (first|refine kN ?_ _|refine kD ?_|refine kA ?_ _)); exact BK166.out),(by (with_reducible repeat (first|refine kN ?_ _|refine kD ?_|refine kA ?_ _)); exact BK167.out),(by (with_reducible repeat (first|refine kN ?_ _|refine kD ?_|refine kA ?_ _)); exact BK183.out),GW183.out,GE183.out,NB166_183.out,NB183_166.out,NB167_183.out,NB183_167.out,(by repeat (first|(with_reducible first|exact HB.out|apply bA|apply bD|apply bE|refine bS ?_ GE166.out|refine bS ?_ GE167.out|refine bS ?_ GE183.out)|exact HB.out))⟩)
      ·skip
       refine box_step ?hg (N:=5) ?hd (cs:=#[.int .i64 0,.int .i64 0,.int .i64 0,.int .i64 0]) (t:=50) ?hr ?_; (case hd => rfl); (case hg => rfl); (case hr => first|(go_simp; done)|(go_simp; rfl))
       intro gb183 hg w78 hbox hb
       have n0_:=Aside0.mk (kB (g:=gb166) (o:=.cells #[.slice A0_0 l0_0.length c0_0] 42 (0,0)) (by (with_reducible repeat (first|refine kN ?_ _|refine kD ?_|refine kA ?_ _)); exact BK166.out) hb)
       have n1_:=Aside0.mk (kB (g:=gb167) (o:=.cells #[.int .i64 0,.int .i64 0,.int .i64 0,.int .i64 0] 50 (0,0)) (by (with_reducible repeat (first|refine kN ?_ _|refine kD ?_|refine kA ?_ _)); exact BK167.out) hb)
       have n2_:=Aside0.mk (below_step (by repeat (first|(with_reducible first|exact HB.out|apply bA|apply bD|apply bE|refine bS ?_ GE166.out|refine bS ?_ GE167.out)|exact HB.out)) hb)
       have n3_:=Aside0.mk (hbox)
       have n4_:=Aside0.mk ((by rw [hg]; exact (below_size (by repeat (first|(with_reducible first|exact HB.out|apply bA|apply bD|apply bE|refine bS ?_ GE166.out|refine bS ?_ GE167.out)|exact HB.out))) : w.heap.size ≤ gb183))
       have n5_:=Aside0.mk ((by rw [hg]; exact (below_size (by repeat (first|(with_reducible first|exact HB.out|apply bA|apply bD|apply bE|refine bS ?_ GE166.out|refine bS ?_ GE167.out)|exact HB.out))) : w.heap.size ≤ gb183))
       have n6_:=Aside0.mk ((by rw [hg]; exact Nat.ne_of_lt (blk_lt (g:=gb166) (o:=.cells #[.slice A0_0 l0_0.length c0_0] 42 (0,0)) (by (with_reducible repeat (first|refine kN ?_ _|refine kD ?_|refine kA ?_ _)); exact BK166.out)) : gb166 ≠ gb183))
       have n7_:=Aside0.mk ((by rw [hg]; exact Nat.ne_of_gt (blk_lt (g:=gb166) (o:=.cells #[.slice A0_0 l0_0.length c0_0] 42 (0,0)) (by (with_reducible repeat (first|refine kN ?_ _|refine kD ?_|refine kA ?_ _)); exact BK166.out)) : gb183 ≠ gb166))
       have n8_:=Aside0.mk ((by rw [hg]; exact Nat.ne_of_lt (blk_lt (g:=gb167) (o:=.cells #[.int .i64 0,.int .i64 0,.int .i64 0,.int .i64 0] 50 (0,0)) (by (with_reducible repeat (first|refine kN ?_ _|refine kD ?_|refine kA ?_ _)); exact BK167.out)) : gb167 ≠ gb183))
       have n9_:=Aside0.mk ((by rw [hg]; exact Nat.ne_of_gt (blk_lt (g:=gb167) (o:=.cells #[.int .i64 0,.int .i64 0,.int .i64 0,.int .i64 0] 50 (0,0)) (by (with_reducible repeat (first|refine kN ?_ _|refine kD ?_|refine kA ?_ _)); exact BK167.out)) : gb183 ≠ gb167))
       clear BK166
       clear BK167
       clear HB
       have BK166:=n0_
       have BK167:=n1_
       have HB:=n2_
       have BK183:=n3_
       have GW183:=n4_
       have GE183:=n5_
       have NB166_183:=n6_
       have NB183_166:=n7_
       have NB167_183:=n8_
       have NB183_167:=n9_
       clear n0_ n1_ n2_ n3_ n4_ n5_ n6_ n7_ n8_ n9_
       clear hb hbox hg
       refine hK.out _ _ ((kC BK166.out 0).trans rfl) (fun hHeld => ?_)
       clear hK K
       refine norm_ (a':=?_) ?_ ?_
       rotate_left
       ·show Act.put _ (some 5) _ = _
        simp only [Act.put,lS,lZ,lC,i64_w,i32_w]
        rfl
       refine one_ (i:=6) (N:=some 25) #[tT,tT,tT,tT,tT,tT,tT,fF,fF,fF,fF,tT,fF,fF] rfl rfl (one_of HT_.out (by kernel_rfl)) (by decide) (fun K hK => ?_)
       refine goes_ Try.func62 (by kernel_rfl) rfl #[.agg #[.slice A0_0 l0_0.length c0_0],.int .i64 (wrap64 (a1 + 4))] (by rfl) rfl rfl (by (try simp only [List.map_toArray,List.map_cons,List.map_nil]); first|done|rfl|(simp only [List.length_drop,List.length_take]; rfl)) ?_
       with_reducible refine (impl_ThirdAt.calls kj2 _ _ l0_0 (wrap64 (a1 + 4)) t174 t175 t176 t177 _ ?side1 ?side2 A19.out).mono ?_
       (case side1 => repeat (first|exact (Kd.C_below HR0_0.out HB.out)|(with_reducible refine Kd.C_alloc ?_ _)|(with_reducible refine Kd.C_drewN ?_ _)|(with_reducible refine Kd.C_drew ?_)))
       (case side2 => exact HC0_0.out)
       rintro e w79 ⟨rfl,hb⟩
       refine ⟨_,rfl,?_⟩
       have n0_:=Aside0.mk (kB (g:=gb166) (o:=.cells #[.slice A0_0 l0_0.length c0_0] 42 (0,0)) (by (with_reducible repeat (first|refine kN ?_ _|refine kD ?_|refine kA ?_ _)); exact BK166.out) hb)
       have n1_:=Aside0.mk (kB (g:=gb167) (o:=.cells #[.int .i64 0,.int .i64 0,.int .i64 0,.int .i64 0] 50 (0,0)) (by (with_reducible repeat (first|refine kN ?_ _|refine kD ?_|refine kA ?_ _)); exact BK167.out) hb)
       have n2_:=Aside0.mk (kB (g:=gb183) (o:=.cells #[.int .i64 0,.int .i64 0,.int .i64 0,.int .i64 0] 50 (0,0)) (by (with_reducible repeat (first|refine kN ?_ _|refine kD ?_|refine kA ?_ _)); exact BK183.out) hb)
       have n3_:=Aside0.mk (below_step (by repeat (first|(with_reducible first|exact HB.out|apply bA|apply bD|apply bE|refine bS ?_ GE166.out|refine bS ?_ GE167.out|refine bS ?_ GE183.out)|exact HB.out)) hb)
       clear BK166
       clear BK167
       clear BK183
       clear HB
       have BK166:=n0_
       have BK167:=n1_
       have BK183:=n2_
       have HB:=n3_
       clear n0_ n1_ n2_ n3_
       (try clear hb)
       (try clear hb2)
       (try clear hk)
       (try clear hi)
       refine hK.out _ _ ((kC BK166.out 0).trans rfl) (fun hHeld => ?_)
       clear hK K
       refine norm_ (a':=?_) ?_ ?_
       rotate_left
       ·show Act.put _ (some 25) _ = _
        simp only [Act.put,lS,lZ,lC,i64_w,i32_w]
        rfl
       refine one_ (i:=7) (N:=some 26) #[tT,tT,tT,tT,tT,tT,tT,tT,fF,fF,fF,tT,fF,fF] rfl rfl (one_of HT_.out (by kernel_rfl)) (by decide) (fun K hK => ?_)
       refine goes_ Try.func61 (by kernel_rfl) rfl #[.agg #[.int .i64 t170,.int .i64 t171,.int .i64 t172,.int .i64 t173],.agg #[.int .i64 t174,.int .i64 t175,.int .i64 t176,.int .i64 t177]] (by rfl) rfl rfl (by (try simp only [List.map_toArray,List.map_cons,List.map_nil]); first|done|rfl|(simp only [List.length_drop,List.length_take]; rfl)) ?_
       with_reducible refine (impl_AddIntervals.calls kj2 t170 t171 t172 t173 t174 t175 t176 t177 t178 t179 t180 t181 false _ A20.out).mono ?_
       rintro e w80 ⟨rfl,hb⟩
       refine ⟨_,rfl,?_⟩
       have n0_:=Aside0.mk (kB (g:=gb166) (o:=.cells #[.slice A0_0 l0_0.length c0_0] 42 (0,0)) (by (with_reducible repeat (first|refine kN ?_ _|refine kD ?_|refine kA ?_ _)); exact BK166.out) hb)
       have n1_:=Aside0.mk (kB (g:=gb167) (o:=.cells #[.int .i64 0,.int .i64 0,.int .i64 0,.int .i64 0] 50 (0,0)) (by (with_reducible repeat (first|refine kN ?_ _|refine kD ?_|refine kA ?_ _)); exact BK167.out) hb)
       have n2_:=Aside0.mk (kB (g:=gb183) (o:=.cells #[.int .i64 0,.int .i64 0,.int .i64 0,.int .i64 0] 50 (0,0)) (by (with_reducible repeat (first|refine kN ?_ _|refine kD ?_|refine kA ?_ _)); exact BK183.out) hb)
       have n3_:=Aside0.mk (below_step (by repeat (first|(with_reducible first|exact HB.out|apply bA|apply bD|apply bE|refine bS ?_ GE166.out|refine bS ?_ GE167.out|refine bS ?_ GE183.out)|exact HB.out)) hb)
       clear BK166
       clear BK167
       clear BK183
       clear HB
       have BK166:=n0_
       have BK167:=n1_
       have BK183:=n2_
       have HB:=n3_
       clear n0_ n1_ n2_ n3_
       (try clear hb)
       (try clear hb2)
       (try clear hk)
       (try clear hi)
       refine hK.out _ _ ((kC BK166.out 0).trans rfl) (fun hHeld => ?_)
       clear hK K
       refine norm_ (a':=?_) ?_ ?_
       rotate_left
       ·show Act.put _ (some 26) _ = _
        simp only [Act.put,lS,lZ,lC,i64_w,i32_w]
        rfl
       refine pure_ (i:=8) (N:=some 18) (v:=?_) (a':=?_) #[tT,tT,tT,tT,tT,tT,tT,tT,tT,fF,fF,tT,fF,fF] rfl rfl (any_of HT_.out (by kernel_rfl)) (fun _ _ _ h => h) (Or.inl ⟨by rfl,?_⟩) ?_ ?_
       rotate_left
       ·intro w'
        go_simp
        first|(with_reducible rfl)|(simp only [Instr.field,go_sem, *]; rfl)
       rotate_left
       ·simp only [Act.put,lS,lZ,lC,i64_w,i32_w]
        rfl
       refine pure_ (i:=9) (N:=some 27) (v:=?_) (a':=?_) #[tT,tT,tT,tT,tT,tT,tT,tT,tT,tT,fF,tT,fF,fF] rfl rfl (any_of HT_.out (by kernel_rfl)) (fun _ _ _ h => h) (Or.inl ⟨by rfl,?_⟩) ?_ ?_
       rotate_left
       ·intro w'
        go_simp
        first|(with_reducible rfl)|(simp only [Instr.field,go_sem, *]; rfl)
       rotate_left
       ·simp only [Act.put,lS,lZ,lC,i64_w,i32_w]
        rfl
       refine pure_ (i:=10) (N:=some 28) (v:=?_) (a':=?_) #[tT,tT,tT,tT,tT,tT,tT,tT,tT,tT,tT,tT,fF,fF] rfl rfl (any_of HT_.out (by kernel_rfl)) (fun _ _ _ h => h) (Or.inl ⟨by rfl,?_⟩) ?_ ?_
       rotate_left
       ·intro w'
        go_simp
        first|(with_reducible rfl)|(simp only [Instr.field,go_sem, *]; rfl)
       rotate_left
       ·simp only [Act.put,lS,lZ,lC,i64_w,i32_w]
        rfl
       exact norm_ (by simp only [putAll,Act.put,lS,lZ,lC]) (hCont (gb183) _ ⟨hHeld,(by (with_reducible repeat (first|refine kN ?_ _|refine kD ?_|refine kA ?_ _)); exact BK166.out),(by (with_reducible repeat (first|refine kN ?_ _|refine kD ?_|refine kA ?_ _)); exact BK167.out),(by (with_reducible repeat (first|refine kN ?_ _|refine kD ?_|refine kA ?_ _)); exact BK183.out),GW183.out,GE183.out,NB166_183.out,NB183_166.out,NB167_183.out,NB183_167.out,(by repeat (first|(with_reducible first|exact HB.out|apply bA|apply bD|apply bE|refine bS ?_ GE166.out|refine bS ?_ GE167.out|refine bS ?_ GE183.out)|exact HB.out))⟩)
     ·skip
      refine box_step ?hg (N:=5) ?hd (cs:=#[.int .i64 0,.int .i64 0,.int .i64 0,.int .i64 0]) (t:=50) ?hr ?_; (case hd => rfl); (case hg => rfl); (case hr => first|(go_simp; done)|(go_simp; rfl))
      intro gb183 hg w77 hbox hb
      have n0_:=Aside0.mk (kB (g:=gb166) (o:=.cells #[.slice A0_0 l0_0.length c0_0] 42 (0,0)) (by (with_reducible repeat (first|refine kN ?_ _|refine kD ?_|refine kA ?_ _)); exact BK166.out) hb)
      have n1_:=Aside0.mk (kB (g:=gb167) (o:=.cells #[.int .i64 0,.int .i64 0,.int .i64 0,.int .i64 0] 50 (0,0)) (by (with_reducible repeat (first|refine kN ?_ _|refine kD ?_|refine kA ?_ _)); exact BK167.out) hb)
      have n2_:=Aside0.mk (below_step (by repeat (first|(with_reducible first|exact HB.out|apply bA|apply bD|apply bE|refine bS ?_ GE166.out|refine bS ?_ GE167.out)|exact HB.out)) hb)
      have n3_:=Aside0.mk (hbox)
      have n4_:=Aside0.mk ((by rw [hg]; exact (below_size (by repeat (first|(with_reducible first|exact HB.out|apply bA|apply bD|apply bE|refine bS ?_ GE166.out|refine bS ?_ GE167.out)|exact HB.out))) : w.heap.size ≤ gb183))
      have n5_:=Aside0.mk ((by rw [hg]; exact (below_size (by repeat (first|(with_reducible first|exact HB.out|apply bA|apply bD|apply bE|refine bS ?_ GE166.out|refine bS ?_ GE167.out)|exact HB.out))) : w.heap.size ≤ gb183))
      have n6_:=Aside0.mk ((by rw [hg]; exact Nat.ne_of_lt (blk_lt (g:=gb166) (o:=.cells #[.slice A0_0 l0_0.length c0_0] 42 (0,0)) (by (with_reducible repeat (first|refine kN ?_ _|refine kD ?_|refine kA ?_ _)); exact BK166.out)) : gb166 ≠ gb183))
      have n7_:=Aside0.mk ((by rw [hg]; exact Nat.ne_of_gt (blk_lt (g:=gb166) (o:=.cells #[.slice A0_0 l0_0.length c0_0] 42 (0,0)) (by (with_reducible repeat (first|refine kN ?_ _|refine kD ?_|refine kA ?_ _)); exact BK166.out)) : gb183 ≠ gb166))
      have n8_:=Aside0.mk ((by rw [hg]; exact Nat.ne_of_lt (blk_lt (g:=gb167) (o:=.cells #[.int .i64 0,.int .i64 0,.int .i64 0,.int .i64 0] 50 (0,0)) (by (with_reducible repeat (first|refine kN ?_ _|refine kD ?_|refine kA ?_ _)); exact BK167.out)) : gb167 ≠ gb183))
      have n9_:=Aside0.mk ((by rw [hg]; exact Nat.ne_of_gt (blk_lt (g:=gb167) (o:=.cells #[.int .i64 0,.int .i64 0,.int .i64 0,.int .i64 0] 50 (0,0)) (by (with_reducible repeat (first|refine kN ?_ _|refine kD ?_|refine kA ?_ _)); exact BK167.out)) : gb183 ≠ gb167))
      clear BK166
      clear BK167
      clear HB
      have BK166:=n0_
      have BK167:=n1_
      have HB:=n2_
      have BK183:=n3_
      have GW183:=n4_
      have GE183:=n5_
      have NB166_183:=n6_
      have NB183_166:=n7_
      have NB167_183:=n8_
      have NB183_167:=n9_
      clear n0_ n1_ n2_ n3_ n4_ n5_ n6_ n7_ n8_ n9_
      clear hb hbox hg
      refine hK.out _ _ ((kC BK166.out 0).trans rfl) (fun hHeld => ?_)
      clear hK K
      refine norm_ (a':=?_) ?_ ?_
      rotate_left
      ·show Act.put _ (some 5) _ = _
       simp only [Act.put,lS,lZ,lC,i64_w,i32_w]
       rfl
      refine one_ (i:=2) (N:=some 21) #[tT,tT,tT,tT,tT,tT,fF,fF,fF,fF,fF,tT,fF,fF] rfl rfl (one_of HT_.out (by kernel_rfl)) (by decide) (fun K hK => ?_)
      refine goes_ Try.func62 (by kernel_rfl) rfl #[.agg #[.slice A0_0 l0_0.length c0_0],.int .i64 a1] (by rfl) rfl rfl (by (try simp only [List.map_toArray,List.map_cons,List.map_nil]); first|done|rfl|(simp only [List.length_drop,List.length_take]; rfl)) ?_
      with_reducible refine (impl_ThirdAt.calls kj2 _ _ l0_0 a1 t170 t171 t172 t173 _ ?side1 ?side2 A18.out).mono ?_
      (case side1 => repeat (first|exact (Kd.C_below HR0_0.out HB.out)|(with_reducible refine Kd.C_alloc ?_ _)|(with_reducible refine Kd.C_drewN ?_ _)|(with_reducible refine Kd.C_drew ?_)))
      (case side2 => exact HC0_0.out)
      rintro e w78 ⟨rfl,hb⟩
      refine ⟨_,rfl,?_⟩
      have n0_:=Aside0.mk (kB (g:=gb166) (o:=.cells #[.slice A0_0 l0_0.length c0_0] 42 (0,0)) (by (with_reducible repeat (first|refine kN ?_ _|refine kD ?_|refine kA ?_ _)); exact BK166.out) hb)
      have n1_:=Aside0.mk (kB (g:=gb167) (o:=.cells #[.int .i64 0,.int .i64 0,.int .i64 0,.int .i64 0] 50 (0,0)) (by (with_reducible repeat (first|refine kN ?_ _|refine kD ?_|refine kA ?_ _)); exact BK167.out) hb)
      have n2_:=Aside0.mk (kB (g:=gb183) (o:=.cells #[.int .i64 0,.int .i64 0,.int .i64 0,.int .i64 0] 50 (0,0)) (by (with_reducible repeat (first|refine kN ?_ _|refine kD ?_|refine kA ?_ _)); exact BK183.out) hb)
      have n3_:=Aside0.mk (below_step (by repeat (first|(with_reducible first|exact HB.out|apply bA|apply bD|apply bE|refine bS ?_ GE166.out|refine bS ?_ GE167.out|refine bS ?_ GE183.out)|exact HB.out)) hb)
      clear BK166
      clear BK167
      clear BK183
      clear HB
      have BK166:=n0_
      have BK167:=n1_
      have BK183:=n2_
      have HB:=n3_
      clear n0_ n1_ n2_ n3_
      (try clear hb)
      (try clear hb2)
      (try clear hk)
      (try clear hi)
      refine hK.out _ _ ((kC BK166.out 0).trans rfl) (fun hHeld => ?_)
      clear hK K
      refine norm_ (a':=?_) ?_ ?_
      rotate_left
      ·show Act.put _ (some 21) _ = _
       simp only [Act.put,lS,lZ,lC,i64_w,i32_w]
       rfl
      refine one_ (i:=6) (N:=some 25) #[tT,tT,tT,tT,tT,tT,tT,fF,fF,fF,fF,tT,fF,fF] rfl rfl (one_of HT_.out (by kernel_rfl)) (by decide) (fun K hK => ?_)
      refine goes_ Try.func62 (by kernel_rfl) rfl #[.agg #[.slice A0_0 l0_0.length c0_0],.int .i64 (wrap64 (a1 + 4))] (by rfl) rfl rfl (by (try simp only [List.map_toArray,List.map_cons,List.map_nil]); first|done|rfl|(simp only [List.length_drop,List.length_take]; rfl)) ?_
      with_reducible refine (impl_ThirdAt.calls kj2 _ _ l0_0 (wrap64 (a1 + 4)) t174 t175 t176 t177 _ ?side1 ?side2 A19.out).mono ?_
      (case side1 => repeat (first|exact (Kd.C_below HR0_0.out HB.out)|(with_reducible refine Kd.C_alloc ?_ _)|(with_reducible refine Kd.C_drewN ?_ _)|(with_reducible refine Kd.C_drew ?_)))
      (case side2 => exact HC0_0.out)
      rintro e w79 ⟨rfl,hb⟩
      refine ⟨_,rfl,?_⟩
      have n0_:=Aside0.mk (kB (g:=gb166) (o:=.cells #[.slice A0_0 l0_0.length c0_0] 42 (0,0)) (by (with_reducible repeat (first|refine kN ?_ _|refine kD ?_|refine kA ?_ _)); exact BK166.out) hb)
      have n1_:=Aside0.mk (kB (g:=gb167) (o:=.cells #[.int .i64 0,.int .i64 0,.int .i64 0,.int .i64 0] 50 (0,0)) (by (with_reducible repeat (first|refine kN ?_ _|refine kD ?_|refine kA ?_ _)); exact BK167.out) hb)
      have n2_:=Aside0.mk (kB (g:=gb183) (o:=.cells #[.int .i64 0,.int .i64 0,.int .i64 0,.int .i64 0] 50 (0,0)) (by (with_reducible repeat (first|refine kN ?_ _|refine kD ?_|refine kA ?_ _)); exact BK183.out) hb)
      have n3_:=Aside0.mk (below_step (by repeat (first|(with_reducible first|exact HB.out|apply bA|apply bD|apply bE|refine bS ?_ GE166.out|refine bS ?_ GE167.out|refine bS ?_ GE183.out)|exact HB.out)) hb)
      clear BK166
      clear BK167
      clear BK183
      clear HB
      have BK166:=n0_
      have BK167:=n1_
      have BK183:=n2_
      have HB:=n3_
      clear n0_ n1_ n2_ n3_
      (try clear hb)
      (try clear hb2)
      (try clear hk)
      (try clear hi)
      refine hK.out _ _ ((kC BK166.out 0).trans rfl) (fun hHeld => ?_)
      clear hK K
      refine norm_ (a':=?_) ?_ ?_
      rotate_left
      ·show Act.put _ (some 25) _ = _
       simp only [Act.put,lS,lZ,lC,i64_w,i32_w]
       rfl
      refine one_ (i:=7) (N:=some 26) #[tT,tT,tT,tT,tT,tT,tT,tT,fF,fF,fF,tT,fF,fF] rfl rfl (one_of HT_.out (by kernel_rfl)) (by decide) (fun K hK => ?_)
      refine goes_ Try.func61 (by kernel_rfl) rfl #[.agg #[.int .i64 t170,.int .i64 t171,.int .i64 t172,.int .i64 t173],.agg #[.int .i64 t174,.int .i64 t175,.int .i64 t176,.int .i64 t177]] (by rfl) rfl rfl (by (try simp only [List.map_toArray,List.map_cons,List.map_nil]); first|done|rfl|(simp only [List.length_drop,List.length_take]; rfl)) ?_
      with_reducible refine (impl_AddIntervals.calls kj2 t170 t171 t172 t173 t174 t175 t176 t177 t178 t179 t180 t181 false _ A20.out).mono ?_
      rintro e w80 ⟨rfl,hb⟩
      refine ⟨_,rfl,?_⟩
      have n0_:=Aside0.mk (kB (g:=gb166) (o:=.cells #[.slice A0_0 l0_0.length c0_0] 42 (0,0)) (by (with_reducible repeat (first|refine kN ?_ _|refine kD ?_|refine kA ?_ _)); exact BK166.out) hb)
      have n1_:=Aside0.mk (kB (g:=gb167) (o:=.cells #[.int .i64 0,.int .i64 0,.int .i64 0,.int .i64 0] 50 (0,0)) (by (with_reducible repeat (first|refine kN ?_ _|refine kD ?_|refine kA ?_ _)); exact BK167.out) hb)
      have n2_:=Aside0.mk (kB (g:=gb183) (o:=.cells #[.int .i64 0,.int .i64 0,.int .i64 0,.int .i64 0] 50 (0,0)) (by (with_reducible repeat (first|refine kN ?_ _|refine kD ?_|refine kA ?_ _)); exact BK183.out) hb)
      have n3_:=Aside0.mk (below_step (by repeat (first|(with_reducible first|exact HB.out|apply bA|apply bD|apply bE|refine bS ?_ GE166.out|refine bS ?_ GE167.out|refine bS ?_ GE183.out)|exact HB.out)) hb)
      clear BK166
      clear BK167
      clear BK183
      clear HB
      have BK166:=n0_
      have BK167:=n1_
      have BK183:=n2_
      have HB:=n3_
      clear n0_ n1_ n2_ n3_
      (try clear hb)
      (try clear hb2)
      (try clear hk)
      (try clear hi)
      refine hK.out _ _ ((kC BK166.out 0).trans rfl) (fun hHeld => ?_)
      clear hK K
      refine norm_ (a':=?_) ?_ ?_
      rotate_left
      ·show Act.put _ (some 26) _ = _
       simp only [Act.put,lS,lZ,lC,i64_w,i32_w]
       rfl
      refine pure_ (i:=8) (N:=some 18) (v:=?_) (a':=?_) #[tT,tT,tT,tT,tT,tT,tT,tT,tT,fF,fF,tT,fF,fF] rfl rfl (any_of HT_.out (by kernel_rfl)) (fun _ _ _ h => h) (Or.inl ⟨by rfl,?_⟩) ?_ ?_
      rotate_left
      ·intro w'
       go_simp
       first|(with_reducible rfl)|(simp only [Instr.field,go_sem, *]; rfl)
      rotate_left
      ·simp only [Act.put,lS,lZ,lC,i64_w,i32_w]
       rfl
      refine pure_ (i:=9) (N:=some 27) (v:=?_) (a':=?_) #[tT,tT,tT,tT,tT,tT,tT,tT,tT,tT,fF,tT,fF,fF] rfl rfl (any_of HT_.out (by kernel_rfl)) (fun _ _ _ h => h) (Or.inl ⟨by rfl,?_⟩) ?_ ?_
      rotate_left
      ·intro w'
       go_simp
       first|(with_reducible rfl)|(simp only [Instr.field,go_sem, *]; rfl)
      rotate_left
      ·simp only [Act.put,lS,lZ,lC,i64_w,i32_w]
       rfl
      refine pure_ (i:=10) (N:=some 28) (v:=?_) (a':=?_) #[tT,tT,tT,tT,tT,tT,tT,tT,tT,tT,tT,tT,fF,fF] rfl rfl (any_of HT_.out (by kernel_rfl)) (fun _ _ _ h => h) (Or.inl ⟨by rfl,?_⟩) ?_ ?_
      rotate_left
      ·intro w'
       go_simp
       first|(with_reducible rfl)|(simp only [Instr.field,go_sem, *]; rfl)
      rotate_left
      ·simp only [Act.put,lS,lZ,lC,i64_w,i32_w]
       rfl
      exact norm_ (by simp only [putAll,Act.put,lS,lZ,lC]) (hCont (gb183) _ ⟨hHeld,(by (with_reducible repeat (first|refine kN ?_ _|refine kD ?_|refine kA ?_ _)); exact BK166.out),(by (with_reducible repeat (first|refine kN ?_ _|refine kD ?_|refine kA ?_ _)); exact BK167.out),(by (with_reducible repeat (first|refine kN ?_ _|refine kD ?_|refine kA ?_ _)); exact BK183.out),GW183.out,GE183.out,NB166_183.out,NB183_166.out,NB167_183.out,NB183_167.out,(by repeat (first|(with_reducible first|exact HB.out|apply bA|apply bD|apply bE|refine bS ?_ GE166.out|refine bS ?_ GE167.out|refine bS ?_ GE183.out)|exact HB.out))⟩)
    rintro gb183 w81 ⟨hS_,h0_,h1_,h2_,h3_,h4_,h5_,h6_,h7_,h8_,h9_⟩
    have n0_ : Aside0 (w81.heap[gb166]? = some (.cells #[.slice A0_0 l0_0.length c0_0] 42 (0,0))):=⟨h0_⟩
    have n1_ : Aside0 (w81.heap[gb167]? = some (.cells #[.int .i64 0,.int .i64 0,.int .i64 0,.int .i64 0] 50 (0,0))):=⟨h1_⟩
    have n2_ : Aside0 (w81.heap[gb183]? = some (.cells #[.int .i64 0,.int .i64 0,.int .i64 0,.int .i64 0] 50 (0,0))):=⟨h2_⟩
    have n3_ : Aside0 (w.heap.size ≤ gb183):=⟨h3_⟩
    have n4_ : Aside0 (w.heap.size ≤ gb183):=⟨h4_⟩
    have n5_ : Aside0 (gb166 ≠ gb183):=⟨h5_⟩
    have n6_ : Aside0 (gb183 ≠ gb166):=⟨h6_⟩
    have n7_ : Aside0 (gb167 ≠ gb183):=⟨h7_⟩
    have n8_ : Aside0 (gb183 ≠ gb167):=⟨h8_⟩
    have n9_ : Aside0 (Below w.heap.size w w81):=⟨h9_⟩
    clear BK166
    clear BK167
    clear HB
    clear h0_ h1_ h2_ h3_ h4_ h5_ h6_ h7_ h8_ h9_
    have BK166:=n0_
    have BK167:=n1_
    have BK183:=n2_
    have GW183:=n3_
    have GE183:=n4_
    have NB166_183:=n5_
    have NB183_166:=n6_
    have NB167_183:=n7_
    have NB183_167:=n8_
    have HB:=n9_
    clear n0_ n1_ n2_ n3_ n4_ n5_ n6_ n7_ n8_ n9_
    have hHeld : w81.cell? ⟨gb166,0,none⟩ = some (.slice A0_0 l0_0.length c0_0):=hS_
    refine norm_ (a':=?_) ?_ ?_
    rotate_left
    ·simp only [putAll,Act.put,lS,lZ,lC]
     rfl
    refine one_ (i:=12) (N:=none) #[tT,tT,tT,tT,tT,tT,tT,tT,tT,tT,tT,tT,tT,fF] rfl rfl (one_of HT_.out (by kernel_rfl)) (by decide) (fun K hK => ?_)
    have hs82 : w81.cell? ⟨gb183,0,none⟩ = some (.int .i64 0):=(kC BK183.out 0).trans rfl
    have hfs82:=blk_frozen BK183.out 0
    have hns82_0:=NB166_183.out
    have hns82_1:=NB167_183.out
    have hms82_0:=NB183_166.out
    have hms82_1:=NB183_167.out
    have hs83 : w81.cell? ⟨gb183,1,none⟩ = some (.int .i64 0):=(kC BK183.out 1).trans rfl
    have hfs83:=blk_frozen BK183.out 1
    have hns83_0:=NB166_183.out
    have hns83_1:=NB167_183.out
    have hms83_0:=NB183_166.out
    have hms83_1:=NB183_167.out
    have hs84 : w81.cell? ⟨gb183,2,none⟩ = some (.int .i64 0):=(kC BK183.out 2).trans rfl
    have hfs84:=blk_frozen BK183.out 2
    have hns84_0:=NB166_183.out
    have hns84_1:=NB167_183.out
    have hms84_0:=NB183_166.out
    have hms84_1:=NB183_167.out
    have hs85 : w81.cell? ⟨gb183,3,none⟩ = some (.int .i64 0):=(kC BK183.out 3).trans rfl
    have hfs85:=blk_frozen BK183.out 3
    have hns85_0:=NB166_183.out
    have hns85_1:=NB167_183.out
    have hms85_0:=NB183_166.out
    have hms85_1:=NB183_167.out
    refine skip_ (w1:=?_) (by rfl) rfl ?_ ?_
    rotate_left
    ·go_simp
     rfl
    refine hK.out _ _ (((cell_far (p:=⟨gb183,_,none⟩) NB166_183.out _).trans (((cell_far (p:=⟨gb183,_,none⟩) NB166_183.out _).trans (((cell_far (p:=⟨gb183,_,none⟩) NB166_183.out _).trans (((cell_far (p:=⟨gb183,_,none⟩) NB166_183.out _).trans (hHeld))))))))) (fun hHeld => ?_)
    clear hK K
    refine pure_ (i:=13) (N:=some 6) (v:=?_) (a':=?_) #[tT,tT,tT,tT,tT,tT,tT,tT,tT,tT,tT,tT,tT,tT] rfl rfl (any_of HT_.out (by kernel_rfl)) (fun _ _ _ h => h) (Or.inl ⟨by rfl,?_⟩) ?_ ?_
    rotate_left
    ·intro w'
     go_simp
     first|(with_reducible rfl)|(simp only [Instr.field,go_sem, *]; rfl)
    rotate_left
    ·simp only [Act.put,lS,lZ,lC,i64_w,i32_w]
     rfl
    refine done_ (done_of HT_.out (by kernel_rfl)) ?_
    try go_wp2
    have n0_ : Aside0 (((((w81.setCell ⟨gb183,0,none⟩ (.int .i64 t178)).setCell ⟨gb183,1,none⟩ (.int .i64 t179)).setCell ⟨gb183,2,none⟩ (.int .i64 t180)).setCell ⟨gb183,3,none⟩ (.int .i64 t181)).heap[gb166]? = some (.cells #[.slice A0_0 l0_0.length c0_0] 42 (0,0))):=⟨by (with_reducible repeat (first|refine kN ?_ _|refine kD ?_|refine kA ?_ _)); refine blk_far ?_ NB166_183.out _; (with_reducible repeat (first|refine kN ?_ _|refine kD ?_|refine kA ?_ _)); refine blk_far ?_ NB166_183.out _; (with_reducible repeat (first|refine kN ?_ _|refine kD ?_|refine kA ?_ _)); refine blk_far ?_ NB166_183.out _; (with_reducible repeat (first|refine kN ?_ _|refine kD ?_|refine kA ?_ _)); refine blk_far ?_ NB166_183.out _; (with_reducible repeat (first|refine kN ?_ _|refine kD ?_|refine kA ?_ _)); exact BK166.out⟩
    have n1_ : Aside0 (((((w81.setCell ⟨gb183,0,none⟩ (.int .i64 t178)).setCell ⟨gb183,1,none⟩ (.int .i64 t179)).setCell ⟨gb183,2,none⟩ (.int .i64 t180)).setCell ⟨gb183,3,none⟩ (.int .i64 t181)).heap[gb167]? = some (.cells #[.int .i64 0,.int .i64 0,.int .i64 0,.int .i64 0] 50 (0,0))):=⟨by (with_reducible repeat (first|refine kN ?_ _|refine kD ?_|refine kA ?_ _)); refine blk_far ?_ NB167_183.out _; (with_reducible repeat (first|refine kN ?_ _|refine kD ?_|refine kA ?_ _)); refine blk_far ?_ NB167_183.out _; (with_reducible repeat (first|refine kN ?_ _|refine kD ?_|refine kA ?_ _)); refine blk_far ?_ NB167_183.out _; (with_reducible repeat (first|refine kN ?_ _|refine kD ?_|refine kA ?_ _)); refine blk_far ?_ NB167_183.out _; (with_reducible repeat (first|refine kN ?_ _|refine kD ?_|refine kA ?_ _)); exact BK167.out⟩
    have n2_ : Aside0 (((((w81.setCell ⟨gb183,0,none⟩ (.int .i64 t178)).setCell ⟨gb183,1,none⟩ (.int .i64 t179)).setCell ⟨gb183,2,none⟩ (.int .i64 t180)).setCell ⟨gb183,3,none⟩ (.int .i64 t181)).heap[gb183]? = some (.cells #[.int .i64 t178,.int .i64 t179,.int .i64 t180,.int .i64 t181] 50 (0,0))):=⟨by (with_reducible repeat (first|refine kN ?_ _|refine kD ?_|refine kA ?_ _)); refine blk_put (cs:=#[.int .i64 t178,.int .i64 t179,.int .i64 t180,.int .i64 0]) ?_ 3 _ rfl; (with_reducible repeat (first|refine kN ?_ _|refine kD ?_|refine kA ?_ _)); refine blk_put (cs:=#[.int .i64 t178,.int .i64 t179,.int .i64 0,.int .i64 0]) ?_ 2 _ rfl; (with_reducible repeat (first|refine kN ?_ _|refine kD ?_|refine kA ?_ _)); refine blk_put (cs:=#[.int .i64 t178,.int .i64 0,.int .i64 0,.int .i64 0]) ?_ 1 _ rfl; (with_reducible repeat (first|refine kN ?_ _|refine kD ?_|refine kA ?_ _)); refine blk_put (cs:=#[.int .i64 0,.int .i64 0,.int .i64 0,.int .i64 0]) ?_ 0 _ rfl; (with_reducible repeat (first|refine kN ?_ _|refine kD ?_|refine kA ?_ _)); exact BK183.out⟩
    have n3_ : Aside0 (Below w.heap.size w ((((w81.setCell ⟨gb183,0,none⟩ (.int .i64 t178)).setCell ⟨gb183,1,none⟩ (.int .i64 t179)).setCell ⟨gb183,2,none⟩ (.int .i64 t180)).setCell ⟨gb183,3,none⟩ (.int .i64 t181))):=⟨by repeat (first|(with_reducible first|exact HB.out|apply bA|apply bD|apply bE|refine bS ?_ GE166.out|refine bS ?_ GE167.out|refine bS ?_ GE183.out)|exact HB.out)⟩
    (try clear BK166)
    (try clear BK167)
    (try clear BK183)
    (try clear HB)
    generalize ((((w81.setCell ⟨gb183,0,none⟩ (.int .i64 t178)).setCell ⟨gb183,1,none⟩ (.int .i64 t179)).setCell ⟨gb183,2,none⟩ (.int .i64 t180)).setCell ⟨gb183,3,none⟩ (.int .i64 t181)) = w86 at n0_ n1_ n2_ n3_ ⊢
    have BK166:=n0_
    have BK167:=n1_
    have BK183:=n2_
    have HB:=n3_
    clear n0_ n1_ n2_ n3_
    have n0_:=Aside0.mk (kD BK166.out)
    have n1_:=Aside0.mk (kD BK167.out)
    have n2_:=Aside0.mk (kD BK183.out)
    have n3_:=Aside0.mk (bE HB.out)
    clear BK166
    clear BK167
    clear BK183
    clear HB
    have BK166:=n0_
    have BK167:=n1_
    have BK183:=n2_
    have HB:=n3_
    clear n0_ n1_ n2_ n3_
    refine start_ (n:=12) (S:=fun w' => w'.cell? ⟨gb183,0,none⟩ = some (.int .i64 t178) ∧ w'.cell? ⟨gb183,1,none⟩ = some (.int .i64 t179) ∧ w'.cell? ⟨gb183,2,none⟩ = some (.int .i64 t180) ∧ w'.cell? ⟨gb183,3,none⟩ = some (.int .i64 t181) ∧ w'.cell? ⟨gb166,0,none⟩ = some (.slice A0_0 l0_0.length c0_0)) (ds:=[]) #[fF,fF,fF,fF,fF,fF,fF,fF,fF,fF,fF,fF] (by kernel_rfl) rfl rfl ⟨(kC BK183.out 0).trans rfl,(kC BK183.out 1).trans rfl,(kC BK183.out 2).trans rfl,(kC BK183.out 3).trans rfl,(kC BK166.out 0).trans rfl⟩ (fun hHeld => ?_); refine with_tabW impl_GroupSum.tab4 impl_GroupSum.bits4 (fun HT_ HW_ => ?_)
    generalize w86.drew = w87 at BK166 BK167 BK183 HB hHeld ⊢
    refine pure_ (i:=2) (N:=some 32) (v:=?_) (a':=?_) #[fF,fF,tT,fF,fF,fF,fF,fF,fF,fF,fF,fF] rfl rfl (any_of HT_.out (by kernel_rfl)) (fun _ _ _ h => h) (Or.inl ⟨by rfl,?_⟩) ?_ ?_
    rotate_left
    ·intro w'
     go_simp
     first|(with_reducible rfl)|(simp only [Instr.field,go_sem, *]; rfl)
    rotate_left
    ·simp only [Act.put,lS,lZ,lC,i64_w,i32_w]
     rfl
    refine pure_ (i:=3) (N:=some 33) (v:=?_) (a':=?_) #[fF,fF,tT,tT,fF,fF,fF,fF,fF,fF,fF,fF] rfl rfl (any_of HT_.out (by kernel_rfl)) (fun _ _ _ h => h) (Or.inl ⟨by rfl,?_⟩) ?_ ?_
    rotate_left
    ·intro w'
     go_simp
     first|(with_reducible rfl)|(simp only [Instr.field,go_sem, *]; rfl)
    rotate_left
    ·simp only [Act.put,lS,lZ,lC,i64_w,i32_w]
     rfl
    refine take_ (i:=0) (N:=some 30) (v:=?_) (a':=?_) #[tT,fF,tT,tT,fF,fF,fF,fF,fF,fF,fF,fF] rfl rfl (take_ofW HT_.out HW_.out (by kernel_rfl)) (fun _ _ _ h => h) (Or.inl ⟨by rfl,?_⟩) hHeld ?_ ?_
    rotate_left
    ·rintro w' ⟨s0,s1,s2,s3,s4⟩
     go_simp
     first|(with_reducible rfl)|(simp only [Instr.field,go_sem, *]; rfl)
    rotate_left
    ·simp only [Act.put,lS,lZ,lC,i64_w,i32_w]
     rfl
    refine take_ (i:=1) (N:=some 31) (v:=?_) (a':=?_) #[tT,tT,tT,tT,fF,fF,fF,fF,fF,fF,fF,fF] rfl rfl (take_ofW HT_.out HW_.out (by kernel_rfl)) (fun _ _ _ h => h) (Or.inl ⟨by rfl,?_⟩) hHeld ?_ ?_
    rotate_left
    ·rintro w' ⟨s0,s1,s2,s3,s4⟩
     go_simp
     first|(with_reducible rfl)|(simp only [Instr.field,go_sem, *]; rfl)
    rotate_left
    ·simp only [Act.put,lS,lZ,lC,i64_w,i32_w]
     rfl
    refine join_ (σ:=Nat) 2 #[tT,tT,tT,tT,tT,tT,tT,tT,tT,tT,fF,fF] (fun s_ => [(34,.agg #[.int .i64 t184,.int .i64 t185,.int .i64 t186,.int .i64 t187]),(35,.tuple #[.agg #[.int .i64 t188,.int .i64 t189,.int .i64 t190,.int .i64 t191],.bool t192]),(7,.pointer (some ⟨s_,0,none⟩)),(29,.tuple #[.agg #[.int .i64 t188,.int .i64 t189,.int .i64 t190,.int .i64 t191],.bool t192]),(36,.agg #[.int .i64 t188,.int .i64 t189,.int .i64 t190,.int .i64 t191]),(37,.bool t192)]) (fun s_ w' => (w'.cell? ⟨gb183,0,none⟩ = some (.int .i64 t178) ∧ w'.cell? ⟨gb183,1,none⟩ = some (.int .i64 t179) ∧ w'.cell? ⟨gb183,2,none⟩ = some (.int .i64 t180) ∧ w'.cell? ⟨gb183,3,none⟩ = some (.int .i64 t181) ∧ w'.cell? ⟨gb166,0,none⟩ = some (.slice A0_0 l0_0.length c0_0)) ∧ (w'.heap[gb166]? = some (.cells #[.slice A0_0 l0_0.length c0_0] 42 (0,0))) ∧ (w'.heap[gb167]? = some (.cells #[.int .i64 0,.int .i64 0,.int .i64 0,.int .i64 0] 50 (0,0))) ∧ (w'.heap[gb183]? = some (.cells #[.int .i64 t178,.int .i64 t179,.int .i64 t180,.int .i64 t181] 50 (0,0))) ∧ (w'.heap[s_]? = some (.cells #[.int .i64 0,.int .i64 0,.int .i64 0,.int .i64 0] 50 (0,0))) ∧ (w.heap.size ≤ s_) ∧ (w.heap.size ≤ s_) ∧ (gb166 ≠ s_) ∧ (s_ ≠ gb166) ∧ (gb167 ≠ s_) ∧ (s_ ≠ gb167) ∧ (gb183 ≠ s_) ∧ (s_ ≠ gb183) ∧ (Below w.heap.size w w')) ?_ ?_
    rotate_left
    ·intro hCont
     refine two_ (i:=4) (j:=9) (Ni:=some 34) (Nj:=some 7) #[tT,tT,tT,tT,tT,fF,fF,fF,fF,fF,fF,fF] #[tT,tT,tT,tT,fF,fF,fF,fF,fF,tT,fF,fF] rfl rfl rfl rfl (two_of HT_.out (by kernel_rfl)) (by decide) (by decide) (fun K hK => ?_) (fun K hK => ?_)
     ·skip
      refine goes_ Try.func62 (by kernel_rfl) rfl #[.agg #[.slice A0_0 l0_0.length c0_0],.int .i64 (wrap64 (a1 + 8))] (by rfl) rfl rfl (by (try simp only [List.map_toArray,List.map_cons,List.map_nil]); first|done|rfl|(simp only [List.length_drop,List.length_take]; rfl)) ?_
      with_reducible refine (impl_ThirdAt.calls kj2 _ _ l0_0 (wrap64 (a1 + 8)) t184 t185 t186 t187 _ ?side1 ?side2 A21.out).mono ?_
      (case side1 => repeat (first|exact (Kd.C_below HR0_0.out HB.out)|(with_reducible refine Kd.C_alloc ?_ _)|(with_reducible refine Kd.C_drewN ?_ _)|(with_reducible refine Kd.C_drew ?_)))
      (case side2 => exact HC0_0.out)
      rintro e w88 ⟨rfl,hb⟩
      refine ⟨_,rfl,?_⟩
      have n0_:=Aside0.mk (kB (g:=gb166) (o:=.cells #[.slice A0_0 l0_0.length c0_0] 42 (0,0)) (by (with_reducible repeat (first|refine kN ?_ _|refine kD ?_|refine kA ?_ _)); exact BK166.out) hb)
      have n1_:=Aside0.mk (kB (g:=gb167) (o:=.cells #[.int .i64 0,.int .i64 0,.int .i64 0,.int .i64 0] 50 (0,0)) (by (with_reducible repeat (first|refine kN ?_ _|refine kD ?_|refine kA ?_ _)); exact BK167.out) hb)
      have n2_:=Aside0.mk (kB (g:=gb183) (o:=.cells #[.int .i64 t178,.int .i64 t179,.int .i64 t180,.int .i64 t181] 50 (0,0)) (by (with_reducible repeat (first|refine kN ?_ _|refine kD ?_|refine kA ?_ _)); exact BK183.out) hb)
      have n3_:=Aside0.mk (below_step (by repeat (first|(with_reducible first|exact HB.out|apply bA|apply bD|apply bE|refine bS ?_ GE166.out|refine bS ?_ GE167.out|refine bS ?_ GE183.out)|exact HB.out)) hb)
      clear BK166
      clear BK167
      clear BK183
      clear HB
      have BK166:=n0_
      have BK167:=n1_
      have BK183:=n2_
      have HB:=n3_
      clear n0_ n1_ n2_ n3_
      (try clear hb)
      (try clear hb2)
      (try clear hk)
      (try clear hi)
      refine hK.out _ _ ⟨(kC BK183.out 0).trans rfl,(kC BK183.out 1).trans rfl,(kC BK183.out 2).trans rfl,(kC BK183.out 3).trans rfl,(kC BK166.out 0).trans rfl⟩ (fun hHeld => ?_)
      clear hK K
      refine norm_ (a':=?_) ?_ ?_
      rotate_left
      ·show Act.put _ (some 34) _ = _
       simp only [Act.put,lS,lZ,lC,i64_w,i32_w]
       rfl
      refine two_ (i:=5) (j:=9) (Ni:=some 35) (Nj:=some 7) #[tT,tT,tT,tT,tT,tT,fF,fF,fF,fF,fF,fF] #[tT,tT,tT,tT,tT,fF,fF,fF,fF,tT,fF,fF] rfl rfl rfl rfl (two_of HT_.out (by kernel_rfl)) (by decide) (by decide) (fun K hK => ?_) (fun K hK => ?_)
      ·skip
       refine goes_ Try.func61 (by kernel_rfl) rfl #[.agg #[.int .i64 t178,.int .i64 t179,.int .i64 t180,.int .i64 t181],.agg #[.int .i64 t184,.int .i64 t185,.int .i64 t186,.int .i64 t187]] (by rfl) rfl rfl (by (try simp only [List.map_toArray,List.map_cons,List.map_nil]); first|done|rfl|(simp only [List.length_drop,List.length_take]; rfl)) ?_
       with_reducible refine (impl_AddIntervals.calls kj2 t178 t179 t180 t181 t184 t185 t186 t187 t188 t189 t190 t191 t192 _ A22.out).mono ?_
       rintro e w89 ⟨rfl,hb⟩
       refine ⟨_,rfl,?_⟩
       have n0_:=Aside0.mk (kB (g:=gb166) (o:=.cells #[.slice A0_0 l0_0.length c0_0] 42 (0,0)) (by (with_reducible repeat (first|refine kN ?_ _|refine kD ?_|refine kA ?_ _)); exact BK166.out) hb)
       have n1_:=Aside0.mk (kB (g:=gb167) (o:=.cells #[.int .i64 0,.int .i64 0,.int .i64 0,.int .i64 0] 50 (0,0)) (by (with_reducible repeat (first|refine kN ?_ _|refine kD ?_|refine kA ?_ _)); exact BK167.out) hb)
       have n2_:=Aside0.mk (kB (g:=gb183) (o:=.cells #[.int .i64 t178,.int .i64 t179,.int .i64 t180,.int .i64 t181] 50 (0,0)) (by (with_reducible repeat (first|refine kN ?_ _|refine kD ?_|refine kA ?_ _)); exact BK183.out) hb)
       have n3_:=Aside0.mk (below_step (by repeat (first|(with_reducible first|exact HB.out|apply bA|apply bD|apply bE|refine bS ?_ GE166.out|refine bS ?_ GE167.out|refine bS ?_ GE183.out)|exact HB.out)) hb)
       clear BK166
       clear BK167
       clear BK183
       clear HB
       have BK166:=n0_
       have BK167:=n1_
       have BK183:=n2_
       have HB:=n3_
       clear n0_ n1_ n2_ n3_
       (try clear hb)
       (try clear hb2)
       (try clear hk)
       (try clear hi)
       refine hK.out _ _ ⟨(kC BK183.out 0).trans rfl,(kC BK183.out 1).trans rfl,(kC BK183.out 2).trans rfl,(kC BK183.out 3).trans rfl,(kC BK166.out 0).trans rfl⟩ (fun hHeld => ?_)
       clear hK K
       refine norm_ (a':=?_) ?_ ?_
       rotate_left
       ·show Act.put _ (some 35) _ = _
        simp only [Act.put,lS,lZ,lC,i64_w,i32_w]
        rfl
       refine pure_ (i:=6) (N:=some 29) (v:=?_) (a':=?_) #[tT,tT,tT,tT,tT,tT,tT,fF,fF,fF,fF,fF] rfl rfl (any_of HT_.out (by kernel_rfl)) (fun _ _ _ h => h) (Or.inl ⟨by rfl,?_⟩) ?_ ?_
       rotate_left
       ·intro w'
        go_simp
        first|(with_reducible rfl)|(simp only [Instr.field,go_sem, *]; rfl)
       rotate_left
       ·simp only [Act.put,lS,lZ,lC,i64_w,i32_w]
        rfl
       refine pure_ (i:=7) (N:=some 36) (v:=?_) (a':=?_) #[tT,tT,tT,tT,tT,tT,tT,tT,fF,fF,fF,fF] rfl rfl (any_of HT_.out (by kernel_rfl)) (fun _ _ _ h => h) (Or.inl ⟨by rfl,?_⟩) ?_ ?_
       rotate_left
       ·intro w'
        go_simp
        first|(with_reducible rfl)|(simp only [Instr.field,go_sem, *]; rfl)
       rotate_left
       ·simp only [Act.put,lS,lZ,lC,i64_w,i32_w]
        rfl
       refine pure_ (i:=8) (N:=some 37) (v:=?_) (a':=?_) #[tT,tT,tT,tT,tT,tT,tT,tT,tT,fF,fF,fF] rfl rfl (any_of HT_.out (by kernel_rfl)) (fun _ _ _ h => h) (Or.inl ⟨by rfl,?_⟩) ?_ ?_
       rotate_left
       ·intro w'
        go_simp
        first|(with_reducible rfl)|(simp only [Instr.field,go_sem, *]; rfl)
       rotate_left
       ·simp only [Act.put,lS,lZ,lC,i64_w,i32_w]
        rfl
       refine one_ (i:=9) (N:=some 7) #[tT,tT,tT,tT,tT,tT,tT,tT,tT,tT,fF,fF] rfl rfl (one_of HT_.out (by kernel_rfl)) (by decide) (fun K hK => ?_)
       refine box_step ?hg (N:=7) ?hd (cs:=#[.int .i64 0,.int .i64 0,.int .i64 0,.int .i64 0]) (t:=50) ?hr ?_; (case hd => rfl); (case hg => rfl); (case hr => first|(go_simp; done)|(go_simp; rfl))
       intro gb193 hg w90 hbox hb
       have n0_:=Aside0.mk (kB (g:=gb166) (o:=.cells #[.slice A0_0 l0_0.length c0_0] 42 (0,0)) (by (with_reducible repeat (first|refine kN ?_ _|refine kD ?_|refine kA ?_ _)); exact BK166.out) hb)
       have n1_:=Aside0.mk (kB (g:=gb167) (o:=.cells #[.int .i64 0,.int .i64 0,.int .i64 0,.int .i64 0] 50 (0,0)) (by (with_reducible repeat (first|refine kN ?_ _|refine kD ?_|refine kA ?_ _)); exact BK167.out) hb)
       have n2_:=Aside0.mk (kB (g:=gb183) (o:=.cells #[.int .i64 t178,.int .i64 t179,.int .i64 t180,.int .i64 t181] 50 (0,0)) (by (with_reducible repeat (first|refine kN ?_ _|refine kD ?_|refine kA ?_ _)); exact BK183.out) hb)
       have n3_:=Aside0.mk (below_step (by repeat (first|(with_reducible first|exact HB.out|apply bA|apply bD|apply bE|refine bS ?_ GE166.out|refine bS ?_ GE167.out|refine bS ?_ GE183.out)|exact HB.out)) hb)
       have n4_:=Aside0.mk (hbox)
       have n5_:=Aside0.mk ((by rw [hg]; exact (below_size (by repeat (first|(with_reducible first|exact HB.out|apply bA|apply bD|apply bE|refine bS ?_ GE166.out|refine bS ?_ GE167.out|refine bS ?_ GE183.out)|exact HB.out))) : w.heap.size ≤ gb193))
       have n6_:=Aside0.mk ((by rw [hg]; exact (below_size (by repeat (first|(with_reducible first|exact HB.out|apply bA|apply bD|apply bE|refine bS ?_ GE166.out|refine bS ?_ GE167.out|refine bS ?_ GE183.out)|exact HB.out))) : w.heap.size ≤ gb193))
       have n7_:=Aside0.mk ((by rw [hg]; exact Nat.ne_of_lt (blk_lt (g:=gb166) (o:=.cells #[.slice A0_0 l0_0.length c0_0] 42 (0,0)) (by (with_reducible repeat (first|refine kN ?_ _|refine kD ?_|refine kA ?_ _)); exact BK166.out)) : gb166 ≠ gb193))
       have n8_:=Aside0.mk ((by rw [hg]; exact Nat.ne_of_gt (blk_lt (g:=gb166) (o:=.cells #[.slice A0_0 l0_0.length c0_0] 42 (0,0)) (by (with_reducible repeat (first|refine kN ?_ _|refine kD ?_|refine kA ?_ _)); exact BK166.out)) : gb193 ≠ gb166))
       have n9_:=Aside0.mk ((by rw [hg]; exact Nat.ne_of_lt (blk_lt (g:=gb167) (o:=.cells #[.int .i64 0,.int .i64 0,.int .i64 0,.int .i64 0] 50 (0,0)) (by (with_reducible repeat (first|refine kN ?_ _|refine kD ?_|refine kA ?_ _)); exact BK167.out)) : gb167 ≠ gb193))
       have n10_:=Aside0.mk ((by rw [hg]; exact Nat.ne_of_gt (blk_lt (g:=gb167) (o:=.cells #[.int .i64 0,.int .i64 0,.int .i64 0,.int .i64 0] 50 (0,0)) (by (with_reducible repeat (first|refine kN ?_ _|refine kD ?_|refine kA ?_ _)); exact BK167.out)) : gb193 ≠ gb167))
       have n11_:=Aside0.mk ((by rw [hg]; exact Nat.ne_of_lt (blk_lt (g:=gb183) (o:=.cells #[.int .i64 t178,.int .i64 t179,.int .i64 t180,.int .i64 t181] 50 (0,0)) (by (with_reducible repeat (first|refine kN ?_ _|refine kD ?_|refine kA ?_ _)); exact BK183.out)) : gb183 ≠ gb193))
       have n12_:=Aside0.mk ((by rw [hg]; exact Nat.ne_of_gt (blk_lt (g:=gb183) (o:=.cells #[.int .i64 t178,.int .i64 t179,.int .i64 t180,.int .i64 t181] 50 (0,0)) (by (with_reducible repeat (first|refine kN ?_ _|refine kD ?_|refine kA ?_ _)); exact BK183.out)) : gb193 ≠ gb183))
       clear BK166
       clear BK167
       clear BK183
       clear HB
       have BK166:=n0_
       have BK167:=n1_
       have BK183:=n2_
       have HB:=n3_
       have BK193:=n4_
       have GW193:=n5_
       have GE193:=n6_
       have NB166_193:=n7_
       have NB193_166:=n8_
       have NB167_193:=n9_
       have NB193_167:=n10_
       have NB183_193:=n11_
       have NB193_183:=n12_
       clear n0_ n1_ n2_ n3_ n4_ n5_ n6_ n7_ n8_ n9_ n10_ n11_ n12_
       clear hb hbox hg
       refine hK.out _ _ ⟨(kC BK183.out 0).trans rfl,(kC BK183.out 1).trans rfl,(kC BK183.out 2).trans rfl,(kC BK183.out 3).trans rfl,(kC BK166.out 0).trans rfl⟩ (fun hHeld => ?_)
       clear hK K
       refine norm_ (a':=?_) ?_ ?_
       rotate_left
       ·show Act.put _ (some 7) _ = _
        simp only [Act.put,lS,lZ,lC,i64_w,i32_w]
        rfl
       exact norm_ (by simp only [putAll,Act.put,lS,lZ,lC]) (hCont (gb193) _ ⟨hHeld,(by (with_reducible repeat (first|refine kN ?_ _|refine kD ?_|refine kA ?_ _)); exact BK166.out),(by (with_reducible repeat (first|refine kN ?_ _|refine kD ?_|refine kA ?_ _)); exact BK167.out),(by (with_reducible repeat (first|refine kN ?_ _|refine kD ?_|refine kA ?_ _)); exact BK183.out),(by (with_reducible repeat (first|refine kN ?_ _|refine kD ?_|refine kA ?_ _)); exact BK193.out),GW193.out,GE193.out,NB166_193.out,NB193_166.out,NB167_193.out,NB193_167.out,NB183_193.out,NB193_183.out,(by repeat (first|(with_reducible first|exact HB.out|apply bA|apply bD|apply bE|refine bS ?_ GE166.out|refine bS ?_ GE167.out|refine bS ?_ GE183.out|refine bS ?_ GE193.out)|exact HB.out))⟩)
      ·skip
       refine box_step ?hg (N:=7) ?hd (cs:=#[.int .i64 0,.int .i64 0,.int .i64 0,.int .i64 0]) (t:=50) ?hr ?_; (case hd => rfl); (case hg => rfl); (case hr => first|(go_simp; done)|(go_simp; rfl))
       intro gb193 hg w89 hbox hb
       have n0_:=Aside0.mk (kB (g:=gb166) (o:=.cells #[.slice A0_0 l0_0.length c0_0] 42 (0,0)) (by (with_reducible repeat (first|refine kN ?_ _|refine kD ?_|refine kA ?_ _)); exact BK166.out) hb)
       have n1_:=Aside0.mk (kB (g:=gb167) (o:=.cells #[.int .i64 0,.int .i64 0,.int .i64 0,.int .i64 0] 50 (0,0)) (by (with_reducible repeat (first|refine kN ?_ _|refine kD ?_|refine kA ?_ _)); exact BK167.out) hb)
       have n2_:=Aside0.mk (kB (g:=gb183) (o:=.cells #[.int .i64 t178,.int .i64 t179,.int .i64 t180,.int .i64 t181] 50 (0,0)) (by (with_reducible repeat (first|refine kN ?_ _|refine kD ?_|refine kA ?_ _)); exact BK183.out) hb)
       have n3_:=Aside0.mk (below_step (by repeat (first|(with_reducible first|exact HB.out|apply bA|apply bD|apply bE|refine bS ?_ GE166.out|refine bS ?_ GE167.out|refine bS ?_ GE183.out)|exact HB.out)) hb)
       have n4_:=Aside0.mk (hbox)
       have n5_:=Aside0.mk ((by rw [hg]; exact (below_size (by repeat (first|(with_reducible first|exact HB.out|apply bA|apply bD|apply bE|refine bS ?_ GE166.out|refine bS ?_ GE167.out|refine bS ?_ GE183.out)|exact HB.out))) : w.heap.size ≤ gb193))
       have n6_:=Aside0.mk ((by rw [hg]; exact (below_size (by repeat (first|(with_reducible first|exact HB.out|apply bA|apply bD|apply bE|refine bS ?_ GE166.out|refine bS ?_ GE167.out|refine bS ?_ GE183.out)|exact HB.out))) : w.heap.size ≤ gb193))
       have n7_:=Aside0.mk ((by rw [hg]; exact Nat.ne_of_lt (blk_lt (g:=gb166) (o:=.cells #[.slice A0_0 l0_0.length c0_0] 42 (0,0)) (by (with_reducible repeat (first|refine kN ?_ _|refine kD ?_|refine kA ?_ _)); exact BK166.out)) : gb166 ≠ gb193))
       have n8_:=Aside0.mk ((by rw [hg]; exact Nat.ne_of_gt (blk_lt (g:=gb166) (o:=.cells #[.slice A0_0 l0_0.length c0_0] 42 (0,0)) (by (with_reducible repeat (first|refine kN ?_ _|refine kD ?_|refine kA ?_ _)); exact BK166.out)) : gb193 ≠ gb166))
       have n9_:=Aside0.mk ((by rw [hg]; exact Nat.ne_of_lt (blk_lt (g:=gb167) (o:=.cells #[.int .i64 0,.int .i64 0,.int .i64 0,.int .i64 0] 50 (0,0)) (by (with_reducible repeat (first|refine kN ?_ _|refine kD ?_|refine kA ?_ _)); exact BK167.out)) : gb167 ≠ gb193))
       have n10_:=Aside0.mk ((by rw [hg]; exact Nat.ne_of_gt (blk_lt (g:=gb167) (o:=.cells #[.int .i64 0,.int .i64 0,.int .i64 0,.int .i64 0] 50 (0,0)) (by (with_reducible repeat (first|refine kN ?_ _|refine kD ?_|refine kA ?_ _)); exact BK167.out)) : gb193 ≠ gb167))
       have n11_:=Aside0.mk ((by rw [hg]; exact Nat.ne_of_lt (blk_lt (g:=gb183) (o:=.cells #[.int .i64 t178,.int .i64 t179,.int .i64 t180,.int .i64 t181] 50 (0,0)) (by (with_reducible repeat (first|refine kN ?_ _|refine kD ?_|refine kA ?_ _)); exact BK183.out)) : gb183 ≠ gb193))
       have n12_:=Aside0.mk ((by rw [hg]; exact Nat.ne_of_gt (blk_lt (g:=gb183) (o:=.cells #[.int .i64 t178,.int .i64 t179,.int .i64 t180,.int .i64 t181] 50 (0,0)) (by (with_reducible repeat (first|refine kN ?_ _|refine kD ?_|refine kA ?_ _)); exact BK183.out)) : gb193 ≠ gb183))
       clear BK166
       clear BK167
       clear BK183
       clear HB
       have BK166:=n0_
       have BK167:=n1_
       have BK183:=n2_
       have HB:=n3_
       have BK193:=n4_
       have GW193:=n5_
       have GE193:=n6_
       have NB166_193:=n7_
       have NB193_166:=n8_
       have NB167_193:=n9_
       have NB193_167:=n10_
       have NB183_193:=n11_
       have NB193_183:=n12_
       clear n0_ n1_ n2_ n3_ n4_ n5_ n6_ n7_ n8_ n9_ n10_ n11_ n12_
       clear hb hbox hg
       refine hK.out _ _ ⟨(kC BK183.out 0).trans rfl,(kC BK183.out 1).trans rfl,(kC BK183.out 2).trans rfl,(kC BK183.out 3).trans rfl,(kC BK166.out 0).trans rfl⟩ (fun hHeld => ?_)
       clear hK K
       refine norm_ (a':=?_) ?_ ?_
       rotate_left
       ·show Act.put _ (some 7) _ = _
        simp only [Act.put,lS,lZ,lC,i64_w,i32_w]
        rfl
       refine one_ (i:=5) (N:=some 35) #[tT,tT,tT,tT,tT,tT,fF,fF,fF,tT,fF,fF] rfl rfl (one_of HT_.out (by kernel_rfl)) (by decide) (fun K hK => ?_)
       refine goes_ Try.func61 (by kernel_rfl) rfl #[.agg #[.int .i64 t178,.int .i64 t179,.int .i64 t180,.int .i64 t181],.agg #[.int .i64 t184,.int .i64 t185,.int .i64 t186,.int .i64 t187]] (by rfl) rfl rfl (by (try simp only [List.map_toArray,List.map_cons,List.map_nil]); first|done|rfl|(simp only [List.length_drop,List.length_take]; rfl)) ?_
       with_reducible refine (impl_AddIntervals.calls kj2 t178 t179 t180 t181 t184 t185 t186 t187 t188 t189 t190 t191 t192 _ A22.out).mono ?_
       rintro e w90 ⟨rfl,hb⟩
       refine ⟨_,rfl,?_⟩
       have n0_:=Aside0.mk (kB (g:=gb166) (o:=.cells #[.slice A0_0 l0_0.length c0_0] 42 (0,0)) (by (with_reducible repeat (first|refine kN ?_ _|refine kD ?_|refine kA ?_ _)); exact BK166.out) hb)
       have n1_:=Aside0.mk (kB (g:=gb167) (o:=.cells #[.int .i64 0,.int .i64 0,.int .i64 0,.int .i64 0] 50 (0,0)) (by (with_reducible repeat (first|refine kN ?_ _|refine kD ?_|refine kA ?_ _)); exact BK167.out) hb)
       have n2_:=Aside0.mk (kB (g:=gb183) (o:=.cells #[.int .i64 t178,.int .i64 t179,.int .i64 t180,.int .i64 t181] 50 (0,0)) (by (with_reducible repeat (first|refine kN ?_ _|refine kD ?_|refine kA ?_ _)); exact BK183.out) hb)
       have n3_:=Aside0.mk (kB (g:=gb193) (o:=.cells #[.int .i64 0,.int .i64 0,.int .i64 0,.int .i64 0] 50 (0,0)) (by (with_reducible repeat (first|refine kN ?_ _|refine kD ?_|refine kA ?_ _)); exact BK193.out) hb)
       have n4_:=Aside0.mk (below_step (by repeat (first|(with_reducible first|exact HB.out|apply bA|apply bD|apply bE|refine bS ?_ GE166.out|refine bS ?_ GE167.out|refine bS ?_ GE183.out|refine bS ?_ GE193.out)|exact HB.out)) hb)
       clear BK166
       clear BK167
       clear BK183
       clear BK193
       clear HB
       have BK166:=n0_
       have BK167:=n1_
       have BK183:=n2_
       have BK193:=n3_
       have HB:=n4_
       clear n0_ n1_ n2_ n3_ n4_
       (try clear hb)
       (try clear hb2)
       (try clear hk)
       (try clear hi)
       refine hK.out _ _ ⟨(kC BK183.out 0).trans rfl,(kC BK183.out 1).trans rfl,(kC BK183.out 2).trans rfl,(kC BK183.out 3).trans rfl,(kC BK166.out 0).trans rfl⟩ (fun hHeld => ?_)
       clear hK K
       refine norm_ (a':=?_) ?_ ?_
       rotate_left
       ·show Act.put _ (some 35) _ = _
        simp only [Act.put,lS,lZ,lC,i64_w,i32_w]
        rfl
       refine pure_ (i:=6) (N:=some 29) (v:=?_) (a':=?_) #[tT,tT,tT,tT,tT,tT,tT,fF,fF,tT,fF,fF] rfl rfl (any_of HT_.out (by kernel_rfl)) (fun _ _ _ h => h) (Or.inl ⟨by rfl,?_⟩) ?_ ?_
       rotate_left
       ·intro w'
        go_simp
        first|(with_reducible rfl)|(simp only [Instr.field,go_sem, *]; rfl)
       rotate_left
       ·simp only [Act.put,lS,lZ,lC,i64_w,i32_w]
        rfl
       refine pure_ (i:=7) (N:=some 36) (v:=?_) (a':=?_) #[tT,tT,tT,tT,tT,tT,tT,tT,fF,tT,fF,fF] rfl rfl (any_of HT_.out (by kernel_rfl)) (fun _ _ _ h => h) (Or.inl ⟨by rfl,?_⟩) ?_ ?_
       rotate_left
       ·intro w'
        go_simp
        first|(with_reducible rfl)|(simp only [Instr.field,go_sem, *]; rfl)
       rotate_left
       ·simp only [Act.put,lS,lZ,lC,i64_w,i32_w]
        rfl
       refine pure_ (i:=8) (N:=some 37) (v:=?_) (a':=?_) #[tT,tT,tT,tT,tT,tT,tT,tT,tT,tT,fF,fF] rfl rfl (any_of HT_.out (by kernel_rfl)) (fun _ _ _ h => h) (Or.inl ⟨by rfl,?_⟩) ?_ ?_
       rotate_left
       ·intro w'
        go_simp
        first|(with_reducible rfl)|(simp only [Instr.field,go_sem, *]; rfl)
       rotate_left
       ·simp only [Act.put,lS,lZ,lC,i64_w,i32_w]
        rfl
       exact norm_ (by simp only [putAll,Act.put,lS,lZ,lC]) (hCont (gb193) _ ⟨hHeld,(by (with_reducible repeat (first|refine kN ?_ _|refine kD ?_|refine kA ?_ _)); exact BK166.out),(by (with_reducible repeat (first|refine kN ?_ _|refine kD ?_|refine kA ?_ _)); exact BK167.out),(by (with_reducible repeat (first|refine kN ?_ _|refine kD ?_|refine kA ?_ _)); exact BK183.out),(by (with_reducible repeat (first|refine kN ?_ _|refine kD ?_|refine kA ?_ _)); exact BK193.out),GW193.out,GE193.out,NB166_193.out,NB193_166.out,NB167_193.out,NB193_167.out,NB183_193.out,NB193_183.out,(by repeat (first|(with_reducible first|exact HB.out|apply bA|apply bD|apply bE|refine bS ?_ GE166.out|refine bS ?_ GE167.out|refine bS ?_ GE183.out|refine bS ?_ GE193.out)|exact HB.out))⟩)
     ·skip
      refine box_step ?hg (N:=7) ?hd (cs:=#[.int .i64 0,.int .i64 0,.int .i64 0,.int .i64 0]) (t:=50) ?hr ?_; (case hd => rfl); (case hg => rfl); (case hr => first|(go_simp; done)|(go_simp; rfl))
      intro gb193 hg w88 hbox hb
      have n0_:=Aside0.mk (kB (g:=gb166) (o:=.cells #[.slice A0_0 l0_0.length c0_0] 42 (0,0)) (by (with_reducible repeat (first|refine kN ?_ _|refine kD ?_|refine kA ?_ _)); exact BK166.out) hb)
      have n1_:=Aside0.mk (kB (g:=gb167) (o:=.cells #[.int .i64 0,.int .i64 0,.int .i64 0,.int .i64 0] 50 (0,0)) (by (with_reducible repeat (first|refine kN ?_ _|refine kD ?_|refine kA ?_ _)); exact BK167.out) hb)
      have n2_:=Aside0.mk (kB (g:=gb183) (o:=.cells #[.int .i64 t178,.int .i64 t179,.int .i64 t180,.int .i64 t181] 50 (0,0)) (by (with_reducible repeat (first|refine kN ?_ _|refine kD ?_|refine kA ?_ _)); exact BK183.out) hb)
      have n3_:=Aside0.mk (below_step (by repeat (first|(with_reducible first|exact HB.out|apply bA|apply bD|apply bE|refine bS ?_ GE166.out|refine bS ?_ GE167.out|refine bS ?_ GE183.out)|exact HB.out)) hb)
      have n4_:=Aside0.mk (hbox)
      have n5_:=Aside0.mk ((by rw [hg]; exact (below_size (by repeat (first|(with_reducible first|exact HB.out|apply bA|apply bD|apply bE|refine bS ?_ GE166.out|refine bS ?_ GE167.out|refine bS ?_ GE183.out)|exact HB.out))) : w.heap.size ≤ gb193))
      have n6_:=Aside0.mk ((by rw [hg]; exact (below_size (by repeat (first|(with_reducible first|exact HB.out|apply bA|apply bD|apply bE|refine bS ?_ GE166.out|refine bS ?_ GE167.out|refine bS ?_ GE183.out)|exact HB.out))) : w.heap.size ≤ gb193))
      have n7_:=Aside0.mk ((by rw [hg]; exact Nat.ne_of_lt (blk_lt (g:=gb166) (o:=.cells #[.slice A0_0 l0_0.length c0_0] 42 (0,0)) (by (with_reducible repeat (first|refine kN ?_ _|refine kD ?_|refine kA ?_ _)); exact BK166.out)) : gb166 ≠ gb193))
      have n8_:=Aside0.mk ((by rw [hg]; exact Nat.ne_of_gt (blk_lt (g:=gb166) (o:=.cells #[.slice A0_0 l0_0.length c0_0] 42 (0,0)) (by (with_reducible repeat (first|refine kN ?_ _|refine kD ?_|refine kA ?_ _)); exact BK166.out)) : gb193 ≠ gb166))
      have n9_:=Aside0.mk ((by rw [hg]; exact Nat.ne_of_lt (blk_lt (g:=gb167) (o:=.cells #[.int .i64 0,.int .i64 0,.int .i64 0,.int .i64 0] 50 (0,0)) (by (with_reducible repeat (first|refine kN ?_ _|refine kD ?_|refine kA ?_ _)); exact BK167.out)) : gb167 ≠ gb193))
      have n10_:=Aside0.mk ((by rw [hg]; exact Nat.ne_of_gt (blk_lt (g:=gb167) (o:=.cells #[.int .i64 0,.int .i64 0,.int .i64 0,.int .i64 0] 50 (0,0)) (by (with_reducible repeat (first|refine kN ?_ _|refine kD ?_|refine kA ?_ _)); exact BK167.out)) : gb193 ≠ gb167))
      have n11_:=Aside0.mk ((by rw [hg]; exact Nat.ne_of_lt (blk_lt (g:=gb183) (o:=.cells #[.int .i64 t178,.int .i64 t179,.int .i64 t180,.int .i64 t181] 50 (0,0)) (by (with_reducible repeat (first|refine kN ?_ _|refine kD ?_|refine kA ?_ _)); exact BK183.out)) : gb183 ≠ gb193))
      have n12_:=Aside0.mk ((by rw [hg]; exact Nat.ne_of_gt (blk_lt (g:=gb183) (o:=.cells #[.int .i64 t178,.int .i64 t179,.int .i64 t180,.int .i64 t181] 50 (0,0)) (by (with_reducible repeat (first|refine kN ?_ _|refine kD ?_|refine kA ?_ _)); exact BK183.out)) : gb193 ≠ gb183))
      clear BK166
      clear BK167
      clear BK183
      clear HB
      have BK166:=n0_
      have BK167:=n1_
      have BK183:=n2_
      have HB:=n3_
      have BK193:=n4_
      have GW193:=n5_
      have GE193:=n6_
      have NB166_193:=n7_
      have NB193_166:=n8_
      have NB167_193:=n9_
      have NB193_167:=n10_
      have NB183_193:=n11_
      have NB193_183:=n12_
      clear n0_ n1_ n2_ n3_ n4_ n5_ n6_ n7_ n8_ n9_ n10_ n11_ n12_
      clear hb hbox hg
      refine hK.out _ _ ⟨(kC BK183.out 0).trans rfl,(kC BK183.out 1).trans rfl,(kC BK183.out 2).trans rfl,(kC BK183.out 3).trans rfl,(kC BK166.out 0).trans rfl⟩ (fun hHeld => ?_)
      clear hK K
      refine norm_ (a':=?_) ?_ ?_
      rotate_left
      ·show Act.put _ (some 7) _ = _
       simp only [Act.put,lS,lZ,lC,i64_w,i32_w]
       rfl
      refine one_ (i:=4) (N:=some 34) #[tT,tT,tT,tT,tT,fF,fF,fF,fF,tT,fF,fF] rfl rfl (one_of HT_.out (by kernel_rfl)) (by decide) (fun K hK => ?_)
      refine goes_ Try.func62 (by kernel_rfl) rfl #[.agg #[.slice A0_0 l0_0.length c0_0],.int .i64 (wrap64 (a1 + 8))] (by rfl) rfl rfl (by (try simp only [List.map_toArray,List.map_cons,List.map_nil]); first|done|rfl|(simp only [List.length_drop,List.length_take]; rfl)) ?_
      with_reducible refine (impl_ThirdAt.calls kj2 _ _ l0_0 (wrap64 (a1 + 8)) t184 t185 t186 t187 _ ?side1 ?side2 A21.out).mono ?_
      (case side1 => repeat (first|exact (Kd.C_below HR0_0.out HB.out)|(with_reducible refine Kd.C_alloc ?_ _)|(with_reducible refine Kd.C_drewN ?_ _)|(with_reducible refine Kd.C_drew ?_)))
      (case side2 => exact HC0_0.out)
      rintro e w89 ⟨rfl,hb⟩
      refine ⟨_,rfl,?_⟩
      have n0_:=Aside0.mk (kB (g:=gb166) (o:=.cells #[.slice A0_0 l0_0.length c0_0] 42 (0,0)) (by (with_reducible repeat (first|refine kN ?_ _|refine kD ?_|refine kA ?_ _)); exact BK166.out) hb)
      have n1_:=Aside0.mk (kB (g:=gb167) (o:=.cells #[.int .i64 0,.int .i64 0,.int .i64 0,.int .i64 0] 50 (0,0)) (by (with_reducible repeat (first|refine kN ?_ _|refine kD ?_|refine kA ?_ _)); exact BK167.out) hb)
      have n2_:=Aside0.mk (kB (g:=gb183) (o:=.cells #[.int .i64 t178,.int .i64 t179,.int .i64 t180,.int .i64 t181] 50 (0,0)) (by (with_reducible repeat (first|refine kN ?_ _|refine kD ?_|refine kA ?_ _)); exact BK183.out) hb)
      have n3_:=Aside0.mk (kB (g:=gb193) (o:=.cells #[.int .i64 0,.int .i64 0,.int .i64 0,.int .i64 0] 50 (0,0)) (by (with_reducible repeat (first|refine kN ?_ _|refine kD ?_|refine kA ?_ _)); exact BK193.out) hb)
      have n4_:=Aside0.mk (below_step (by repeat (first|(with_reducible first|exact HB.out|apply bA|apply bD|apply bE|refine bS ?_ GE166.out|refine bS ?_ GE167.out|refine bS ?_ GE183.out|refine bS ?_ GE193.out)|exact HB.out)) hb)
      clear BK166
      clear BK167
      clear BK183
      clear BK193
      clear HB
      have BK166:=n0_
      have BK167:=n1_
      have BK183:=n2_
      have BK193:=n3_
      have HB:=n4_
      clear n0_ n1_ n2_ n3_ n4_
      (try clear hb)
      (try clear hb2)
      (try clear hk)
      (try clear hi)
      refine hK.out _ _ ⟨(kC BK183.out 0).trans rfl,(kC BK183.out 1).trans rfl,(kC BK183.out 2).trans rfl,(kC BK183.out 3).trans rfl,(kC BK166.out 0).trans rfl⟩ (fun hHeld => ?_)
      clear hK K
      refine norm_ (a':=?_) ?_ ?_
      rotate_left
      ·show Act.put _ (some 34) _ = _
       simp only [Act.put,lS,lZ,lC,i64_w,i32_w]
       rfl
      refine one_ (i:=5) (N:=some 35) #[tT,tT,tT,tT,tT,tT,fF,fF,fF,tT,fF,fF] rfl rfl (one_of HT_.out (by kernel_rfl)) (by decide) (fun K hK => ?_)
      refine goes_ Try.func61 (by kernel_rfl) rfl #[.agg #[.int .i64 t178,.int .i64 t179,.int .i64 t180,.int .i64 t181],.agg #[.int .i64 t184,.int .i64 t185,.int .i64 t186,.int .i64 t187]] (by rfl) rfl rfl (by (try simp only [List.map_toArray,List.map_cons,List.map_nil]); first|done|rfl|(simp only [List.length_drop,List.length_take]; rfl)) ?_
      with_reducible refine (impl_AddIntervals.calls kj2 t178 t179 t180 t181 t184 t185 t186 t187 t188 t189 t190 t191 t192 _ A22.out).mono ?_
      rintro e w90 ⟨rfl,hb⟩
      refine ⟨_,rfl,?_⟩
      have n0_:=Aside0.mk (kB (g:=gb166) (o:=.cells #[.slice A0_0 l0_0.length c0_0] 42 (0,0)) (by (with_reducible repeat (first|refine kN ?_ _|refine kD ?_|refine kA ?_ _)); exact BK166.out) hb)
      have n1_:=Aside0.mk (kB (g:=gb167) (o:=.cells #[.int .i64 0,.int .i64 0,.int .i64 0,.int .i64 0] 50 (0,0)) (by (with_reducible repeat (first|refine kN ?_ _|refine kD ?_|refine kA ?_ _)); exact BK167.out) hb)
      have n2_:=Aside0.mk (kB (g:=gb183) (o:=.cells #[.int .i64 t178,.int .i64 t179,.int .i64 t180,.int .i64 t181] 50 (0,0)) (by (with_reducible repeat (first|refine kN ?_ _|refine kD ?_|refine kA ?_ _)); exact BK183.out) hb)
      have n3_:=Aside0.mk (kB (g:=gb193) (o:=.cells #[.int .i64 0,.int .i64 0,.int .i64 0,.int .i64 0] 50 (0,0)) (by (with_reducible repeat (first|refine kN ?_ _|refine kD ?_|refine kA ?_ _)); exact BK193.out) hb)
      have n4_:=Aside0.mk (below_step (by repeat (first|(with_reducible first|exact HB.out|apply bA|apply bD|apply bE|refine bS ?_ GE166.out|refine bS ?_ GE167.out|refine bS ?_ GE183.out|refine bS ?_ GE193.out)|exact HB.out)) hb)
      clear BK166
      clear BK167
      clear BK183
      clear BK193
      clear HB
      have BK166:=n0_
      have BK167:=n1_
      have BK183:=n2_
      have BK193:=n3_
      have HB:=n4_
      clear n0_ n1_ n2_ n3_ n4_
      (try clear hb)
      (try clear hb2)
      (try clear hk)
      (try clear hi)
      refine hK.out _ _ ⟨(kC BK183.out 0).trans rfl,(kC BK183.out 1).trans rfl,(kC BK183.out 2).trans rfl,(kC BK183.out 3).trans rfl,(kC BK166.out 0).trans rfl⟩ (fun hHeld => ?_)
      clear hK K
      refine norm_ (a':=?_) ?_ ?_
      rotate_left
      ·show Act.put _ (some 35) _ = _
       simp only [Act.put,lS,lZ,lC,i64_w,i32_w]
       rfl
      refine pure_ (i:=6) (N:=some 29) (v:=?_) (a':=?_) #[tT,tT,tT,tT,tT,tT,tT,fF,fF,tT,fF,fF] rfl rfl (any_of HT_.out (by kernel_rfl)) (fun _ _ _ h => h) (Or.inl ⟨by rfl,?_⟩) ?_ ?_
      rotate_left
      ·intro w'
       go_simp
       first|(with_reducible rfl)|(simp only [Instr.field,go_sem, *]; rfl)
      rotate_left
      ·simp only [Act.put,lS,lZ,lC,i64_w,i32_w]
       rfl
      refine pure_ (i:=7) (N:=some 36) (v:=?_) (a':=?_) #[tT,tT,tT,tT,tT,tT,tT,tT,fF,tT,fF,fF] rfl rfl (any_of HT_.out (by kernel_rfl)) (fun _ _ _ h => h) (Or.inl ⟨by rfl,?_⟩) ?_ ?_
      rotate_left
      ·intro w'
       go_simp
       first|(with_reducible rfl)|(simp only [Instr.field,go_sem, *]; rfl)
      rotate_left
      ·simp only [Act.put,lS,lZ,lC,i64_w,i32_w]
       rfl
      refine pure_ (i:=8) (N:=some 37) (v:=?_) (a':=?_) #[tT,tT,tT,tT,tT,tT,tT,tT,tT,tT,fF,fF] rfl rfl (any_of HT_.out (by kernel_rfl)) (fun _ _ _ h => h) (Or.inl ⟨by rfl,?_⟩) ?_ ?_
      rotate_left
      ·intro w'
       go_simp
       first|(with_reducible rfl)|(simp only [Instr.field,go_sem, *]; rfl)
      rotate_left
      ·simp only [Act.put,lS,lZ,lC,i64_w,i32_w]
       rfl
      exact norm_ (by simp only [putAll,Act.put,lS,lZ,lC]) (hCont (gb193) _ ⟨hHeld,(by (with_reducible repeat (first|refine kN ?_ _|refine kD ?_|refine kA ?_ _)); exact BK166.out),(by (with_reducible repeat (first|refine kN ?_ _|refine kD ?_|refine kA ?_ _)); exact BK167.out),(by (with_reducible repeat (first|refine kN ?_ _|refine kD ?_|refine kA ?_ _)); exact BK183.out),(by (with_reducible repeat (first|refine kN ?_ _|refine kD ?_|refine kA ?_ _)); exact BK193.out),GW193.out,GE193.out,NB166_193.out,NB193_166.out,NB167_193.out,NB193_167.out,NB183_193.out,NB193_183.out,(by repeat (first|(with_reducible first|exact HB.out|apply bA|apply bD|apply bE|refine bS ?_ GE166.out|refine bS ?_ GE167.out|refine bS ?_ GE183.out|refine bS ?_ GE193.out)|exact HB.out))⟩)
    rintro gb193 w91 ⟨hS_,h0_,h1_,h2_,h3_,h4_,h5_,h6_,h7_,h8_,h9_,h10_,h11_,h12_⟩
    have n0_ : Aside0 (w91.heap[gb166]? = some (.cells #[.slice A0_0 l0_0.length c0_0] 42 (0,0))):=⟨h0_⟩
    have n1_ : Aside0 (w91.heap[gb167]? = some (.cells #[.int .i64 0,.int .i64 0,.int .i64 0,.int .i64 0] 50 (0,0))):=⟨h1_⟩
    have n2_ : Aside0 (w91.heap[gb183]? = some (.cells #[.int .i64 t178,.int .i64 t179,.int .i64 t180,.int .i64 t181] 50 (0,0))):=⟨h2_⟩
    have n3_ : Aside0 (w91.heap[gb193]? = some (.cells #[.int .i64 0,.int .i64 0,.int .i64 0,.int .i64 0] 50 (0,0))):=⟨h3_⟩
    have n4_ : Aside0 (w.heap.size ≤ gb193):=⟨h4_⟩
    have n5_ : Aside0 (w.heap.size ≤ gb193):=⟨h5_⟩
    have n6_ : Aside0 (gb166 ≠ gb193):=⟨h6_⟩
    have n7_ : Aside0 (gb193 ≠ gb166):=⟨h7_⟩
    have n8_ : Aside0 (gb167 ≠ gb193):=⟨h8_⟩
    have n9_ : Aside0 (gb193 ≠ gb167):=⟨h9_⟩
    have n10_ : Aside0 (gb183 ≠ gb193):=⟨h10_⟩
    have n11_ : Aside0 (gb193 ≠ gb183):=⟨h11_⟩
    have n12_ : Aside0 (Below w.heap.size w w91):=⟨h12_⟩
    clear BK166
    clear BK167
    clear BK183
    clear HB
    clear h0_ h1_ h2_ h3_ h4_ h5_ h6_ h7_ h8_ h9_ h10_ h11_ h12_
    have BK166:=n0_
    have BK167:=n1_
    have BK183:=n2_
    have BK193:=n3_
    have GW193:=n4_
    have GE193:=n5_
    have NB166_193:=n6_
    have NB193_166:=n7_
    have NB167_193:=n8_
    have NB193_167:=n9_
    have NB183_193:=n10_
    have NB193_183:=n11_
    have HB:=n12_
    clear n0_ n1_ n2_ n3_ n4_ n5_ n6_ n7_ n8_ n9_ n10_ n11_ n12_
    have hHeld : w91.cell? ⟨gb183,0,none⟩ = some (.int .i64 t178) ∧ w91.cell? ⟨gb183,1,none⟩ = some (.int .i64 t179) ∧ w91.cell? ⟨gb183,2,none⟩ = some (.int .i64 t180) ∧ w91.cell? ⟨gb183,3,none⟩ = some (.int .i64 t181) ∧ w91.cell? ⟨gb166,0,none⟩ = some (.slice A0_0 l0_0.length c0_0):=hS_
    refine norm_ (a':=?_) ?_ ?_
    rotate_left
    ·simp only [putAll,Act.put,lS,lZ,lC]
     rfl
    refine one_ (i:=10) (N:=none) #[tT,tT,tT,tT,tT,tT,tT,tT,tT,tT,tT,fF] rfl rfl (one_of HT_.out (by kernel_rfl)) (by decide) (fun K hK => ?_)
    have hs92 : w91.cell? ⟨gb193,0,none⟩ = some (.int .i64 0):=(kC BK193.out 0).trans rfl
    have hfs92:=blk_frozen BK193.out 0
    have hns92_0:=NB166_193.out
    have hns92_1:=NB167_193.out
    have hns92_2:=NB183_193.out
    have hms92_0:=NB193_166.out
    have hms92_1:=NB193_167.out
    have hms92_2:=NB193_183.out
    have hs93 : w91.cell? ⟨gb193,1,none⟩ = some (.int .i64 0):=(kC BK193.out 1).trans rfl
    have hfs93:=blk_frozen BK193.out 1
    have hns93_0:=NB166_193.out
    have hns93_1:=NB167_193.out
    have hns93_2:=NB183_193.out
    have hms93_0:=NB193_166.out
    have hms93_1:=NB193_167.out
    have hms93_2:=NB193_183.out
    have hs94 : w91.cell? ⟨gb193,2,none⟩ = some (.int .i64 0):=(kC BK193.out 2).trans rfl
    have hfs94:=blk_frozen BK193.out 2
    have hns94_0:=NB166_193.out
    have hns94_1:=NB167_193.out
    have hns94_2:=NB183_193.out
    have hms94_0:=NB193_166.out
    have hms94_1:=NB193_167.out
    have hms94_2:=NB193_183.out
    have hs95 : w91.cell? ⟨gb193,3,none⟩ = some (.int .i64 0):=(kC BK193.out 3).trans rfl
    have hfs95:=blk_frozen BK193.out 3
    have hns95_0:=NB166_193.out
    have hns95_1:=NB167_193.out
    have hns95_2:=NB183_193.out
    have hms95_0:=NB193_166.out
    have hms95_1:=NB193_167.out
    have hms95_2:=NB193_183.out
    refine skip_ (w1:=?_) (by rfl) rfl ?_ ?_
    rotate_left
    ·go_simp
     rfl
    refine hK.out _ _ ⟨((cell_far (p:=⟨gb193,_,none⟩) NB183_193.out _).trans (((cell_far (p:=⟨gb193,_,none⟩) NB183_193.out _).trans (((cell_far (p:=⟨gb193,_,none⟩) NB183_193.out _).trans (((cell_far (p:=⟨gb193,_,none⟩) NB183_193.out _).trans (hHeld.1)))))))),((cell_far (p:=⟨gb193,_,none⟩) NB183_193.out _).trans (((cell_far (p:=⟨gb193,_,none⟩) NB183_193.out _).trans (((cell_far (p:=⟨gb193,_,none⟩) NB183_193.out _).trans (((cell_far (p:=⟨gb193,_,none⟩) NB183_193.out _).trans (hHeld.2.1)))))))),((cell_far (p:=⟨gb193,_,none⟩) NB183_193.out _).trans (((cell_far (p:=⟨gb193,_,none⟩) NB183_193.out _).trans (((cell_far (p:=⟨gb193,_,none⟩) NB183_193.out _).trans (((cell_far (p:=⟨gb193,_,none⟩) NB183_193.out _).trans (hHeld.2.2.1)))))))),((cell_far (p:=⟨gb193,_,none⟩) NB183_193.out _).trans (((cell_far (p:=⟨gb193,_,none⟩) NB183_193.out _).trans (((cell_far (p:=⟨gb193,_,none⟩) NB183_193.out _).trans (((cell_far (p:=⟨gb193,_,none⟩) NB183_193.out _).trans (hHeld.2.2.2.1)))))))),((cell_far (p:=⟨gb193,_,none⟩) NB166_193.out _).trans (((cell_far (p:=⟨gb193,_,none⟩) NB166_193.out _).trans (((cell_far (p:=⟨gb193,_,none⟩) NB166_193.out _).trans (((cell_far (p:=⟨gb193,_,none⟩) NB166_193.out _).trans (hHeld.2.2.2.2))))))))⟩ (fun hHeld => ?_)
    clear hK K
    refine pure_ (i:=11) (N:=some 8) (v:=?_) (a':=?_) #[tT,tT,tT,tT,tT,tT,tT,tT,tT,tT,tT,tT] rfl rfl (any_of HT_.out (by kernel_rfl)) (fun _ _ _ h => h) (Or.inl ⟨by rfl,?_⟩) ?_ ?_
    rotate_left
    ·intro w'
     go_simp
     first|(with_reducible rfl)|(simp only [Instr.field,go_sem, *]; rfl)
    rotate_left
    ·simp only [Act.put,lS,lZ,lC,i64_w,i32_w]
     rfl
    refine done_ (done_of HT_.out (by kernel_rfl)) ?_
    have hnb96:=NB167_166.out
    have hnc96:=NB166_167.out
    have hnb97:=NB167_183.out
    have hnc97:=NB183_167.out
    have hnb98:=NB167_193.out
    have hnc98:=NB193_167.out
    have hcz99_0 : w91.cell? ⟨gb167,0,none⟩ = some (.int .i64 0):=(kC BK167.out 0).trans rfl
    have hcz99_1 : w91.cell? ⟨gb167,1,none⟩ = some (.int .i64 0):=(kC BK167.out 1).trans rfl
    have hcz99_2 : w91.cell? ⟨gb167,2,none⟩ = some (.int .i64 0):=(kC BK167.out 2).trans rfl
    have hcz99_3 : w91.cell? ⟨gb167,3,none⟩ = some (.int .i64 0):=(kC BK167.out 3).trans rfl
    have hfz99_0:=blk_frozen BK167.out 0
    have hfz99_1:=blk_frozen BK167.out 1
    have hfz99_2:=blk_frozen BK167.out 2
    have hfz99_3:=blk_frozen BK167.out 3
    try go_wp2
    refine bodyPost_ret (results_cell_row rfl _ _ gb167 50 #[.int .i64 0,.int .i64 0,.int .i64 0,.int .i64 0] (0,0) _ rfl (by (with_reducible repeat (first|refine kN ?_ _|refine kD ?_|refine kA ?_ _)); refine blk_put (cs:=#[.int .i64 0,.int .i64 0,.int .i64 0,.int .i64 0]) ?_ 3 _ rfl; (with_reducible repeat (first|refine kN ?_ _|refine kD ?_|refine kA ?_ _)); refine blk_put (cs:=#[.int .i64 0,.int .i64 0,.int .i64 0,.int .i64 0]) ?_ 2 _ rfl; (with_reducible repeat (first|refine kN ?_ _|refine kD ?_|refine kA ?_ _)); refine blk_put (cs:=#[.int .i64 0,.int .i64 0,.int .i64 0,.int .i64 0]) ?_ 1 _ rfl; (with_reducible repeat (first|refine kN ?_ _|refine kD ?_|refine kA ?_ _)); refine blk_put (cs:=#[.int .i64 0,.int .i64 0,.int .i64 0,.int .i64 0]) ?_ 0 _ rfl; (with_reducible repeat (first|refine kN ?_ _|refine kD ?_|refine kA ?_ _)); refine blk_far ?_ NB167_193.out _; (with_reducible repeat (first|refine kN ?_ _|refine kD ?_|refine kA ?_ _)); refine blk_far ?_ NB167_193.out _; (with_reducible repeat (first|refine kN ?_ _|refine kD ?_|refine kA ?_ _)); refine blk_far ?_ NB167_193.out _; (with_reducible repeat (first|refine kN ?_ _|refine kD ?_|refine kA ?_ _)); refine blk_far ?_ NB167_193.out _; (with_reducible repeat (first|refine kN ?_ _|refine kD ?_|refine kA ?_ _)); exact BK167.out) Try.underlying50 rfl (by kernel_rfl)) rfl ?_
    exact ⟨by first|rfl|(simp [errW_none,errW_some] <;> rfl)|(simp [*,errW_none,errW_some] <;> rfl),by repeat (first|(with_reducible first|exact HB.out|apply bA|apply bD|apply bE|refine bS ?_ GE166.out|refine bS ?_ GE167.out|refine bS ?_ GE183.out|refine bS ?_ GE193.out)|exact HB.out)⟩

   subst c23
   have H1 : (if t192 = true then (some (t188,t189,t190,t191)) else (some (0,0,0,0))) = some (r1,r2,r3,r4):=by rw [if_pos rfl] at H; exact H
   clear H
   have H:=H1
   clear H1
   by_cases c24 : t192 = true
   rotate_left
   ·replace c24:=Bool.eq_false_iff.mpr c24
    subst c24
    have H1 : (some (0,0,0,0)) = some (r1,r2,r3,r4):=by rw [if_neg (show ¬ (false = true) by decide)] at H; exact H
    clear H
    have H:=H1
    clear H1
    simp only [Option.some.injEq,Prod.mk.injEq] at H
    obtain ⟨rfl,rfl,rfl,rfl⟩:=H
    try go_wp2
    have n0_:=Aside0.mk (kD BK166.out)
    have n1_:=Aside0.mk (kD BK167.out)
    have n2_:=Aside0.mk (bE HB.out)
    clear BK166
    clear BK167
    clear HB
    have BK166:=n0_
    have BK167:=n1_
    have HB:=n2_
    clear n0_ n1_ n2_
    refine start_ (n:=14) (S:=fun w' => w'.cell? ⟨gb166,0,none⟩ = some (.slice A0_0 l0_0.length c0_0)) (ds:=[]) #[fF,fF,fF,fF,fF,fF,fF,fF,fF,fF,fF,fF,fF,fF] (by kernel_rfl) rfl rfl ((kC BK166.out 0).trans rfl) (fun hHeld => ?_); refine with_tabW impl_GroupSum.tab3 impl_GroupSum.bits3 (fun HT_ HW_ => ?_)
    generalize wc.drew = w52 at BK166 BK167 HB hHeld ⊢
    refine pure_ (i:=1) (N:=some 20) (v:=?_) (a':=?_) #[fF,tT,fF,fF,fF,fF,fF,fF,fF,fF,fF,fF,fF,fF] rfl rfl (any_of HT_.out (by kernel_rfl)) (fun _ _ _ h => h) (Or.inl ⟨by rfl,?_⟩) ?_ ?_
    rotate_left
    ·intro w'
     go_simp
     first|(with_reducible rfl)|(simp only [Instr.field,go_sem, *]; rfl)
    rotate_left
    ·simp only [Act.put,lS,lZ,lC,i64_w,i32_w]
     rfl
    refine pure_ (i:=4) (N:=some 23) (v:=?_) (a':=?_) #[fF,tT,fF,fF,tT,fF,fF,fF,fF,fF,fF,fF,fF,fF] rfl rfl (any_of HT_.out (by kernel_rfl)) (fun _ _ _ h => h) (Or.inl ⟨by rfl,?_⟩) ?_ ?_
    rotate_left
    ·intro w'
     go_simp
     first|(with_reducible rfl)|(simp only [Instr.field,go_sem, *]; rfl)
    rotate_left
    ·simp only [Act.put,lS,lZ,lC,i64_w,i32_w]
     rfl
    refine pure_ (i:=5) (N:=some 24) (v:=?_) (a':=?_) #[fF,tT,fF,fF,tT,tT,fF,fF,fF,fF,fF,fF,fF,fF] rfl rfl (any_of HT_.out (by kernel_rfl)) (fun _ _ _ h => h) (Or.inl ⟨by rfl,?_⟩) ?_ ?_
    rotate_left
    ·intro w'
     go_simp
     first|(with_reducible rfl)|(simp only [Instr.field,go_sem, *]; rfl)
    rotate_left
    ·simp only [Act.put,lS,lZ,lC,i64_w,i32_w]
     rfl
    refine take_ (i:=0) (N:=some 19) (v:=?_) (a':=?_) #[tT,tT,fF,fF,tT,tT,fF,fF,fF,fF,fF,fF,fF,fF] rfl rfl (take_ofW HT_.out HW_.out (by kernel_rfl)) (fun _ _ _ h => h) (Or.inl ⟨by rfl,?_⟩) hHeld ?_ ?_
    rotate_left
    ·intro w' s0
     go_simp
     first|(with_reducible rfl)|(simp only [Instr.field,go_sem, *]; rfl)
    rotate_left
    ·simp only [Act.put,lS,lZ,lC,i64_w,i32_w]
     rfl
    refine take_ (i:=3) (N:=some 22) (v:=?_) (a':=?_) #[tT,tT,fF,tT,tT,tT,fF,fF,fF,fF,fF,fF,fF,fF] rfl rfl (take_ofW HT_.out HW_.out (by kernel_rfl)) (fun _ _ _ h => h) (Or.inl ⟨by rfl,?_⟩) hHeld ?_ ?_
    rotate_left
    ·intro w' s0
     go_simp
     first|(with_reducible rfl)|(simp only [Instr.field,go_sem, *]; rfl)
    rotate_left
    ·simp only [Act.put,lS,lZ,lC,i64_w,i32_w]
     rfl
    refine join_ (σ:=Nat) 2 #[tT,tT,tT,tT,tT,tT,tT,tT,tT,tT,tT,tT,fF,fF] (fun s_ => [(21,.agg #[.int .i64 t170,.int .i64 t171,.int .i64 t172,.int .i64 t173]),(25,.agg #[.int .i64 t174,.int .i64 t175,.int .i64 t176,.int .i64 t177]),(26,.tuple #[.agg #[.int .i64 t178,.int .i64 t179,.int .i64 t180,.int .i64 t181],.bool true]),(5,.pointer (some ⟨s_,0,none⟩)),(18,.tuple #[.agg #[.int .i64 t178,.int .i64 t179,.int .i64 t180,.int .i64 t181],.bool true]),(27,.agg #[.int .i64 t178,.int .i64 t179,.int .i64 t180,.int .i64 t181]),(28,.bool true)]) (fun s_ w' => (w'.cell? ⟨gb166,0,none⟩ = some (.slice A0_0 l0_0.length c0_0)) ∧ (w'.heap[gb166]? = some (.cells #[.slice A0_0 l0_0.length c0_0] 42 (0,0))) ∧ (w'.heap[gb167]? = some (.cells #[.int .i64 0,.int .i64 0,.int .i64 0,.int .i64 0] 50 (0,0))) ∧ (w'.heap[s_]? = some (.cells #[.int .i64 0,.int .i64 0,.int .i64 0,.int .i64 0] 50 (0,0))) ∧ (w.heap.size ≤ s_) ∧ (w.heap.size ≤ s_) ∧ (gb166 ≠ s_) ∧ (s_ ≠ gb166) ∧ (gb167 ≠ s_) ∧ (s_ ≠ gb167) ∧ (Below w.heap.size w w')) ?_ ?_
    rotate_left
    ·intro hCont
     refine two_ (i:=2) (j:=11) (Ni:=some 21) (Nj:=some 5) #[tT,tT,tT,tT,tT,tT,fF,fF,fF,fF,fF,fF,fF,fF] #[tT,tT,fF,tT,tT,tT,fF,fF,fF,fF,fF,tT,fF,fF] rfl rfl rfl rfl (two_of HT_.out (by kernel_rfl)) (by decide) (by decide) (fun K hK => ?_) (fun K hK => ?_)
     ·skip
      refine goes_ Try.func62 (by kernel_rfl) rfl #[.agg #[.slice A0_0 l0_0.length c0_0],.int .i64 a1] (by rfl) rfl rfl (by (try simp only [List.map_toArray,List.map_cons,List.map_nil]); first|done|rfl|(simp only [List.length_drop,List.length_take]; rfl)) ?_
      with_reducible refine (impl_ThirdAt.calls kj2 _ _ l0_0 a1 t170 t171 t172 t173 _ ?side1 ?side2 A18.out).mono ?_
      (case side1 => repeat (first|exact (Kd.C_below HR0_0.out HB.out)|(with_reducible refine Kd.C_alloc ?_ _)|(with_reducible refine Kd.C_drewN ?_ _)|(with_reducible refine Kd.C_drew ?_)))
      (case side2 => exact HC0_0.out)
      rintro e w53 ⟨rfl,hb⟩
      refine ⟨_,rfl,?_⟩
      have n0_:=Aside0.mk (kB (g:=gb166) (o:=.cells #[.slice A0_0 l0_0.length c0_0] 42 (0,0)) (by (with_reducible repeat (first|refine kN ?_ _|refine kD ?_|refine kA ?_ _)); exact BK166.out) hb)
      have n1_:=Aside0.mk (kB (g:=gb167) (o:=.cells #[.int .i64 0,.int .i64 0,.int .i64 0,.int .i64 0] 50 (0,0)) (by (with_reducible repeat (first|refine kN ?_ _|refine kD ?_|refine kA ?_ _)); exact BK167.out) hb)
      have n2_:=Aside0.mk (below_step (by repeat (first|(with_reducible first|exact HB.out|apply bA|apply bD|apply bE|refine bS ?_ GE166.out|refine bS ?_ GE167.out)|exact HB.out)) hb)
      clear BK166
      clear BK167
      clear HB
      have BK166:=n0_
      have BK167:=n1_
      have HB:=n2_
      clear n0_ n1_ n2_
      (try clear hb)
      (try clear hb2)
      (try clear hk)
      (try clear hi)
      refine hK.out _ _ ((kC BK166.out 0).trans rfl) (fun hHeld => ?_)
      clear hK K
      refine norm_ (a':=?_) ?_ ?_
      rotate_left
      ·show Act.put _ (some 21) _ = _
       simp only [Act.put,lS,lZ,lC,i64_w,i32_w]
       rfl
      refine two_ (i:=6) (j:=11) (Ni:=some 25) (Nj:=some 5) #[tT,tT,tT,tT,tT,tT,tT,fF,fF,fF,fF,fF,fF,fF] #[tT,tT,tT,tT,tT,tT,fF,fF,fF,fF,fF,tT,fF,fF] rfl rfl rfl rfl (two_of HT_.out (by kernel_rfl)) (by decide) (by decide) (fun K hK => ?_) (fun K hK => ?_)
      ·skip
       refine goes_ Try.func62 (by kernel_rfl) rfl #[.agg #[.slice A0_0 l0_0.length c0_0],.int .i64 (wrap64 (a1 + 4))] (by rfl) rfl rfl (by (try simp only [List.map_toArray,List.map_cons,List.map_nil]); first|done|rfl|(simp only [List.length_drop,List.length_take]; rfl)) ?_
       with_reducible refine (impl_ThirdAt.calls kj2 _ _ l0_0 (wrap64 (a1 + 4)) t174 t175 t176 t177 _ ?side1 ?side2 A19.out).mono ?_
       (case side1 => repeat (first|exact (Kd.C_below HR0_0.out HB.out)|(with_reducible refine Kd.C_alloc ?_ _)|(with_reducible refine Kd.C_drewN ?_ _)|(with_reducible refine Kd.C_drew ?_)))
       (case side2 => exact HC0_0.out)
       rintro e w54 ⟨rfl,hb⟩
       refine ⟨_,rfl,?_⟩
       have n0_:=Aside0.mk (kB (g:=gb166) (o:=.cells #[.slice A0_0 l0_0.length c0_0] 42 (0,0)) (by (with_reducible repeat (first|refine kN ?_ _|refine kD ?_|refine kA ?_ _)); exact BK166.out) hb)
       have n1_:=Aside0.mk (kB (g:=gb167) (o:=.cells #[.int .i64 0,.int .i64 0,.int .i64 0,.int .i64 0] 50 (0,0)) (by (with_reducible repeat (first|refine kN ?_ _|refine kD ?_|refine kA ?_ _)); exact BK167.out) hb)
       have n2_:=Aside0.mk (below_step (by repeat (first|(with_reducible first|exact HB.out|apply bA|apply bD|apply bE|refine bS ?_ GE166.out|refine bS ?_ GE167.out)|exact HB.out)) hb)
       clear BK166
       clear BK167
       clear HB
       have BK166:=n0_
       have BK167:=n1_
       have HB:=n2_
       clear n0_ n1_ n2_
       (try clear hb)
       (try clear hb2)
       (try clear hk)
       (try clear hi)
       refine hK.out _ _ ((kC BK166.out 0).trans rfl) (fun hHeld => ?_)
       clear hK K
       refine norm_ (a':=?_) ?_ ?_
       rotate_left
       ·show Act.put _ (some 25) _ = _
        simp only [Act.put,lS,lZ,lC,i64_w,i32_w]
        rfl
       refine two_ (i:=7) (j:=11) (Ni:=some 26) (Nj:=some 5) #[tT,tT,tT,tT,tT,tT,tT,tT,fF,fF,fF,fF,fF,fF] #[tT,tT,tT,tT,tT,tT,tT,fF,fF,fF,fF,tT,fF,fF] rfl rfl rfl rfl (two_of HT_.out (by kernel_rfl)) (by decide) (by decide) (fun K hK => ?_) (fun K hK => ?_)
       ·skip
        refine goes_ Try.func61 (by kernel_rfl) rfl #[.agg #[.int .i64 t170,.int .i64 t171,.int .i64 t172,.int .i64 t173],.agg #[.int .i64 t174,.int .i64 t175,.int .i64 t176,.int .i64 t177]] (by rfl) rfl rfl (by (try simp only [List.map_toArray,List.map_cons,List.map_nil]); first|done|rfl|(simp only [List.length_drop,List.length_take]; rfl)) ?_
        with_reducible refine (impl_AddIntervals.calls kj2 t170 t171 t172 t173 t174 t175 t176 t177 t178 t179 t180 t181 true _ A20.out).mono ?_
        rintro e w55 ⟨rfl,hb⟩
        refine ⟨_,rfl,?_⟩
        have n0_:=Aside0.mk (kB (g:=gb166) (o:=.cells #[.slice A0_0 l0_0.length c0_0] 42 (0,0)) (by (with_reducible repeat (first|refine kN ?_ _|refine kD ?_|refine kA ?_ _)); exact BK166.out) hb)
        have n1_:=Aside0.mk (kB (g:=gb167) (o:=.cells #[.int .i64 0,.int .i64 0,.int .i64 0,.int .i64 0] 50 (0,0)) (by (with_reducible repeat (first|refine kN ?_ _|refine kD ?_|refine kA ?_ _)); exact BK167.out) hb)
        have n2_:=Aside0.mk (below_step (by repeat (first|(with_reducible first|exact HB.out|apply bA|apply bD|apply bE|refine bS ?_ GE166.out|refine bS ?_ GE167.out)|exact HB.out)) hb)
        clear BK166
        clear BK167
        clear HB
        have BK166:=n0_
        have BK167:=n1_
        have HB:=n2_
        clear n0_ n1_ n2_
        (try clear hb)
        (try clear hb2)
        (try clear hk)
        (try clear hi)
        refine hK.out _ _ ((kC BK166.out 0).trans rfl) (fun hHeld => ?_)
        clear hK K
        refine norm_ (a':=?_) ?_ ?_
        rotate_left
        ·show Act.put _ (some 26) _ = _
         simp only [Act.put,lS,lZ,lC,i64_w,i32_w]
         rfl
        refine pure_ (i:=8) (N:=some 18) (v:=?_) (a':=?_) #[tT,tT,tT,tT,tT,tT,tT,tT,tT,fF,fF,fF,fF,fF] rfl rfl (any_of HT_.out (by kernel_rfl)) (fun _ _ _ h => h) (Or.inl ⟨by rfl,?_⟩) ?_ ?_
        rotate_left
        ·intro w'
         go_simp
         first|(with_reducible rfl)|(simp only [Instr.field,go_sem, *]; rfl)
        rotate_left
        ·simp only [Act.put,lS,lZ,lC,i64_w,i32_w]
         rfl
        refine pure_ (i:=9) (N:=some 27) (v:=?_) (a':=?_) #[tT,tT,tT,tT,tT,tT,tT,tT,tT,tT,fF,fF,fF,fF] rfl rfl (any_of HT_.out (by kernel_rfl)) (fun _ _ _ h => h) (Or.inl ⟨by rfl,?_⟩) ?_ ?_
        rotate_left
        ·intro w'
         go_simp
         first|(with_reducible rfl)|(simp only [Instr.field,go_sem, *]; rfl)
        rotate_left
        ·simp only [Act.put,lS,lZ,lC,i64_w,i32_w]
         rfl
        refine pure_ (i:=10) (N:=some 28) (v:=?_) (a':=?_) #[tT,tT,tT,tT,tT,tT,tT,tT,tT,tT,tT,fF,fF,fF] rfl rfl (any_of HT_.out (by kernel_rfl)) (fun _ _ _ h => h) (Or.inl ⟨by rfl,?_⟩) ?_ ?_
        rotate_left
        ·intro w'
         go_simp
         first|(with_reducible rfl)|(simp only [Instr.field,go_sem, *]; rfl)
        rotate_left
        ·simp only [Act.put,lS,lZ,lC,i64_w,i32_w]
         rfl
        refine one_ (i:=11) (N:=some 5) #[tT,tT,tT,tT,tT,tT,tT,tT,tT,tT,tT,tT,fF,fF] rfl rfl (one_of HT_.out (by kernel_rfl)) (by decide) (fun K hK => ?_)
        refine box_step ?hg (N:=5) ?hd (cs:=#[.int .i64 0,.int .i64 0,.int .i64 0,.int .i64 0]) (t:=50) ?hr ?_; (case hd => rfl); (case hg => rfl); (case hr => first|(go_simp; done)|(go_simp; rfl))
        intro gb183 hg w56 hbox hb
        have n0_:=Aside0.mk (kB (g:=gb166) (o:=.cells #[.slice A0_0 l0_0.length c0_0] 42 (0,0)) (by (with_reducible repeat (first|refine kN ?_ _|refine kD ?_|refine kA ?_ _)); exact BK166.out) hb)
        have n1_:=Aside0.mk (kB (g:=gb167) (o:=.cells #[.int .i64 0,.int .i64 0,.int .i64 0,.int .i64 0] 50 (0,0)) (by (with_reducible repeat (first|refine kN ?_ _|refine kD ?_|refine kA ?_ _)); exact BK167.out) hb)
        have n2_:=Aside0.mk (below_step (by repeat (first|(with_reducible first|exact HB.out|apply bA|apply bD|apply bE|refine bS ?_ GE166.out|refine bS ?_ GE167.out)|exact HB.out)) hb)
        have n3_:=Aside0.mk (hbox)
        have n4_:=Aside0.mk ((by rw [hg]; exact (below_size (by repeat (first|(with_reducible first|exact HB.out|apply bA|apply bD|apply bE|refine bS ?_ GE166.out|refine bS ?_ GE167.out)|exact HB.out))) : w.heap.size ≤ gb183))
        have n5_:=Aside0.mk ((by rw [hg]; exact (below_size (by repeat (first|(with_reducible first|exact HB.out|apply bA|apply bD|apply bE|refine bS ?_ GE166.out|refine bS ?_ GE167.out)|exact HB.out))) : w.heap.size ≤ gb183))
        have n6_:=Aside0.mk ((by rw [hg]; exact Nat.ne_of_lt (blk_lt (g:=gb166) (o:=.cells #[.slice A0_0 l0_0.length c0_0] 42 (0,0)) (by (with_reducible repeat (first|refine kN ?_ _|refine kD ?_|refine kA ?_ _)); exact BK166.out)) : gb166 ≠ gb183))
        have n7_:=Aside0.mk ((by rw [hg]; exact Nat.ne_of_gt (blk_lt (g:=gb166) (o:=.cells #[.slice A0_0 l0_0.length c0_0] 42 (0,0)) (by (with_reducible repeat (first|refine kN ?_ _|refine kD ?_|refine kA ?_ _)); exact BK166.out)) : gb183 ≠ gb166))
        have n8_:=Aside0.mk ((by rw [hg]; exact Nat.ne_of_lt (blk_lt (g:=gb167) (o:=.cells #[.int .i64 0,.int .i64 0,.int .i64 0,.int .i64 0] 50 (0,0)) (by (with_reducible repeat (first|refine kN ?_ _|refine kD ?_|refine kA ?_ _)); exact BK167.out)) : gb167 ≠ gb183))
        have n9_:=Aside0.mk ((by rw [hg]; exact Nat.ne_of_gt (blk_lt (g:=gb167) (o:=.cells #[.int .i64 0,.int .i64 0,.int .i64 0,.int .i64 0] 50 (0,0)) (by (with_reducible repeat (first|refine kN ?_ _|refine kD ?_|refine kA ?_ _)); exact BK167.out)) : gb183 ≠ gb167))
        clear BK166
        clear BK167
        clear HB
        have BK166:=n0_
        have BK167:=n1_
        have HB:=n2_
        have BK183:=n3_
        have GW183:=n4_
        have GE183:=n5_
        have NB166_183:=n6_
        have NB183_166:=n7_
        have NB167_183:=n8_
        have NB183_167:=n9_
        clear n0_ n1_ n2_ n3_ n4_ n5_ n6_ n7_ n8_ n9_
        clear hb hbox hg
        refine hK.out _ _ ((kC BK166.out 0).trans rfl) (fun hHeld => ?_)
        clear hK K
        refine norm_ (a':=?_) ?_ ?_
        rotate_left
        ·show Act.put _ (some 5) _ = _
         simp only [Act.put,lS,lZ,lC,i64_w,i32_w]
         rfl
        exact norm_ (by simp only [putAll,Act.put,lS,lZ,lC]) (hCont (gb183) _ ⟨hHeld,(by (with_reducible repeat (first|refine kN ?_ _|refine kD ?_|refine kA ?_ _)); exact BK166.out),(by (with_reducible repeat (first|refine kN ?_ _|refine kD ?_|refine kA ?_ _)); exact BK167.out),(by (with_reducible repeat (first|refine kN ?_ _|refine kD ?_|refine kA ?_ _)); exact BK183.out),GW183.out,GE183.out,NB166_183.out,NB183_166.out,NB167_183.out,NB183_167.out,(by repeat (first|(with_reducible first|exact HB.out|apply bA|apply bD|apply bE|refine bS ?_ GE166.out|refine bS ?_ GE167.out|refine bS ?_ GE183.out)|exact HB.out))⟩)
       ·skip
        refine box_step ?hg (N:=5) ?hd (cs:=#[.int .i64 0,.int .i64 0,.int .i64 0,.int .i64 0]) (t:=50) ?hr ?_; (case hd => rfl); (case hg => rfl); (case hr => first|(go_simp; done)|(go_simp; rfl))
        intro gb183 hg w55 hbox hb
        have n0_:=Aside0.mk (kB (g:=gb166) (o:=.cells #[.slice A0_0 l0_0.length c0_0] 42 (0,0)) (by (with_reducible repeat (first|refine kN ?_ _|refine kD ?_|refine kA ?_ _)); exact BK166.out) hb)
        have n1_:=Aside0.mk (kB (g:=gb167) (o:=.cells #[.int .i64 0,.int .i64 0,.int .i64 0,.int .i64 0] 50 (0,0)) (by (with_reducible repeat (first|refine kN ?_ _|refine kD ?_|refine kA ?_ _)); exact BK167.out) hb)
        have n2_:=Aside0.mk (below_step (by repeat (first|(with_reducible first|exact HB.out|apply bA|apply bD|apply bE|refine bS ?_ GE166.out|refine bS ?_ GE167.out)|exact HB.out)) hb)
        have n3_:=Aside0.mk (hbox)
        have n4_:=Aside0.mk ((by rw [hg]; exact (below_size (by repeat (first|(with_reducible first|exact HB.out|apply bA|apply bD|apply bE|refine bS ?_ GE166.out|refine bS ?_ GE167.out)|exact HB.out))) : w.heap.size ≤ gb183))
        have n5_:=Aside0.mk ((by rw [hg]; exact (below_size (by repeat (first|(with_reducible first|exact HB.out|apply bA|apply bD|apply bE|refine bS ?_ GE166.out|refine bS ?_ GE167.out)|exact HB.out))) : w.heap.size ≤ gb183))
        have n6_:=Aside0.mk ((by rw [hg]; exact Nat.ne_of_lt (blk_lt (g:=gb166) (o:=.cells #[.slice A0_0 l0_0.length c0_0] 42 (0,0)) (by (with_reducible repeat (first|refine kN ?_ _|refine kD ?_|refine kA ?_ _)); exact BK166.out)) : gb166 ≠ gb183))
        have n7_:=Aside0.mk ((by rw [hg]; exact Nat.ne_of_gt (blk_lt (g:=gb166) (o:=.cells #[.slice A0_0 l0_0.length c0_0] 42 (0,0)) (by (with_reducible repeat (first|refine kN ?_ _|refine kD ?_|refine kA ?_ _)); exact BK166.out)) : gb183 ≠ gb166))
        have n8_:=Aside0.mk ((by rw [hg]; exact Nat.ne_of_lt (blk_lt (g:=gb167) (o:=.cells #[.int .i64 0,.int .i64 0,.int .i64 0,.int .i64 0] 50 (0,0)) (by (with_reducible repeat (first|refine kN ?_ _|refine kD ?_|refine kA ?_ _)); exact BK167.out)) : gb167 ≠ gb183))
        have n9_:=Aside0.mk ((by rw [hg]; exact Nat.ne_of_gt (blk_lt (g:=gb167) (o:=.cells #[.int .i64 0,.int .i64 0,.int .i64 0,.int .i64 0] 50 (0,0)) (by (with_reducible repeat (first|refine kN ?_ _|refine kD ?_|refine kA ?_ _)); exact BK167.out)) : gb183 ≠ gb167))
        clear BK166
        clear BK167
        clear HB
        have BK166:=n0_
        have BK167:=n1_
        have HB:=n2_
        have BK183:=n3_
        have GW183:=n4_
        have GE183:=n5_
        have NB166_183:=n6_
        have NB183_166:=n7_
        have NB167_183:=n8_
        have NB183_167:=n9_
        clear n0_ n1_ n2_ n3_ n4_ n5_ n6_ n7_ n8_ n9_
        clear hb hbox hg
        refine hK.out _ _ ((kC BK166.out 0).trans rfl) (fun hHeld => ?_)
        clear hK K
        refine norm_ (a':=?_) ?_ ?_
        rotate_left
        ·show Act.put _ (some 5) _ = _
         simp only [Act.put,lS,lZ,lC,i64_w,i32_w]
         rfl
        refine one_ (i:=7) (N:=some 26) #[tT,tT,tT,tT,tT,tT,tT,tT,fF,fF,fF,tT,fF,fF] rfl rfl (one_of HT_.out (by kernel_rfl)) (by decide) (fun K hK => ?_)
        refine goes_ Try.func61 (by kernel_rfl) rfl #[.agg #[.int .i64 t170,.int .i64 t171,.int .i64 t172,.int .i64 t173],.agg #[.int .i64 t174,.int .i64 t175,.int .i64 t176,.int .i64 t177]] (by rfl) rfl rfl (by (try simp only [List.map_toArray,List.map_cons,List.map_nil]); first|done|rfl|(simp only [List.length_drop,List.length_take]; rfl)) ?_
        with_reducible refine (impl_AddIntervals.calls kj2 t170 t171 t172 t173 t174 t175 t176 t177 t178 t179 t180 t181 true _ A20.out).mono ?_
        rintro e w56 ⟨rfl,hb⟩
        refine ⟨_,rfl,?_⟩
        have n0_:=Aside0.mk (kB (g:=gb166) (o:=.cells #[.slice A0_0 l0_0.length c0_0] 42 (0,0)) (by (with_reducible repeat (first|refine kN ?_ _|refine kD ?_|refine kA ?_ _)); exact BK166.out) hb)
        have n1_:=Aside0.mk (kB (g:=gb167) (o:=.cells #[.int .i64 0,.int .i64 0,.int .i64 0,.int .i64 0] 50 (0,0)) (by (with_reducible repeat (first|refine kN ?_ _|refine kD ?_|refine kA ?_ _)); exact BK167.out) hb)
        have n2_:=Aside0.mk (kB (g:=gb183) (o:=.cells #[.int .i64 0,.int .i64 0,.int .i64 0,.int .i64 0] 50 (0,0)) (by (with_reducible repeat (first|refine kN ?_ _|refine kD ?_|refine kA ?_ _)); exact BK183.out) hb)
        have n3_:=Aside0.mk (below_step (by repeat (first|(with_reducible first|exact HB.out|apply bA|apply bD|apply bE|refine bS ?_ GE166.out|refine bS ?_ GE167.out|refine bS ?_ GE183.out)|exact HB.out)) hb)
        clear BK166
        clear BK167
        clear BK183
        clear HB
        have BK166:=n0_
        have BK167:=n1_
        have BK183:=n2_
        have HB:=n3_
        clear n0_ n1_ n2_ n3_
        (try clear hb)
        (try clear hb2)
        (try clear hk)
        (try clear hi)
        refine hK.out _ _ ((kC BK166.out 0).trans rfl) (fun hHeld => ?_)
        clear hK K
        refine norm_ (a':=?_) ?_ ?_
        rotate_left
        ·show Act.put _ (some 26) _ = _
         simp only [Act.put,lS,lZ,lC,i64_w,i32_w]
         rfl
        refine pure_ (i:=8) (N:=some 18) (v:=?_) (a':=?_) #[tT,tT,tT,tT,tT,tT,tT,tT,tT,fF,fF,tT,fF,fF] rfl rfl (any_of HT_.out (by kernel_rfl)) (fun _ _ _ h => h) (Or.inl ⟨by rfl,?_⟩) ?_ ?_
        rotate_left
        ·intro w'
         go_simp
         first|(with_reducible rfl)|(simp only [Instr.field,go_sem, *]; rfl)
        rotate_left
        ·simp only [Act.put,lS,lZ,lC,i64_w,i32_w]
         rfl
        refine pure_ (i:=9) (N:=some 27) (v:=?_) (a':=?_) #[tT,tT,tT,tT,tT,tT,tT,tT,tT,tT,fF,tT,fF,fF] rfl rfl (any_of HT_.out (by kernel_rfl)) (fun _ _ _ h => h) (Or.inl ⟨by rfl,?_⟩) ?_ ?_
        rotate_left
        ·intro w'
         go_simp
         first|(with_reducible rfl)|(simp only [Instr.field,go_sem, *]; rfl)
        rotate_left
        ·simp only [Act.put,lS,lZ,lC,i64_w,i32_w]
         rfl
        refine pure_ (i:=10) (N:=some 28) (v:=?_) (a':=?_) #[tT,tT,tT,tT,tT,tT,tT,tT,tT,tT,tT,tT,fF,fF] rfl rfl (any_of HT_.out (by kernel_rfl)) (fun _ _ _ h => h) (Or.inl ⟨by rfl,?_⟩) ?_ ?_
        rotate_left
        ·intro w'
         go_simp
         first|(with_reducible rfl)|(simp only [Instr.field,go_sem, *]; rfl)
        rotate_left
        ·simp only [Act.put,lS,lZ,lC,i64_w,i32_w]
         rfl
        exact norm_ (by simp only [putAll,Act.put,lS,lZ,lC]) (hCont (gb183) _ ⟨hHeld,(by (with_reducible repeat (first|refine kN ?_ _|refine kD ?_|refine kA ?_ _)); exact BK166.out),(by (with_reducible repeat (first|refine kN ?_ _|refine kD ?_|refine kA ?_ _)); exact BK167.out),(by (with_reducible repeat (first|refine kN ?_ _|refine kD ?_|refine kA ?_ _)); exact BK183.out),GW183.out,GE183.out,NB166_183.out,NB183_166.out,NB167_183.out,NB183_167.out,(by repeat (first|(with_reducible first|exact HB.out|apply bA|apply bD|apply bE|refine bS ?_ GE166.out|refine bS ?_ GE167.out|refine bS ?_ GE183.out)|exact HB.out))⟩)
      ·skip
       refine box_step ?hg (N:=5) ?hd (cs:=#[.int .i64 0,.int .i64 0,.int .i64 0,.int .i64 0]) (t:=50) ?hr ?_; (case hd => rfl); (case hg => rfl); (case hr => first|(go_simp; done)|(go_simp; rfl))
       intro gb183 hg w54 hbox hb
       have n0_:=Aside0.mk (kB (g:=gb166) (o:=.cells #[.slice A0_0 l0_0.length c0_0] 42 (0,0)) (by (with_reducible repeat (first|refine kN ?_ _|refine kD ?_|refine kA ?_ _)); exact BK166.out) hb)
       have n1_:=Aside0.mk (kB (g:=gb167) (o:=.cells #[.int .i64 0,.int .i64 0,.int .i64 0,.int .i64 0] 50 (0,0)) (by (with_reducible repeat (first|refine kN ?_ _|refine kD ?_|refine kA ?_ _)); exact BK167.out) hb)
       have n2_:=Aside0.mk (below_step (by repeat (first|(with_reducible first|exact HB.out|apply bA|apply bD|apply bE|refine bS ?_ GE166.out|refine bS ?_ GE167.out)|exact HB.out)) hb)
       have n3_:=Aside0.mk (hbox)
       have n4_:=Aside0.mk ((by rw [hg]; exact (below_size (by repeat (first|(with_reducible first|exact HB.out|apply bA|apply bD|apply bE|refine bS ?_ GE166.out|refine bS ?_ GE167.out)|exact HB.out))) : w.heap.size ≤ gb183))
       have n5_:=Aside0.mk ((by rw [hg]; exact (below_size (by repeat (first|(with_reducible first|exact HB.out|apply bA|apply bD|apply bE|refine bS ?_ GE166.out|refine bS ?_ GE167.out)|exact HB.out))) : w.heap.size ≤ gb183))
       have n6_:=Aside0.mk ((by rw [hg]; exact Nat.ne_of_lt (blk_lt (g:=gb166) (o:=.cells #[.slice A0_0 l0_0.length c0_0] 42 (0,0)) (by (with_reducible repeat (first|refine kN ?_ _|refine kD ?_|refine kA ?_ _)); exact BK166.out)) : gb166 ≠ gb183))
       have n7_:=Aside0.mk ((by rw [hg]; exact Nat.ne_of_gt (blk_lt (g:=gb166) (o:=.cells #[.slice A0_0 l0_0.length c0_0] 42 (0,0)) (by (with_reducible repeat (first|refine kN ?_ _|refine kD ?_|refine kA ?_ _)); exact BK166.out)) : gb183 ≠ gb166))
       have n8_:=Aside0.mk ((by rw [hg]; exact Nat.ne_of_lt (blk_lt (g:=gb167) (o:=.cells #[.int .i64 0,.int .i64 0,.int .i64 0,.int .i64 0] 50 (0,0)) (by (with_reducible repeat (first|refine kN ?_ _|refine kD ?_|refine kA ?_ _)); exact BK167.out)) : gb167 ≠ gb183))
       have n9_:=Aside0.mk ((by rw [hg]; exact Nat.ne_of_gt (blk_lt (g:=gb167) (o:=.cells #[.int .i64 0,.int .i64 0,.int .i64 0,.int .i64 0] 50 (0,0)) (by (with_reducible repeat (first|refine kN ?_ _|refine kD ?_|refine kA ?_ _)); exact BK167.out)) : gb183 ≠ gb167))
       clear BK166
       clear BK167
       clear HB
       have BK166:=n0_
       have BK167:=n1_
       have HB:=n2_
       have BK183:=n3_
       have GW183:=n4_
       have GE183:=n5_
       have NB166_183:=n6_
       have NB183_166:=n7_
       have NB167_183:=n8_
       have NB183_167:=n9_
       clear n0_ n1_ n2_ n3_ n4_ n5_ n6_ n7_ n8_ n9_
       clear hb hbox hg
       refine hK.out _ _ ((kC BK166.out 0).trans rfl) (fun hHeld => ?_)
       clear hK K
       refine norm_ (a':=?_) ?_ ?_
       rotate_left
       ·show Act.put _ (some 5) _ = _
        simp only [Act.put,lS,lZ,lC,i64_w,i32_w]
        rfl
       refine one_ (i:=6) (N:=some 25) #[tT,tT,tT,tT,tT,tT,tT,fF,fF,fF,fF,tT,fF,fF] rfl rfl (one_of HT_.out (by kernel_rfl)) (by decide) (fun K hK => ?_)
       refine goes_ Try.func62 (by kernel_rfl) rfl #[.agg #[.slice A0_0 l0_0.length c0_0],.int .i64 (wrap64 (a1 + 4))] (by rfl) rfl rfl (by (try simp only [List.map_toArray,List.map_cons,List.map_nil]); first|done|rfl|(simp only [List.length_drop,List.length_take]; rfl)) ?_
       with_reducible refine (impl_ThirdAt.calls kj2 _ _ l0_0 (wrap64 (a1 + 4)) t174 t175 t176 t177 _ ?side1 ?side2 A19.out).mono ?_
       (case side1 => repeat (first|exact (Kd.C_below HR0_0.out HB.out)|(with_reducible refine Kd.C_alloc ?_ _)|(with_reducible refine Kd.C_drewN ?_ _)|(with_reducible refine Kd.C_drew ?_)))
       (case side2 => exact HC0_0.out)
       rintro e w55 ⟨rfl,hb⟩
       refine ⟨_,rfl,?_⟩
       have n0_:=Aside0.mk (kB (g:=gb166) (o:=.cells #[.slice A0_0 l0_0.length c0_0] 42 (0,0)) (by (with_reducible repeat (first|refine kN ?_ _|refine kD ?_|refine kA ?_ _)); exact BK166.out) hb)
       have n1_:=Aside0.mk (kB (g:=gb167) (o:=.cells #[.int .i64 0,.int .i64 0,.int .i64 0,.int .i64 0] 50 (0,0)) (by (with_reducible repeat (first|refine kN ?_ _|refine kD ?_|refine kA ?_ _)); exact BK167.out) hb)
       have n2_:=Aside0.mk (kB (g:=gb183) (o:=.cells #[.int .i64 0,.int .i64 0,.int .i64 0,.int .i64 0] 50 (0,0)) (by (with_reducible repeat (first|refine kN ?_ _|refine kD ?_|refine kA ?_ _)); exact BK183.out) hb)
       have n3_:=Aside0.mk (below_step (by repeat (first|(with_reducible first|exact HB.out|apply bA|apply bD|apply bE|refine bS ?_ GE166.out|refine bS ?_ GE167.out|refine bS ?_ GE183.out)|exact HB.out)) hb)
       clear BK166
       clear BK167
       clear BK183
       clear HB
       have BK166:=n0_
       have BK167:=n1_
       have BK183:=n2_
       have HB:=n3_
       clear n0_ n1_ n2_ n3_
       (try clear hb)
       (try clear hb2)
       (try clear hk)
       (try clear hi)
       refine hK.out _ _ ((kC BK166.out 0).trans rfl) (fun hHeld => ?_)
       clear hK K
       refine norm_ (a':=?_) ?_ ?_
       rotate_left
       ·show Act.put _ (some 25) _ = _
        simp only [Act.put,lS,lZ,lC,i64_w,i32_w]
        rfl
       refine one_ (i:=7) (N:=some 26) #[tT,tT,tT,tT,tT,tT,tT,tT,fF,fF,fF,tT,fF,fF] rfl rfl (one_of HT_.out (by kernel_rfl)) (by decide) (fun K hK => ?_)
       refine goes_ Try.func61 (by kernel_rfl) rfl #[.agg #[.int .i64 t170,.int .i64 t171,.int .i64 t172,.int .i64 t173],.agg #[.int .i64 t174,.int .i64 t175,.int .i64 t176,.int .i64 t177]] (by rfl) rfl rfl (by (try simp only [List.map_toArray,List.map_cons,List.map_nil]); first|done|rfl|(simp only [List.length_drop,List.length_take]; rfl)) ?_
       with_reducible refine (impl_AddIntervals.calls kj2 t170 t171 t172 t173 t174 t175 t176 t177 t178 t179 t180 t181 true _ A20.out).mono ?_
       rintro e w56 ⟨rfl,hb⟩
       refine ⟨_,rfl,?_⟩
       have n0_:=Aside0.mk (kB (g:=gb166) (o:=.cells #[.slice A0_0 l0_0.length c0_0] 42 (0,0)) (by (with_reducible repeat (first|refine kN ?_ _|refine kD ?_|refine kA ?_ _)); exact BK166.out) hb)
       have n1_:=Aside0.mk (kB (g:=gb167) (o:=.cells #[.int .i64 0,.int .i64 0,.int .i64 0,.int .i64 0] 50 (0,0)) (by (with_reducible repeat (first|refine kN ?_ _|refine kD ?_|refine kA ?_ _)); exact BK167.out) hb)
       have n2_:=Aside0.mk (kB (g:=gb183) (o:=.cells #[.int .i64 0,.int .i64 0,.int .i64 0,.int .i64 0] 50 (0,0)) (by (with_reducible repeat (first|refine kN ?_ _|refine kD ?_|refine kA ?_ _)); exact BK183.out) hb)
       have n3_:=Aside0.mk (below_step (by repeat (first|(with_reducible first|exact HB.out|apply bA|apply bD|apply bE|refine bS ?_ GE166.out|refine bS ?_ GE167.out|refine bS ?_ GE183.out)|exact HB.out)) hb)
       clear BK166
       clear BK167
       clear BK183
       clear HB
       have BK166:=n0_
       have BK167:=n1_
       have BK183:=n2_
       have HB:=n3_
       clear n0_ n1_ n2_ n3_
       (try clear hb)
       (try clear hb2)
       (try clear hk)
       (try clear hi)
       refine hK.out _ _ ((kC BK166.out 0).trans rfl) (fun hHeld => ?_)
       clear hK K
       refine norm_ (a':=?_) ?_ ?_
       rotate_left
       ·show Act.put _ (some 26) _ = _
        simp only [Act.put,lS,lZ,lC,i64_w,i32_w]
        rfl
       refine pure_ (i:=8) (N:=some 18) (v:=?_) (a':=?_) #[tT,tT,tT,tT,tT,tT,tT,tT,tT,fF,fF,tT,fF,fF] rfl rfl (any_of HT_.out (by kernel_rfl)) (fun _ _ _ h => h) (Or.inl ⟨by rfl,?_⟩) ?_ ?_
       rotate_left
       ·intro w'
        go_simp
        first|(with_reducible rfl)|(simp only [Instr.field,go_sem, *]; rfl)
       rotate_left
       ·simp only [Act.put,lS,lZ,lC,i64_w,i32_w]
        rfl
       refine pure_ (i:=9) (N:=some 27) (v:=?_) (a':=?_) #[tT,tT,tT,tT,tT,tT,tT,tT,tT,tT,fF,tT,fF,fF] rfl rfl (any_of HT_.out (by kernel_rfl)) (fun _ _ _ h => h) (Or.inl ⟨by rfl,?_⟩) ?_ ?_
       rotate_left
       ·intro w'
        go_simp
        first|(with_reducible rfl)|(simp only [Instr.field,go_sem, *]; rfl)
       rotate_left
       ·simp only [Act.put,lS,lZ,lC,i64_w,i32_w]
        rfl
       refine pure_ (i:=10) (N:=some 28) (v:=?_) (a':=?_) #[tT,tT,tT,tT,tT,tT,tT,tT,tT,tT,tT,tT,fF,fF] rfl rfl (any_of HT_.out (by kernel_rfl)) (fun _ _ _ h => h) (Or.inl ⟨by rfl,?_⟩) ?_ ?_
       rotate_left
       ·intro w'
        go_simp
        first|(with_reducible rfl)|(simp only [Instr.field,go_sem, *]; rfl)
       rotate_left
       ·simp only [Act.put,lS,lZ,lC,i64_w,i32_w]
        rfl
       exact norm_ (by simp only [putAll,Act.put,lS,lZ,lC]) (hCont (gb183) _ ⟨hHeld,(by (with_reducible repeat (first|refine kN ?_ _|refine kD ?_|refine kA ?_ _)); exact BK166.out),(by (with_reducible repeat (first|refine kN ?_ _|refine kD ?_|refine kA ?_ _)); exact BK167.out),(by (with_reducible repeat (first|refine kN ?_ _|refine kD ?_|refine kA ?_ _)); exact BK183.out),GW183.out,GE183.out,NB166_183.out,NB183_166.out,NB167_183.out,NB183_167.out,(by repeat (first|(with_reducible first|exact HB.out|apply bA|apply bD|apply bE|refine bS ?_ GE166.out|refine bS ?_ GE167.out|refine bS ?_ GE183.out)|exact HB.out))⟩)
     ·skip
      refine box_step ?hg (N:=5) ?hd (cs:=#[.int .i64 0,.int .i64 0,.int .i64 0,.int .i64 0]) (t:=50) ?hr ?_; (case hd => rfl); (case hg => rfl); (case hr => first|(go_simp; done)|(go_simp; rfl))
      intro gb183 hg w53 hbox hb
      have n0_:=Aside0.mk (kB (g:=gb166) (o:=.cells #[.slice A0_0 l0_0.length c0_0] 42 (0,0)) (by (with_reducible repeat (first|refine kN ?_ _|refine kD ?_|refine kA ?_ _)); exact BK166.out) hb)
      have n1_:=Aside0.mk (kB (g:=gb167) (o:=.cells #[.int .i64 0,.int .i64 0,.int .i64 0,.int .i64 0] 50 (0,0)) (by (with_reducible repeat (first|refine kN ?_ _|refine kD ?_|refine kA ?_ _)); exact BK167.out) hb)
      have n2_:=Aside0.mk (below_step (by repeat (first|(with_reducible first|exact HB.out|apply bA|apply bD|apply bE|refine bS ?_ GE166.out|refine bS ?_ GE167.out)|exact HB.out)) hb)
      have n3_:=Aside0.mk (hbox)
      have n4_:=Aside0.mk ((by rw [hg]; exact (below_size (by repeat (first|(with_reducible first|exact HB.out|apply bA|apply bD|apply bE|refine bS ?_ GE166.out|refine bS ?_ GE167.out)|exact HB.out))) : w.heap.size ≤ gb183))
      have n5_:=Aside0.mk ((by rw [hg]; exact (below_size (by repeat (first|(with_reducible first|exact HB.out|apply bA|apply bD|apply bE|refine bS ?_ GE166.out|refine bS ?_ GE167.out)|exact HB.out))) : w.heap.size ≤ gb183))
      have n6_:=Aside0.mk ((by rw [hg]; exact Nat.ne_of_lt (blk_lt (g:=gb166) (o:=.cells #[.slice A0_0 l0_0.length c0_0] 42 (0,0)) (by (with_reducible repeat (first|refine kN ?_ _|refine kD ?_|refine kA ?_ _)); exact BK166.out)) : gb166 ≠ gb183))
      have n7_:=Aside0.mk ((by rw [hg]; exact Nat.ne_of_gt (blk_lt (g:=gb166) (o:=.cells #[.slice A0_0 l0_0.length c0_0] 42 (0,0)) (by (with_reducible repeat (first|refine kN ?_ _|refine kD ?_|refine kA ?_ _)); exact BK166.out)) : gb183 ≠ gb166))
      have n8_:=Aside0.mk ((by rw [hg]; exact Nat.ne_of_lt (blk_lt (g:=gb167) (o:=.cells #[.int .i64 0,.int .i64 0,.int .i64 0,.int .i64 0] 50 (0,0)) (by (with_reducible repeat (first|refine kN ?_ _|refine kD ?_|refine kA ?_ _)); exact BK167.out)) : gb167 ≠ gb183))
      have n9_:=Aside0.mk ((by rw [hg]; exact Nat.ne_of_gt (blk_lt (g:=gb167) (o:=.cells #[.int .i64 0,.int .i64 0,.int .i64 0,.int .i64 0] 50 (0,0)) (by (with_reducible repeat (first|refine kN ?_ _|refine kD ?_|refine kA ?_ _)); exact BK167.out)) : gb183 ≠ gb167))
      clear BK166
      clear BK167
      clear HB
      have BK166:=n0_
      have BK167:=n1_
      have HB:=n2_
      have BK183:=n3_
      have GW183:=n4_
      have GE183:=n5_
      have NB166_183:=n6_
      have NB183_166:=n7_
      have NB167_183:=n8_
      have NB183_167:=n9_
      clear n0_ n1_ n2_ n3_ n4_ n5_ n6_ n7_ n8_ n9_
      clear hb hbox hg
      refine hK.out _ _ ((kC BK166.out 0).trans rfl) (fun hHeld => ?_)
      clear hK K
      refine norm_ (a':=?_) ?_ ?_
      rotate_left
      ·show Act.put _ (some 5) _ = _
       simp only [Act.put,lS,lZ,lC,i64_w,i32_w]
       rfl
      refine one_ (i:=2) (N:=some 21) #[tT,tT,tT,tT,tT,tT,fF,fF,fF,fF,fF,tT,fF,fF] rfl rfl (one_of HT_.out (by kernel_rfl)) (by decide) (fun K hK => ?_)
      refine goes_ Try.func62 (by kernel_rfl) rfl #[.agg #[.slice A0_0 l0_0.length c0_0],.int .i64 a1] (by rfl) rfl rfl (by (try simp only [List.map_toArray,List.map_cons,List.map_nil]); first|done|rfl|(simp only [List.length_drop,List.length_take]; rfl)) ?_
      with_reducible refine (impl_ThirdAt.calls kj2 _ _ l0_0 a1 t170 t171 t172 t173 _ ?side1 ?side2 A18.out).mono ?_
      (case side1 => repeat (first|exact (Kd.C_below HR0_0.out HB.out)|(with_reducible refine Kd.C_alloc ?_ _)|(with_reducible refine Kd.C_drewN ?_ _)|(with_reducible refine Kd.C_drew ?_)))
      (case side2 => exact HC0_0.out)
      rintro e w54 ⟨rfl,hb⟩
      refine ⟨_,rfl,?_⟩
      have n0_:=Aside0.mk (kB (g:=gb166) (o:=.cells #[.slice A0_0 l0_0.length c0_0] 42 (0,0)) (by (with_reducible repeat (first|refine kN ?_ _|refine kD ?_|refine kA ?_ _)); exact BK166.out) hb)
      have n1_:=Aside0.mk (kB (g:=gb167) (o:=.cells #[.int .i64 0,.int .i64 0,.int .i64 0,.int .i64 0] 50 (0,0)) (by (with_reducible repeat (first|refine kN ?_ _|refine kD ?_|refine kA ?_ _)); exact BK167.out) hb)
      have n2_:=Aside0.mk (kB (g:=gb183) (o:=.cells #[.int .i64 0,.int .i64 0,.int .i64 0,.int .i64 0] 50 (0,0)) (by (with_reducible repeat (first|refine kN ?_ _|refine kD ?_|refine kA ?_ _)); exact BK183.out) hb)
      have n3_:=Aside0.mk (below_step (by repeat (first|(with_reducible first|exact HB.out|apply bA|apply bD|apply bE|refine bS ?_ GE166.out|refine bS ?_ GE167.out|refine bS ?_ GE183.out)|exact HB.out)) hb)
      clear BK166
      clear BK167
      clear BK183
      clear HB
      have BK166:=n0_
      have BK167:=n1_
      have BK183:=n2_
      have HB:=n3_
      clear n0_ n1_ n2_ n3_
      (try clear hb)
      (try clear hb2)
      (try clear hk)
      (try clear hi)
      refine hK.out _ _ ((kC BK166.out 0).trans rfl) (fun hHeld => ?_)
      clear hK K
      refine norm_ (a':=?_) ?_ ?_
      rotate_left
      ·show Act.put _ (some 21) _ = _
       simp only [Act.put,lS,lZ,lC,i64_w,i32_w]
       rfl
      refine one_ (i:=6) (N:=some 25) #[tT,tT,tT,tT,tT,tT,tT,fF,fF,fF,fF,tT,fF,fF] rfl rfl (one_of HT_.out (by kernel_rfl)) (by decide) (fun K hK => ?_)
      refine goes_ Try.func62 (by kernel_rfl) rfl #[.agg #[.slice A0_0 l0_0.length c0_0],.int .i64 (wrap64 (a1 + 4))] (by rfl) rfl rfl (by (try simp only [List.map_toArray,List.map_cons,List.map_nil]); first|done|rfl|(simp only [List.length_drop,List.length_take]; rfl)) ?_
      with_reducible refine (impl_ThirdAt.calls kj2 _ _ l0_0 (wrap64 (a1 + 4)) t174 t175 t176 t177 _ ?side1 ?side2 A19.out).mono ?_
      (case side1 => repeat (first|exact (Kd.C_below HR0_0.out HB.out)|(with_reducible refine Kd.C_alloc ?_ _)|(with_reducible refine Kd.C_drewN ?_ _)|(with_reducible refine Kd.C_drew ?_)))
      (case side2 => exact HC0_0.out)
      rintro e w55 ⟨rfl,hb⟩
      refine ⟨_,rfl,?_⟩
      have n0_:=Aside0.mk (kB (g:=gb166) (o:=.cells #[.slice A0_0 l0_0.length c0_0] 42 (0,0)) (by (with_reducible repeat (first|refine kN ?_ _|refine kD ?_|refine kA ?_ _)); exact BK166.out) hb)
      have n1_:=Aside0.mk (kB (g:=gb167) (o:=.cells #[.int .i64 0,.int .i64 0,.int .i64 0,.int .i64 0] 50 (0,0)) (by (with_reducible repeat (first|refine kN ?_ _|refine kD ?_|refine kA ?_ _)); exact BK167.out) hb)
      have n2_:=Aside0.mk (kB (g:=gb183) (o:=.cells #[.int .i64 0,.int .i64 0,.int .i64 0,.int .i64 0] 50 (0,0)) (by (with_reducible repeat (first|refine kN ?_ _|refine kD ?_|refine kA ?_ _)); exact BK183.out) hb)
      have n3_:=Aside0.mk (below_step (by repeat (first|(with_reducible first|exact HB.out|apply bA|apply bD|apply bE|refine bS ?_ GE166.out|refine bS ?_ GE167.out|refine bS ?_ GE183.out)|exact HB.out)) hb)
      clear BK166
      clear BK167
      clear BK183
      clear HB
      have BK166:=n0_
      have BK167:=n1_
      have BK183:=n2_
      have HB:=n3_
      clear n0_ n1_ n2_ n3_
      (try clear hb)
      (try clear hb2)
      (try clear hk)
      (try clear hi)
      refine hK.out _ _ ((kC BK166.out 0).trans rfl) (fun hHeld => ?_)
      clear hK K
      refine norm_ (a':=?_) ?_ ?_
      rotate_left
      ·show Act.put _ (some 25) _ = _
       simp only [Act.put,lS,lZ,lC,i64_w,i32_w]
       rfl
      refine one_ (i:=7) (N:=some 26) #[tT,tT,tT,tT,tT,tT,tT,tT,fF,fF,fF,tT,fF,fF] rfl rfl (one_of HT_.out (by kernel_rfl)) (by decide) (fun K hK => ?_)
      refine goes_ Try.func61 (by kernel_rfl) rfl #[.agg #[.int .i64 t170,.int .i64 t171,.int .i64 t172,.int .i64 t173],.agg #[.int .i64 t174,.int .i64 t175,.int .i64 t176,.int .i64 t177]] (by rfl) rfl rfl (by (try simp only [List.map_toArray,List.map_cons,List.map_nil]); first|done|rfl|(simp only [List.length_drop,List.length_take]; rfl)) ?_
      with_reducible refine (impl_AddIntervals.calls kj2 t170 t171 t172 t173 t174 t175 t176 t177 t178 t179 t180 t181 true _ A20.out).mono ?_
      rintro e w56 ⟨rfl,hb⟩
      refine ⟨_,rfl,?_⟩
      have n0_:=Aside0.mk (kB (g:=gb166) (o:=.cells #[.slice A0_0 l0_0.length c0_0] 42 (0,0)) (by (with_reducible repeat (first|refine kN ?_ _|refine kD ?_|refine kA ?_ _)); exact BK166.out) hb)
      have n1_:=Aside0.mk (kB (g:=gb167) (o:=.cells #[.int .i64 0,.int .i64 0,.int .i64 0,.int .i64 0] 50 (0,0)) (by (with_reducible repeat (first|refine kN ?_ _|refine kD ?_|refine kA ?_ _)); exact BK167.out) hb)
      have n2_:=Aside0.mk (kB (g:=gb183) (o:=.cells #[.int .i64 0,.int .i64 0,.int .i64 0,.int .i64 0] 50 (0,0)) (by (with_reducible repeat (first|refine kN ?_ _|refine kD ?_|refine kA ?_ _)); exact BK183.out) hb)
      have n3_:=Aside0.mk (below_step (by repeat (first|(with_reducible first|exact HB.out|apply bA|apply bD|apply bE|refine bS ?_ GE166.out|refine bS ?_ GE167.out|refine bS ?_ GE183.out)|exact HB.out)) hb)
      clear BK166
      clear BK167
      clear BK183
      clear HB
      have BK166:=n0_
      have BK167:=n1_
      have BK183:=n2_
      have HB:=n3_
      clear n0_ n1_ n2_ n3_
      (try clear hb)
      (try clear hb2)
      (try clear hk)
      (try clear hi)
      refine hK.out _ _ ((kC BK166.out 0).trans rfl) (fun hHeld => ?_)
      clear hK K
      refine norm_ (a':=?_) ?_ ?_
      rotate_left
      ·show Act.put _ (some 26) _ = _
       simp only [Act.put,lS,lZ,lC,i64_w,i32_w]
       rfl
      refine pure_ (i:=8) (N:=some 18) (v:=?_) (a':=?_) #[tT,tT,tT,tT,tT,tT,tT,tT,tT,fF,fF,tT,fF,fF] rfl rfl (any_of HT_.out (by kernel_rfl)) (fun _ _ _ h => h) (Or.inl ⟨by rfl,?_⟩) ?_ ?_
      rotate_left
      ·intro w'
       go_simp
       first|(with_reducible rfl)|(simp only [Instr.field,go_sem, *]; rfl)
      rotate_left
      ·simp only [Act.put,lS,lZ,lC,i64_w,i32_w]
       rfl
      refine pure_ (i:=9) (N:=some 27) (v:=?_) (a':=?_) #[tT,tT,tT,tT,tT,tT,tT,tT,tT,tT,fF,tT,fF,fF] rfl rfl (any_of HT_.out (by kernel_rfl)) (fun _ _ _ h => h) (Or.inl ⟨by rfl,?_⟩) ?_ ?_
      rotate_left
      ·intro w'
       go_simp
       first|(with_reducible rfl)|(simp only [Instr.field,go_sem, *]; rfl)
      rotate_left
      ·simp only [Act.put,lS,lZ,lC,i64_w,i32_w]
       rfl
      refine pure_ (i:=10) (N:=some 28) (v:=?_) (a':=?_) #[tT,tT,tT,tT,tT,tT,tT,tT,tT,tT,tT,tT,fF,fF] rfl rfl (any_of HT_.out (by kernel_rfl)) (fun _ _ _ h => h) (Or.inl ⟨by rfl,?_⟩) ?_ ?_
      rotate_left
      ·intro w'
       go_simp
       first|(with_reducible rfl)|(simp only [Instr.field,go_sem, *]; rfl)
      rotate_left
      ·simp only [Act.put,lS,lZ,lC,i64_w,i32_w]
       rfl
      exact norm_ (by simp only [putAll,Act.put,lS,lZ,lC]) (hCont (gb183) _ ⟨hHeld,(by (with_reducible repeat (first|refine kN ?_ _|refine kD ?_|refine kA ?_ _)); exact BK166.out),(by (with_reducible repeat (first|refine kN ?_ _|refine kD ?_|refine kA ?_ _)); exact BK167.out),(by (with_reducible repeat (first|refine kN ?_ _|refine kD ?_|refine kA ?_ _)); exact BK183.out),GW183.out,GE183.out,NB166_183.out,NB183_166.out,NB167_183.out,NB183_167.out,(by repeat (first|(with_reducible first|exact HB.out|apply bA|apply bD|apply bE|refine bS ?_ GE166.out|refine bS ?_ GE167.out|refine bS ?_ GE183.out)|exact HB.out))⟩)
    rintro gb183 w57 ⟨hS_,h0_,h1_,h2_,h3_,h4_,h5_,h6_,h7_,h8_,h9_⟩
    have n0_ : Aside0 (w57.heap[gb166]? = some (.cells #[.slice A0_0 l0_0.length c0_0] 42 (0,0))):=⟨h0_⟩
    have n1_ : Aside0 (w57.heap[gb167]? = some (.cells #[.int .i64 0,.int .i64 0,.int .i64 0,.int .i64 0] 50 (0,0))):=⟨h1_⟩
    have n2_ : Aside0 (w57.heap[gb183]? = some (.cells #[.int .i64 0,.int .i64 0,.int .i64 0,.int .i64 0] 50 (0,0))):=⟨h2_⟩
    have n3_ : Aside0 (w.heap.size ≤ gb183):=⟨h3_⟩
    have n4_ : Aside0 (w.heap.size ≤ gb183):=⟨h4_⟩
    have n5_ : Aside0 (gb166 ≠ gb183):=⟨h5_⟩
    have n6_ : Aside0 (gb183 ≠ gb166):=⟨h6_⟩
    have n7_ : Aside0 (gb167 ≠ gb183):=⟨h7_⟩
    have n8_ : Aside0 (gb183 ≠ gb167):=⟨h8_⟩
    have n9_ : Aside0 (Below w.heap.size w w57):=⟨h9_⟩
    clear BK166
    clear BK167
    clear HB
    clear h0_ h1_ h2_ h3_ h4_ h5_ h6_ h7_ h8_ h9_
    have BK166:=n0_
    have BK167:=n1_
    have BK183:=n2_
    have GW183:=n3_
    have GE183:=n4_
    have NB166_183:=n5_
    have NB183_166:=n6_
    have NB167_183:=n7_
    have NB183_167:=n8_
    have HB:=n9_
    clear n0_ n1_ n2_ n3_ n4_ n5_ n6_ n7_ n8_ n9_
    have hHeld : w57.cell? ⟨gb166,0,none⟩ = some (.slice A0_0 l0_0.length c0_0):=hS_
    refine norm_ (a':=?_) ?_ ?_
    rotate_left
    ·simp only [putAll,Act.put,lS,lZ,lC]
     rfl
    refine one_ (i:=12) (N:=none) #[tT,tT,tT,tT,tT,tT,tT,tT,tT,tT,tT,tT,tT,fF] rfl rfl (one_of HT_.out (by kernel_rfl)) (by decide) (fun K hK => ?_)
    have hs58 : w57.cell? ⟨gb183,0,none⟩ = some (.int .i64 0):=(kC BK183.out 0).trans rfl
    have hfs58:=blk_frozen BK183.out 0
    have hns58_0:=NB166_183.out
    have hns58_1:=NB167_183.out
    have hms58_0:=NB183_166.out
    have hms58_1:=NB183_167.out
    have hs59 : w57.cell? ⟨gb183,1,none⟩ = some (.int .i64 0):=(kC BK183.out 1).trans rfl
    have hfs59:=blk_frozen BK183.out 1
    have hns59_0:=NB166_183.out
    have hns59_1:=NB167_183.out
    have hms59_0:=NB183_166.out
    have hms59_1:=NB183_167.out
    have hs60 : w57.cell? ⟨gb183,2,none⟩ = some (.int .i64 0):=(kC BK183.out 2).trans rfl
    have hfs60:=blk_frozen BK183.out 2
    have hns60_0:=NB166_183.out
    have hns60_1:=NB167_183.out
    have hms60_0:=NB183_166.out
    have hms60_1:=NB183_167.out
    have hs61 : w57.cell? ⟨gb183,3,none⟩ = some (.int .i64 0):=(kC BK183.out 3).trans rfl
    have hfs61:=blk_frozen BK183.out 3
    have hns61_0:=NB166_183.out
    have hns61_1:=NB167_183.out
    have hms61_0:=NB183_166.out
    have hms61_1:=NB183_167.out
    refine skip_ (w1:=?_) (by rfl) rfl ?_ ?_
    rotate_left
    ·go_simp
     rfl
    refine hK.out _ _ (((cell_far (p:=⟨gb183,_,none⟩) NB166_183.out _).trans (((cell_far (p:=⟨gb183,_,none⟩) NB166_183.out _).trans (((cell_far (p:=⟨gb183,_,none⟩) NB166_183.out _).trans (((cell_far (p:=⟨gb183,_,none⟩) NB166_183.out _).trans (hHeld))))))))) (fun hHeld => ?_)
    clear hK K
    refine pure_ (i:=13) (N:=some 6) (v:=?_) (a':=?_) #[tT,tT,tT,tT,tT,tT,tT,tT,tT,tT,tT,tT,tT,tT] rfl rfl (any_of HT_.out (by kernel_rfl)) (fun _ _ _ h => h) (Or.inl ⟨by rfl,?_⟩) ?_ ?_
    rotate_left
    ·intro w'
     go_simp
     first|(with_reducible rfl)|(simp only [Instr.field,go_sem, *]; rfl)
    rotate_left
    ·simp only [Act.put,lS,lZ,lC,i64_w,i32_w]
     rfl
    refine done_ (done_of HT_.out (by kernel_rfl)) ?_
    try go_wp2
    have n0_ : Aside0 (((((w57.setCell ⟨gb183,0,none⟩ (.int .i64 t178)).setCell ⟨gb183,1,none⟩ (.int .i64 t179)).setCell ⟨gb183,2,none⟩ (.int .i64 t180)).setCell ⟨gb183,3,none⟩ (.int .i64 t181)).heap[gb166]? = some (.cells #[.slice A0_0 l0_0.length c0_0] 42 (0,0))):=⟨by (with_reducible repeat (first|refine kN ?_ _|refine kD ?_|refine kA ?_ _)); refine blk_far ?_ NB166_183.out _; (with_reducible repeat (first|refine kN ?_ _|refine kD ?_|refine kA ?_ _)); refine blk_far ?_ NB166_183.out _; (with_reducible repeat (first|refine kN ?_ _|refine kD ?_|refine kA ?_ _)); refine blk_far ?_ NB166_183.out _; (with_reducible repeat (first|refine kN ?_ _|refine kD ?_|refine kA ?_ _)); refine blk_far ?_ NB166_183.out _; (with_reducible repeat (first|refine kN ?_ _|refine kD ?_|refine kA ?_ _)); exact BK166.out⟩
    have n1_ : Aside0 (((((w57.setCell ⟨gb183,0,none⟩ (.int .i64 t178)).setCell ⟨gb183,1,none⟩ (.int .i64 t179)).setCell ⟨gb183,2,none⟩ (.int .i64 t180)).setCell ⟨gb183,3,none⟩ (.int .i64 t181)).heap[gb167]? = some (.cells #[.int .i64 0,.int .i64 0,.int .i64 0,.int .i64 0] 50 (0,0))):=⟨by (with_reducible repeat (first|refine kN ?_ _|refine kD ?_|refine kA ?_ _)); refine blk_far ?_ NB167_183.out _; (with_reducible repeat (first|refine kN ?_ _|refine kD ?_|refine kA ?_ _)); refine blk_far ?_ NB167_183.out _; (with_reducible repeat (first|refine kN ?_ _|refine kD ?_|refine kA ?_ _)); refine blk_far ?_ NB167_183.out _; (with_reducible repeat (first|refine kN ?_ _|refine kD ?_|refine kA ?_ _)); refine blk_far ?_ NB167_183.out _; (with_reducible repeat (first|refine kN ?_ _|refine kD ?_|refine kA ?_ _)); exact BK167.out⟩
    have n2_ : Aside0 (((((w57.setCell ⟨gb183,0,none⟩ (.int .i64 t178)).setCell ⟨gb183,1,none⟩ (.int .i64 t179)).setCell ⟨gb183,2,none⟩ (.int .i64 t180)).setCell ⟨gb183,3,none⟩ (.int .i64 t181)).heap[gb183]? = some (.cells #[.int .i64 t178,.int .i64 t179,.int .i64 t180,.int .i64 t181] 50 (0,0))):=⟨by (with_reducible repeat (first|refine kN ?_ _|refine kD ?_|refine kA ?_ _)); refine blk_put (cs:=#[.int .i64 t178,.int .i64 t179,.int .i64 t180,.int .i64 0]) ?_ 3 _ rfl; (with_reducible repeat (first|refine kN ?_ _|refine kD ?_|refine kA ?_ _)); refine blk_put (cs:=#[.int .i64 t178,.int .i64 t179,.int .i64 0,.int .i64 0]) ?_ 2 _ rfl; (with_reducible repeat (first|refine kN ?_ _|refine kD ?_|refine kA ?_ _)); refine blk_put (cs:=#[.int .i64 t178,.int .i64 0,.int .i64 0,.int .i64 0]) ?_ 1 _ rfl; (with_reducible repeat (first|refine kN ?_ _|refine kD ?_|refine kA ?_ _)); refine blk_put (cs:=#[.int .i64 0,.int .i64 0,.int .i64 0,.int .i64 0]) ?_ 0 _ rfl; (with_reducible repeat (first|refine kN ?_ _|refine kD ?_|refine kA ?_ _)); exact BK183.out⟩
    have n3_ : Aside0 (Below w.heap.size w ((((w57.setCell ⟨gb183,0,none⟩ (.int .i64 t178)).setCell ⟨gb183,1,none⟩ (.int .i64 t179)).setCell ⟨gb183,2,none⟩ (.int .i64 t180)).setCell ⟨gb183,3,none⟩ (.int .i64 t181))):=⟨by repeat (first|(with_reducible first|exact HB.out|apply bA|apply bD|apply bE|refine bS ?_ GE166.out|refine bS ?_ GE167.out|refine bS ?_ GE183.out)|exact HB.out)⟩
    (try clear BK166)
    (try clear BK167)
    (try clear BK183)
    (try clear HB)
    generalize ((((w57.setCell ⟨gb183,0,none⟩ (.int .i64 t178)).setCell ⟨gb183,1,none⟩ (.int .i64 t179)).setCell ⟨gb183,2,none⟩ (.int .i64 t180)).setCell ⟨gb183,3,none⟩ (.int .i64 t181)) = w62 at n0_ n1_ n2_ n3_ ⊢
    have BK166:=n0_
    have BK167:=n1_
    have BK183:=n2_
    have HB:=n3_
    clear n0_ n1_ n2_ n3_
    have n0_:=Aside0.mk (kD BK166.out)
    have n1_:=Aside0.mk (kD BK167.out)
    have n2_:=Aside0.mk (kD BK183.out)
    have n3_:=Aside0.mk (bE HB.out)
    clear BK166
    clear BK167
    clear BK183
    clear HB
    have BK166:=n0_
    have BK167:=n1_
    have BK183:=n2_
    have HB:=n3_
    clear n0_ n1_ n2_ n3_
    refine start_ (n:=12) (S:=fun w' => w'.cell? ⟨gb183,0,none⟩ = some (.int .i64 t178) ∧ w'.cell? ⟨gb183,1,none⟩ = some (.int .i64 t179) ∧ w'.cell? ⟨gb183,2,none⟩ = some (.int .i64 t180) ∧ w'.cell? ⟨gb183,3,none⟩ = some (.int .i64 t181) ∧ w'.cell? ⟨gb166,0,none⟩ = some (.slice A0_0 l0_0.length c0_0)) (ds:=[]) #[fF,fF,fF,fF,fF,fF,fF,fF,fF,fF,fF,fF] (by kernel_rfl) rfl rfl ⟨(kC BK183.out 0).trans rfl,(kC BK183.out 1).trans rfl,(kC BK183.out 2).trans rfl,(kC BK183.out 3).trans rfl,(kC BK166.out 0).trans rfl⟩ (fun hHeld => ?_); refine with_tabW impl_GroupSum.tab4 impl_GroupSum.bits4 (fun HT_ HW_ => ?_)
    generalize w62.drew = w63 at BK166 BK167 BK183 HB hHeld ⊢
    refine pure_ (i:=2) (N:=some 32) (v:=?_) (a':=?_) #[fF,fF,tT,fF,fF,fF,fF,fF,fF,fF,fF,fF] rfl rfl (any_of HT_.out (by kernel_rfl)) (fun _ _ _ h => h) (Or.inl ⟨by rfl,?_⟩) ?_ ?_
    rotate_left
    ·intro w'
     go_simp
     first|(with_reducible rfl)|(simp only [Instr.field,go_sem, *]; rfl)
    rotate_left
    ·simp only [Act.put,lS,lZ,lC,i64_w,i32_w]
     rfl
    refine pure_ (i:=3) (N:=some 33) (v:=?_) (a':=?_) #[fF,fF,tT,tT,fF,fF,fF,fF,fF,fF,fF,fF] rfl rfl (any_of HT_.out (by kernel_rfl)) (fun _ _ _ h => h) (Or.inl ⟨by rfl,?_⟩) ?_ ?_
    rotate_left
    ·intro w'
     go_simp
     first|(with_reducible rfl)|(simp only [Instr.field,go_sem, *]; rfl)
    rotate_left
    ·simp only [Act.put,lS,lZ,lC,i64_w,i32_w]
     rfl
    refine take_ (i:=0) (N:=some 30) (v:=?_) (a':=?_) #[tT,fF,tT,tT,fF,fF,fF,fF,fF,fF,fF,fF] rfl rfl (take_ofW HT_.out HW_.out (by kernel_rfl)) (fun _ _ _ h => h) (Or.inl ⟨by rfl,?_⟩) hHeld ?_ ?_
    rotate_left
    ·rintro w' ⟨s0,s1,s2,s3,s4⟩
     go_simp
     first|(with_reducible rfl)|(simp only [Instr.field,go_sem, *]; rfl)
    rotate_left
    ·simp only [Act.put,lS,lZ,lC,i64_w,i32_w]
     rfl
    refine take_ (i:=1) (N:=some 31) (v:=?_) (a':=?_) #[tT,tT,tT,tT,fF,fF,fF,fF,fF,fF,fF,fF] rfl rfl (take_ofW HT_.out HW_.out (by kernel_rfl)) (fun _ _ _ h => h) (Or.inl ⟨by rfl,?_⟩) hHeld ?_ ?_
    rotate_left
    ·rintro w' ⟨s0,s1,s2,s3,s4⟩
     go_simp
     first|(with_reducible rfl)|(simp only [Instr.field,go_sem, *]; rfl)
    rotate_left
    ·simp only [Act.put,lS,lZ,lC,i64_w,i32_w]
     rfl
    refine join_ (σ:=Nat) 2 #[tT,tT,tT,tT,tT,tT,tT,tT,tT,tT,fF,fF] (fun s_ => [(34,.agg #[.int .i64 t184,.int .i64 t185,.int .i64 t186,.int .i64 t187]),(35,.tuple #[.agg #[.int .i64 t188,.int .i64 t189,.int .i64 t190,.int .i64 t191],.bool false]),(7,.pointer (some ⟨s_,0,none⟩)),(29,.tuple #[.agg #[.int .i64 t188,.int .i64 t189,.int .i64 t190,.int .i64 t191],.bool false]),(36,.agg #[.int .i64 t188,.int .i64 t189,.int .i64 t190,.int .i64 t191]),(37,.bool false)]) (fun s_ w' => (w'.cell? ⟨gb183,0,none⟩ = some (.int .i64 t178) ∧ w'.cell? ⟨gb183,1,none⟩ = some (.int .i64 t179) ∧ w'.cell? ⟨gb183,2,none⟩ = some (.int .i64 t180) ∧ w'.cell? ⟨gb183,3,none⟩ = some (.int .i64 t181) ∧ w'.cell? ⟨gb166,0,none⟩ = some (.slice A0_0 l0_0.length c0_0)) ∧ (w'.heap[gb166]? = some (.cells #[.slice A0_0 l0_0.length c0_0] 42 (0,0))) ∧ (w'.heap[gb167]? = some (.cells #[.int .i64 0,.int .i64 0,.int .i64 0,.int .i64 0] 50 (0,0))) ∧ (w'.heap[gb183]? = some (.cells #[.int .i64 t178,.int .i64 t179,.int .i64 t180,.int .i64 t181] 50 (0,0))) ∧ (w'.heap[s_]? = some (.cells #[.int .i64 0,.int .i64 0,.int .i64 0,.int .i64 0] 50 (0,0))) ∧ (w.heap.size ≤ s_) ∧ (w.heap.size ≤ s_) ∧ (gb166 ≠ s_) ∧ (s_ ≠ gb166) ∧ (gb167 ≠ s_) ∧ (s_ ≠ gb167) ∧ (gb183 ≠ s_) ∧ (s_ ≠ gb183) ∧ (Below w.heap.size w w')) ?_ ?_
    rotate_left
    ·intro hCont
     refine two_ (i:=4) (j:=9) (Ni:=some 34) (Nj:=some 7) #[tT,tT,tT,tT,tT,fF,fF,fF,fF,fF,fF,fF] #[tT,tT,tT,tT,fF,fF,fF,fF,fF,tT,fF,fF] rfl rfl rfl rfl (two_of HT_.out (by kernel_rfl)) (by decide) (by decide) (fun K hK => ?_) (fun K hK => ?_)
     ·skip
      refine goes_ Try.func62 (by kernel_rfl) rfl #[.agg #[.slice A0_0 l0_0.length c0_0],.int .i64 (wrap64 (a1 + 8))] (by rfl) rfl rfl (by (try simp only [List.map_toArray,List.map_cons,List.map_nil]); first|done|rfl|(simp only [List.length_drop,List.length_take]; rfl)) ?_
      with_reducible refine (impl_ThirdAt.calls kj2 _ _ l0_0 (wrap64 (a1 + 8)) t184 t185 t186 t187 _ ?side1 ?side2 A21.out).mono ?_
      (case side1 => repeat (first|exact (Kd.C_below HR0_0.out HB.out)|(with_reducible refine Kd.C_alloc ?_ _)|(with_reducible refine Kd.C_drewN ?_ _)|(with_reducible refine Kd.C_drew ?_)))
      (case side2 => exact HC0_0.out)
      rintro e w64 ⟨rfl,hb⟩
      refine ⟨_,rfl,?_⟩
      have n0_:=Aside0.mk (kB (g:=gb166) (o:=.cells #[.slice A0_0 l0_0.length c0_0] 42 (0,0)) (by (with_reducible repeat (first|refine kN ?_ _|refine kD ?_|refine kA ?_ _)); exact BK166.out) hb)
      have n1_:=Aside0.mk (kB (g:=gb167) (o:=.cells #[.int .i64 0,.int .i64 0,.int .i64 0,.int .i64 0] 50 (0,0)) (by (with_reducible repeat (first|refine kN ?_ _|refine kD ?_|refine kA ?_ _)); exact BK167.out) hb)
      have n2_:=Aside0.mk (kB (g:=gb183) (o:=.cells #[.int .i64 t178,.int .i64 t179,.int .i64 t180,.int .i64 t181] 50 (0,0)) (by (with_reducible repeat (first|refine kN ?_ _|refine kD ?_|refine kA ?_ _)); exact BK183.out) hb)
      have n3_:=Aside0.mk (below_step (by repeat (first|(with_reducible first|exact HB.out|apply bA|apply bD|apply bE|refine bS ?_ GE166.out|refine bS ?_ GE167.out|refine bS ?_ GE183.out)|exact HB.out)) hb)
      clear BK166
      clear BK167
      clear BK183
      clear HB
      have BK166:=n0_
      have BK167:=n1_
      have BK183:=n2_
      have HB:=n3_
      clear n0_ n1_ n2_ n3_
      (try clear hb)
      (try clear hb2)
      (try clear hk)
      (try clear hi)
      refine hK.out _ _ ⟨(kC BK183.out 0).trans rfl,(kC BK183.out 1).trans rfl,(kC BK183.out 2).trans rfl,(kC BK183.out 3).trans rfl,(kC BK166.out 0).trans rfl⟩ (fun hHeld => ?_)
      clear hK K
      refine norm_ (a':=?_) ?_ ?_
      rotate_left
      ·show Act.put _ (some 34) _ = _
       simp only [Act.put,lS,lZ,lC,i64_w,i32_w]
       rfl
      refine two_ (i:=5) (j:=9) (Ni:=some 35) (Nj:=some 7) #[tT,tT,tT,tT,tT,tT,fF,fF,fF,fF,fF,fF] #[tT,tT,tT,tT,tT,fF,fF,fF,fF,tT,fF,fF] rfl rfl rfl rfl (two_of HT_.out (by kernel_rfl)) (by decide) (by decide) (fun K hK => ?_) (fun K hK => ?_)
      ·skip
       refine goes_ Try.func61 (by kernel_rfl) rfl #[.agg #[.int .i64 t178,.int .i64 t179,.int .i64 t180,.int .i64 t181],.agg #[.int .i64 t184,.int .i64 t185,.int .i64 t186,.int .i64 t187]] (by rfl) rfl rfl (by (try simp only [List.map_toArray,List.map_cons,List.map_nil]); first|done|rfl|(simp only [List.length_drop,List.length_take]; rfl)) ?_
       with_reducible refine (impl_AddIntervals.calls kj2 t178 t179 t180 t181 t184 t185 t186 t187 t188 t189 t190 t191 false _ A22.out).mono ?_
       rintro e w65 ⟨rfl,hb⟩
       refine ⟨_,rfl,?_⟩
       have n0_:=Aside0.mk (kB (g:=gb166) (o:=.cells #[.slice A0_0 l0_0.length c0_0] 42 (0,0)) (by (with_reducible repeat (first|refine kN ?_ _|refine kD ?_|refine kA ?_ _)); exact BK166.out) hb)
       have n1_:=Aside0.mk (kB (g:=gb167) (o:=.cells #[.int .i64 0,.int .i64 0,.int .i64 0,.int .i64 0] 50 (0,0)) (by (with_reducible repeat (first|refine kN ?_ _|refine kD ?_|refine kA ?_ _)); exact BK167.out) hb)
       have n2_:=Aside0.mk (kB (g:=gb183) (o:=.cells #[.int .i64 t178,.int .i64 t179,.int .i64 t180,.int .i64 t181] 50 (0,0)) (by (with_reducible repeat (first|refine kN ?_ _|refine kD ?_|refine kA ?_ _)); exact BK183.out) hb)
       have n3_:=Aside0.mk (below_step (by repeat (first|(with_reducible first|exact HB.out|apply bA|apply bD|apply bE|refine bS ?_ GE166.out|refine bS ?_ GE167.out|refine bS ?_ GE183.out)|exact HB.out)) hb)
       clear BK166
       clear BK167
       clear BK183
       clear HB
       have BK166:=n0_
       have BK167:=n1_
       have BK183:=n2_
       have HB:=n3_
       clear n0_ n1_ n2_ n3_
       (try clear hb)
       (try clear hb2)
       (try clear hk)
       (try clear hi)
       refine hK.out _ _ ⟨(kC BK183.out 0).trans rfl,(kC BK183.out 1).trans rfl,(kC BK183.out 2).trans rfl,(kC BK183.out 3).trans rfl,(kC BK166.out 0).trans rfl⟩ (fun hHeld => ?_)
       clear hK K
       refine norm_ (a':=?_) ?_ ?_
       rotate_left
       ·show Act.put _ (some 35) _ = _
        simp only [Act.put,lS,lZ,lC,i64_w,i32_w]
        rfl
       refine pure_ (i:=6) (N:=some 29) (v:=?_) (a':=?_) #[tT,tT,tT,tT,tT,tT,tT,fF,fF,fF,fF,fF] rfl rfl (any_of HT_.out (by kernel_rfl)) (fun _ _ _ h => h) (Or.inl ⟨by rfl,?_⟩) ?_ ?_
       rotate_left
       ·intro w'
        go_simp
        first|(with_reducible rfl)|(simp only [Instr.field,go_sem, *]; rfl)
       rotate_left
       ·simp only [Act.put,lS,lZ,lC,i64_w,i32_w]
        rfl
       refine pure_ (i:=7) (N:=some 36) (v:=?_) (a':=?_) #[tT,tT,tT,tT,tT,tT,tT,tT,fF,fF,fF,fF] rfl rfl (any_of HT_.out (by kernel_rfl)) (fun _ _ _ h => h) (Or.inl ⟨by rfl,?_⟩) ?_ ?_
       rotate_left
       ·intro w'
        go_simp
        first|(with_reducible rfl)|(simp only [Instr.field,go_sem, *]; rfl)
       rotate_left
       ·simp only [Act.put,lS,lZ,lC,i64_w,i32_w]
        rfl
       refine pure_ (i:=8) (N:=some 37) (v:=?_) (a':=?_) #[tT,tT,tT,tT,tT,tT,tT,tT,tT,fF,fF,fF] rfl rfl (any_of HT_.out (by kernel_rfl)) (fun _ _ _ h => h) (Or.inl ⟨by rfl,?_⟩) ?_ ?_
       rotate_left
       ·intro w'
        go_simp
        first|(with_reducible rfl)|(simp only [Instr.field,go_sem, *]; rfl)
       rotate_left
       ·simp only [Act.put,lS,lZ,lC,i64_w,i32_w]
        rfl
       refine one_ (i:=9) (N:=some 7) #[tT,tT,tT,tT,tT,tT,tT,tT,tT,tT,fF,fF] rfl rfl (one_of HT_.out (by kernel_rfl)) (by decide) (fun K hK => ?_)
       refine box_step ?hg (N:=7) ?hd (cs:=#[.int .i64 0,.int .i64 0,.int .i64 0,.int .i64 0]) (t:=50) ?hr ?_; (case hd => rfl); (case hg => rfl); (case hr => first|(go_simp; done)|(go_simp; rfl))
       intro gb193 hg w66 hbox hb
       have n0_:=Aside0.mk (kB (g:=gb166) (o:=.cells #[.slice A0_0 l0_0.length c0_0] 42 (0,0)) (by (with_reducible repeat (first|refine kN ?_ _|refine kD ?_|refine kA ?_ _)); exact BK166.out) hb)
       have n1_:=Aside0.mk (kB (g:=gb167) (o:=.cells #[.int .i64 0,.int .i64 0,.int .i64 0,.int .i64 0] 50 (0,0)) (by (with_reducible repeat (first|refine kN ?_ _|refine kD ?_|refine kA ?_ _)); exact BK167.out) hb)
       have n2_:=Aside0.mk (kB (g:=gb183) (o:=.cells #[.int .i64 t178,.int .i64 t179,.int .i64 t180,.int .i64 t181] 50 (0,0)) (by (with_reducible repeat (first|refine kN ?_ _|refine kD ?_|refine kA ?_ _)); exact BK183.out) hb)
       have n3_:=Aside0.mk (below_step (by repeat (first|(with_reducible first|exact HB.out|apply bA|apply bD|apply bE|refine bS ?_ GE166.out|refine bS ?_ GE167.out|refine bS ?_ GE183.out)|exact HB.out)) hb)
       have n4_:=Aside0.mk (hbox)
       have n5_:=Aside0.mk ((by rw [hg]; exact (below_size (by repeat (first|(with_reducible first|exact HB.out|apply bA|apply bD|apply bE|refine bS ?_ GE166.out|refine bS ?_ GE167.out|refine bS ?_ GE183.out)|exact HB.out))) : w.heap.size ≤ gb193))
       have n6_:=Aside0.mk ((by rw [hg]; exact (below_size (by repeat (first|(with_reducible first|exact HB.out|apply bA|apply bD|apply bE|refine bS ?_ GE166.out|refine bS ?_ GE167.out|refine bS ?_ GE183.out)|exact HB.out))) : w.heap.size ≤ gb193))
       have n7_:=Aside0.mk ((by rw [hg]; exact Nat.ne_of_lt (blk_lt (g:=gb166) (o:=.cells #[.slice A0_0 l0_0.length c0_0] 42 (0,0)) (by (with_reducible repeat (first|refine kN ?_ _|refine kD ?_|refine kA ?_ _)); exact BK166.out)) : gb166 ≠ gb193))
       have n8_:=Aside0.mk ((by rw [hg]; exact Nat.ne_of_gt (blk_lt (g:=gb166) (o:=.cells #[.slice A0_0 l0_0.length c0_0] 42 (0,0)) (by (with_reducible repeat (first|refine kN ?_ _|refine kD ?_|refine kA ?_ _)); exact BK166.out)) : gb193 ≠ gb166))
       have n9_:=Aside0.mk ((by rw [hg]; exact Nat.ne_of_lt (blk_lt (g:=gb167) (o:=.cells #[.int .i64 0,.int .i64 0,.int .i64 0,.int .i64 0] 50 (0,0)) (by (with_reducible repeat (first|refine kN ?_ _|refine kD ?_|refine kA ?_ _)); exact BK167.out)) : gb167 ≠ gb193))
       have n10_:=Aside0.mk ((by rw [hg]; exact Nat.ne_of_gt (blk_lt (g:=gb167) (o:=.cells #[.int .i64 0,.int .i64 0,.int .i64 0,.int .i64 0] 50 (0,0)) (by (with_reducible repeat (first|refine kN ?_ _|refine kD ?_|refine kA ?_ _)); exact BK167.out)) : gb193 ≠ gb167))
       have n11_:=Aside0.mk ((by rw [hg]; exact Nat.ne_of_lt (blk_lt (g:=gb183) (o:=.cells #[.int .i64 t178,.int .i64 t179,.int .i64 t180,.int .i64 t181] 50 (0,0)) (by (with_reducible repeat (first|refine kN ?_ _|refine kD ?_|refine kA ?_ _)); exact BK183.out)) : gb183 ≠ gb193))
       have n12_:=Aside0.mk ((by rw [hg]; exact Nat.ne_of_gt (blk_lt (g:=gb183) (o:=.cells #[.int .i64 t178,.int .i64 t179,.int .i64 t180,.int .i64 t181] 50 (0,0)) (by (with_reducible repeat (first|refine kN ?_ _|refine kD ?_|refine kA ?_ _)); exact BK183.out)) : gb193 ≠ gb183))
       clear BK166
       clear BK167
       clear BK183
       clear HB
       have BK166:=n0_
       have BK167:=n1_
       have BK183:=n2_
       have HB:=n3_
       have BK193:=n4_
       have GW193:=n5_
       have GE193:=n6_
       have NB166_193:=n7_
       have NB193_166:=n8_
       have NB167_193:=n9_
       have NB193_167:=n10_
       have NB183_193:=n11_
       have NB193_183:=n12_
       clear n0_ n1_ n2_ n3_ n4_ n5_ n6_ n7_ n8_ n9_ n10_ n11_ n12_
       clear hb hbox hg
       refine hK.out _ _ ⟨(kC BK183.out 0).trans rfl,(kC BK183.out 1).trans rfl,(kC BK183.out 2).trans rfl,(kC BK183.out 3).trans rfl,(kC BK166.out 0).trans rfl⟩ (fun hHeld => ?_)
       clear hK K
       refine norm_ (a':=?_) ?_ ?_
       rotate_left
       ·show Act.put _ (some 7) _ = _
        simp only [Act.put,lS,lZ,lC,i64_w,i32_w]
        rfl
       exact norm_ (by simp only [putAll,Act.put,lS,lZ,lC]) (hCont (gb193) _ ⟨hHeld,(by (with_reducible repeat (first|refine kN ?_ _|refine kD ?_|refine kA ?_ _)); exact BK166.out),(by (with_reducible repeat (first|refine kN ?_ _|refine kD ?_|refine kA ?_ _)); exact BK167.out),(by (with_reducible repeat (first|refine kN ?_ _|refine kD ?_|refine kA ?_ _)); exact BK183.out),(by (with_reducible repeat (first|refine kN ?_ _|refine kD ?_|refine kA ?_ _)); exact BK193.out),GW193.out,GE193.out,NB166_193.out,NB193_166.out,NB167_193.out,NB193_167.out,NB183_193.out,NB193_183.out,(by repeat (first|(with_reducible first|exact HB.out|apply bA|apply bD|apply bE|refine bS ?_ GE166.out|refine bS ?_ GE167.out|refine bS ?_ GE183.out|refine bS ?_ GE193.out)|exact HB.out))⟩)
      ·skip
       refine box_step ?hg (N:=7) ?hd (cs:=#[.int .i64 0,.int .i64 0,.int .i64 0,.int .i64 0]) (t:=50) ?hr ?_; (case hd => rfl); (case hg => rfl); (case hr => first|(go_simp; done)|(go_simp; rfl))
       intro gb193 hg w65 hbox hb
       have n0_:=Aside0.mk (kB (g:=gb166) (o:=.cells #[.slice A0_0 l0_0.length c0_0] 42 (0,0)) (by (with_reducible repeat (first|refine kN ?_ _|refine kD ?_|refine kA ?_ _)); exact BK166.out) hb)
       have n1_:=Aside0.mk (kB (g:=gb167) (o:=.cells #[.int .i64 0,.int .i64 0,.int .i64 0,.int .i64 0] 50 (0,0)) (by (with_reducible repeat (first|refine kN ?_ _|refine kD ?_|refine kA ?_ _)); exact BK167.out) hb)
       have n2_:=Aside0.mk (kB (g:=gb183) (o:=.cells #[.int .i64 t178,.int .i64 t179,.int .i64 t180,.int .i64 t181] 50 (0,0)) (by (with_reducible repeat (first|refine kN ?_ _|refine kD ?_|refine kA ?_ _)); exact BK183.out) hb)
       have n3_:=Aside0.mk (below_step (by repeat (first|(with_reducible first|exact HB.out|apply bA|apply bD|apply bE|refine bS ?_ GE166.out|refine bS ?_ GE167.out|refine bS ?_ GE183.out)|exact HB.out)) hb)
       have n4_:=Aside0.mk (hbox)
       have n5_:=Aside0.mk ((by rw [hg]; exact (below_size (by repeat (first|(with_reducible first|exact HB.out|apply bA|apply bD|apply bE|refine bS ?_ GE166.out|refine bS ?_ GE167.out|refine bS ?_ GE183.out)|exact HB.out))) : w.heap.size ≤ gb193))
       have n6_:=Aside0.mk ((by rw [hg]; exact (below_size (by repeat (first|(with_reducible first|exact HB.out|apply bA|apply bD|apply bE|refine bS ?_ GE166.out|refine bS ?_ GE167.out|refine bS ?_ GE183.out)|exact HB.out))) : w.heap.size ≤ gb193))
       have n7_:=Aside0.mk ((by rw [hg]; exact Nat.ne_of_lt (blk_lt (g:=gb166) (o:=.cells #[.slice A0_0 l0_0.length c0_0] 42 (0,0)) (by (with_reducible repeat (first|refine kN ?_ _|refine kD ?_|refine kA ?_ _)); exact BK166.out)) : gb166 ≠ gb193))
       have n8_:=Aside0.mk ((by rw [hg]; exact Nat.ne_of_gt (blk_lt (g:=gb166) (o:=.cells #[.slice A0_0 l0_0.length c0_0] 42 (0,0)) (by (with_reducible repeat (first|refine kN ?_ _|refine kD ?_|refine kA ?_ _)); exact BK166.out)) : gb193 ≠ gb166))
       have n9_:=Aside0.mk ((by rw [hg]; exact Nat.ne_of_lt (blk_lt (g:=gb167) (o:=.cells #[.int .i64 0,.int .i64 0,.int .i64 0,.int .i64 0] 50 (0,0)) (by (with_reducible repeat (first|refine kN ?_ _|refine kD ?_|refine kA ?_ _)); exact BK167.out)) : gb167 ≠ gb193))
       have n10_:=Aside0.mk ((by rw [hg]; exact Nat.ne_of_gt (blk_lt (g:=gb167) (o:=.cells #[.int .i64 0,.int .i64 0,.int .i64 0,.int .i64 0] 50 (0,0)) (by (with_reducible repeat (first|refine kN ?_ _|refine kD ?_|refine kA ?_ _)); exact BK167.out)) : gb193 ≠ gb167))
       have n11_:=Aside0.mk ((by rw [hg]; exact Nat.ne_of_lt (blk_lt (g:=gb183) (o:=.cells #[.int .i64 t178,.int .i64 t179,.int .i64 t180,.int .i64 t181] 50 (0,0)) (by (with_reducible repeat (first|refine kN ?_ _|refine kD ?_|refine kA ?_ _)); exact BK183.out)) : gb183 ≠ gb193))
       have n12_:=Aside0.mk ((by rw [hg]; exact Nat.ne_of_gt (blk_lt (g:=gb183) (o:=.cells #[.int .i64 t178,.int .i64 t179,.int .i64 t180,.int .i64 t181] 50 (0,0)) (by (with_reducible repeat (first|refine kN ?_ _|refine kD ?_|refine kA ?_ _)); exact BK183.out)) : gb193 ≠ gb183))
       clear BK166
       clear BK167
       clear BK183
       clear HB
       have BK166:=n0_
       have BK167:=n1_
       have BK183:=n2_
       have HB:=n3_
       have BK193:=n4_
       have GW193:=n5_
       have GE193:=n6_
       have NB166_193:=n7_
       have NB193_166:=n8_
       have NB167_193:=n9_
       have NB193_167:=n10_
       have NB183_193:=n11_
       have NB193_183:=n12_
       clear n0_ n1_ n2_ n3_ n4_ n5_ n6_ n7_ n8_ n9_ n10_ n11_ n12_
       clear hb hbox hg
       refine hK.out _ _ ⟨(kC BK183.out 0).trans rfl,(kC BK183.out 1).trans rfl,(kC BK183.out 2).trans rfl,(kC BK183.out 3).trans rfl,(kC BK166.out 0).trans rfl⟩ (fun hHeld => ?_)
       clear hK K
       refine norm_ (a':=?_) ?_ ?_
       rotate_left
       ·show Act.put _ (some 7) _ = _
        simp only [Act.put,lS,lZ,lC,i64_w,i32_w]
        rfl
       refine one_ (i:=5) (N:=some 35) #[tT,tT,tT,tT,tT,tT,fF,fF,fF,tT,fF,fF] rfl rfl (one_of HT_.out (by kernel_rfl)) (by decide) (fun K hK => ?_)
       refine goes_ Try.func61 (by kernel_rfl) rfl #[.agg #[.int .i64 t178,.int .i64 t179,.int .i64 t180,.int .i64 t181],.agg #[.int .i64 t184,.int .i64 t185,.int .i64 t186,.int .i64 t187]] (by rfl) rfl rfl (by (try simp only [List.map_toArray,List.map_cons,List.map_nil]); first|done|rfl|(simp only [List.length_drop,List.length_take]; rfl)) ?_
       with_reducible refine (impl_AddIntervals.calls kj2 t178 t179 t180 t181 t184 t185 t186 t187 t188 t189 t190 t191 false _ A22.out).mono ?_
       rintro e w66 ⟨rfl,hb⟩
       refine ⟨_,rfl,?_⟩
       have n0_:=Aside0.mk (kB (g:=gb166) (o:=.cells #[.slice A0_0 l0_0.length c0_0] 42 (0,0)) (by (with_reducible repeat (first|refine kN ?_ _|refine kD ?_|refine kA ?_ _)); exact BK166.out) hb)
       have n1_:=Aside0.mk (kB (g:=gb167) (o:=.cells #[.int .i64 0,.int .i64 0,.int .i64 0,.int .i64 0] 50 (0,0)) (by (with_reducible repeat (first|refine kN ?_ _|refine kD ?_|refine kA ?_ _)); exact BK167.out) hb)
       have n2_:=Aside0.mk (kB (g:=gb183) (o:=.cells #[.int .i64 t178,.int .i64 t179,.int .i64 t180,.int .i64 t181] 50 (0,0)) (by (with_reducible repeat (first|refine kN ?_ _|refine kD ?_|refine kA ?_ _)); exact BK183.out) hb)
       have n3_:=Aside0.mk (kB (g:=gb193) (o:=.cells #[.int .i64 0,.int .i64 0,.int .i64 0,.int .i64 0] 50 (0,0)) (by (with_reducible repeat (first|refine kN ?_ _|refine kD ?_|refine kA ?_ _)); exact BK193.out) hb)
       have n4_:=Aside0.mk (below_step (by repeat (first|(with_reducible first|exact HB.out|apply bA|apply bD|apply bE|refine bS ?_ GE166.out|refine bS ?_ GE167.out|refine bS ?_ GE183.out|refine bS ?_ GE193.out)|exact HB.out)) hb)
       clear BK166
       clear BK167
       clear BK183
       clear BK193
       clear HB
       have BK166:=n0_
       have BK167:=n1_
       have BK183:=n2_
       have BK193:=n3_
       have HB:=n4_
       clear n0_ n1_ n2_ n3_ n4_
       (try clear hb)
       (try clear hb2)
       (try clear hk)
       (try clear hi)
       refine hK.out _ _ ⟨(kC BK183.out 0).trans rfl,(kC BK183.out 1).trans rfl,(kC BK183.out 2).trans rfl,(kC BK183.out 3).trans rfl,(kC BK166.out 0).trans rfl⟩ (fun hHeld => ?_)
       clear hK K
       refine norm_ (a':=?_) ?_ ?_
       rotate_left
       ·show Act.put _ (some 35) _ = _
        simp only [Act.put,lS,lZ,lC,i64_w,i32_w]
        rfl
       refine pure_ (i:=6) (N:=some 29) (v:=?_) (a':=?_) #[tT,tT,tT,tT,tT,tT,tT,fF,fF,tT,fF,fF] rfl rfl (any_of HT_.out (by kernel_rfl)) (fun _ _ _ h => h) (Or.inl ⟨by rfl,?_⟩) ?_ ?_
       rotate_left
       ·intro w'
        go_simp
        first|(with_reducible rfl)|(simp only [Instr.field,go_sem, *]; rfl)
       rotate_left
       ·simp only [Act.put,lS,lZ,lC,i64_w,i32_w]
        rfl
       refine pure_ (i:=7) (N:=some 36) (v:=?_) (a':=?_) #[tT,tT,tT,tT,tT,tT,tT,tT,fF,tT,fF,fF] rfl rfl (any_of HT_.out (by kernel_rfl)) (fun _ _ _ h => h) (Or.inl ⟨by rfl,?_⟩) ?_ ?_
       rotate_left
       ·intro w'
        go_simp
        first|(with_reducible rfl)|(simp only [Instr.field,go_sem, *]; rfl)
       rotate_left
       ·simp only [Act.put,lS,lZ,lC,i64_w,i32_w]
        rfl
       refine pure_ (i:=8) (N:=some 37) (v:=?_) (a':=?_) #[tT,tT,tT,tT,tT,tT,tT,tT,tT,tT,fF,fF] rfl rfl (any_of HT_.out (by kernel_rfl)) (fun _ _ _ h => h) (Or.inl ⟨by rfl,?_⟩) ?_ ?_
       rotate_left
       ·intro w'
        go_simp
        first|(with_reducible rfl)|(simp only [Instr.field,go_sem, *]; rfl)
       rotate_left
       ·simp only [Act.put,lS,lZ,lC,i64_w,i32_w]
        rfl
       exact norm_ (by simp only [putAll,Act.put,lS,lZ,lC]) (hCont (gb193) _ ⟨hHeld,(by (with_reducible repeat (first|refine kN ?_ _|refine kD ?_|refine kA ?_ _)); exact BK166.out),(by (with_reducible repeat (first|refine kN ?_ _|refine kD ?_|refine kA ?_ _)); exact BK167.out),(by (with_reducible repeat (first|refine kN ?_ _|refine kD ?_|refine kA ?_ _)); exact BK183.out),(by (with_reducible repeat (first|refine kN ?_ _|refine kD ?_|refine kA ?_ _)); exact BK193.out),GW193.out,GE193.out,NB166_193.out,NB193_166.out,NB167_193.out,NB193_167.out,NB183_193.out,NB193_183.out,(by repeat (first|(with_reducible first|exact HB.out|apply bA|apply bD|apply bE|refine bS ?_ GE166.out|refine bS ?_ GE167.out|refine bS ?_ GE183.out|refine bS ?_ GE193.out)|exact HB.out))⟩)
     ·skip
      refine box_step ?hg (N:=7) ?hd (cs:=#[.int .i64 0,.int .i64 0,.int .i64 0,.int .i64 0]) (t:=50) ?hr ?_; (case hd => rfl); (case hg => rfl); (case hr => first|(go_simp; done)|(go_simp; rfl))
      intro gb193 hg w64 hbox hb
      have n0_:=Aside0.mk (kB (g:=gb166) (o:=.cells #[.slice A0_0 l0_0.length c0_0] 42 (0,0)) (by (with_reducible repeat (first|refine kN ?_ _|refine kD ?_|refine kA ?_ _)); exact BK166.out) hb)
      have n1_:=Aside0.mk (kB (g:=gb167) (o:=.cells #[.int .i64 0,.int .i64 0,.int .i64 0,.int .i64 0] 50 (0,0)) (by (with_reducible repeat (first|refine kN ?_ _|refine kD ?_|refine kA ?_ _)); exact BK167.out) hb)
      have n2_:=Aside0.mk (kB (g:=gb183) (o:=.cells #[.int .i64 t178,.int .i64 t179,.int .i64 t180,.int .i64 t181] 50 (0,0)) (by (with_reducible repeat (first|refine kN ?_ _|refine kD ?_|refine kA ?_ _)); exact BK183.out) hb)
      have n3_:=Aside0.mk (below_step (by repeat (first|(with_reducible first|exact HB.out|apply bA|apply bD|apply bE|refine bS ?_ GE166.out|refine bS ?_ GE167.out|refine bS ?_ GE183.out)|exact HB.out)) hb)
      have n4_:=Aside0.mk (hbox)
      have n5_:=Aside0.mk ((by rw [hg]; exact (below_size (by repeat (first|(with_reducible first|exact HB.out|apply bA|apply bD|apply bE|refine bS ?_ GE166.out|refine bS ?_ GE167.out|refine bS ?_ GE183.out)|exact HB.out))) : w.heap.size ≤ gb193))
      have n6_:=Aside0.mk ((by rw [hg]; exact (below_size (by repeat (first|(with_reducible first|exact HB.out|apply bA|apply bD|apply bE|refine bS ?_ GE166.out|refine bS ?_ GE167.out|refine bS ?_ GE183.out)|exact HB.out))) : w.heap.size ≤ gb193))
      have n7_:=Aside0.mk ((by rw [hg]; exact Nat.ne_of_lt (blk_lt (g:=gb166) (o:=.cells #[.slice A0_0 l0_0.length c0_0] 42 (0,0)) (by (with_reducible repeat (first|refine kN ?_ _|refine kD ?_|refine kA ?_ _)); exact BK166.out)) : gb166 ≠ gb193))
      have n8_:=Aside0.mk ((by rw [hg]; exact Nat.ne_of_gt (blk_lt (g:=gb166) (o:=.cells #[.slice A0_0 l0_0.length c0_0] 42 (0,0)) (by (with_reducible repeat (first|refine kN ?_ _|refine kD ?_|refine kA ?_ _)); exact BK166.out)) : gb193 ≠ gb166))
      have n9_:=Aside0.mk ((by rw [hg]; exact Nat.ne_of_lt (blk_lt (g:=gb167) (o:=.cells #[.int .i64 0,.int .i64 0,.int .i64 0,.int .i64 0] 50 (0,0)) (by (with_reducible repeat (first|refine kN ?_ _|refine kD ?_|refine kA ?_ _)); exact BK167.out)) : gb167 ≠ gb193))
      have n10_:=Aside0.mk ((by rw [hg]; exact Nat.ne_of_gt (blk_lt (g:=gb167) (o:=.cells #[.int .i64 0,.int .i64 0,.int .i64 0,.int .i64 0] 50 (0,0)) (by (with_reducible repeat (first|refine kN ?_ _|refine kD ?_|refine kA ?_ _)); exact BK167.out)) : gb193 ≠ gb167))
      have n11_:=Aside0.mk ((by rw [hg]; exact Nat.ne_of_lt (blk_lt (g:=gb183) (o:=.cells #[.int .i64 t178,.int .i64 t179,.int .i64 t180,.int .i64 t181] 50 (0,0)) (by (with_reducible repeat (first|refine kN ?_ _|refine kD ?_|refine kA ?_ _)); exact BK183.out)) : gb183 ≠ gb193))
      have n12_:=Aside0.mk ((by rw [hg]; exact Nat.ne_of_gt (blk_lt (g:=gb183) (o:=.cells #[.int .i64 t178,.int .i64 t179,.int .i64 t180,.int .i64 t181] 50 (0,0)) (by (with_reducible repeat (first|refine kN ?_ _|refine kD ?_|refine kA ?_ _)); exact BK183.out)) : gb193 ≠ gb183))
      clear BK166
      clear BK167
      clear BK183
      clear HB
      have BK166:=n0_
      have BK167:=n1_
      have BK183:=n2_
      have HB:=n3_
      have BK193:=n4_
      have GW193:=n5_
      have GE193:=n6_
      have NB166_193:=n7_
      have NB193_166:=n8_
      have NB167_193:=n9_
      have NB193_167:=n10_
      have NB183_193:=n11_
      have NB193_183:=n12_
      clear n0_ n1_ n2_ n3_ n4_ n5_ n6_ n7_ n8_ n9_ n10_ n11_ n12_
      clear hb hbox hg
      refine hK.out _ _ ⟨(kC BK183.out 0).trans rfl,(kC BK183.out 1).trans rfl,(kC BK183.out 2).trans rfl,(kC BK183.out 3).trans rfl,(kC BK166.out 0).trans rfl⟩ (fun hHeld => ?_)
      clear hK K
      refine norm_ (a':=?_) ?_ ?_
      rotate_left
      ·show Act.put _ (some 7) _ = _
       simp only [Act.put,lS,lZ,lC,i64_w,i32_w]
       rfl
      refine one_ (i:=4) (N:=some 34) #[tT,tT,tT,tT,tT,fF,fF,fF,fF,tT,fF,fF] rfl rfl (one_of HT_.out (by kernel_rfl)) (by decide) (fun K hK => ?_)
      refine goes_ Try.func62 (by kernel_rfl) rfl #[.agg #[.slice A0_0 l0_0.length c0_0],.int .i64 (wrap64 (a1 + 8))] (by rfl) rfl rfl (by (try simp only [List.map_toArray,List.map_cons,List.map_nil]); first|done|rfl|(simp only [List.length_drop,List.length_take]; rfl)) ?_
      with_reducible refine (impl_ThirdAt.calls kj2 _ _ l0_0 (wrap64 (a1 + 8)) t184 t185 t186 t187 _ ?side1 ?side2 A21.out).mono ?_
      (case side1 => repeat (first|exact (Kd.C_below HR0_0.out HB.out)|(with_reducible refine Kd.C_alloc ?_ _)|(with_reducible refine Kd.C_drewN ?_ _)|(with_reducible refine Kd.C_drew ?_)))
      (case side2 => exact HC0_0.out)
      rintro e w65 ⟨rfl,hb⟩
      refine ⟨_,rfl,?_⟩
      have n0_:=Aside0.mk (kB (g:=gb166) (o:=.cells #[.slice A0_0 l0_0.length c0_0] 42 (0,0)) (by (with_reducible repeat (first|refine kN ?_ _|refine kD ?_|refine kA ?_ _)); exact BK166.out) hb)
      have n1_:=Aside0.mk (kB (g:=gb167) (o:=.cells #[.int .i64 0,.int .i64 0,.int .i64 0,.int .i64 0] 50 (0,0)) (by (with_reducible repeat (first|refine kN ?_ _|refine kD ?_|refine kA ?_ _)); exact BK167.out) hb)
      have n2_:=Aside0.mk (kB (g:=gb183) (o:=.cells #[.int .i64 t178,.int .i64 t179,.int .i64 t180,.int .i64 t181] 50 (0,0)) (by (with_reducible repeat (first|refine kN ?_ _|refine kD ?_|refine kA ?_ _)); exact BK183.out) hb)
      have n3_:=Aside0.mk (kB (g:=gb193) (o:=.cells #[.int .i64 0,.int .i64 0,.int .i64 0,.int .i64 0] 50 (0,0)) (by (with_reducible repeat (first|refine kN ?_ _|refine kD ?_|refine kA ?_ _)); exact BK193.out) hb)
      have n4_:=Aside0.mk (below_step (by repeat (first|(with_reducible first|exact HB.out|apply bA|apply bD|apply bE|refine bS ?_ GE166.out|refine bS ?_ GE167.out|refine bS ?_ GE183.out|refine bS ?_ GE193.out)|exact HB.out)) hb)
      clear BK166
      clear BK167
      clear BK183
      clear BK193
      clear HB
      have BK166:=n0_
      have BK167:=n1_
      have BK183:=n2_
      have BK193:=n3_
      have HB:=n4_
      clear n0_ n1_ n2_ n3_ n4_
      (try clear hb)
      (try clear hb2)
      (try clear hk)
      (try clear hi)
      refine hK.out _ _ ⟨(kC BK183.out 0).trans rfl,(kC BK183.out 1).trans rfl,(kC BK183.out 2).trans rfl,(kC BK183.out 3).trans rfl,(kC BK166.out 0).trans rfl⟩ (fun hHeld => ?_)
      clear hK K
      refine norm_ (a':=?_) ?_ ?_
      rotate_left
      ·show Act.put _ (some 34) _ = _
       simp only [Act.put,lS,lZ,lC,i64_w,i32_w]
       rfl
      refine one_ (i:=5) (N:=some 35) #[tT,tT,tT,tT,tT,tT,fF,fF,fF,tT,fF,fF] rfl rfl (one_of HT_.out (by kernel_rfl)) (by decide) (fun K hK => ?_)
      refine goes_ Try.func61 (by kernel_rfl) rfl #[.agg #[.int .i64 t178,.int .i64 t179,.int .i64 t180,.int .i64 t181],.agg #[.int .i64 t184,.int .i64 t185,.int .i64 t186,.int .i64 t187]] (by rfl) rfl rfl (by (try simp only [List.map_toArray,List.map_cons,List.map_nil]); first|done|rfl|(simp only [List.length_drop,List.length_take]; rfl)) ?_
      with_reducible refine (impl_AddIntervals.calls kj2 t178 t179 t180 t181 t184 t185 t186 t187 t188 t189 t190 t191 false _ A22.out).mono ?_
      rintro e w66 ⟨rfl,hb⟩
      refine ⟨_,rfl,?_⟩
      have n0_:=Aside0.mk (kB (g:=gb166) (o:=.cells #[.slice A0_0 l0_0.length c0_0] 42 (0,0)) (by (with_reducible repeat (first|refine kN ?_ _|refine kD ?_|refine kA ?_ _)); exact BK166.out) hb)
      have n1_:=Aside0.mk (kB (g:=gb167) (o:=.cells #[.int .i64 0,.int .i64 0,.int .i64 0,.int .i64 0] 50 (0,0)) (by (with_reducible repeat (first|refine kN ?_ _|refine kD ?_|refine kA ?_ _)); exact BK167.out) hb)
      have n2_:=Aside0.mk (kB (g:=gb183) (o:=.cells #[.int .i64 t178,.int .i64 t179,.int .i64 t180,.int .i64 t181] 50 (0,0)) (by (with_reducible repeat (first|refine kN ?_ _|refine kD ?_|refine kA ?_ _)); exact BK183.out) hb)
      have n3_:=Aside0.mk (kB (g:=gb193) (o:=.cells #[.int .i64 0,.int .i64 0,.int .i64 0,.int .i64 0] 50 (0,0)) (by (with_reducible repeat (first|refine kN ?_ _|refine kD ?_|refine kA ?_ _)); exact BK193.out) hb)
      have n4_:=Aside0.mk (below_step (by repeat (first|(with_reducible first|exact HB.out|apply bA|apply bD|apply bE|refine bS ?_ GE166.out|refine bS ?_ GE167.out|refine bS ?_ GE183.out|refine bS ?_ GE193.out)|exact HB.out)) hb)
      clear BK166
      clear BK167
      clear BK183
      clear BK193
      clear HB
      have BK166:=n0_
      have BK167:=n1_
      have BK183:=n2_
      have BK193:=n3_
      have HB:=n4_
      clear n0_ n1_ n2_ n3_ n4_
      (try clear hb)
      (try clear hb2)
      (try clear hk)
      (try clear hi)
      refine hK.out _ _ ⟨(kC BK183.out 0).trans rfl,(kC BK183.out 1).trans rfl,(kC BK183.out 2).trans rfl,(kC BK183.out 3).trans rfl,(kC BK166.out 0).trans rfl⟩ (fun hHeld => ?_)
      clear hK K
      refine norm_ (a':=?_) ?_ ?_
      rotate_left
      ·show Act.put _ (some 35) _ = _
       simp only [Act.put,lS,lZ,lC,i64_w,i32_w]
       rfl
      refine pure_ (i:=6) (N:=some 29) (v:=?_) (a':=?_) #[tT,tT,tT,tT,tT,tT,tT,fF,fF,tT,fF,fF] rfl rfl (any_of HT_.out (by kernel_rfl)) (fun _ _ _ h => h) (Or.inl ⟨by rfl,?_⟩) ?_ ?_
      rotate_left
      ·intro w'
       go_simp
       first|(with_reducible rfl)|(simp only [Instr.field,go_sem, *]; rfl)
      rotate_left
      ·simp only [Act.put,lS,lZ,lC,i64_w,i32_w]
       rfl
      refine pure_ (i:=7) (N:=some 36) (v:=?_) (a':=?_) #[tT,tT,tT,tT,tT,tT,tT,tT,fF,tT,fF,fF] rfl rfl (any_of HT_.out (by kernel_rfl)) (fun _ _ _ h => h) (Or.inl ⟨by rfl,?_⟩) ?_ ?_
      rotate_left
      ·intro w'
       go_simp
       first|(with_reducible rfl)|(simp only [Instr.field,go_sem, *]; rfl)
      rotate_left
      ·simp only [Act.put,lS,lZ,lC,i64_w,i32_w]
       rfl
      refine pure_ (i:=8) (N:=some 37) (v:=?_) (a':=?_) #[tT,tT,tT,tT,tT,tT,tT,tT,tT,tT,fF,fF] rfl rfl (any_of HT_.out (by kernel_rfl)) (fun _ _ _ h => h) (Or.inl ⟨by rfl,?_⟩) ?_ ?_
      rotate_left
      ·intro w'
       go_simp
       first|(with_reducible rfl)|(simp only [Instr.field,go_sem, *]; rfl)
      rotate_left
      ·simp only [Act.put,lS,lZ,lC,i64_w,i32_w]
       rfl
      exact norm_ (by simp only [putAll,Act.put,lS,lZ,lC]) (hCont (gb193) _ ⟨hHeld,(by (with_reducible repeat (first|refine kN ?_ _|refine kD ?_|refine kA ?_ _)); exact BK166.out),(by (with_reducible repeat (first|refine kN ?_ _|refine kD ?_|refine kA ?_ _)); exact BK167.out),(by (with_reducible repeat (first|refine kN ?_ _|refine kD ?_|refine kA ?_ _)); exact BK183.out),(by (with_reducible repeat (first|refine kN ?_ _|refine kD ?_|refine kA ?_ _)); exact BK193.out),GW193.out,GE193.out,NB166_193.out,NB193_166.out,NB167_193.out,NB193_167.out,NB183_193.out,NB193_183.out,(by repeat (first|(with_reducible first|exact HB.out|apply bA|apply bD|apply bE|refine bS ?_ GE166.out|refine bS ?_ GE167.out|refine bS ?_ GE183.out|refine bS ?_ GE193.out)|exact HB.out))⟩)
    rintro gb193 w67 ⟨hS_,h0_,h1_,h2_,h3_,h4_,h5_,h6_,h7_,h8_,h9_,h10_,h11_,h12_⟩
    have n0_ : Aside0 (w67.heap[gb166]? = some (.cells #[.slice A0_0 l0_0.length c0_0] 42 (0,0))):=⟨h0_⟩
    have n1_ : Aside0 (w67.heap[gb167]? = some (.cells #[.int .i64 0,.int .i64 0,.int .i64 0,.int .i64 0] 50 (0,0))):=⟨h1_⟩
    have n2_ : Aside0 (w67.heap[gb183]? = some (.cells #[.int .i64 t178,.int .i64 t179,.int .i64 t180,.int .i64 t181] 50 (0,0))):=⟨h2_⟩
    have n3_ : Aside0 (w67.heap[gb193]? = some (.cells #[.int .i64 0,.int .i64 0,.int .i64 0,.int .i64 0] 50 (0,0))):=⟨h3_⟩
    have n4_ : Aside0 (w.heap.size ≤ gb193):=⟨h4_⟩
    have n5_ : Aside0 (w.heap.size ≤ gb193):=⟨h5_⟩
    have n6_ : Aside0 (gb166 ≠ gb193):=⟨h6_⟩
    have n7_ : Aside0 (gb193 ≠ gb166):=⟨h7_⟩
    have n8_ : Aside0 (gb167 ≠ gb193):=⟨h8_⟩
    have n9_ : Aside0 (gb193 ≠ gb167):=⟨h9_⟩
    have n10_ : Aside0 (gb183 ≠ gb193):=⟨h10_⟩
    have n11_ : Aside0 (gb193 ≠ gb183):=⟨h11_⟩
    have n12_ : Aside0 (Below w.heap.size w w67):=⟨h12_⟩
    clear BK166
    clear BK167
    clear BK183
    clear HB
    clear h0_ h1_ h2_ h3_ h4_ h5_ h6_ h7_ h8_ h9_ h10_ h11_ h12_
    have BK166:=n0_
    have BK167:=n1_
    have BK183:=n2_
    have BK193:=n3_
    have GW193:=n4_
    have GE193:=n5_
    have NB166_193:=n6_
    have NB193_166:=n7_
    have NB167_193:=n8_
    have NB193_167:=n9_
    have NB183_193:=n10_
    have NB193_183:=n11_
    have HB:=n12_
    clear n0_ n1_ n2_ n3_ n4_ n5_ n6_ n7_ n8_ n9_ n10_ n11_ n12_
    have hHeld : w67.cell? ⟨gb183,0,none⟩ = some (.int .i64 t178) ∧ w67.cell? ⟨gb183,1,none⟩ = some (.int .i64 t179) ∧ w67.cell? ⟨gb183,2,none⟩ = some (.int .i64 t180) ∧ w67.cell? ⟨gb183,3,none⟩ = some (.int .i64 t181) ∧ w67.cell? ⟨gb166,0,none⟩ = some (.slice A0_0 l0_0.length c0_0):=hS_
    refine norm_ (a':=?_) ?_ ?_
    rotate_left
    ·simp only [putAll,Act.put,lS,lZ,lC]
     rfl
    refine one_ (i:=10) (N:=none) #[tT,tT,tT,tT,tT,tT,tT,tT,tT,tT,tT,fF] rfl rfl (one_of HT_.out (by kernel_rfl)) (by decide) (fun K hK => ?_)
    have hs68 : w67.cell? ⟨gb193,0,none⟩ = some (.int .i64 0):=(kC BK193.out 0).trans rfl
    have hfs68:=blk_frozen BK193.out 0
    have hns68_0:=NB166_193.out
    have hns68_1:=NB167_193.out
    have hns68_2:=NB183_193.out
    have hms68_0:=NB193_166.out
    have hms68_1:=NB193_167.out
    have hms68_2:=NB193_183.out
    have hs69 : w67.cell? ⟨gb193,1,none⟩ = some (.int .i64 0):=(kC BK193.out 1).trans rfl
    have hfs69:=blk_frozen BK193.out 1
    have hns69_0:=NB166_193.out
    have hns69_1:=NB167_193.out
    have hns69_2:=NB183_193.out
    have hms69_0:=NB193_166.out
    have hms69_1:=NB193_167.out
    have hms69_2:=NB193_183.out
    have hs70 : w67.cell? ⟨gb193,2,none⟩ = some (.int .i64 0):=(kC BK193.out 2).trans rfl
    have hfs70:=blk_frozen BK193.out 2
    have hns70_0:=NB166_193.out
    have hns70_1:=NB167_193.out
    have hns70_2:=NB183_193.out
    have hms70_0:=NB193_166.out
    have hms70_1:=NB193_167.out
    have hms70_2:=NB193_183.out
    have hs71 : w67.cell? ⟨gb193,3,none⟩ = some (.int .i64 0):=(kC BK193.out 3).trans rfl
    have hfs71:=blk_frozen BK193.out 3
    have hns71_0:=NB166_193.out
    have hns71_1:=NB167_193.out
    have hns71_2:=NB183_193.out
    have hms71_0:=NB193_166.out
    have hms71_1:=NB193_167.out
    have hms71_2:=NB193_183.out
    refine skip_ (w1:=?_) (by rfl) rfl ?_ ?_
    rotate_left
    ·go_simp
     rfl
    refine hK.out _ _ ⟨((cell_far (p:=⟨gb193,_,none⟩) NB183_193.out _).trans (((cell_far (p:=⟨gb193,_,none⟩) NB183_193.out _).trans (((cell_far (p:=⟨gb193,_,none⟩) NB183_193.out _).trans (((cell_far (p:=⟨gb193,_,none⟩) NB183_193.out _).trans (hHeld.1)))))))),((cell_far (p:=⟨gb193,_,none⟩) NB183_193.out _).trans (((cell_far (p:=⟨gb193,_,none⟩) NB183_193.out _).trans (((cell_far (p:=⟨gb193,_,none⟩) NB183_193.out _).trans (((cell_far (p:=⟨gb193,_,none⟩) NB183_193.out _).trans (hHeld.2.1)))))))),((cell_far (p:=⟨gb193,_,none⟩) NB183_193.out _).trans (((cell_far (p:=⟨gb193,_,none⟩) NB183_193.out _).trans (((cell_far (p:=⟨gb193,_,none⟩) NB183_193.out _).trans (((cell_far (p:=⟨gb193,_,none⟩) NB183_193.out _).trans (hHeld.2.2.1)))))))),((cell_far (p:=⟨gb193,_,none⟩) NB183_193.out _).trans (((cell_far (p:=⟨gb193,_,none⟩) NB183_193.out _).trans (((cell_far (p:=⟨gb193,_,none⟩) NB183_193.out _).trans (((cell_far (p:=⟨gb193,_,none⟩) NB183_193.out _).trans (hHeld.2.2.2.1)))))))),((cell_far (p:=⟨gb193,_,none⟩) NB166_193.out _).trans (((cell_far (p:=⟨gb193,_,none⟩) NB166_193.out _).trans (((cell_far (p:=⟨gb193,_,none⟩) NB166_193.out _).trans (((cell_far (p:=⟨gb193,_,none⟩) NB166_193.out _).trans (hHeld.2.2.2.2))))))))⟩ (fun hHeld => ?_)
    clear hK K
    refine pure_ (i:=11) (N:=some 8) (v:=?_) (a':=?_) #[tT,tT,tT,tT,tT,tT,tT,tT,tT,tT,tT,tT] rfl rfl (any_of HT_.out (by kernel_rfl)) (fun _ _ _ h => h) (Or.inl ⟨by rfl,?_⟩) ?_ ?_
    rotate_left
    ·intro w'
     go_simp
     first|(with_reducible rfl)|(simp only [Instr.field,go_sem, *]; rfl)
    rotate_left
    ·simp only [Act.put,lS,lZ,lC,i64_w,i32_w]
     rfl
    refine done_ (done_of HT_.out (by kernel_rfl)) ?_
    have hnb72:=NB167_166.out
    have hnc72:=NB166_167.out
    have hnb73:=NB167_183.out
    have hnc73:=NB183_167.out
    have hnb74:=NB167_193.out
    have hnc74:=NB193_167.out
    have hcz75_0 : w67.cell? ⟨gb167,0,none⟩ = some (.int .i64 0):=(kC BK167.out 0).trans rfl
    have hcz75_1 : w67.cell? ⟨gb167,1,none⟩ = some (.int .i64 0):=(kC BK167.out 1).trans rfl
    have hcz75_2 : w67.cell? ⟨gb167,2,none⟩ = some (.int .i64 0):=(kC BK167.out 2).trans rfl
    have hcz75_3 : w67.cell? ⟨gb167,3,none⟩ = some (.int .i64 0):=(kC BK167.out 3).trans rfl
    have hfz75_0:=blk_frozen BK167.out 0
    have hfz75_1:=blk_frozen BK167.out 1
    have hfz75_2:=blk_frozen BK167.out 2
    have hfz75_3:=blk_frozen BK167.out 3
    try go_wp2
    refine bodyPost_ret (results_cell_row rfl _ _ gb167 50 #[.int .i64 0,.int .i64 0,.int .i64 0,.int .i64 0] (0,0) _ rfl (by (with_reducible repeat (first|refine kN ?_ _|refine kD ?_|refine kA ?_ _)); refine blk_put (cs:=#[.int .i64 0,.int .i64 0,.int .i64 0,.int .i64 0]) ?_ 3 _ rfl; (with_reducible repeat (first|refine kN ?_ _|refine kD ?_|refine kA ?_ _)); refine blk_put (cs:=#[.int .i64 0,.int .i64 0,.int .i64 0,.int .i64 0]) ?_ 2 _ rfl; (with_reducible repeat (first|refine kN ?_ _|refine kD ?_|refine kA ?_ _)); refine blk_put (cs:=#[.int .i64 0,.int .i64 0,.int .i64 0,.int .i64 0]) ?_ 1 _ rfl; (with_reducible repeat (first|refine kN ?_ _|refine kD ?_|refine kA ?_ _)); refine blk_put (cs:=#[.int .i64 0,.int .i64 0,.int .i64 0,.int .i64 0]) ?_ 0 _ rfl; (with_reducible repeat (first|refine kN ?_ _|refine kD ?_|refine kA ?_ _)); refine blk_far ?_ NB167_193.out _; (with_reducible repeat (first|refine kN ?_ _|refine kD ?_|refine kA ?_ _)); refine blk_far ?_ NB167_193.out _; (with_reducible repeat (first|refine kN ?_ _|refine kD ?_|refine kA ?_ _)); refine blk_far ?_ NB167_193.out _; (with_reducible repeat (first|refine kN ?_ _|refine kD ?_|refine kA ?_ _)); refine blk_far ?_ NB167_193.out _; (with_reducible repeat (first|refine kN ?_ _|refine kD ?_|refine kA ?_ _)); exact BK167.out) Try.underlying50 rfl (by kernel_rfl)) rfl ?_
    exact ⟨by first|rfl|(simp [errW_none,errW_some] <;> rfl)|(simp [*,errW_none,errW_some] <;> rfl),by repeat (first|(with_reducible first|exact HB.out|apply bA|apply bD|apply bE|refine bS ?_ GE166.out|refine bS ?_ GE167.out|refine bS ?_ GE183.out|refine bS ?_ GE193.out)|exact HB.out)⟩
   subst c24
   have H1 : (some (t188,t189,t190,t191)) = some (r1,r2,r3,r4):=by rw [if_pos rfl] at H; exact H
   clear H
   have H:=H1
   clear H1
   simp only [Option.some.injEq,Prod.mk.injEq] at H
   obtain ⟨rfl,rfl,rfl,rfl⟩:=H
   try go_wp2
   have n0_:=Aside0.mk (kD BK166.out)
   have n1_:=Aside0.mk (kD BK167.out)
   have n2_:=Aside0.mk (bE HB.out)
   clear BK166
   clear BK167
   clear HB
   have BK166:=n0_
   have BK167:=n1_
   have HB:=n2_
   clear n0_ n1_ n2_
   refine start_ (n:=14) (S:=fun w' => w'.cell? ⟨gb166,0,none⟩ = some (.slice A0_0 l0_0.length c0_0)) (ds:=[]) #[fF,fF,fF,fF,fF,fF,fF,fF,fF,fF,fF,fF,fF,fF] (by kernel_rfl) rfl rfl ((kC BK166.out 0).trans rfl) (fun hHeld => ?_); refine with_tabW impl_GroupSum.tab3 impl_GroupSum.bits3 (fun HT_ HW_ => ?_)
   generalize wc.drew = w25 at BK166 BK167 HB hHeld ⊢
   refine pure_ (i:=1) (N:=some 20) (v:=?_) (a':=?_) #[fF,tT,fF,fF,fF,fF,fF,fF,fF,fF,fF,fF,fF,fF] rfl rfl (any_of HT_.out (by kernel_rfl)) (fun _ _ _ h => h) (Or.inl ⟨by rfl,?_⟩) ?_ ?_
   rotate_left
   ·intro w'
    go_simp
    first|(with_reducible rfl)|(simp only [Instr.field,go_sem, *]; rfl)
   rotate_left
   ·simp only [Act.put,lS,lZ,lC,i64_w,i32_w]
    rfl
   refine pure_ (i:=4) (N:=some 23) (v:=?_) (a':=?_) #[fF,tT,fF,fF,tT,fF,fF,fF,fF,fF,fF,fF,fF,fF] rfl rfl (any_of HT_.out (by kernel_rfl)) (fun _ _ _ h => h) (Or.inl ⟨by rfl,?_⟩) ?_ ?_
   rotate_left
   ·intro w'
    go_simp
    first|(with_reducible rfl)|(simp only [Instr.field,go_sem, *]; rfl)
   rotate_left
   ·simp only [Act.put,lS,lZ,lC,i64_w,i32_w]
    rfl
   refine pure_ (i:=5) (N:=some 24) (v:=?_) (a':=?_) #[fF,tT,fF,fF,tT,tT,fF,fF,fF,fF,fF,fF,fF,fF] rfl rfl (any_of HT_.out (by kernel_rfl)) (fun _ _ _ h => h) (Or.inl ⟨by rfl,?_⟩) ?_ ?_
   rotate_left
   ·intro w'
    go_simp
    first|(with_reducible rfl)|(simp only [Instr.field,go_sem, *]; rfl)
   rotate_left
   ·simp only [Act.put,lS,lZ,lC,i64_w,i32_w]
    rfl
   refine take_ (i:=0) (N:=some 19) (v:=?_) (a':=?_) #[tT,tT,fF,fF,tT,tT,fF,fF,fF,fF,fF,fF,fF,fF] rfl rfl (take_ofW HT_.out HW_.out (by kernel_rfl)) (fun _ _ _ h => h) (Or.inl ⟨by rfl,?_⟩) hHeld ?_ ?_
   rotate_left
   ·intro w' s0
    go_simp
    first|(with_reducible rfl)|(simp only [Instr.field,go_sem, *]; rfl)
   rotate_left
   ·simp only [Act.put,lS,lZ,lC,i64_w,i32_w]
    rfl
   refine take_ (i:=3) (N:=some 22) (v:=?_) (a':=?_) #[tT,tT,fF,tT,tT,tT,fF,fF,fF,fF,fF,fF,fF,fF] rfl rfl (take_ofW HT_.out HW_.out (by kernel_rfl)) (fun _ _ _ h => h) (Or.inl ⟨by rfl,?_⟩) hHeld ?_ ?_
   rotate_left
   ·intro w' s0
    go_simp
    first|(with_reducible rfl)|(simp only [Instr.field,go_sem, *]; rfl)
   rotate_left
   ·simp only [Act.put,lS,lZ,lC,i64_w,i32_w]
    rfl
   refine join_ (σ:=Nat) 2 #[tT,tT,tT,tT,tT,tT,tT,tT,tT,tT,tT,tT,fF,fF] (fun s_ => [(21,.agg #[.int .i64 t170,.int .i64 t171,.int .i64 t172,.int .i64 t173]),(25,.agg #[.int .i64 t174,.int .i64 t175,.int .i64 t176,.int .i64 t177]),(26,.tuple #[.agg #[.int .i64 t178,.int .i64 t179,.int .i64 t180,.int .i64 t181],.bool true]),(5,.pointer (some ⟨s_,0,none⟩)),(18,.tuple #[.agg #[.int .i64 t178,.int .i64 t179,.int .i64 t180,.int .i64 t181],.bool true]),(27,.agg #[.int .i64 t178,.int .i64 t179,.int .i64 t180,.int .i64 t181]),(28,.bool true)]) (fun s_ w' => (w'.cell? ⟨gb166,0,none⟩ = some (.slice A0_0 l0_0.length c0_0)) ∧ (w'.heap[gb166]? = some (.cells #[.slice A0_0 l0_0.length c0_0] 42 (0,0))) ∧ (w'.heap[gb167]? = some (.cells #[.int .i64 0,.int .i64 0,.int .i64 0,.int .i64 0] 50 (0,0))) ∧ (w'.heap[s_]? = some (.cells #[.int .i64 0,.int .i64 0,.int .i64 0,.int .i64 0] 50 (0,0))) ∧ (w.heap.size ≤ s_) ∧ (w.heap.size ≤ s_) ∧ (gb166 ≠ s_) ∧ (s_ ≠ gb166) ∧ (gb167 ≠ s_) ∧ (s_ ≠ gb167) ∧ (Below w.heap.size w w')) ?_ ?_
   rotate_left
   ·intro hCont
    refine two_ (i:=2) (j:=11) (Ni:=some 21) (Nj:=some 5) #[tT,tT,tT,tT,tT,tT,fF,fF,fF,fF,fF,fF,fF,fF] #[tT,tT,fF,tT,tT,tT,fF,fF,fF,fF,fF,tT,fF,fF] rfl rfl rfl rfl (two_of HT_.out (by kernel_rfl)) (by decide) (by decide) (fun K hK => ?_) (fun K hK => ?_)
    ·skip
     refine goes_ Try.func62 (by kernel_rfl) rfl #[.agg #[.slice A0_0 l0_0.length c0_0],.int .i64 a1] (by rfl) rfl rfl (by (try simp only [List.map_toArray,List.map_cons,List.map_nil]); first|done|rfl|(simp only [List.length_drop,List.length_take]; rfl)) ?_
     with_reducible refine (impl_ThirdAt.calls kj2 _ _ l0_0 a1 t170 t171 t172 t173 _ ?side1 ?side2 A18.out).mono ?_
     (case side1 => repeat (first|exact (Kd.C_below HR0_0.out HB.out)|(with_reducible refine Kd.C_alloc ?_ _)|(with_reducible refine Kd.C_drewN ?_ _)|(with_reducible refine Kd.C_drew ?_)))
     (case side2 => exact HC0_0.out)
     rintro e w26 ⟨rfl,hb⟩
     refine ⟨_,rfl,?_⟩
     have n0_:=Aside0.mk (kB (g:=gb166) (o:=.cells #[.slice A0_0 l0_0.length c0_0] 42 (0,0)) (by (with_reducible repeat (first|refine kN ?_ _|refine kD ?_|refine kA ?_ _)); exact BK166.out) hb)
     have n1_:=Aside0.mk (kB (g:=gb167) (o:=.cells #[.int .i64 0,.int .i64 0,.int .i64 0,.int .i64 0] 50 (0,0)) (by (with_reducible repeat (first|refine kN ?_ _|refine kD ?_|refine kA ?_ _)); exact BK167.out) hb)
     have n2_:=Aside0.mk (below_step (by repeat (first|(with_reducible first|exact HB.out|apply bA|apply bD|apply bE|refine bS ?_ GE166.out|refine bS ?_ GE167.out)|exact HB.out)) hb)
     clear BK166
     clear BK167
     clear HB
     have BK166:=n0_
     have BK167:=n1_
     have HB:=n2_
     clear n0_ n1_ n2_
     (try clear hb)
     (try clear hb2)
     (try clear hk)
     (try clear hi)
     refine hK.out _ _ ((kC BK166.out 0).trans rfl) (fun hHeld => ?_)
     clear hK K
     refine norm_ (a':=?_) ?_ ?_
     rotate_left
     ·show Act.put _ (some 21) _ = _
      simp only [Act.put,lS,lZ,lC,i64_w,i32_w]
      rfl
     refine two_ (i:=6) (j:=11) (Ni:=some 25) (Nj:=some 5) #[tT,tT,tT,tT,tT,tT,tT,fF,fF,fF,fF,fF,fF,fF] #[tT,tT,tT,tT,tT,tT,fF,fF,fF,fF,fF,tT,fF,fF] rfl rfl rfl rfl (two_of HT_.out (by kernel_rfl)) (by decide) (by decide) (fun K hK => ?_) (fun K hK => ?_)
     ·skip
      refine goes_ Try.func62 (by kernel_rfl) rfl #[.agg #[.slice A0_0 l0_0.length c0_0],.int .i64 (wrap64 (a1 + 4))] (by rfl) rfl rfl (by (try simp only [List.map_toArray,List.map_cons,List.map_nil]); first|done|rfl|(simp only [List.length_drop,List.length_take]; rfl)) ?_
      with_reducible refine (impl_ThirdAt.calls kj2 _ _ l0_0 (wrap64 (a1 + 4)) t174 t175 t176 t177 _ ?side1 ?side2 A19.out).mono ?_
      (case side1 => repeat (first|exact (Kd.C_below HR0_0.out HB.out)|(with_reducible refine Kd.C_alloc ?_ _)|(with_reducible refine Kd.C_drewN ?_ _)|(with_reducible refine Kd.C_drew ?_)))
      (case side2 => exact HC0_0.out)
      rintro e w27 ⟨rfl,hb⟩
      refine ⟨_,rfl,?_⟩
      have n0_:=Aside0.mk (kB (g:=gb166) (o:=.cells #[.slice A0_0 l0_0.length c0_0] 42 (0,0)) (by (with_reducible repeat (first|refine kN ?_ _|refine kD ?_|refine kA ?_ _)); exact BK166.out) hb)
      have n1_:=Aside0.mk (kB (g:=gb167) (o:=.cells #[.int .i64 0,.int .i64 0,.int .i64 0,.int .i64 0] 50 (0,0)) (by (with_reducible repeat (first|refine kN ?_ _|refine kD ?_|refine kA ?_ _)); exact BK167.out) hb)
      have n2_:=Aside0.mk (below_step (by repeat (first|(with_reducible first|exact HB.out|apply bA|apply bD|apply bE|refine bS ?_ GE166.out|refine bS ?_ GE167.out)|exact HB.out)) hb)
      clear BK166
      clear BK167
      clear HB
      have BK166:=n0_
      have BK167:=n1_
      have HB:=n2_
      clear n0_ n1_ n2_
      (try clear hb)
      (try clear hb2)
      (try clear hk)
      (try clear hi)
      refine hK.out _ _ ((kC BK166.out 0).trans rfl) (fun hHeld => ?_)
      clear hK K
      refine norm_ (a':=?_) ?_ ?_
      rotate_left
      ·show Act.put _ (some 25) _ = _
       simp only [Act.put,lS,lZ,lC,i64_w,i32_w]
       rfl
      refine two_ (i:=7) (j:=11) (Ni:=some 26) (Nj:=some 5) #[tT,tT,tT,tT,tT,tT,tT,tT,fF,fF,fF,fF,fF,fF] #[tT,tT,tT,tT,tT,tT,tT,fF,fF,fF,fF,tT,fF,fF] rfl rfl rfl rfl (two_of HT_.out (by kernel_rfl)) (by decide) (by decide) (fun K hK => ?_) (fun K hK => ?_)
      ·skip
       refine goes_ Try.func61 (by kernel_rfl) rfl #[.agg #[.int .i64 t170,.int .i64 t171,.int .i64 t172,.int .i64 t173],.agg #[.int .i64 t174,.int .i64 t175,.int .i64 t176,.int .i64 t177]] (by rfl) rfl rfl (by (try simp only [List.map_toArray,List.map_cons,List.map_nil]); first|done|rfl|(simp only [List.length_drop,List.length_take]; rfl)) ?_
       with_reducible refine (impl_AddIntervals.calls kj2 t170 t171 t172 t173 t174 t175 t176 t177 t178 t179 t180 t181 true _ A20.out).mono ?_
       rintro e w28 ⟨rfl,hb⟩
       refine ⟨_,rfl,?_⟩
       have n0_:=Aside0.mk (kB (g:=gb166) (o:=.cells #[.slice A0_0 l0_0.length c0_0] 42 (0,0)) (by (with_reducible repeat (first|refine kN ?_ _|refine kD ?_|refine kA ?_ _)); exact BK166.out) hb)
       have n1_:=Aside0.mk (kB (g:=gb167) (o:=.cells #[.int .i64 0,.int .i64 0,.int .i64 0,.int .i64 0] 50 (0,0)) (by (with_reducible repeat (first|refine kN ?_ _|refine kD ?_|refine kA ?_ _)); exact BK167.out) hb)
       have n2_:=Aside0.mk (below_step (by repeat (first|(with_reducible first|exact HB.out|apply bA|apply bD|apply bE|refine bS ?_ GE166.out|refine bS ?_ GE167.out)|exact HB.out)) hb)
       clear BK166
       clear BK167
       clear HB
       have BK166:=n0_
       have BK167:=n1_
       have HB:=n2_
       clear n0_ n1_ n2_
       (try clear hb)
       (try clear hb2)
       (try clear hk)
       (try clear hi)
       refine hK.out _ _ ((kC BK166.out 0).trans rfl) (fun hHeld => ?_)
       clear hK K
       refine norm_ (a':=?_) ?_ ?_
       rotate_left
       ·show Act.put _ (some 26) _ = _
        simp only [Act.put,lS,lZ,lC,i64_w,i32_w]
        rfl
       refine pure_ (i:=8) (N:=some 18) (v:=?_) (a':=?_) #[tT,tT,tT,tT,tT,tT,tT,tT,tT,fF,fF,fF,fF,fF] rfl rfl (any_of HT_.out (by kernel_rfl)) (fun _ _ _ h => h) (Or.inl ⟨by rfl,?_⟩) ?_ ?_
       rotate_left
       ·intro w'
        go_simp
        first|(with_reducible rfl)|(simp only [Instr.field,go_sem, *]; rfl)
       rotate_left
       ·simp only [Act.put,lS,lZ,lC,i64_w,i32_w]
        rfl
       refine pure_ (i:=9) (N:=some 27) (v:=?_) (a':=?_) #[tT,tT,tT,tT,tT,tT,tT,tT,tT,tT,fF,fF,fF,fF] rfl rfl (any_of HT_.out (by kernel_rfl)) (fun _ _ _ h => h) (Or.inl ⟨by rfl,?_⟩) ?_ ?_
       rotate_left
       ·intro w'
        go_simp
        first|(with_reducible rfl)|(simp only [Instr.field,go_sem, *]; rfl)
       rotate_left
       ·simp only [Act.put,lS,lZ,lC,i64_w,i32_w]
        rfl
       refine pure_ (i:=10) (N:=some 28) (v:=?_) (a':=?_) #[tT,tT,tT,tT,tT,tT,tT,tT,tT,tT,tT,fF,fF,fF] rfl rfl (any_of HT_.out (by kernel_rfl)) (fun _ _ _ h => h) (Or.inl ⟨by rfl,?_⟩) ?_ ?_
       rotate_left
       ·intro w'
        go_simp
        first|(with_reducible rfl)|(simp only [Instr.field,go_sem, *]; rfl)
       rotate_left
       ·simp only [Act.put,lS,lZ,lC,i64_w,i32_w]
        rfl
       refine one_ (i:=11) (N:=some 5) #[tT,tT,tT,tT,tT,tT,tT,tT,tT,tT,tT,tT,fF,fF] rfl rfl (one_of HT_.out (by kernel_rfl)) (by decide) (fun K hK => ?_)
       refine box_step ?hg (N:=5) ?hd (cs:=#[.int .i64 0,.int .i64 0,.int .i64 0,.int .i64 0]) (t:=50) ?hr ?_; (case hd => rfl); (case hg => rfl); (case hr => first|(go_simp; done)|(go_simp; rfl))
       intro gb183 hg w29 hbox hb
       have n0_:=Aside0.mk (kB (g:=gb166) (o:=.cells #[.slice A0_0 l0_0.length c0_0] 42 (0,0)) (by (with_reducible repeat (first|refine kN ?_ _|refine kD ?_|refine kA ?_ _)); exact BK166.out) hb)
       have n1_:=Aside0.mk (kB (g:=gb167) (o:=.cells #[.int .i64 0,.int .i64 0,.int .i64 0,.int .i64 0] 50 (0,0)) (by (with_reducible repeat (first|refine kN ?_ _|refine kD ?_|refine kA ?_ _)); exact BK167.out) hb)
       have n2_:=Aside0.mk (below_step (by repeat (first|(with_reducible first|exact HB.out|apply bA|apply bD|apply bE|refine bS ?_ GE166.out|refine bS ?_ GE167.out)|exact HB.out)) hb)
       have n3_:=Aside0.mk (hbox)
       have n4_:=Aside0.mk ((by rw [hg]; exact (below_size (by repeat (first|(with_reducible first|exact HB.out|apply bA|apply bD|apply bE|refine bS ?_ GE166.out|refine bS ?_ GE167.out)|exact HB.out))) : w.heap.size ≤ gb183))
       have n5_:=Aside0.mk ((by rw [hg]; exact (below_size (by repeat (first|(with_reducible first|exact HB.out|apply bA|apply bD|apply bE|refine bS ?_ GE166.out|refine bS ?_ GE167.out)|exact HB.out))) : w.heap.size ≤ gb183))
       have n6_:=Aside0.mk ((by rw [hg]; exact Nat.ne_of_lt (blk_lt (g:=gb166) (o:=.cells #[.slice A0_0 l0_0.length c0_0] 42 (0,0)) (by (with_reducible repeat (first|refine kN ?_ _|refine kD ?_|refine kA ?_ _)); exact BK166.out)) : gb166 ≠ gb183))
       have n7_:=Aside0.mk ((by rw [hg]; exact Nat.ne_of_gt (blk_lt (g:=gb166) (o:=.cells #[.slice A0_0 l0_0.length c0_0] 42 (0,0)) (by (with_reducible repeat (first|refine kN ?_ _|refine kD ?_|refine kA ?_ _)); exact BK166.out)) : gb183 ≠ gb166))
       have n8_:=Aside0.mk ((by rw [hg]; exact Nat.ne_of_lt (blk_lt (g:=gb167) (o:=.cells #[.int .i64 0,.int .i64 0,.int .i64 0,.int .i64 0] 50 (0,0)) (by (with_reducible repeat (first|refine kN ?_ _|refine kD ?_|refine kA ?_ _)); exact BK167.out)) : gb167 ≠ gb183))
       have n9_:=Aside0.mk ((by rw [hg]; exact Nat.ne_of_gt (blk_lt (g:=gb167) (o:=.cells #[.int .i64 0,.int .i64 0,.int .i64 0,.int .i64 0] 50 (0,0)) (by (with_reducible repeat (first|refine kN ?_ _|refine kD ?_|refine kA ?_ _)); exact BK167.out)) : gb183 ≠ gb167))
       clear BK166
       clear BK167
       clear HB
       have BK166:=n0_
       have BK167:=n1_
       have HB:=n2_
       have BK183:=n3_
       have GW183:=n4_
       have GE183:=n5_
       have NB166_183:=n6_
       have NB183_166:=n7_
       have NB167_183:=n8_
       have NB183_167:=n9_
       clear n0_ n1_ n2_ n3_ n4_ n5_ n6_ n7_ n8_ n9_
       clear hb hbox hg
       refine hK.out _ _ ((kC BK166.out 0).trans rfl) (fun hHeld => ?_)
       clear hK K
       refine norm_ (a':=?_) ?_ ?_
       rotate_left
       ·show Act.put _ (some 5) _ = _
        simp only [Act.put,lS,lZ,lC,i64_w,i32_w]
        rfl
       exact norm_ (by simp only [putAll,Act.put,lS,lZ,lC]) (hCont (gb183) _ ⟨hHeld,(by (with_reducible repeat (first|refine kN ?_ _|refine kD ?_|refine kA ?_ _)); exact BK166.out),(by (with_reducible repeat (first|refine kN ?_ _|refine kD ?_|refine kA ?_ _)); exact BK167.out),(by (with_reducible repeat (first|refine kN ?_ _|refine kD ?_|refine kA ?_ _)); exact BK183.out),GW183.out,GE183.out,NB166_183.out,NB183_166.out,NB167_183.out,NB183_167.out,(by repeat (first|(with_reducible first|exact HB.out|apply bA|apply bD|apply bE|refine bS ?_ GE166.out|refine bS ?_ GE167.out|refine bS ?_ GE183.out)|exact HB.out))⟩)
      ·skip
       refine box_step ?hg (N:=5) ?hd (cs:=#[.int .i64 0,.int .i64 0,.int .i64 0,.int .i64 0]) (t:=50) ?hr ?_; (case hd => rfl); (case hg => rfl); (case hr => first|(go_simp; done)|(go_simp; rfl))
       intro gb183 hg w28 hbox hb
       have n0_:=Aside0.mk (kB (g:=gb166) (o:=.cells #[.slice A0_0 l0_0.length c0_0] 42 (0,0)) (by (with_reducible repeat (first|refine kN ?_ _|refine kD ?_|refine kA ?_ _)); exact BK166.out) hb)
       have n1_:=Aside0.mk (kB (g:=gb167) (o:=.cells #[.int .i64 0,.int .i64 0,.int .i64 0,.int .i64 0] 50 (0,0)) (by (with_reducible repeat (first|refine kN ?_ _|refine kD ?_|refine kA ?_ _)); exact BK167.out) hb)
       have n2_:=Aside0.mk (below_step (by repeat (first|(with_reducible first|exact HB.out|apply bA|apply bD|apply bE|refine bS ?_ GE166.out|refine bS ?_ GE167.out)|exact HB.out)) hb)
       have n3_:=Aside0.mk (hbox)
       have n4_:=Aside0.mk ((by rw [hg]; exact (below_size (by repeat (first|(with_reducible first|exact HB.out|apply bA|apply bD|apply bE|refine bS ?_ GE166.out|refine bS ?_ GE167.out)|exact HB.out))) : w.heap.size ≤ gb183))
       have n5_:=Aside0.mk ((by rw [hg]; exact (below_size (by repeat (first|(with_reducible first|exact HB.out|apply bA|apply bD|apply bE|refine bS ?_ GE166.out|refine bS ?_ GE167.out)|exact HB.out))) : w.heap.size ≤ gb183))
       have n6_:=Aside0.mk ((by rw [hg]; exact Nat.ne_of_lt (blk_lt (g:=gb166) (o:=.cells #[.slice A0_0 l0_0.length c0_0] 42 (0,0)) (by (with_reducible repeat (first|refine kN ?_ _|refine kD ?_|refine kA ?_ _)); exact BK166.out)) : gb166 ≠ gb183))
       have n7_:=Aside0.mk ((by rw [hg]; exact Nat.ne_of_gt (blk_lt (g:=gb166) (o:=.cells #[.slice A0_0 l0_0.length c0_0] 42 (0,0)) (by (with_reducible repeat (first|refine kN ?_ _|refine kD ?_|refine kA ?_ _)); exact BK166.out)) : gb183 ≠ gb166))
       have n8_:=Aside0.mk ((by rw [hg]; exact Nat.ne_of_lt (blk_lt (g:=gb167) (o:=.cells #[.int .i64 0,.int .i64 0,.int .i64 0,.int .i64 0] 50 (0,0)) (by (with_reducible repeat (first|refine kN ?_ _|refine kD ?_|refine kA ?_ _)); exact BK167.out)) : gb167 ≠ gb183))
       have n9_:=Aside0.mk ((by rw [hg]; exact Nat.ne_of_gt (blk_lt (g:=gb167) (o:=.cells #[.int .i64 0,.int .i64 0,.int .i64 0,.int .i64 0] 50 (0,0)) (by (with_reducible repeat (first|refine kN ?_ _|refine kD ?_|refine kA ?_ _)); exact BK167.out)) : gb183 ≠ gb167))
       clear BK166
       clear BK167
       clear HB
       have BK166:=n0_
       have BK167:=n1_
       have HB:=n2_
       have BK183:=n3_
       have GW183:=n4_
       have GE183:=n5_
       have NB166_183:=n6_
       have NB183_166:=n7_
       have NB167_183:=n8_
       have NB183_167:=n9_
       clear n0_ n1_ n2_ n3_ n4_ n5_ n6_ n7_ n8_ n9_
       clear hb hbox hg
       refine hK.out _ _ ((kC BK166.out 0).trans rfl) (fun hHeld => ?_)
       clear hK K
       refine norm_ (a':=?_) ?_ ?_
       rotate_left
       ·show Act.put _ (some 5) _ = _
        simp only [Act.put,lS,lZ,lC,i64_w,i32_w]
        rfl
       refine one_ (i:=7) (N:=some 26) #[tT,tT,tT,tT,tT,tT,tT,tT,fF,fF,fF,tT,fF,fF] rfl rfl (one_of HT_.out (by kernel_rfl)) (by decide) (fun K hK => ?_)
       refine goes_ Try.func61 (by kernel_rfl) rfl #[.agg #[.int .i64 t170,.int .i64 t171,.int .i64 t172,.int .i64 t173],.agg #[.int .i64 t174,.int .i64 t175,.int .i64 t176,.int .i64 t177]] (by rfl) rfl rfl (by (try simp only [List.map_toArray,List.map_cons,List.map_nil]); first|done|rfl|(simp only [List.length_drop,List.length_take]; rfl)) ?_
       with_reducible refine (impl_AddIntervals.calls kj2 t170 t171 t172 t173 t174 t175 t176 t177 t178 t179 t180 t181 true _ A20.out).mono ?_
       rintro e w29 ⟨rfl,hb⟩
       refine ⟨_,rfl,?_⟩
       have n0_:=Aside0.mk (kB (g:=gb166) (o:=.cells #[.slice A0_0 l0_0.length c0_0] 42 (0,0)) (by (with_reducible repeat (first|refine kN ?_ _|refine kD ?_|refine kA ?_ _)); exact BK166.out) hb)
       have n1_:=Aside0.mk (kB (g:=gb167) (o:=.cells #[.int .i64 0,.int .i64 0,.int .i64 0,.int .i64 0] 50 (0,0)) (by (with_reducible repeat (first|refine kN ?_ _|refine kD ?_|refine kA ?_ _)); exact BK167.out) hb)
       have n2_:=Aside0.mk (kB (g:=gb183) (o:=.cells #[.int .i64 0,.int .i64 0,.int .i64 0,.int .i64 0] 50 (0,0)) (by (with_reducible repeat (first|refine kN ?_ _|refine kD ?_|refine kA ?_ _)); exact BK183.out) hb)
       have n3_:=Aside0.mk (below_step (by repeat (first|(with_reducible first|exact HB.out|apply bA|apply bD|apply bE|refine bS ?_ GE166.out|refine bS ?_ GE167.out|refine bS ?_ GE183.out)|exact HB.out)) hb)
       clear BK166
       clear BK167
       clear BK183
       clear HB
       have BK166:=n0_
       have BK167:=n1_
       have BK183:=n2_
       have HB:=n3_
       clear n0_ n1_ n2_ n3_
       (try clear hb)
       (try clear hb2)
       (try clear hk)
       (try clear hi)
       refine hK.out _ _ ((kC BK166.out 0).trans rfl) (fun hHeld => ?_)
       clear hK K
       refine norm_ (a':=?_) ?_ ?_
       rotate_left
       ·show Act.put _ (some 26) _ = _
        simp only [Act.put,lS,lZ,lC,i64_w,i32_w]
        rfl
       refine pure_ (i:=8) (N:=some 18) (v:=?_) (a':=?_) #[tT,tT,tT,tT,tT,tT,tT,tT,tT,fF,fF,tT,fF,fF] rfl rfl (any_of HT_.out (by kernel_rfl)) (fun _ _ _ h => h) (Or.inl ⟨by rfl,?_⟩) ?_ ?_
       rotate_left
       ·intro w'
        go_simp
        first|(with_reducible rfl)|(simp only [Instr.field,go_sem, *]; rfl)
       rotate_left
       ·simp only [Act.put,lS,lZ,lC,i64_w,i32_w]
        rfl
       refine pure_ (i:=9) (N:=some 27) (v:=?_) (a':=?_) #[tT,tT,tT,tT,tT,tT,tT,tT,tT,tT,fF,tT,fF,fF] rfl rfl (any_of HT_.out (by kernel_rfl)) (fun _ _ _ h => h) (Or.inl ⟨by rfl,?_⟩) ?_ ?_
       rotate_left
       ·intro w'
        go_simp
        first|(with_reducible rfl)|(simp only [Instr.field,go_sem, *]; rfl)
       rotate_left
       ·simp only [Act.put,lS,lZ,lC,i64_w,i32_w]
        rfl
       refine pure_ (i:=10) (N:=some 28) (v:=?_) (a':=?_) #[tT,tT,tT,tT,tT,tT,tT,tT,tT,tT,tT,tT,fF,fF] rfl rfl (any_of HT_.out (by kernel_rfl)) (fun _ _ _ h => h) (Or.inl ⟨by rfl,?_⟩) ?_ ?_
       rotate_left
       ·intro w'
        go_simp
        first|(with_reducible rfl)|(simp only [Instr.field,go_sem, *]; rfl)
       rotate_left
       ·simp only [Act.put,lS,lZ,lC,i64_w,i32_w]
        rfl
       exact norm_ (by simp only [putAll,Act.put,lS,lZ,lC]) (hCont (gb183) _ ⟨hHeld,(by (with_reducible repeat (first|refine kN ?_ _|refine kD ?_|refine kA ?_ _)); exact BK166.out),(by (with_reducible repeat (first|refine kN ?_ _|refine kD ?_|refine kA ?_ _)); exact BK167.out),(by (with_reducible repeat (first|refine kN ?_ _|refine kD ?_|refine kA ?_ _)); exact BK183.out),GW183.out,GE183.out,NB166_183.out,NB183_166.out,NB167_183.out,NB183_167.out,(by repeat (first|(with_reducible first|exact HB.out|apply bA|apply bD|apply bE|refine bS ?_ GE166.out|refine bS ?_ GE167.out|refine bS ?_ GE183.out)|exact HB.out))⟩)
     ·skip
      refine box_step ?hg (N:=5) ?hd (cs:=#[.int .i64 0,.int .i64 0,.int .i64 0,.int .i64 0]) (t:=50) ?hr ?_; (case hd => rfl); (case hg => rfl); (case hr => first|(go_simp; done)|(go_simp; rfl))
      intro gb183 hg w27 hbox hb
      have n0_:=Aside0.mk (kB (g:=gb166) (o:=.cells #[.slice A0_0 l0_0.length c0_0] 42 (0,0)) (by (with_reducible repeat (first|refine kN ?_ _|refine kD ?_|refine kA ?_ _)); exact BK166.out) hb)
      have n1_:=Aside0.mk (kB (g:=gb167) (o:=.cells #[.int .i64 0,.int .i64 0,.int .i64 0,.int .i64 0] 50 (0,0)) (by (with_reducible repeat (first|refine kN ?_ _|refine kD ?_|refine kA ?_ _)); exact BK167.out) hb)
      have n2_:=Aside0.mk (below_step (by repeat (first|(with_reducible first|exact HB.out|apply bA|apply bD|apply bE|refine bS ?_ GE166.out|refine bS ?_ GE167.out)|exact HB.out)) hb)
      have n3_:=Aside0.mk (hbox)
      have n4_:=Aside0.mk ((by rw [hg]; exact (below_size (by repeat (first|(with_reducible first|exact HB.out|apply bA|apply bD|apply bE|refine bS ?_ GE166.out|refine bS ?_ GE167.out)|exact HB.out))) : w.heap.size ≤ gb183))
      have n5_:=Aside0.mk ((by rw [hg]; exact (below_size (by repeat (first|(with_reducible first|exact HB.out|apply bA|apply bD|apply bE|refine bS ?_ GE166.out|refine bS ?_ GE167.out)|exact HB.out))) : w.heap.size ≤ gb183))
      have n6_:=Aside0.mk ((by rw [hg]; exact Nat.ne_of_lt (blk_lt (g:=gb166) (o:=.cells #[.slice A0_0 l0_0.length c0_0] 42 (0,0)) (by (with_reducible repeat (first|refine kN ?_ _|refine kD ?_|refine kA ?_ _)); exact BK166.out)) : gb166 ≠ gb183))
      have n7_:=Aside0.mk ((by rw [hg]; exact Nat.ne_of_gt (blk_lt (g:=gb166) (o:=.cells #[.slice A0_0 l0_0.length c0_0] 42 (0,0)) (by (with_reducible repeat (first|refine kN ?_ _|refine kD ?_|refine kA ?_ _)); exact BK166.out)) : gb183 ≠ gb166))
      have n8_:=Aside0.mk ((by rw [hg]; exact Nat.ne_of_lt (blk_lt (g:=gb167) (o:=.cells #[.int .i64 0,.int .i64 0,.int .i64 0,.int .i64 0] 50 (0,0)) (by (with_reducible repeat (first|refine kN ?_ _|refine kD ?_|refine kA ?_ _)); exact BK167.out)) : gb167 ≠ gb183))
      have n9_:=Aside0.mk ((by rw [hg]; exact Nat.ne_of_gt (blk_lt (g:=gb167) (o:=.cells #[.int .i64 0,.int .i64 0,.int .i64 0,.int .i64 0] 50 (0,0)) (by (with_reducible repeat (first|refine kN ?_ _|refine kD ?_|refine kA ?_ _)); exact BK167.out)) : gb183 ≠ gb167))
      clear BK166
      clear BK167
      clear HB
      have BK166:=n0_
      have BK167:=n1_
      have HB:=n2_
      have BK183:=n3_
      have GW183:=n4_
      have GE183:=n5_
      have NB166_183:=n6_
      have NB183_166:=n7_
      have NB167_183:=n8_
      have NB183_167:=n9_
      clear n0_ n1_ n2_ n3_ n4_ n5_ n6_ n7_ n8_ n9_
      clear hb hbox hg
      refine hK.out _ _ ((kC BK166.out 0).trans rfl) (fun hHeld => ?_)
      clear hK K
      refine norm_ (a':=?_) ?_ ?_
      rotate_left
      ·show Act.put _ (some 5) _ = _
       simp only [Act.put,lS,lZ,lC,i64_w,i32_w]
       rfl
      refine one_ (i:=6) (N:=some 25) #[tT,tT,tT,tT,tT,tT,tT,fF,fF,fF,fF,tT,fF,fF] rfl rfl (one_of HT_.out (by kernel_rfl)) (by decide) (fun K hK => ?_)
      refine goes_ Try.func62 (by kernel_rfl) rfl #[.agg #[.slice A0_0 l0_0.length c0_0],.int .i64 (wrap64 (a1 + 4))] (by rfl) rfl rfl (by (try simp only [List.map_toArray,List.map_cons,List.map_nil]); first|done|rfl|(simp only [List.length_drop,List.length_take]; rfl)) ?_
      with_reducible refine (impl_ThirdAt.calls kj2 _ _ l0_0 (wrap64 (a1 + 4)) t174 t175 t176 t177 _ ?side1 ?side2 A19.out).mono ?_
      (case side1 => repeat (first|exact (Kd.C_below HR0_0.out HB.out)|(with_reducible refine Kd.C_alloc ?_ _)|(with_reducible refine Kd.C_drewN ?_ _)|(with_reducible refine Kd.C_drew ?_)))
      (case side2 => exact HC0_0.out)
      rintro e w28 ⟨rfl,hb⟩
      refine ⟨_,rfl,?_⟩
      have n0_:=Aside0.mk (kB (g:=gb166) (o:=.cells #[.slice A0_0 l0_0.length c0_0] 42 (0,0)) (by (with_reducible repeat (first|refine kN ?_ _|refine kD ?_|refine kA ?_ _)); exact BK166.out) hb)
      have n1_:=Aside0.mk (kB (g:=gb167) (o:=.cells #[.int .i64 0,.int .i64 0,.int .i64 0,.int .i64 0] 50 (0,0)) (by (with_reducible repeat (first|refine kN ?_ _|refine kD ?_|refine kA ?_ _)); exact BK167.out) hb)
      have n2_:=Aside0.mk (kB (g:=gb183) (o:=.cells #[.int .i64 0,.int .i64 0,.int .i64 0,.int .i64 0] 50 (0,0)) (by (with_reducible repeat (first|refine kN ?_ _|refine kD ?_|refine kA ?_ _)); exact BK183.out) hb)
      have n3_:=Aside0.mk (below_step (by repeat (first|(with_reducible first|exact HB.out|apply bA|apply bD|apply bE|refine bS ?_ GE166.out|refine bS ?_ GE167.out|refine bS ?_ GE183.out)|exact HB.out)) hb)
      clear BK166
      clear BK167
      clear BK183
      clear HB
      have BK166:=n0_
      have BK167:=n1_
      have BK183:=n2_
      have HB:=n3_
      clear n0_ n1_ n2_ n3_
      (try clear hb)
      (try clear hb2)
      (try clear hk)
      (try clear hi)
      refine hK.out _ _ ((kC BK166.out 0).trans rfl) (fun hHeld => ?_)
      clear hK K
      refine norm_ (a':=?_) ?_ ?_
      rotate_left
      ·show Act.put _ (some 25) _ = _
       simp only [Act.put,lS,lZ,lC,i64_w,i32_w]
       rfl
      refine one_ (i:=7) (N:=some 26) #[tT,tT,tT,tT,tT,tT,tT,tT,fF,fF,fF,tT,fF,fF] rfl rfl (one_of HT_.out (by kernel_rfl)) (by decide) (fun K hK => ?_)
      refine goes_ Try.func61 (by kernel_rfl) rfl #[.agg #[.int .i64 t170,.int .i64 t171,.int .i64 t172,.int .i64 t173],.agg #[.int .i64 t174,.int .i64 t175,.int .i64 t176,.int .i64 t177]] (by rfl) rfl rfl (by (try simp only [List.map_toArray,List.map_cons,List.map_nil]); first|done|rfl|(simp only [List.length_drop,List.length_take]; rfl)) ?_
      with_reducible refine (impl_AddIntervals.calls kj2 t170 t171 t172 t173 t174 t175 t176 t177 t178 t179 t180 t181 true _ A20.out).mono ?_
      rintro e w29 ⟨rfl,hb⟩
      refine ⟨_,rfl,?_⟩
      have n0_:=Aside0.mk (kB (g:=gb166) (o:=.cells #[.slice A0_0 l0_0.length c0_0] 42 (0,0)) (by (with_reducible repeat (first|refine kN ?_ _|refine kD ?_|refine kA ?_ _)); exact BK166.out) hb)
      have n1_:=Aside0.mk (kB (g:=gb167) (o:=.cells #[.int .i64 0,.int .i64 0,.int .i64 0,.int .i64 0] 50 (0,0)) (by (with_reducible repeat (first|refine kN ?_ _|refine kD ?_|refine kA ?_ _)); exact BK167.out) hb)
      have n2_:=Aside0.mk (kB (g:=gb183) (o:=.cells #[.int .i64 0,.int .i64 0,.int .i64 0,.int .i64 0] 50 (0,0)) (by (with_reducible repeat (first|refine kN ?_ _|refine kD ?_|refine kA ?_ _)); exact BK183.out) hb)
      have n3_:=Aside0.mk (below_step (by repeat (first|(with_reducible first|exact HB.out|apply bA|apply bD|apply bE|refine bS ?_ GE166.out|refine bS ?_ GE167.out|refine bS ?_ GE183.out)|exact HB.out)) hb)
      clear BK166
      clear BK167
      clear BK183
      clear HB
      have BK166:=n0_
      have BK167:=n1_
      have BK183:=n2_
      have HB:=n3_
      clear n0_ n1_ n2_ n3_
      (try clear hb)
      (try clear hb2)
      (try clear hk)
      (try clear hi)
      refine hK.out _ _ ((kC BK166.out 0).trans rfl) (fun hHeld => ?_)
      clear hK K
      refine norm_ (a':=?_) ?_ ?_
      rotate_left
      ·show Act.put _ (some 26) _ = _
       simp only [Act.put,lS,lZ,lC,i64_w,i32_w]
       rfl
      refine pure_ (i:=8) (N:=some 18) (v:=?_) (a':=?_) #[tT,tT,tT,tT,tT,tT,tT,tT,tT,fF,fF,tT,fF,fF] rfl rfl (any_of HT_.out (by kernel_rfl)) (fun _ _ _ h => h) (Or.inl ⟨by rfl,?_⟩) ?_ ?_
      rotate_left
      ·intro w'
       go_simp
       first|(with_reducible rfl)|(simp only [Instr.field,go_sem, *]; rfl)
      rotate_left
      ·simp only [Act.put,lS,lZ,lC,i64_w,i32_w]
       rfl
      refine pure_ (i:=9) (N:=some 27) (v:=?_) (a':=?_) #[tT,tT,tT,tT,tT,tT,tT,tT,tT,tT,fF,tT,fF,fF] rfl rfl (any_of HT_.out (by kernel_rfl)) (fun _ _ _ h => h) (Or.inl ⟨by rfl,?_⟩) ?_ ?_
      rotate_left
      ·intro w'
       go_simp
       first|(with_reducible rfl)|(simp only [Instr.field,go_sem, *]; rfl)
      rotate_left
      ·simp only [Act.put,lS,lZ,lC,i64_w,i32_w]
       rfl
      refine pure_ (i:=10) (N:=some 28) (v:=?_) (a':=?_) #[tT,tT,tT,tT,tT,tT,tT,tT,tT,tT,tT,tT,fF,fF] rfl rfl (any_of HT_.out (by kernel_rfl)) (fun _ _ _ h => h) (Or.inl ⟨by rfl,?_⟩) ?_ ?_
      rotate_left
      ·intro w'
       go_simp
       first|(with_reducible rfl)|(simp only [Instr.field,go_sem, *]; rfl)
      rotate_left
      ·simp only [Act.put,lS,lZ,lC,i64_w,i32_w]
       rfl
      exact norm_ (by simp only [putAll,Act.put,lS,lZ,lC]) (hCont (gb183) _ ⟨hHeld,(by (with_reducible repeat (first|refine kN ?_ _|refine kD ?_|refine kA ?_ _)); exact BK166.out),(by (with_reducible repeat (first|refine kN ?_ _|refine kD ?_|refine kA ?_ _)); exact BK167.out),(by (with_reducible repeat (first|refine kN ?_ _|refine kD ?_|refine kA ?_ _)); exact BK183.out),GW183.out,GE183.out,NB166_183.out,NB183_166.out,NB167_183.out,NB183_167.out,(by repeat (first|(with_reducible first|exact HB.out|apply bA|apply bD|apply bE|refine bS ?_ GE166.out|refine bS ?_ GE167.out|refine bS ?_ GE183.out)|exact HB.out))⟩)
    ·skip
     refine box_step ?hg (N:=5) ?hd (cs:=#[.int .i64 0,.int .i64 0,.int .i64 0,.int .i64 0]) (t:=50) ?hr ?_; (case hd => rfl); (case hg => rfl); (case hr => first|(go_simp; done)|(go_simp; rfl))
     intro gb183 hg w26 hbox hb
     have n0_:=Aside0.mk (kB (g:=gb166) (o:=.cells #[.slice A0_0 l0_0.length c0_0] 42 (0,0)) (by (with_reducible repeat (first|refine kN ?_ _|refine kD ?_|refine kA ?_ _)); exact BK166.out) hb)
     have n1_:=Aside0.mk (kB (g:=gb167) (o:=.cells #[.int .i64 0,.int .i64 0,.int .i64 0,.int .i64 0] 50 (0,0)) (by (with_reducible repeat (first|refine kN ?_ _|refine kD ?_|refine kA ?_ _)); exact BK167.out) hb)
     have n2_:=Aside0.mk (below_step (by repeat (first|(with_reducible first|exact HB.out|apply bA|apply bD|apply bE|refine bS ?_ GE166.out|refine bS ?_ GE167.out)|exact HB.out)) hb)
     have n3_:=Aside0.mk (hbox)
     have n4_:=Aside0.mk ((by rw [hg]; exact (below_size (by repeat (first|(with_reducible first|exact HB.out|apply bA|apply bD|apply bE|refine bS ?_ GE166.out|refine bS ?_ GE167.out)|exact HB.out))) : w.heap.size ≤ gb183))
     have n5_:=Aside0.mk ((by rw [hg]; exact (below_size (by repeat (first|(with_reducible first|exact HB.out|apply bA|apply bD|apply bE|refine bS ?_ GE166.out|refine bS ?_ GE167.out)|exact HB.out))) : w.heap.size ≤ gb183))
     have n6_:=Aside0.mk ((by rw [hg]; exact Nat.ne_of_lt (blk_lt (g:=gb166) (o:=.cells #[.slice A0_0 l0_0.length c0_0] 42 (0,0)) (by (with_reducible repeat (first|refine kN ?_ _|refine kD ?_|refine kA ?_ _)); exact BK166.out)) : gb166 ≠ gb183))
     have n7_:=Aside0.mk ((by rw [hg]; exact Nat.ne_of_gt (blk_lt (g:=gb166) (o:=.cells #[.slice A0_0 l0_0.length c0_0] 42 (0,0)) (by (with_reducible repeat (first|refine kN ?_ _|refine kD ?_|refine kA ?_ _)); exact BK166.out)) : gb183 ≠ gb166))
     have n8_:=Aside0.mk ((by rw [hg]; exact Nat.ne_of_lt (blk_lt (g:=gb167) (o:=.cells #[.int .i64 0,.int .i64 0,.int .i64 0,.int .i64 0] 50 (0,0)) (by (with_reducible repeat (first|refine kN ?_ _|refine kD ?_|refine kA ?_ _)); exact BK167.out)) : gb167 ≠ gb183))
     have n9_:=Aside0.mk ((by rw [hg]; exact Nat.ne_of_gt (blk_lt (g:=gb167) (o:=.cells #[.int .i64 0,.int .i64 0,.int .i64 0,.int .i64 0] 50 (0,0)) (by (with_reducible repeat (first|refine kN ?_ _|refine kD ?_|refine kA ?_ _)); exact BK167.out)) : gb183 ≠ gb167))
     clear BK166
     clear BK167
     clear HB
     have BK166:=n0_
     have BK167:=n1_
     have HB:=n2_
     have BK183:=n3_
     have GW183:=n4_
     have GE183:=n5_
     have NB166_183:=n6_
     have NB183_166:=n7_
     have NB167_183:=n8_
     have NB183_167:=n9_
     clear n0_ n1_ n2_ n3_ n4_ n5_ n6_ n7_ n8_ n9_
     clear hb hbox hg
     refine hK.out _ _ ((kC BK166.out 0).trans rfl) (fun hHeld => ?_)
     clear hK K
     refine norm_ (a':=?_) ?_ ?_
     rotate_left
     ·show Act.put _ (some 5) _ = _
      simp only [Act.put,lS,lZ,lC,i64_w,i32_w]
      rfl
     refine one_ (i:=2) (N:=some 21) #[tT,tT,tT,tT,tT,tT,fF,fF,fF,fF,fF,tT,fF,fF] rfl rfl (one_of HT_.out (by kernel_rfl)) (by decide) (fun K hK => ?_)
     refine goes_ Try.func62 (by kernel_rfl) rfl #[.agg #[.slice A0_0 l0_0.length c0_0],.int .i64 a1] (by rfl) rfl rfl (by (try simp only [List.map_toArray,List.map_cons,List.map_nil]); first|done|rfl|(simp only [List.length_drop,List.length_take]; rfl)) ?_
     with_reducible refine (impl_ThirdAt.calls kj2 _ _ l0_0 a1 t170 t171 t172 t173 _ ?side1 ?side2 A18.out).mono ?_
     (case side1 => repeat (first|exact (Kd.C_below HR0_0.out HB.out)|(with_reducible refine Kd.C_alloc ?_ _)|(with_reducible refine Kd.C_drewN ?_ _)|(with_reducible refine Kd.C_drew ?_)))
     (case side2 => exact HC0_0.out)
     rintro e w27 ⟨rfl,hb⟩
     refine ⟨_,rfl,?_⟩
     have n0_:=Aside0.mk (kB (g:=gb166) (o:=.cells #[.slice A0_0 l0_0.length c0_0] 42 (0,0)) (by (with_reducible repeat (first|refine kN ?_ _|refine kD ?_|refine kA ?_ _)); exact BK166.out) hb)
     have n1_:=Aside0.mk (kB (g:=gb167) (o:=.cells #[.int .i64 0,.int .i64 0,.int .i64 0,.int .i64 0] 50 (0,0)) (by (with_reducible repeat (first|refine kN ?_ _|refine kD ?_|refine kA ?_ _)); exact BK167.out) hb)
     have n2_:=Aside0.mk (kB (g:=gb183) (o:=.cells #[.int .i64 0,.int .i64 0,.int .i64 0,.int .i64 0] 50 (0,0)) (by (with_reducible repeat (first|refine kN ?_ _|refine kD ?_|refine kA ?_ _)); exact BK183.out) hb)
     have n3_:=Aside0.mk (below_step (by repeat (first|(with_reducible first|exact HB.out|apply bA|apply bD|apply bE|refine bS ?_ GE166.out|refine bS ?_ GE167.out|refine bS ?_ GE183.out)|exact HB.out)) hb)
     clear BK166
     clear BK167
     clear BK183
     clear HB
     have BK166:=n0_
     have BK167:=n1_
     have BK183:=n2_
     have HB:=n3_
     clear n0_ n1_ n2_ n3_
     (try clear hb)
     (try clear hb2)
     (try clear hk)
     (try clear hi)
     refine hK.out _ _ ((kC BK166.out 0).trans rfl) (fun hHeld => ?_)
     clear hK K
     refine norm_ (a':=?_) ?_ ?_
     rotate_left
     ·show Act.put _ (some 21) _ = _
      simp only [Act.put,lS,lZ,lC,i64_w,i32_w]
      rfl
     refine one_ (i:=6) (N:=some 25) #[tT,tT,tT,tT,tT,tT,tT,fF,fF,fF,fF,tT,fF,fF] rfl rfl (one_of HT_.out (by kernel_rfl)) (by decide) (fun K hK => ?_)
     refine goes_ Try.func62 (by kernel_rfl) rfl #[.agg #[.slice A0_0 l0_0.length c0_0],.int .i64 (wrap64 (a1 + 4))] (by rfl) rfl rfl (by (try simp only [List.map_toArray,List.map_cons,List.map_nil]); first|done|rfl|(simp only [List.length_drop,List.length_take]; rfl)) ?_
     with_reducible refine (impl_ThirdAt.calls kj2 _ _ l0_0 (wrap64 (a1 + 4)) t174 t175 t176 t177 _ ?side1 ?side2 A19.out).mono ?_
     (case side1 => repeat (first|exact (Kd.C_below HR0_0.out HB.out)|(with_reducible refine Kd.C_alloc ?_ _)|(with_reducible refine Kd.C_drewN ?_ _)|(with_reducible refine Kd.C_drew ?_)))
     (case side2 => exact HC0_0.out)
     rintro e w28 ⟨rfl,hb⟩
     refine ⟨_,rfl,?_⟩
     have n0_:=Aside0.mk (kB (g:=gb166) (o:=.cells #[.slice A0_0 l0_0.length c0_0] 42 (0,0)) (by (with_reducible repeat (first|refine kN ?_ _|refine kD ?_|refine kA ?_ _)); exact BK166.out) hb)
     have n1_:=Aside0.mk (kB (g:=gb167) (o:=.cells #[.int .i64 0,.int .i64 0,.int .i64 0,.int .i64 0] 50 (0,0)) (by (with_reducible repeat (first|refine kN ?_ _|refine kD ?_|refine kA ?_ _)); exact BK167.out) hb)
     have n2_:=Aside0.mk (kB (g:=gb183) (o:=.cells #[.int .i64 0,.int .i64 0,.int .i64 0,.int .i64 0] 50 (0,0)) (by (with_reducible repeat (first|refine kN ?_ _|refine kD ?_|refine kA ?_ _)); exact BK183.out) hb)
     have n3_:=Aside0.mk (below_step (by repeat (first|(with_reducible first|exact HB.out|apply bA|apply bD|apply bE|refine bS ?_ GE166.out|refine bS ?_ GE167.out|refine bS ?_ GE183.out)|exact HB.out)) hb)
     clear BK166
     clear BK167
     clear BK183
     clear HB
     have BK166:=n0_
     have BK167:=n1_
     have BK183:=n2_
     have HB:=n3_
     clear n0_ n1_ n2_ n3_
     (try clear hb)
     (try clear hb2)
     (try clear hk)
     (try clear hi)
     refine hK.out _ _ ((kC BK166.out 0).trans rfl) (fun hHeld => ?_)
     clear hK K
     refine norm_ (a':=?_) ?_ ?_
     rotate_left
     ·show Act.put _ (some 25) _ = _
      simp only [Act.put,lS,lZ,lC,i64_w,i32_w]
      rfl
     refine one_ (i:=7) (N:=some 26) #[tT,tT,tT,tT,tT,tT,tT,tT,fF,fF,fF,tT,fF,fF] rfl rfl (one_of HT_.out (by kernel_rfl)) (by decide) (fun K hK => ?_)
     refine goes_ Try.func61 (by kernel_rfl) rfl #[.agg #[.int .i64 t170,.int .i64 t171,.int .i64 t172,.int .i64 t173],.agg #[.int .i64 t174,.int .i64 t175,.int .i64 t176,.int .i64 t177]] (by rfl) rfl rfl (by (try simp only [List.map_toArray,List.map_cons,List.map_nil]); first|done|rfl|(simp only [List.length_drop,List.length_take]; rfl)) ?_
     with_reducible refine (impl_AddIntervals.calls kj2 t170 t171 t172 t173 t174 t175 t176 t177 t178 t179 t180 t181 true _ A20.out).mono ?_
     rintro e w29 ⟨rfl,hb⟩
     refine ⟨_,rfl,?_⟩
     have n0_:=Aside0.mk (kB (g:=gb166) (o:=.cells #[.slice A0_0 l0_0.length c0_0] 42 (0,0)) (by (with_reducible repeat (first|refine kN ?_ _|refine kD ?_|refine kA ?_ _)); exact BK166.out) hb)
     have n1_:=Aside0.mk (kB (g:=gb167) (o:=.cells #[.int .i64 0,.int .i64 0,.int .i64 0,.int .i64 0] 50 (0,0)) (by (with_reducible repeat (first|refine kN ?_ _|refine kD ?_|refine kA ?_ _)); exact BK167.out) hb)
     have n2_:=Aside0.mk (kB (g:=gb183) (o:=.cells #[.int .i64 0,.int .i64 0,.int .i64 0,.int .i64 0] 50 (0,0)) (by (with_reducible repeat (first|refine kN ?_ _|refine kD ?_|refine kA ?_ _)); exact BK183.out) hb)
     have n3_:=Aside0.mk (below_step (by repeat (first|(with_reducible first|exact HB.out|apply bA|apply bD|apply bE|refine bS ?_ GE166.out|refine bS ?_ GE167.out|refine bS ?_ GE183.out)|exact HB.out)) hb)
     clear BK166
     clear BK167
     clear BK183
     clear HB
     have BK166:=n0_
     have BK167:=n1_
     have BK183:=n2_
     have HB:=n3_
     clear n0_ n1_ n2_ n3_
     (try clear hb)
     (try clear hb2)
     (try clear hk)
     (try clear hi)
     refine hK.out _ _ ((kC BK166.out 0).trans rfl) (fun hHeld => ?_)
     clear hK K
     refine norm_ (a':=?_) ?_ ?_
     rotate_left
     ·show Act.put _ (some 26) _ = _
      simp only [Act.put,lS,lZ,lC,i64_w,i32_w]
      rfl
     refine pure_ (i:=8) (N:=some 18) (v:=?_) (a':=?_) #[tT,tT,tT,tT,tT,tT,tT,tT,tT,fF,fF,tT,fF,fF] rfl rfl (any_of HT_.out (by kernel_rfl)) (fun _ _ _ h => h) (Or.inl ⟨by rfl,?_⟩) ?_ ?_
     rotate_left
     ·intro w'
      go_simp
      first|(with_reducible rfl)|(simp only [Instr.field,go_sem, *]; rfl)
     rotate_left
     ·simp only [Act.put,lS,lZ,lC,i64_w,i32_w]
      rfl
     refine pure_ (i:=9) (N:=some 27) (v:=?_) (a':=?_) #[tT,tT,tT,tT,tT,tT,tT,tT,tT,tT,fF,tT,fF,fF] rfl rfl (any_of HT_.out (by kernel_rfl)) (fun _ _ _ h => h) (Or.inl ⟨by rfl,?_⟩) ?_ ?_
     rotate_left
     ·intro w'
      go_simp
      first|(with_reducible rfl)|(simp only [Instr.field,go_sem, *]; rfl)
     rotate_left
     ·simp only [Act.put,lS,lZ,lC,i64_w,i32_w]
      rfl
     refine pure_ (i:=10) (N:=some 28) (v:=?_) (a':=?_) #[tT,tT,tT,tT,tT,tT,tT,tT,tT,tT,tT,tT,fF,fF] rfl rfl (any_of HT_.out (by kernel_rfl)) (fun _ _ _ h => h) (Or.inl ⟨by rfl,?_⟩) ?_ ?_
     rotate_left
     ·intro w'
      go_simp
      first|(with_reducible rfl)|(simp only [Instr.field,go_sem, *]; rfl)
     rotate_left
     ·simp only [Act.put,lS,lZ,lC,i64_w,i32_w]
      rfl
     exact norm_ (by simp only [putAll,Act.put,lS,lZ,lC]) (hCont (gb183) _ ⟨hHeld,(by (with_reducible repeat (first|refine kN ?_ _|refine kD ?_|refine kA ?_ _)); exact BK166.out),(by (with_reducible repeat (first|refine kN ?_ _|refine kD ?_|refine kA ?_ _)); exact BK167.out),(by (with_reducible repeat (first|refine kN ?_ _|refine kD ?_|refine kA ?_ _)); exact BK183.out),GW183.out,GE183.out,NB166_183.out,NB183_166.out,NB167_183.out,NB183_167.out,(by repeat (first|(with_reducible first|exact HB.out|apply bA|apply bD|apply bE|refine bS ?_ GE166.out|refine bS ?_ GE167.out|refine bS ?_ GE183.out)|exact HB.out))⟩)
   rintro gb183 w30 ⟨hS_,h0_,h1_,h2_,h3_,h4_,h5_,h6_,h7_,h8_,h9_⟩
   have n0_ : Aside0 (w30.heap[gb166]? = some (.cells #[.slice A0_0 l0_0.length c0_0] 42 (0,0))):=⟨h0_⟩
   have n1_ : Aside0 (w30.heap[gb167]? = some (.cells #[.int .i64 0,.int .i64 0,.int .i64 0,.int .i64 0] 50 (0,0))):=⟨h1_⟩
   have n2_ : Aside0 (w30.heap[gb183]? = some (.cells #[.int .i64 0,.int .i64 0,.int .i64 0,.int .i64 0] 50 (0,0))):=⟨h2_⟩
   have n3_ : Aside0 (w.heap.size ≤ gb183):=⟨h3_⟩
   have n4_ : Aside0 (w.heap.size ≤ gb183):=⟨h4_⟩
   have n5_ : Aside0 (gb166 ≠ gb183):=⟨h5_⟩
   have n6_ : Aside0 (gb183 ≠ gb166):=⟨h6_⟩
   have n7_ : Aside0 (gb167 ≠ gb183):=⟨h7_⟩
   have n8_ : Aside0 (gb183 ≠ gb167):=⟨h8_⟩
   have n9_ : Aside0 (Below w.heap.size w w30):=⟨h9_⟩
   clear BK166
   clear BK167
   clear HB
   clear h0_ h1_ h2_ h3_ h4_ h5_ h6_ h7_ h8_ h9_
   have BK166:=n0_
   have BK167:=n1_
   have BK183:=n2_
   have GW183:=n3_
   have GE183:=n4_
   have NB166_183:=n5_
   have NB183_166:=n6_
   have NB167_183:=n7_
   have NB183_167:=n8_
   have HB:=n9_
   clear n0_ n1_ n2_ n3_ n4_ n5_ n6_ n7_ n8_ n9_
   have hHeld : w30.cell? ⟨gb166,0,none⟩ = some (.slice A0_0 l0_0.length c0_0):=hS_
   refine norm_ (a':=?_) ?_ ?_
   rotate_left
   ·simp only [putAll,Act.put,lS,lZ,lC]
    rfl
   refine one_ (i:=12) (N:=none) #[tT,tT,tT,tT,tT,tT,tT,tT,tT,tT,tT,tT,tT,fF] rfl rfl (one_of HT_.out (by kernel_rfl)) (by decide) (fun K hK => ?_)
   have hs31 : w30.cell? ⟨gb183,0,none⟩ = some (.int .i64 0):=(kC BK183.out 0).trans rfl
   have hfs31:=blk_frozen BK183.out 0
   have hns31_0:=NB166_183.out
   have hns31_1:=NB167_183.out
   have hms31_0:=NB183_166.out
   have hms31_1:=NB183_167.out
   have hs32 : w30.cell? ⟨gb183,1,none⟩ = some (.int .i64 0):=(kC BK183.out 1).trans rfl
   have hfs32:=blk_frozen BK183.out 1
   have hns32_0:=NB166_183.out
   have hns32_1:=NB167_183.out
   have hms32_0:=NB183_166.out
   have hms32_1:=NB183_167.out
   have hs33 : w30.cell? ⟨gb183,2,none⟩ = some (.int .i64 0):=(kC BK183.out 2).trans rfl
   have hfs33:=blk_frozen BK183.out 2
   have hns33_0:=NB166_183.out
   have hns33_1:=NB167_183.out
   have hms33_0:=NB183_166.out
   have hms33_1:=NB183_167.out
   have hs34 : w30.cell? ⟨gb183,3,none⟩ = some (.int .i64 0):=(kC BK183.out 3).trans rfl
   have hfs34:=blk_frozen BK183.out 3
   have hns34_0:=NB166_183.out
   have hns34_1:=NB167_183.out
   have hms34_0:=NB183_166.out
   have hms34_1:=NB183_167.out
   refine skip_ (w1:=?_) (by rfl) rfl ?_ ?_
   rotate_left
   ·go_simp
    rfl
   refine hK.out _ _ (((cell_far (p:=⟨gb183,_,none⟩) NB166_183.out _).trans (((cell_far (p:=⟨gb183,_,none⟩) NB166_183.out _).trans (((cell_far (p:=⟨gb183,_,none⟩) NB166_183.out _).trans (((cell_far (p:=⟨gb183,_,none⟩) NB166_183.out _).trans (hHeld))))))))) (fun hHeld => ?_)
   clear hK K
   refine pure_ (i:=13) (N:=some 6) (v:=?_) (a':=?_) #[tT,tT,tT,tT,tT,tT,tT,tT,tT,tT,tT,tT,tT,tT] rfl rfl (any_of HT_.out (by kernel_rfl)) (fun _ _ _ h => h) (Or.inl ⟨by rfl,?_⟩) ?_ ?_
   rotate_left
   ·intro w'
    go_simp
    first|(with_reducible rfl)|(simp only [Instr.field,go_sem, *]; rfl)
   rotate_left
   ·simp only [Act.put,lS,lZ,lC,i64_w,i32_w]
    rfl
   refine done_ (done_of HT_.out (by kernel_rfl)) ?_
   try go_wp2
   have n0_ : Aside0 (((((w30.setCell ⟨gb183,0,none⟩ (.int .i64 t178)).setCell ⟨gb183,1,none⟩ (.int .i64 t179)).setCell ⟨gb183,2,none⟩ (.int .i64 t180)).setCell ⟨gb183,3,none⟩ (.int .i64 t181)).heap[gb166]? = some (.cells #[.slice A0_0 l0_0.length c0_0] 42 (0,0))):=⟨by (with_reducible repeat (first|refine kN ?_ _|refine kD ?_|refine kA ?_ _)); refine blk_far ?_ NB166_183.out _; (with_reducible repeat (first|refine kN ?_ _|refine kD ?_|refine kA ?_ _)); refine blk_far ?_ NB166_183.out _; (with_reducible repeat (first|refine kN ?_ _|refine kD ?_|refine kA ?_ _)); refine blk_far ?_ NB166_183.out _; (with_reducible repeat (first|refine kN ?_ _|refine kD ?_|refine kA ?_ _)); refine blk_far ?_ NB166_183.out _; (with_reducible repeat (first|refine kN ?_ _|refine kD ?_|refine kA ?_ _)); exact BK166.out⟩
   have n1_ : Aside0 (((((w30.setCell ⟨gb183,0,none⟩ (.int .i64 t178)).setCell ⟨gb183,1,none⟩ (.int .i64 t179)).setCell ⟨gb183,2,none⟩ (.int .i64 t180)).setCell ⟨gb183,3,none⟩ (.int .i64 t181)).heap[gb167]? = some (.cells #[.int .i64 0,.int .i64 0,.int .i64 0,.int .i64 0] 50 (0,0))):=⟨by (with_reducible repeat (first|refine kN ?_ _|refine kD ?_|refine kA ?_ _)); refine blk_far ?_ NB167_183.out _; (with_reducible repeat (first|refine kN ?_ _|refine kD ?_|refine kA ?_ _)); refine blk_far ?_ NB167_183.out _; (with_reducible repeat (first|refine kN ?_ _|refine kD ?_|refine kA ?_ _)); refine blk_far ?_ NB167_183.out _; (with_reducible repeat (first|refine kN ?_ _|refine kD ?_|refine kA ?_ _)); refine blk_far ?_ NB167_183.out _; (with_reducible repeat (first|refine kN ?_ _|refine kD ?_|refine kA ?_ _)); exact BK167.out⟩
   have n2_ : Aside0 (((((w30.setCell ⟨gb183,0,none⟩ (.int .i64 t178)).setCell ⟨gb183,1,none⟩ (.int .i64 t179)).setCell ⟨gb183,2,none⟩ (.int .i64 t180)).setCell ⟨gb183,3,none⟩ (.int .i64 t181)).heap[gb183]? = some (.cells #[.int .i64 t178,.int .i64 t179,.int .i64 t180,.int .i64 t181] 50 (0,0))):=⟨by (with_reducible repeat (first|refine kN ?_ _|refine kD ?_|refine kA ?_ _)); refine blk_put (cs:=#[.int .i64 t178,.int .i64 t179,.int .i64 t180,.int .i64 0]) ?_ 3 _ rfl; (with_reducible repeat (first|refine kN ?_ _|refine kD ?_|refine kA ?_ _)); refine blk_put (cs:=#[.int .i64 t178,.int .i64 t179,.int .i64 0,.int .i64 0]) ?_ 2 _ rfl; (with_reducible repeat (first|refine kN ?_ _|refine kD ?_|refine kA ?_ _)); refine blk_put (cs:=#[.int .i64 t178,.int .i64 0,.int .i64 0,.int .i64 0]) ?_ 1 _ rfl; (with_reducible repeat (first|refine kN ?_ _|refine kD ?_|refine kA ?_ _)); refine blk_put (cs:=#[.int .i64 0,.int .i64 0,.int .i64 0,.int .i64 0]) ?_ 0 _ rfl; (with_reducible repeat (first|refine kN ?_ _|refine kD ?_|refine kA ?_ _)); exact BK183.out⟩
   have n3_ : Aside0 (Below w.heap.size w ((((w30.setCell ⟨gb183,0,none⟩ (.int .i64 t178)).setCell ⟨gb183,1,none⟩ (.int .i64 t179)).setCell ⟨gb183,2,none⟩ (.int .i64 t180)).setCell ⟨gb183,3,none⟩ (.int .i64 t181))):=⟨by repeat (first|(with_reducible first|exact HB.out|apply bA|apply bD|apply bE|refine bS ?_ GE166.out|refine bS ?_ GE167.out|refine bS ?_ GE183.out)|exact HB.out)⟩
   (try clear BK166)
   (try clear BK167)
   (try clear BK183)
   (try clear HB)
   generalize ((((w30.setCell ⟨gb183,0,none⟩ (.int .i64 t178)).setCell ⟨gb183,1,none⟩ (.int .i64 t179)).setCell ⟨gb183,2,none⟩ (.int .i64 t180)).setCell ⟨gb183,3,none⟩ (.int .i64 t181)) = w35 at n0_ n1_ n2_ n3_ ⊢
   have BK166:=n0_
   have BK167:=n1_
   have BK183:=n2_
   have HB:=n3_
   clear n0_ n1_ n2_ n3_
   have n0_:=Aside0.mk (kD BK166.out)
   have n1_:=Aside0.mk (kD BK167.out)
   have n2_:=Aside0.mk (kD BK183.out)
   have n3_:=Aside0.mk (bE HB.out)
   clear BK166
   clear BK167
   clear BK183
   clear HB
   have BK166:=n0_
   have BK167:=n1_
   have BK183:=n2_
   have HB:=n3_
   clear n0_ n1_ n2_ n3_
   refine start_ (n:=12) (S:=fun w' => w'.cell? ⟨gb183,0,none⟩ = some (.int .i64 t178) ∧ w'.cell? ⟨gb183,1,none⟩ = some (.int .i64 t179) ∧ w'.cell? ⟨gb183,2,none⟩ = some (.int .i64 t180) ∧ w'.cell? ⟨gb183,3,none⟩ = some (.int .i64 t181) ∧ w'.cell? ⟨gb166,0,none⟩ = some (.slice A0_0 l0_0.length c0_0)) (ds:=[]) #[fF,fF,fF,fF,fF,fF,fF,fF,fF,fF,fF,fF] (by kernel_rfl) rfl rfl ⟨(kC BK183.out 0).trans rfl,(kC BK183.out 1).trans rfl,(kC BK183.out 2).trans rfl,(kC BK183.out 3).trans rfl,(kC BK166.out 0).trans rfl⟩ (fun hHeld => ?_); refine with_tabW impl_GroupSum.tab4 impl_GroupSum.bits4 (fun HT_ HW_ => ?_)
   generalize w35.drew = w36 at BK166 BK167 BK183 HB hHeld ⊢
   refine pure_ (i:=2) (N:=some 32) (v:=?_) (a':=?_) #[fF,fF,tT,fF,fF,fF,fF,fF,fF,fF,fF,fF] rfl rfl (any_of HT_.out (by kernel_rfl)) (fun _ _ _ h => h) (Or.inl ⟨by rfl,?_⟩) ?_ ?_
   rotate_left
   ·intro w'
    go_simp
    first|(with_reducible rfl)|(simp only [Instr.field,go_sem, *]; rfl)
   rotate_left
   ·simp only [Act.put,lS,lZ,lC,i64_w,i32_w]
    rfl
   refine pure_ (i:=3) (N:=some 33) (v:=?_) (a':=?_) #[fF,fF,tT,tT,fF,fF,fF,fF,fF,fF,fF,fF] rfl rfl (any_of HT_.out (by kernel_rfl)) (fun _ _ _ h => h) (Or.inl ⟨by rfl,?_⟩) ?_ ?_
   rotate_left
   ·intro w'
    go_simp
    first|(with_reducible rfl)|(simp only [Instr.field,go_sem, *]; rfl)
   rotate_left
   ·simp only [Act.put,lS,lZ,lC,i64_w,i32_w]
    rfl
   refine take_ (i:=0) (N:=some 30) (v:=?_) (a':=?_) #[tT,fF,tT,tT,fF,fF,fF,fF,fF,fF,fF,fF] rfl rfl (take_ofW HT_.out HW_.out (by kernel_rfl)) (fun _ _ _ h => h) (Or.inl ⟨by rfl,?_⟩) hHeld ?_ ?_
   rotate_left
   ·rintro w' ⟨s0,s1,s2,s3,s4⟩
    go_simp
    first|(with_reducible rfl)|(simp only [Instr.field,go_sem, *]; rfl)
   rotate_left
   ·simp only [Act.put,lS,lZ,lC,i64_w,i32_w]
    rfl
   refine take_ (i:=1) (N:=some 31) (v:=?_) (a':=?_) #[tT,tT,tT,tT,fF,fF,fF,fF,fF,fF,fF,fF] rfl rfl (take_ofW HT_.out HW_.out (by kernel_rfl)) (fun _ _ _ h => h) (Or.inl ⟨by rfl,?_⟩) hHeld ?_ ?_
   rotate_left
   ·rintro w' ⟨s0,s1,s2,s3,s4⟩
    go_simp
    first|(with_reducible rfl)|(simp only [Instr.field,go_sem, *]; rfl)
   rotate_left
   ·simp only [Act.put,lS,lZ,lC,i64_w,i32_w]
    rfl
   refine join_ (σ:=Nat) 2 #[tT,tT,tT,tT,tT,tT,tT,tT,tT,tT,fF,fF] (fun s_ => [(34,.agg #[.int .i64 t184,.int .i64 t185,.int .i64 t186,.int .i64 t187]),(35,.tuple #[.agg #[.int .i64 t188,.int .i64 t189,.int .i64 t190,.int .i64 t191],.bool true]),(7,.pointer (some ⟨s_,0,none⟩)),(29,.tuple #[.agg #[.int .i64 t188,.int .i64 t189,.int .i64 t190,.int .i64 t191],.bool true]),(36,.agg #[.int .i64 t188,.int .i64 t189,.int .i64 t190,.int .i64 t191]),(37,.bool true)]) (fun s_ w' => (w'.cell? ⟨gb183,0,none⟩ = some (.int .i64 t178) ∧ w'.cell? ⟨gb183,1,none⟩ = some (.int .i64 t179) ∧ w'.cell? ⟨gb183,2,none⟩ = some (.int .i64 t180) ∧ w'.cell? ⟨gb183,3,none⟩ = some (.int .i64 t181) ∧ w'.cell? ⟨gb166,0,none⟩ = some (.slice A0_0 l0_0.length c0_0)) ∧ (w'.heap[gb166]? = some (.cells #[.slice A0_0 l0_0.length c0_0] 42 (0,0))) ∧ (w'.heap[gb167]? = some (.cells #[.int .i64 0,.int .i64 0,.int .i64 0,.int .i64 0] 50 (0,0))) ∧ (w'.heap[gb183]? = some (.cells #[.int .i64 t178,.int .i64 t179,.int .i64 t180,.int .i64 t181] 50 (0,0))) ∧ (w'.heap[s_]? = some (.cells #[.int .i64 0,.int .i64 0,.int .i64 0,.int .i64 0] 50 (0,0))) ∧ (w.heap.size ≤ s_) ∧ (w.heap.size ≤ s_) ∧ (gb166 ≠ s_) ∧ (s_ ≠ gb166) ∧ (gb167 ≠ s_) ∧ (s_ ≠ gb167) ∧ (gb183 ≠ s_) ∧ (s_ ≠ gb183) ∧ (Below w.heap.size w w')) ?_ ?_
   rotate_left
   ·intro hCont
    refine two_ (i:=4) (j:=9) (Ni:=some 34) (Nj:=some 7) #[tT,tT,tT,tT,tT,fF,fF,fF,fF,fF,fF,fF] #[tT,tT,tT,tT,fF,fF,fF,fF,fF,tT,fF,fF] rfl rfl rfl rfl (two_of HT_.out (by kernel_rfl)) (by decide) (by decide) (fun K hK => ?_) (fun K hK => ?_)
    ·skip
     refine goes_ Try.func62 (by kernel_rfl) rfl #[.agg #[.slice A0_0 l0_0.length c0_0],.int .i64 (wrap64 (a1 + 8))] (by rfl) rfl rfl (by (try simp only [List.map_toArray,List.map_cons,List.map_nil]); first|done|rfl|(simp only [List.length_drop,List.length_take]; rfl)) ?_
     with_reducible refine (impl_ThirdAt.calls kj2 _ _ l0_0 (wrap64 (a1 + 8)) t184 t185 t186 t187 _ ?side1 ?side2 A21.out).mono ?_
     (case side1 => repeat (first|exact (Kd.C_below HR0_0.out HB.out)|(with_reducible refine Kd.C_alloc ?_ _)|(with_reducible refine Kd.C_drewN ?_ _)|(with_reducible refine Kd.C_drew ?_)))
     (case side2 => exact HC0_0.out)
     rintro e w37 ⟨rfl,hb⟩
     refine ⟨_,rfl,?_⟩
     have n0_:=Aside0.mk (kB (g:=gb166) (o:=.cells #[.slice A0_0 l0_0.length c0_0] 42 (0,0)) (by (with_reducible repeat (first|refine kN ?_ _|refine kD ?_|refine kA ?_ _)); exact BK166.out) hb)
     have n1_:=Aside0.mk (kB (g:=gb167) (o:=.cells #[.int .i64 0,.int .i64 0,.int .i64 0,.int .i64 0] 50 (0,0)) (by (with_reducible repeat (first|refine kN ?_ _|refine kD ?_|refine kA ?_ _)); exact BK167.out) hb)
     have n2_:=Aside0.mk (kB (g:=gb183) (o:=.cells #[.int .i64 t178,.int .i64 t179,.int .i64 t180,.int .i64 t181] 50 (0,0)) (by (with_reducible repeat (first|refine kN ?_ _|refine kD ?_|refine kA ?_ _)); exact BK183.out) hb)
     have n3_:=Aside0.mk (below_step (by repeat (first|(with_reducible first|exact HB.out|apply bA|apply bD|apply bE|refine bS ?_ GE166.out|refine bS ?_ GE167.out|refine bS ?_ GE183.out)|exact HB.out)) hb)
     clear BK166
     clear BK167
     clear BK183
     clear HB
     have BK166:=n0_
     have BK167:=n1_
     have BK183:=n2_
     have HB:=n3_
     clear n0_ n1_ n2_ n3_
     (try clear hb)
     (try clear hb2)
     (try clear hk)
     (try clear hi)
     refine hK.out _ _ ⟨(kC BK183.out 0).trans rfl,(kC BK183.out 1).trans rfl,(kC BK183.out 2).trans rfl,(kC BK183.out 3).trans rfl,(kC BK166.out 0).trans rfl⟩ (fun hHeld => ?_)
     clear hK K
     refine norm_ (a':=?_) ?_ ?_
     rotate_left
     ·show Act.put _ (some 34) _ = _
      simp only [Act.put,lS,lZ,lC,i64_w,i32_w]
      rfl
     refine two_ (i:=5) (j:=9) (Ni:=some 35) (Nj:=some 7) #[tT,tT,tT,tT,tT,tT,fF,fF,fF,fF,fF,fF] #[tT,tT,tT,tT,tT,fF,fF,fF,fF,tT,fF,fF] rfl rfl rfl rfl (two_of HT_.out (by kernel_rfl)) (by decide) (by decide) (fun K hK => ?_) (fun K hK => ?_)
     ·skip
      refine goes_ Try.func61 (by kernel_rfl) rfl #[.agg #[.int .i64 t178,.int .i64 t179,.int .i64 t180,.int .i64 t181],.agg #[.int .i64 t184,.int .i64 t185,.int .i64 t186,.int .i64 t187]] (by rfl) rfl rfl (by (try simp only [List.map_toArray,List.map_cons,List.map_nil]); first|done|rfl|(simp only [List.length_drop,List.length_take]; rfl)) ?_
      with_reducible refine (impl_AddIntervals.calls kj2 t178 t179 t180 t181 t184 t185 t186 t187 t188 t189 t190 t191 true _ A22.out).mono ?_
      rintro e w38 ⟨rfl,hb⟩
      refine ⟨_,rfl,?_⟩
      have n0_:=Aside0.mk (kB (g:=gb166) (o:=.cells #[.slice A0_0 l0_0.length c0_0] 42 (0,0)) (by (with_reducible repeat (first|refine kN ?_ _|refine kD ?_|refine kA ?_ _)); exact BK166.out) hb)
      have n1_:=Aside0.mk (kB (g:=gb167) (o:=.cells #[.int .i64 0,.int .i64 0,.int .i64 0,.int .i64 0] 50 (0,0)) (by (with_reducible repeat (first|refine kN ?_ _|refine kD ?_|refine kA ?_ _)); exact BK167.out) hb)
      have n2_:=Aside0.mk (kB (g:=gb183) (o:=.cells #[.int .i64 t178,.int .i64 t179,.int .i64 t180,.int .i64 t181] 50 (0,0)) (by (with_reducible repeat (first|refine kN ?_ _|refine kD ?_|refine kA ?_ _)); exact BK183.out) hb)
      have n3_:=Aside0.mk (below_step (by repeat (first|(with_reducible first|exact HB.out|apply bA|apply bD|apply bE|refine bS ?_ GE166.out|refine bS ?_ GE167.out|refine bS ?_ GE183.out)|exact HB.out)) hb)
      clear BK166
      clear BK167
      clear BK183
      clear HB
      have BK166:=n0_
      have BK167:=n1_
      have BK183:=n2_
      have HB:=n3_
      clear n0_ n1_ n2_ n3_
      (try clear hb)
      (try clear hb2)
      (try clear hk)
      (try clear hi)
      refine hK.out _ _ ⟨(kC BK183.out 0).trans rfl,(kC BK183.out 1).trans rfl,(kC BK183.out 2).trans rfl,(kC BK183.out 3).trans rfl,(kC BK166.out 0).trans rfl⟩ (fun hHeld => ?_)
      clear hK K
      refine norm_ (a':=?_) ?_ ?_
      rotate_left
      ·show Act.put _ (some 35) _ = _
       simp only [Act.put,lS,lZ,lC,i64_w,i32_w]
       rfl
      refine pure_ (i:=6) (N:=some 29) (v:=?_) (a':=?_) #[tT,tT,tT,tT,tT,tT,tT,fF,fF,fF,fF,fF] rfl rfl (any_of HT_.out (by kernel_rfl)) (fun _ _ _ h => h) (Or.inl ⟨by rfl,?_⟩) ?_ ?_
      rotate_left
      ·intro w'
       go_simp
       first|(with_reducible rfl)|(simp only [Instr.field,go_sem, *]; rfl)
      rotate_left
      ·simp only [Act.put,lS,lZ,lC,i64_w,i32_w]
       rfl
      refine pure_ (i:=7) (N:=some 36) (v:=?_) (a':=?_) #[tT,tT,tT,tT,tT,tT,tT,tT,fF,fF,fF,fF] rfl rfl (any_of HT_.out (by kernel_rfl)) (fun _ _ _ h => h) (Or.inl ⟨by rfl,?_⟩) ?_ ?_
      rotate_left
      ·intro w'
       go_simp
       first|(with_reducible rfl)|(simp only [Instr.field,go_sem, *]; rfl)
      rotate_left
      ·simp only [Act.put,lS,lZ,lC,i64_w,i32_w]
       rfl
      refine pure_ (i:=8) (N:=some 37) (v:=?_) (a':=?_) #[tT,tT,tT,tT,tT,tT,tT,tT,tT,fF,fF,fF] rfl rfl (any_of HT_.out (by kernel_rfl)) (fun _ _ _ h => h) (Or.inl ⟨by rfl,?_⟩) ?_ ?_
      rotate_left
      ·intro w'
       go_simp
       first|(with_reducible rfl)|(simp only [Instr.field,go_sem, *]; rfl)
      rotate_left
      ·simp only [Act.put,lS,lZ,lC,i64_w,i32_w]
       rfl
      refine one_ (i:=9) (N:=some 7) #[tT,tT,tT,tT,tT,tT,tT,tT,tT,tT,fF,fF] rfl rfl (one_of HT_.out (by kernel_rfl)) (by decide) (fun K hK => ?_)
      refine box_step ?hg (N:=7) ?hd (cs:=#[.int .i64 0,.int .i64 0,.int .i64 0,.int .i64 0]) (t:=50) ?hr ?_; (case hd => rfl); (case hg => rfl); (case hr => first|(go_simp; done)|(go_simp; rfl))
      intro gb193 hg w39 hbox hb
      have n0_:=Aside0.mk (kB (g:=gb166) (o:=.cells #[.slice A0_0 l0_0.length c0_0] 42 (0,0)) (by (with_reducible repeat (first|refine kN ?_ _|refine kD ?_|refine kA ?_ _)); exact BK166.out) hb)
      have n1_:=Aside0.mk (kB (g:=gb167) (o:=.cells #[.int .i64 0,.int .i64 0,.int .i64 0,.int .i64 0] 50 (0,0)) (by (with_reducible repeat (first|refine kN ?_ _|refine kD ?_|refine kA ?_ _)); exact BK167.out) hb)
      have n2_:=Aside0.mk (kB (g:=gb183) (o:=.cells #[.int .i64 t178,.int .i64 t179,.int .i64 t180,.int .i64 t181] 50 (0,0)) (by (with_reducible repeat (first|refine kN ?_ _|refine kD ?_|refine kA ?_ _)); exact BK183.out) hb)
      have n3_:=Aside0.mk (below_step (by repeat (first|(with_reducible first|exact HB.out|apply bA|apply bD|apply bE|refine bS ?_ GE166.out|refine bS ?_ GE167.out|refine bS ?_ GE183.out)|exact HB.out)) hb)
      have n4_:=Aside0.mk (hbox)
      have n5_:=Aside0.mk ((by rw [hg]; exact (below_size (by repeat (first|(with_reducible first|exact HB.out|apply bA|apply bD|apply bE|refine bS ?_ GE166.out|refine bS ?_ GE167.out|refine bS ?_ GE183.out)|exact HB.out))) : w.heap.size ≤ gb193))
      have n6_:=Aside0.mk ((by rw [hg]; exact (below_size (by repeat (first|(with_reducible first|exact HB.out|apply bA|apply bD|apply bE|refine bS ?_ GE166.out|refine bS ?_ GE167.out|refine bS ?_ GE183.out)|exact HB.out))) : w.heap.size ≤ gb193))
      have n7_:=Aside0.mk ((by rw [hg]; exact Nat.ne_of_lt (blk_lt (g:=gb166) (o:=.cells #[.slice A0_0 l0_0.length c0_0] 42 (0,0)) (by (with_reducible repeat (first|refine kN ?_ _|refine kD ?_|refine kA ?_ _)); exact BK166.out)) : gb166 ≠ gb193))
      have n8_:=Aside0.mk ((by rw [hg]; exact Nat.ne_of_gt (blk_lt (g:=gb166) (o:=.cells #[.slice A0_0 l0_0.length c0_0] 42 (0,0)) (by (with_reducible repeat (first|refine kN ?_ _|refine kD ?_|refine kA ?_ _)); exact BK166.out)) : gb193 ≠ gb166))
      have n9_:=Aside0.mk ((by rw [hg]; exact Nat.ne_of_lt (blk_lt (g:=gb167) (o:=.cells #[.int .i64 0,.int .i64 0,.int .i64 0,.int .i64 0] 50 (0,0)) (by (with_reducible repeat (first|refine kN ?_ _|refine kD ?_|refine kA ?_ _)); exact BK167.out)) : gb167 ≠ gb193))
      have n10_:=Aside0.mk ((by rw [hg]; exact Nat.ne_of_gt (blk_lt (g:=gb167) (o:=.cells #[.int .i64 0,.int .i64 0,.int .i64 0,.int .i64 0] 50 (0,0)) (by (with_reducible repeat (first|refine kN ?_ _|refine kD ?_|refine kA ?_ _)); exact BK167.out)) : gb193 ≠ gb167))
      have n11_:=Aside0.mk ((by rw [hg]; exact Nat.ne_of_lt (blk_lt (g:=gb183) (o:=.cells #[.int .i64 t178,.int .i64 t179,.int .i64 t180,.int .i64 t181] 50 (0,0)) (by (with_reducible repeat (first|refine kN ?_ _|refine kD ?_|refine kA ?_ _)); exact BK183.out)) : gb183 ≠ gb193))
      have n12_:=Aside0.mk ((by rw [hg]; exact Nat.ne_of_gt (blk_lt (g:=gb183) (o:=.cells #[.int .i64 t178,.int .i64 t179,.int .i64 t180,.int .i64 t181] 50 (0,0)) (by (with_reducible repeat (first|refine kN ?_ _|refine kD ?_|refine kA ?_ _)); exact BK183.out)) : gb193 ≠ gb183))
      clear BK166
      clear BK167
      clear BK183
      clear HB
      have BK166:=n0_
      have BK167:=n1_
      have BK183:=n2_
      have HB:=n3_
      have BK193:=n4_
      have GW193:=n5_
      have GE193:=n6_
      have NB166_193:=n7_
      have NB193_166:=n8_
      have NB167_193:=n9_
      have NB193_167:=n10_
      have NB183_193:=n11_
      have NB193_183:=n12_
      clear n0_ n1_ n2_ n3_ n4_ n5_ n6_ n7_ n8_ n9_ n10_ n11_ n12_
      clear hb hbox hg
      refine hK.out _ _ ⟨(kC BK183.out 0).trans rfl,(kC BK183.out 1).trans rfl,(kC BK183.out 2).trans rfl,(kC BK183.out 3).trans rfl,(kC BK166.out 0).trans rfl⟩ (fun hHeld => ?_)
      clear hK K
      refine norm_ (a':=?_) ?_ ?_
      rotate_left
      ·show Act.put _ (some 7) _ = _
       simp only [Act.put,lS,lZ,lC,i64_w,i32_w]
       rfl
      exact norm_ (by simp only [putAll,Act.put,lS,lZ,lC]) (hCont (gb193) _ ⟨hHeld,(by (with_reducible repeat (first|refine kN ?_ _|refine kD ?_|refine kA ?_ _)); exact BK166.out),(by (with_reducible repeat (first|refine kN ?_ _|refine kD ?_|refine kA ?_ _)); exact BK167.out),(by (with_reducible repeat (first|refine kN ?_ _|refine kD ?_|refine kA ?_ _)); exact BK183.out),(by (with_reducible repeat (first|refine kN ?_ _|refine kD ?_|refine kA ?_ _)); exact BK193.out),GW193.out,GE193.out,NB166_193.out,NB193_166.out,NB167_193.out,NB193_167.out,NB183_193.out,NB193_183.out,(by repeat (first|(with_reducible first|exact HB.out|apply bA|apply bD|apply bE|refine bS ?_ GE166.out|refine bS ?_ GE167.out|refine bS ?_ GE183.out|refine bS ?_ GE193.out)|exact HB.out))⟩)
     ·skip
      refine box_step ?hg (N:=7) ?hd (cs:=#[.int .i64 0,.int .i64 0,.int .i64 0,.int .i64 0]) (t:=50) ?hr ?_; (case hd => rfl); (case hg => rfl); (case hr => first|(go_simp; done)|(go_simp; rfl))
      intro gb193 hg w38 hbox hb
      have n0_:=Aside0.mk (kB (g:=gb166) (o:=.cells #[.slice A0_0 l0_0.length c0_0] 42 (0,0)) (by (with_reducible repeat (first|refine kN ?_ _|refine kD ?_|refine kA ?_ _)); exact BK166.out) hb)
      have n1_:=Aside0.mk (kB (g:=gb167) (o:=.cells #[.int .i64 0,.int .i64 0,.int .i64 0,.int .i64 0] 50 (0,0)) (by (with_reducible repeat (first|refine kN ?_ _|refine kD ?_|refine kA ?_ _)); exact BK167.out) hb)
      have n2_:=Aside0.mk (kB (g:=gb183) (o:=.cells #[.int .i64 t178,.int .i64 t179,.int .i64 t180,.int .i64 t181] 50 (0,0)) (by (with_reducible repeat (first|refine kN ?_ _|refine kD ?_|refine kA ?_ _)); exact BK183.out) hb)
      have n3_:=Aside0.mk (below_step (by repeat (first|(with_reducible first|exact HB.out|apply bA|apply bD|apply bE|refine bS ?_ GE166.out|refine bS ?_ GE167.out|refine bS ?_ GE183.out)|exact HB.out)) hb)
      have n4_:=Aside0.mk (hbox)
      have n5_:=Aside0.mk ((by rw [hg]; exact (below_size (by repeat (first|(with_reducible first|exact HB.out|apply bA|apply bD|apply bE|refine bS ?_ GE166.out|refine bS ?_ GE167.out|refine bS ?_ GE183.out)|exact HB.out))) : w.heap.size ≤ gb193))
      have n6_:=Aside0.mk ((by rw [hg]; exact (below_size (by repeat (first|(with_reducible first|exact HB.out|apply bA|apply bD|apply bE|refine bS ?_ GE166.out|refine bS ?_ GE167.out|refine bS ?_ GE183.out)|exact HB.out))) : w.heap.size ≤ gb193))
      have n7_:=Aside0.mk ((by rw [hg]; exact Nat.ne_of_lt (blk_lt (g:=gb166) (o:=.cells #[.slice A0_0 l0_0.length c0_0] 42 (0,0)) (by (with_reducible repeat (first|refine kN ?_ _|refine kD ?_|refine kA ?_ _)); exact BK166.out)) : gb166 ≠ gb193))
      have n8_:=Aside0.mk ((by rw [hg]; exact Nat.ne_of_gt (blk_lt (g:=gb166) (o:=.cells #[.slice A0_0 l0_0.length c0_0] 42 (0,0)) (by (with_reducible repeat (first|refine kN ?_ _|refine kD ?_|refine kA ?_ _)); exact BK166.out)) : gb193 ≠ gb166))
      have n9_:=Aside0.mk ((by rw [hg]; exact Nat.ne_of_lt (blk_lt (g:=gb167) (o:=.cells #[.int .i64 0,.int .i64 0,.int .i64 0,.int .i64 0] 50 (0,0)) (by (with_reducible repeat (first|refine kN ?_ _|refine kD ?_|refine kA ?_ _)); exact BK167.out)) : gb167 ≠ gb193))
      have n10_:=Aside0.mk ((by rw [hg]; exact Nat.ne_of_gt (blk_lt (g:=gb167) (o:=.cells #[.int .i64 0,.int .i64 0,.int .i64 0,.int .i64 0] 50 (0,0)) (by (with_reducible repeat (first|refine kN ?_ _|refine kD ?_|refine kA ?_ _)); exact BK167.out)) : gb193 ≠ gb167))
      have n11_:=Aside0.mk ((by rw [hg]; exact Nat.ne_of_lt (blk_lt (g:=gb183) (o:=.cells #[.int .i64 t178,.int .i64 t179,.int .i64 t180,.int .i64 t181] 50 (0,0)) (by (with_reducible repeat (first|refine kN ?_ _|refine kD ?_|refine kA ?_ _)); exact BK183.out)) : gb183 ≠ gb193))
      have n12_:=Aside0.mk ((by rw [hg]; exact Nat.ne_of_gt (blk_lt (g:=gb183) (o:=.cells #[.int .i64 t178,.int .i64 t179,.int .i64 t180,.int .i64 t181] 50 (0,0)) (by (with_reducible repeat (first|refine kN ?_ _|refine kD ?_|refine kA ?_ _)); exact BK183.out)) : gb193 ≠ gb183))
      clear BK166
      clear BK167
      clear BK183
      clear HB
      have BK166:=n0_
      have BK167:=n1_
      have BK183:=n2_
      have HB:=n3_
      have BK193:=n4_
      have GW193:=n5_
      have GE193:=n6_
      have NB166_193:=n7_
      have NB193_166:=n8_
      have NB167_193:=n9_
      have NB193_167:=n10_
      have NB183_193:=n11_
      have NB193_183:=n12_
      clear n0_ n1_ n2_ n3_ n4_ n5_ n6_ n7_ n8_ n9_ n10_ n11_ n12_
      clear hb hbox hg
      refine hK.out _ _ ⟨(kC BK183.out 0).trans rfl,(kC BK183.out 1).trans rfl,(kC BK183.out 2).trans rfl,(kC BK183.out 3).trans rfl,(kC BK166.out 0).trans rfl⟩ (fun hHeld => ?_)
      clear hK K
      refine norm_ (a':=?_) ?_ ?_
      rotate_left
      ·show Act.put _ (some 7) _ = _
       simp only [Act.put,lS,lZ,lC,i64_w,i32_w]
       rfl
      refine one_ (i:=5) (N:=some 35) #[tT,tT,tT,tT,tT,tT,fF,fF,fF,tT,fF,fF] rfl rfl (one_of HT_.out (by kernel_rfl)) (by decide) (fun K hK => ?_)
      refine goes_ Try.func61 (by kernel_rfl) rfl #[.agg #[.int .i64 t178,.int .i64 t179,.int .i64 t180,.int .i64 t181],.agg #[.int .i64 t184,.int .i64 t185,.int .i64 t186,.int .i64 t187]] (by rfl) rfl rfl (by (try simp only [List.map_toArray,List.map_cons,List.map_nil]); first|done|rfl|(simp only [List.length_drop,List.length_take]; rfl)) ?_
      with_reducible refine (impl_AddIntervals.calls kj2 t178 t179 t180 t181 t184 t185 t186 t187 t188 t189 t190 t191 true _ A22.out).mono ?_
      rintro e w39 ⟨rfl,hb⟩
      refine ⟨_,rfl,?_⟩
      have n0_:=Aside0.mk (kB (g:=gb166) (o:=.cells #[.slice A0_0 l0_0.length c0_0] 42 (0,0)) (by (with_reducible repeat (first|refine kN ?_ _|refine kD ?_|refine kA ?_ _)); exact BK166.out) hb)
      have n1_:=Aside0.mk (kB (g:=gb167) (o:=.cells #[.int .i64 0,.int .i64 0,.int .i64 0,.int .i64 0] 50 (0,0)) (by (with_reducible repeat (first|refine kN ?_ _|refine kD ?_|refine kA ?_ _)); exact BK167.out) hb)
      have n2_:=Aside0.mk (kB (g:=gb183) (o:=.cells #[.int .i64 t178,.int .i64 t179,.int .i64 t180,.int .i64 t181] 50 (0,0)) (by (with_reducible repeat (first|refine kN ?_ _|refine kD ?_|refine kA ?_ _)); exact BK183.out) hb)
      have n3_:=Aside0.mk (kB (g:=gb193) (o:=.cells #[.int .i64 0,.int .i64 0,.int .i64 0,.int .i64 0] 50 (0,0)) (by (with_reducible repeat (first|refine kN ?_ _|refine kD ?_|refine kA ?_ _)); exact BK193.out) hb)
      have n4_:=Aside0.mk (below_step (by repeat (first|(with_reducible first|exact HB.out|apply bA|apply bD|apply bE|refine bS ?_ GE166.out|refine bS ?_ GE167.out|refine bS ?_ GE183.out|refine bS ?_ GE193.out)|exact HB.out)) hb)
      clear BK166
      clear BK167
      clear BK183
      clear BK193
      clear HB
      have BK166:=n0_
      have BK167:=n1_
      have BK183:=n2_
      have BK193:=n3_
      have HB:=n4_
      clear n0_ n1_ n2_ n3_ n4_
      (try clear hb)
      (try clear hb2)
      (try clear hk)
      (try clear hi)
      refine hK.out _ _ ⟨(kC BK183.out 0).trans rfl,(kC BK183.out 1).trans rfl,(kC BK183.out 2).trans rfl,(kC BK183.out 3).trans rfl,(kC BK166.out 0).trans rfl⟩ (fun hHeld => ?_)
      clear hK K
      refine norm_ (a':=?_) ?_ ?_
      rotate_left
      ·show Act.put _ (some 35) _ = _
       simp only [Act.put,lS,lZ,lC,i64_w,i32_w]
       rfl
      refine pure_ (i:=6) (N:=some 29) (v:=?_) (a':=?_) #[tT,tT,tT,tT,tT,tT,tT,fF,fF,tT,fF,fF] rfl rfl (any_of HT_.out (by kernel_rfl)) (fun _ _ _ h => h) (Or.inl ⟨by rfl,?_⟩) ?_ ?_
      rotate_left
      ·intro w'
       go_simp
       first|(with_reducible rfl)|(simp only [Instr.field,go_sem, *]; rfl)
      rotate_left
      ·simp only [Act.put,lS,lZ,lC,i64_w,i32_w]
       rfl
      refine pure_ (i:=7) (N:=some 36) (v:=?_) (a':=?_) #[tT,tT,tT,tT,tT,tT,tT,tT,fF,tT,fF,fF] rfl rfl (any_of HT_.out (by kernel_rfl)) (fun _ _ _ h => h) (Or.inl ⟨by rfl,?_⟩) ?_ ?_
      rotate_left
      ·intro w'
       go_simp
       first|(with_reducible rfl)|(simp only [Instr.field,go_sem, *]; rfl)
      rotate_left
      ·simp only [Act.put,lS,lZ,lC,i64_w,i32_w]
       rfl
      refine pure_ (i:=8) (N:=some 37) (v:=?_) (a':=?_) #[tT,tT,tT,tT,tT,tT,tT,tT,tT,tT,fF,fF] rfl rfl (any_of HT_.out (by kernel_rfl)) (fun _ _ _ h => h) (Or.inl ⟨by rfl,?_⟩) ?_ ?_
      rotate_left
      ·intro w'
       go_simp
       first|(with_reducible rfl)|(simp only [Instr.field,go_sem, *]; rfl)
      rotate_left
      ·simp only [Act.put,lS,lZ,lC,i64_w,i32_w]
       rfl
      exact norm_ (by simp only [putAll,Act.put,lS,lZ,lC]) (hCont (gb193) _ ⟨hHeld,(by (with_reducible repeat (first|refine kN ?_ _|refine kD ?_|refine kA ?_ _)); exact BK166.out),(by (with_reducible repeat (first|refine kN ?_ _|refine kD ?_|refine kA ?_ _)); exact BK167.out),(by (with_reducible repeat (first|refine kN ?_ _|refine kD ?_|refine kA ?_ _)); exact BK183.out),(by (with_reducible repeat (first|refine kN ?_ _|refine kD ?_|refine kA ?_ _)); exact BK193.out),GW193.out,GE193.out,NB166_193.out,NB193_166.out,NB167_193.out,NB193_167.out,NB183_193.out,NB193_183.out,(by repeat (first|(with_reducible first|exact HB.out|apply bA|apply bD|apply bE|refine bS ?_ GE166.out|refine bS ?_ GE167.out|refine bS ?_ GE183.out|refine bS ?_ GE193.out)|exact HB.out))⟩)
    ·skip
     refine box_step ?hg (N:=7) ?hd (cs:=#[.int .i64 0,.int .i64 0,.int .i64 0,.int .i64 0]) (t:=50) ?hr ?_; (case hd => rfl); (case hg => rfl); (case hr => first|(go_simp; done)|(go_simp; rfl))
     intro gb193 hg w37 hbox hb
     have n0_:=Aside0.mk (kB (g:=gb166) (o:=.cells #[.slice A0_0 l0_0.length c0_0] 42 (0,0)) (by (with_reducible repeat (first|refine kN ?_ _|refine kD ?_|refine kA ?_ _)); exact BK166.out) hb)
     have n1_:=Aside0.mk (kB (g:=gb167) (o:=.cells #[.int .i64 0,.int .i64 0,.int .i64 0,.int .i64 0] 50 (0,0)) (by (with_reducible repeat (first|refine kN ?_ _|refine kD ?_|refine kA ?_ _)); exact BK167.out) hb)
     have n2_:=Aside0.mk (kB (g:=gb183) (o:=.cells #[.int .i64 t178,.int .i64 t179,.int .i64 t180,.int .i64 t181] 50 (0,0)) (by (with_reducible repeat (first|refine kN ?_ _|refine kD ?_|refine kA ?_ _)); exact BK183.out) hb)
     have n3_:=Aside0.mk (below_step (by repeat (first|(with_reducible first|exact HB.out|apply bA|apply bD|apply bE|refine bS ?_ GE166.out|refine bS ?_ GE167.out|refine bS ?_ GE183.out)|exact HB.out)) hb)
     have n4_:=Aside0.mk (hbox)
     have n5_:=Aside0.mk ((by rw [hg]; exact (below_size (by repeat (first|(with_reducible first|exact HB.out|apply bA|apply bD|apply bE|refine bS ?_ GE166.out|refine bS ?_ GE167.out|refine bS ?_ GE183.out)|exact HB.out))) : w.heap.size ≤ gb193))
     have n6_:=Aside0.mk ((by rw [hg]; exact (below_size (by repeat (first|(with_reducible first|exact HB.out|apply bA|apply bD|apply bE|refine bS ?_ GE166.out|refine bS ?_ GE167.out|refine bS ?_ GE183.out)|exact HB.out))) : w.heap.size ≤ gb193))
     have n7_:=Aside0.mk ((by rw [hg]; exact Nat.ne_of_lt (blk_lt (g:=gb166) (o:=.cells #[.slice A0_0 l0_0.length c0_0] 42 (0,0)) (by (with_reducible repeat (first|refine kN ?_ _|refine kD ?_|refine kA ?_ _)); exact BK166.out)) : gb166 ≠ gb193))
     have n8_:=Aside0.mk ((by rw [hg]; exact Nat.ne_of_gt (blk_lt (g:=gb166) (o:=.cells #[.slice A0_0 l0_0.length c0_0] 42 (0,0)) (by (with_reducible repeat (first|refine kN ?_ _|refine kD ?_|refine kA ?_ _)); exact BK166.out)) : gb193 ≠ gb166))
     have n9_:=Aside0.mk ((by rw [hg]; exact Nat.ne_of_lt (blk_lt (g:=gb167) (o:=.cells #[.int .i64 0,.int .i64 0,.int .i64 0,.int .i64 0] 50 (0,0)) (by (with_reducible repeat (first|refine kN ?_ _|refine kD ?_|refine kA ?_ _)); exact BK167.out)) : gb167 ≠ gb193))
     have n10_:=Aside0.mk ((by rw [hg]; exact Nat.ne_of_gt (blk_lt (g:=gb167) (o:=.cells #[.int .i64 0,.int .i64 0,.int .i64 0,.int .i64 0] 50 (0,0)) (by (with_reducible repeat (first|refine kN ?_ _|refine kD ?_|refine kA ?_ _)); exact BK167.out)) : gb193 ≠ gb167))
     have n11_:=Aside0.mk ((by rw [hg]; exact Nat.ne_of_lt (blk_lt (g:=gb183) (o:=.cells #[.int .i64 t178,.int .i64 t179,.int .i64 t180,.int .i64 t181] 50 (0,0)) (by (with_reducible repeat (first|refine kN ?_ _|refine kD ?_|refine kA ?_ _)); exact BK183.out)) : gb183 ≠ gb193))
     have n12_:=Aside0.mk ((by rw [hg]; exact Nat.ne_of_gt (blk_lt (g:=gb183) (o:=.cells #[.int .i64 t178,.int .i64 t179,.int .i64 t180,.int .i64 t181] 50 (0,0)) (by (with_reducible repeat (first|refine kN ?_ _|refine kD ?_|refine kA ?_ _)); exact BK183.out)) : gb193 ≠ gb183))
     clear BK166
     clear BK167
     clear BK183
     clear HB
     have BK166:=n0_
     have BK167:=n1_
     have BK183:=n2_
     have HB:=n3_
     have BK193:=n4_
     have GW193:=n5_
     have GE193:=n6_
     have NB166_193:=n7_
     have NB193_166:=n8_
     have NB167_193:=n9_
     have NB193_167:=n10_
     have NB183_193:=n11_
     have NB193_183:=n12_
     clear n0_ n1_ n2_ n3_ n4_ n5_ n6_ n7_ n8_ n9_ n10_ n11_ n12_
     clear hb hbox hg
     refine hK.out _ _ ⟨(kC BK183.out 0).trans rfl,(kC BK183.out 1).trans rfl,(kC BK183.out 2).trans rfl,(kC BK183.out 3).trans rfl,(kC BK166.out 0).trans rfl⟩ (fun hHeld => ?_)
     clear hK K
     refine norm_ (a':=?_) ?_ ?_
     rotate_left
     ·show Act.put _ (some 7) _ = _
      simp only [Act.put,lS,lZ,lC,i64_w,i32_w]
      rfl
     refine one_ (i:=4) (N:=some 34) #[tT,tT,tT,tT,tT,fF,fF,fF,fF,tT,fF,fF] rfl rfl (one_of HT_.out (by kernel_rfl)) (by decide) (fun K hK => ?_)
     refine goes_ Try.func62 (by kernel_rfl) rfl #[.agg #[.slice A0_0 l0_0.length c0_0],.int .i64 (wrap64 (a1 + 8))] (by rfl) rfl rfl (by (try simp only [List.map_toArray,List.map_cons,List.map_nil]); first|done|rfl|(simp only [List.length_drop,List.length_take]; rfl)) ?_
     with_reducible refine (impl_ThirdAt.calls kj2 _ _ l0_0 (wrap64 (a1 + 8)) t184 t185 t186 t187 _ ?side1 ?side2 A21.out).mono ?_
     (case side1 => repeat (first|exact (Kd.C_below HR0_0.out HB.out)|(with_reducible refine Kd.C_alloc ?_ _)|(with_reducible refine Kd.C_drewN ?_ _)|(with_reducible refine Kd.C_drew ?_)))
     (case side2 => exact HC0_0.out)
     rintro e w38 ⟨rfl,hb⟩
     refine ⟨_,rfl,?_⟩
     have n0_:=Aside0.mk (kB (g:=gb166) (o:=.cells #[.slice A0_0 l0_0.length c0_0] 42 (0,0)) (by (with_reducible repeat (first|refine kN ?_ _|refine kD ?_|refine kA ?_ _)); exact BK166.out) hb)
     have n1_:=Aside0.mk (kB (g:=gb167) (o:=.cells #[.int .i64 0,.int .i64 0,.int .i64 0,.int .i64 0] 50 (0,0)) (by (with_reducible repeat (first|refine kN ?_ _|refine kD ?_|refine kA ?_ _)); exact BK167.out) hb)
     have n2_:=Aside0.mk (kB (g:=gb183) (o:=.cells #[.int .i64 t178,.int .i64 t179,.int .i64 t180,.int .i64 t181] 50 (0,0)) (by (with_reducible repeat (first|refine kN ?_ _|refine kD ?_|refine kA ?_ _)); exact BK183.out) hb)
     have n3_:=Aside0.mk (kB (g:=gb193) (o:=.cells #[.int .i64 0,.int .i64 0,.int .i64 0,.int .i64 0] 50 (0,0)) (by (with_reducible repeat (first|refine kN ?_ _|refine kD ?_|refine kA ?_ _)); exact BK193.out) hb)
     have n4_:=Aside0.mk (below_step (by repeat (first|(with_reducible first|exact HB.out|apply bA|apply bD|apply bE|refine bS ?_ GE166.out|refine bS ?_ GE167.out|refine bS ?_ GE183.out|refine bS ?_ GE193.out)|exact HB.out)) hb)
     clear BK166
     clear BK167
     clear BK183
     clear BK193
     clear HB
     have BK166:=n0_
     have BK167:=n1_
     have BK183:=n2_
     have BK193:=n3_
     have HB:=n4_
     clear n0_ n1_ n2_ n3_ n4_
     (try clear hb)
     (try clear hb2)
     (try clear hk)
     (try clear hi)
     refine hK.out _ _ ⟨(kC BK183.out 0).trans rfl,(kC BK183.out 1).trans rfl,(kC BK183.out 2).trans rfl,(kC BK183.out 3).trans rfl,(kC BK166.out 0).trans rfl⟩ (fun hHeld => ?_)
     clear hK K
     refine norm_ (a':=?_) ?_ ?_
     rotate_left
     ·show Act.put _ (some 34) _ = _
      simp only [Act.put,lS,lZ,lC,i64_w,i32_w]
      rfl
     refine one_ (i:=5) (N:=some 35) #[tT,tT,tT,tT,tT,tT,fF,fF,fF,tT,fF,fF] rfl rfl (one_of HT_.out (by kernel_rfl)) (by decide) (fun K hK => ?_)
     refine goes_ Try.func61 (by kernel_rfl) rfl #[.agg #[.int .i64 t178,.int .i64 t179,.int .i64 t180,.int .i64 t181],.agg #[.int .i64 t184,.int .i64 t185,.int .i64 t186,.int .i64 t187]] (by rfl) rfl rfl (by (try simp only [List.map_toArray,List.map_cons,List.map_nil]); first|done|rfl|(simp only [List.length_drop,List.length_take]; rfl)) ?_
     with_reducible refine (impl_AddIntervals.calls kj2 t178 t179 t180 t181 t184 t185 t186 t187 t188 t189 t190 t191 true _ A22.out).mono ?_
     rintro e w39 ⟨rfl,hb⟩
     refine ⟨_,rfl,?_⟩
     have n0_:=Aside0.mk (kB (g:=gb166) (o:=.cells #[.slice A0_0 l0_0.length c0_0] 42 (0,0)) (by (with_reducible repeat (first|refine kN ?_ _|refine kD ?_|refine kA ?_ _)); exact BK166.out) hb)
     have n1_:=Aside0.mk (kB (g:=gb167) (o:=.cells #[.int .i64 0,.int .i64 0,.int .i64 0,.int .i64 0] 50 (0,0)) (by (with_reducible repeat (first|refine kN ?_ _|refine kD ?_|refine kA ?_ _)); exact BK167.out) hb)
     have n2_:=Aside0.mk (kB (g:=gb183) (o:=.cells #[.int .i64 t178,.int .i64 t179,.int .i64 t180,.int .i64 t181] 50 (0,0)) (by (with_reducible repeat (first|refine kN ?_ _|refine kD ?_|refine kA ?_ _)); exact BK183.out) hb)
     have n3_:=Aside0.mk (kB (g:=gb193) (o:=.cells #[.int .i64 0,.int .i64 0,.int .i64 0,.int .i64 0] 50 (0,0)) (by (with_reducible repeat (first|refine kN ?_ _|refine kD ?_|refine kA ?_ _)); exact BK193.out) hb)
     have n4_:=Aside0.mk (below_step (by repeat (first|(with_reducible first|exact HB.out|apply bA|apply bD|apply bE|refine bS ?_ GE166.out|refine bS ?_ GE167.out|refine bS ?_ GE183.out|refine bS ?_ GE193.out)|exact HB.out)) hb)
     clear BK166
     clear BK167
     clear BK183
     clear BK193
     clear HB
     have BK166:=n0_
     have BK167:=n1_
     have BK183:=n2_
     have BK193:=n3_
     have HB:=n4_
     clear n0_ n1_ n2_ n3_ n4_
     (try clear hb)
     (try clear hb2)
     (try clear hk)
     (try clear hi)
     refine hK.out _ _ ⟨(kC BK183.out 0).trans rfl,(kC BK183.out 1).trans rfl,(kC BK183.out 2).trans rfl,(kC BK183.out 3).trans rfl,(kC BK166.out 0).trans rfl⟩ (fun hHeld => ?_)
     clear hK K
     refine norm_ (a':=?_) ?_ ?_
     rotate_left
     ·show Act.put _ (some 35) _ = _
      simp only [Act.put,lS,lZ,lC,i64_w,i32_w]
      rfl
     refine pure_ (i:=6) (N:=some 29) (v:=?_) (a':=?_) #[tT,tT,tT,tT,tT,tT,tT,fF,fF,tT,fF,fF] rfl rfl (any_of HT_.out (by kernel_rfl)) (fun _ _ _ h => h) (Or.inl ⟨by rfl,?_⟩) ?_ ?_
     rotate_left
     ·intro w'
      go_simp
      first|(with_reducible rfl)|(simp only [Instr.field,go_sem, *]; rfl)
     rotate_left
     ·simp only [Act.put,lS,lZ,lC,i64_w,i32_w]
      rfl
     refine pure_ (i:=7) (N:=some 36) (v:=?_) (a':=?_) #[tT,tT,tT,tT,tT,tT,tT,tT,fF,tT,fF,fF] rfl rfl (any_of HT_.out (by kernel_rfl)) (fun _ _ _ h => h) (Or.inl ⟨by rfl,?_⟩) ?_ ?_
     rotate_left
     ·intro w'
      go_simp
      first|(with_reducible rfl)|(simp only [Instr.field,go_sem, *]; rfl)
     rotate_left
     ·simp only [Act.put,lS,lZ,lC,i64_w,i32_w]
      rfl
     refine pure_ (i:=8) (N:=some 37) (v:=?_) (a':=?_) #[tT,tT,tT,tT,tT,tT,tT,tT,tT,tT,fF,fF] rfl rfl (any_of HT_.out (by kernel_rfl)) (fun _ _ _ h => h) (Or.inl ⟨by rfl,?_⟩) ?_ ?_
     rotate_left
     ·intro w'
      go_simp
      first|(with_reducible rfl)|(simp only [Instr.field,go_sem, *]; rfl)
     rotate_left
     ·simp only [Act.put,lS,lZ,lC,i64_w,i32_w]
      rfl
     exact norm_ (by simp only [putAll,Act.put,lS,lZ,lC]) (hCont (gb193) _ ⟨hHeld,(by (with_reducible repeat (first|refine kN ?_ _|refine kD ?_|refine kA ?_ _)); exact BK166.out),(by (with_reducible repeat (first|refine kN ?_ _|refine kD ?_|refine kA ?_ _)); exact BK167.out),(by (with_reducible repeat (first|refine kN ?_ _|refine kD ?_|refine kA ?_ _)); exact BK183.out),(by (with_reducible repeat (first|refine kN ?_ _|refine kD ?_|refine kA ?_ _)); exact BK193.out),GW193.out,GE193.out,NB166_193.out,NB193_166.out,NB167_193.out,NB193_167.out,NB183_193.out,NB193_183.out,(by repeat (first|(with_reducible first|exact HB.out|apply bA|apply bD|apply bE|refine bS ?_ GE166.out|refine bS ?_ GE167.out|refine bS ?_ GE183.out|refine bS ?_ GE193.out)|exact HB.out))⟩)
   rintro gb193 w40 ⟨hS_,h0_,h1_,h2_,h3_,h4_,h5_,h6_,h7_,h8_,h9_,h10_,h11_,h12_⟩
   have n0_ : Aside0 (w40.heap[gb166]? = some (.cells #[.slice A0_0 l0_0.length c0_0] 42 (0,0))):=⟨h0_⟩
   have n1_ : Aside0 (w40.heap[gb167]? = some (.cells #[.int .i64 0,.int .i64 0,.int .i64 0,.int .i64 0] 50 (0,0))):=⟨h1_⟩
   have n2_ : Aside0 (w40.heap[gb183]? = some (.cells #[.int .i64 t178,.int .i64 t179,.int .i64 t180,.int .i64 t181] 50 (0,0))):=⟨h2_⟩
   have n3_ : Aside0 (w40.heap[gb193]? = some (.cells #[.int .i64 0,.int .i64 0,.int .i64 0,.int .i64 0] 50 (0,0))):=⟨h3_⟩
   have n4_ : Aside0 (w.heap.size ≤ gb193):=⟨h4_⟩
   have n5_ : Aside0 (w.heap.size ≤ gb193):=⟨h5_⟩
   have n6_ : Aside0 (gb166 ≠ gb193):=⟨h6_⟩
   have n7_ : Aside0 (gb193 ≠ gb166):=⟨h7_⟩
   have n8_ : Aside0 (gb167 ≠ gb193):=⟨h8_⟩
   have n9_ : Aside0 (gb193 ≠ gb167):=⟨h9_⟩
   have n10_ : Aside0 (gb183 ≠ gb193):=⟨h10_⟩
   have n11_ : Aside0 (gb193 ≠ gb183):=⟨h11_⟩
   have n12_ : Aside0 (Below w.heap.size w w40):=⟨h12_⟩
   clear BK166
   clear BK167
   clear BK183
   clear HB
   clear h0_ h1_ h2_ h3_ h4_ h5_ h6_ h7_ h8_ h9_ h10_ h11_ h12_
   have BK166:=n0_
   have BK167:=n1_
   have BK183:=n2_
   have BK193:=n3_
   have GW193:=n4_
   have GE193:=n5_
   have NB166_193:=n6_
   have NB193_166:=n7_
   have NB167_193:=n8_
   have NB193_167:=n9_
   have NB183_193:=n10_
   have NB193_183:=n11_
   have HB:=n12_
   clear n0_ n1_ n2_ n3_ n4_ n5_ n6_ n7_ n8_ n9_ n10_ n11_ n12_
   have hHeld : w40.cell? ⟨gb183,0,none⟩ = some (.int .i64 t178) ∧ w40.cell? ⟨gb183,1,none⟩ = some (.int .i64 t179) ∧ w40.cell? ⟨gb183,2,none⟩ = some (.int .i64 t180) ∧ w40.cell? ⟨gb183,3,none⟩ = some (.int .i64 t181) ∧ w40.cell? ⟨gb166,0,none⟩ = some (.slice A0_0 l0_0.length c0_0):=hS_
   refine norm_ (a':=?_) ?_ ?_
   rotate_left
   ·simp only [putAll,Act.put,lS,lZ,lC]
    rfl
   refine one_ (i:=10) (N:=none) #[tT,tT,tT,tT,tT,tT,tT,tT,tT,tT,tT,fF] rfl rfl (one_of HT_.out (by kernel_rfl)) (by decide) (fun K hK => ?_)
   have hs41 : w40.cell? ⟨gb193,0,none⟩ = some (.int .i64 0):=(kC BK193.out 0).trans rfl
   have hfs41:=blk_frozen BK193.out 0
   have hns41_0:=NB166_193.out
   have hns41_1:=NB167_193.out
   have hns41_2:=NB183_193.out
   have hms41_0:=NB193_166.out
   have hms41_1:=NB193_167.out
   have hms41_2:=NB193_183.out
   have hs42 : w40.cell? ⟨gb193,1,none⟩ = some (.int .i64 0):=(kC BK193.out 1).trans rfl
   have hfs42:=blk_frozen BK193.out 1
   have hns42_0:=NB166_193.out
   have hns42_1:=NB167_193.out
   have hns42_2:=NB183_193.out
   have hms42_0:=NB193_166.out
   have hms42_1:=NB193_167.out
   have hms42_2:=NB193_183.out
   have hs43 : w40.cell? ⟨gb193,2,none⟩ = some (.int .i64 0):=(kC BK193.out 2).trans rfl
   have hfs43:=blk_frozen BK193.out 2
   have hns43_0:=NB166_193.out
   have hns43_1:=NB167_193.out
   have hns43_2:=NB183_193.out
   have hms43_0:=NB193_166.out
   have hms43_1:=NB193_167.out
   have hms43_2:=NB193_183.out
   have hs44 : w40.cell? ⟨gb193,3,none⟩ = some (.int .i64 0):=(kC BK193.out 3).trans rfl
   have hfs44:=blk_frozen BK193.out 3
   have hns44_0:=NB166_193.out
   have hns44_1:=NB167_193.out
   have hns44_2:=NB183_193.out
   have hms44_0:=NB193_166.out
   have hms44_1:=NB193_167.out
   have hms44_2:=NB193_183.out
   refine skip_ (w1:=?_) (by rfl) rfl ?_ ?_
   rotate_left
   ·go_simp
    rfl
   refine hK.out _ _ ⟨((cell_far (p:=⟨gb193,_,none⟩) NB183_193.out _).trans (((cell_far (p:=⟨gb193,_,none⟩) NB183_193.out _).trans (((cell_far (p:=⟨gb193,_,none⟩) NB183_193.out _).trans (((cell_far (p:=⟨gb193,_,none⟩) NB183_193.out _).trans (hHeld.1)))))))),((cell_far (p:=⟨gb193,_,none⟩) NB183_193.out _).trans (((cell_far (p:=⟨gb193,_,none⟩) NB183_193.out _).trans (((cell_far (p:=⟨gb193,_,none⟩) NB183_193.out _).trans (((cell_far (p:=⟨gb193,_,none⟩) NB183_193.out _).trans (hHeld.2.1)))))))),((cell_far (p:=⟨gb193,_,none⟩) NB183_193.out _).trans (((cell_far (p:=⟨gb193,_,none⟩) NB183_193.out _).trans (((cell_far (p:=⟨gb193,_,none⟩) NB183_193.out _).trans (((cell_far (p:=⟨gb193,_,none⟩) NB183_193.out _).trans (hHeld.2.2.1)))))))),((cell_far (p:=⟨gb193,_,none⟩) NB183_193.out _).trans (((cell_far (p:=⟨gb193,_,none⟩) NB183_193.out _).trans (((cell_far (p:=⟨gb193,_,none⟩) NB183_193.out _).trans (((cell_far (p:=⟨gb193,_,none⟩) NB183_193.out _).trans (hHeld.2.2.2.1)))))))),((cell_far (p:=⟨gb193,_,none⟩) NB166_193.out _).trans (((cell_far (p:=⟨gb193,_,none⟩) NB166_193.out _).trans (((cell_far (p:=⟨gb193,_,none⟩) NB166_193.out _).trans (((cell_far (p:=⟨gb193,_,none⟩) NB166_193.out _).trans (hHeld.2.2.2.2))))))))⟩ (fun hHeld => ?_)
   clear hK K
   refine pure_ (i:=11) (N:=some 8) (v:=?_) (a':=?_) #[tT,tT,tT,tT,tT,tT,tT,tT,tT,tT,tT,tT] rfl rfl (any_of HT_.out (by kernel_rfl)) (fun _ _ _ h => h) (Or.inl ⟨by rfl,?_⟩) ?_ ?_
   rotate_left
   ·intro w'
    go_simp
    first|(with_reducible rfl)|(simp only [Instr.field,go_sem, *]; rfl)
   rotate_left
   ·simp only [Act.put,lS,lZ,lC,i64_w,i32_w]
    rfl
   refine done_ (done_of HT_.out (by kernel_rfl)) ?_
   have hnb45:=NB193_166.out
   have hnc45:=NB166_193.out
   have hnb46:=NB193_167.out
   have hnc46:=NB167_193.out
   have hnb47:=NB193_183.out
   have hnc47:=NB183_193.out
   have hcz48_0 : w40.cell? ⟨gb193,0,none⟩ = some (.int .i64 0):=(kC BK193.out 0).trans rfl
   have hcz48_1 : w40.cell? ⟨gb193,1,none⟩ = some (.int .i64 0):=(kC BK193.out 1).trans rfl
   have hcz48_2 : w40.cell? ⟨gb193,2,none⟩ = some (.int .i64 0):=(kC BK193.out 2).trans rfl
   have hcz48_3 : w40.cell? ⟨gb193,3,none⟩ = some (.int .i64 0):=(kC BK193.out 3).trans rfl
   have hfz48_0:=blk_frozen BK193.out 0
   have hfz48_1:=blk_frozen BK193.out 1
   have hfz48_2:=blk_frozen BK193.out 2
   have hfz48_3:=blk_frozen BK193.out 3
   have hnb49:=NB167_166.out
   have hnc49:=NB166_167.out
   have hnb50:=NB167_183.out
   have hnc50:=NB183_167.out
   have hcz51_0 : w40.cell? ⟨gb167,0,none⟩ = some (.int .i64 0):=(kC BK167.out 0).trans rfl
   have hcz51_1 : w40.cell? ⟨gb167,1,none⟩ = some (.int .i64 0):=(kC BK167.out 1).trans rfl
   have hcz51_2 : w40.cell? ⟨gb167,2,none⟩ = some (.int .i64 0):=(kC BK167.out 2).trans rfl
   have hcz51_3 : w40.cell? ⟨gb167,3,none⟩ = some (.int .i64 0):=(kC BK167.out 3).trans rfl
   have hfz51_0:=blk_frozen BK167.out 0
   have hfz51_1:=blk_frozen BK167.out 1
   have hfz51_2:=blk_frozen BK167.out 2
   have hfz51_3:=blk_frozen BK167.out 3
   try go_wp2
   refine bodyPost_ret (results_cell_row rfl _ _ gb167 50 #[.int .i64 t188,.int .i64 t189,.int .i64 t190,.int .i64 t191] (0,0) _ rfl (by (with_reducible repeat (first|refine kN ?_ _|refine kD ?_|refine kA ?_ _)); refine blk_put (cs:=#[.int .i64 t188,.int .i64 t189,.int .i64 t190,.int .i64 0]) ?_ 3 _ rfl; (with_reducible repeat (first|refine kN ?_ _|refine kD ?_|refine kA ?_ _)); refine blk_put (cs:=#[.int .i64 t188,.int .i64 t189,.int .i64 0,.int .i64 0]) ?_ 2 _ rfl; (with_reducible repeat (first|refine kN ?_ _|refine kD ?_|refine kA ?_ _)); refine blk_put (cs:=#[.int .i64 t188,.int .i64 0,.int .i64 0,.int .i64 0]) ?_ 1 _ rfl; (with_reducible repeat (first|refine kN ?_ _|refine kD ?_|refine kA ?_ _)); refine blk_put (cs:=#[.int .i64 0,.int .i64 0,.int .i64 0,.int .i64 0]) ?_ 0 _ rfl; (with_reducible repeat (first|refine kN ?_ _|refine kD ?_|refine kA ?_ _)); refine blk_far ?_ NB167_193.out _; (with_reducible repeat (first|refine kN ?_ _|refine kD ?_|refine kA ?_ _)); refine blk_far ?_ NB167_193.out _; (with_reducible repeat (first|refine kN ?_ _|refine kD ?_|refine kA ?_ _)); refine blk_far ?_ NB167_193.out _; (with_reducible repeat (first|refine kN ?_ _|refine kD ?_|refine kA ?_ _)); refine blk_far ?_ NB167_193.out _; (with_reducible repeat (first|refine kN ?_ _|refine kD ?_|refine kA ?_ _)); exact BK167.out) Try.underlying50 rfl (by kernel_rfl)) rfl ?_
   exact ⟨by first|rfl|(simp [errW_none,errW_some] <;> rfl)|(simp [*,errW_none,errW_some] <;> rfl),by repeat (first|(with_reducible first|exact HB.out|apply bA|apply bD|apply bE|refine bS ?_ GE166.out|refine bS ?_ GE167.out|refine bS ?_ GE183.out|refine bS ?_ GE193.out)|exact HB.out)⟩
end Go.Proofs.Ytmjccdljalocbaa.PFnClosing
