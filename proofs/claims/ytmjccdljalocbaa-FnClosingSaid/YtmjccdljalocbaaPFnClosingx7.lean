-- WRITTEN FOR THIS CLAIM by wip/ownprint.py of this session: the print's way, with changes (the print itself does not take this law).
import Derived.Test.YtmjccdljalocbaaPFnClosingx0
import Derived.Test.YtmjccdljalocbaaPFnClosingx6
namespace Go.Proofs.Ytmjccdljalocbaa.PFnClosing
open Go.RowKit Go.Proofs.YtmjccdljalocbaaW.PrintWords Go.Proofs.YtmjccdljalocbaaW.PrintLast Go.Proofs.YtmjccdljalocbaaW.PrintMore
attribute [local go_sem] max2_int min2_int max_two min_two max_three min_three max_four min_four   -- for this text's walks alone
set_option linter.unusedVariables false
set_option linter.unusedSimpArgs false

/-! ### spec_l12Circle: function 63 -/
mutual
def spec_l12Circle.l0 : Nat → Int → Int → List Int → Int → Int → List Int → Option (List Int × Int × Int)
 | 0,_,_,_,_,_,_ => none
 | k + 1,x4,x5,x1000,x1001,x1002,x230000 => if x5 > 0 then ((spec_l01Below.f x1000 x1001 x1002 12).bind fun bt236 => (if 0 ≤ bt236.1 then (if bt236.1 < (x230000.length : Int) then (if (rd x230000 bt236.1) > 8 then (if 0 ≤ (Int.tmod (wrap64 (bt236.1 + 1)) 12) then (if (Int.tmod (wrap64 (bt236.1 + 1)) 12) < (x230000.length : Int) then (spec_l12Circle.l0 k x4 (wrap64 (x5 - 1)) x1000 bt236.2.1 bt236.2.2 (x230000.set ((Int.tmod (wrap64 (bt236.1 + 1)) 12) : Int).toNat (wrap64 ((rd x230000 (Int.tmod (wrap64 (bt236.1 + 1)) 12)) + x4)))) else (none)) else (none)) else (spec_l12Circle.l0 k x4 (wrap64 (x5 - 1)) x1000 bt236.2.1 bt236.2.2 (x230000.set (bt236.1 : Int).toNat (wrap64 ((rd x230000 bt236.1) + x4))))) else (none)) else (none))) else ((spec_l01Once.f x1000 x1001 x1002 4).bind fun bt244 => (if bt244.1 = true then ((spec_l01Below.f x1000 bt244.2.1 bt244.2.2 12).bind fun bt247 => ((spec_l01Below.f x1000 bt247.2.1 bt247.2.2 12).bind fun bt250 => (if 0 ≤ bt247.1 then (if bt247.1 < (x230000.length : Int) then (if (rd x230000 bt247.1) < 12 then (if 0 ≤ bt250.1 then (if bt250.1 < (x230000.length : Int) then (if (rd x230000 bt250.1) > 0 then ((some (x230000.set (bt247.1 : Int).toNat (wrap64 ((rd x230000 bt247.1) + 1)) : List Int)).bind fun y256 => (spec_l12Circle.j1 k x1000 bt250.2.1 bt250.2.2 (y256.set (bt250.1 : Int).toNat (wrap64 ((rd y256 bt250.1) - 1))))) else (spec_l12Circle.j1 k x1000 bt250.2.1 bt250.2.2 x230000)) else (none)) else (none)) else (spec_l12Circle.j1 k x1000 bt250.2.1 bt250.2.2 x230000)) else (none)) else (none)))) else (spec_l12Circle.j1 k x1000 bt244.2.1 bt244.2.2 x230000)))
def spec_l12Circle.j1 : Nat → List Int → Int → Int → List Int → Option (List Int × Int × Int)
 | 0,_,_,_,_ => none
 | k + 1,x1000,x1001,x1002,x230000 => (spec_CircleOk.f k x230000).bind fun t259 => (if t259 = true then (some (x230000,x1001,x1002)) else ((spec_EqualCircle.f).bind fun t260 => (some (t260,x1001,x1002))))
end
def spec_l12Circle.f (k : Nat) (s0_0 : List Int) (s0_1 : Int) (s0_2 : Int) : Option (List Int × Int × Int):=if 12 ≤ 35184372088832 then ((spec_l01PickInt.f s0_0 s0_1 s0_2 (([1,2,3,4] : List Int))).bind fun bt233 => (if bt233.1 = 0 then (none) else (spec_l12Circle.l0 k bt233.1 (wrap64 (Int.tdiv (12 : Int) bt233.1)) s0_0 bt233.2.1 bt233.2.2 (List.replicate 12 0)))) else (none)
theorem spec_l12Circle.mono_l : ∀ k,(∀ y0 y1 y2 y3 y4 y5,LeO (spec_l12Circle.l0 k y0 y1 y2 y3 y4 y5) (spec_l12Circle.l0 (k + 1) y0 y1 y2 y3 y4 y5)) ∧ (∀ y0 y1 y2 y3,LeO (spec_l12Circle.j1 k y0 y1 y2 y3) (spec_l12Circle.j1 (k + 1) y0 y1 y2 y3))
 | 0 => ⟨fun _ _ _ _ _ _ r h => by simp [spec_l12Circle.l0] at h,fun _ _ _ _ r h => by simp [spec_l12Circle.j1] at h⟩
 | k + 1 => by
  obtain ⟨ih0,ih1⟩:=spec_l12Circle.mono_l k
  refine ⟨?_,?_⟩
  ·intro y0 y1 y2 y3 y4 y5
   unfold spec_l12Circle.l0
   repeat' first
   | (with_reducible exact ih0 _ _ _ _ _ _)
   | (with_reducible exact ih1 _ _ _ _)
   | (with_reducible exact spec_CircleOk.mono _ _)
   | (with_reducible exact LeO.refl _)
   | (with_reducible exact LeO.none _)
   | (with_reducible refine LeO.ite ?_ ?_)
   | (with_reducible refine LeO.bind ?_ (fun _ => ?_))
   | exact ih0 _ _ _ _ _ _
   | exact ih1 _ _ _ _
   | exact spec_CircleOk.mono _ _
   | exact LeO.none _
   | refine LeO.ite ?_ ?_
   | refine LeO.bind ?_ (fun _ => ?_)
  ·intro y0 y1 y2 y3
   unfold spec_l12Circle.j1
   repeat' first
   | (with_reducible exact ih0 _ _ _ _ _ _)
   | (with_reducible exact ih1 _ _ _ _)
   | (with_reducible exact spec_CircleOk.mono _ _)
   | (with_reducible exact LeO.refl _)
   | (with_reducible exact LeO.none _)
   | (with_reducible refine LeO.ite ?_ ?_)
   | (with_reducible refine LeO.bind ?_ (fun _ => ?_))
   | exact ih0 _ _ _ _ _ _
   | exact ih1 _ _ _ _
   | exact spec_CircleOk.mono _ _
   | exact LeO.none _
   | refine LeO.ite ?_ ?_
   | refine LeO.bind ?_ (fun _ => ?_)
theorem spec_l12Circle.mono : ∀ a0 a1 a2 k,LeO (spec_l12Circle.f k a0 a1 a2) (spec_l12Circle.f (k + 1) a0 a1 a2):=by
 intro a0 a1 a2 k
 obtain ⟨ih0,ih1⟩:=spec_l12Circle.mono_l k
 unfold spec_l12Circle.f
 repeat' first
   | (with_reducible exact ih0 _ _ _ _ _ _)
   | (with_reducible exact ih1 _ _ _ _)
   | (with_reducible exact spec_CircleOk.mono _ _)
   | (with_reducible exact LeO.refl _)
   | (with_reducible exact LeO.none _)
   | (with_reducible refine LeO.ite ?_ ?_)
   | (with_reducible refine LeO.bind ?_ (fun _ => ?_))
   | exact ih0 _ _ _ _ _ _
   | exact ih1 _ _ _ _
   | exact spec_CircleOk.mono _ _
   | exact LeO.none _
   | refine LeO.ite ?_ ?_
   | refine LeO.bind ?_ (fun _ => ?_)
def spec_l12Circle.T9 : Bool × List (List Nat × List Nat):=(true,[([],[]),([0],[0]),([],[]),([],[]),([3],[3]),([],[]),([4,5],[4,5]),([6],[6]),([],[]),([7,8],[7,8]),([1,2,0,1,2,3,4,5,6,7,8,9],[1,2]),([10,9,0,1,2,3,4,5,6,7,8,9],[9,10])])
def spec_l12Circle.B9 : List Nat:=[0,1,0,0,8,0,56,120,0,504,1023,2047]
theorem spec_l12Circle.tab9 : rtab .any (opsOf Try.f63 9) = spec_l12Circle.T9:=by kernel_rfl
theorem spec_l12Circle.bits9 : waitsOk spec_l12Circle.T9.2 spec_l12Circle.B9 = true:=by kernel_rfl
def spec_l12Circle.T14 : Bool × List (List Nat × List Nat):=(true,[([],[]),([0],[0]),([],[]),([],[]),([3],[3]),([],[]),([4,5],[4,5]),([6],[6]),([7],[7]),([1,2,0,1,2,3,4,5,6,7,8],[1,2]),([9,8,0,1,2,3,4,5,6,7,8],[8,9])])
def spec_l12Circle.B14 : List Nat:=[0,1,0,0,8,0,56,120,248,511,1023]
theorem spec_l12Circle.tab14 : rtab .any (opsOf Try.f63 14) = spec_l12Circle.T14:=by kernel_rfl
theorem spec_l12Circle.bits14 : waitsOk spec_l12Circle.T14.2 spec_l12Circle.B14 = true:=by kernel_rfl
def spec_l12Circle.T15 : Bool × List (List Nat × List Nat):=(true,[([],[]),([0],[0]),([],[]),([],[]),([3],[3]),([],[]),([4,5],[4,5]),([6],[6]),([7],[7]),([1,2,0,1,2,3,4,5,6,7,8],[1,2]),([9,8,0,1,2,3,4,5,6,7,8],[8,9])])
def spec_l12Circle.B15 : List Nat:=[0,1,0,0,8,0,56,120,248,511,1023]
theorem spec_l12Circle.tab15 : rtab .any (opsOf Try.f63 15) = spec_l12Circle.T15:=by kernel_rfl
theorem spec_l12Circle.bits15 : waitsOk spec_l12Circle.T15.2 spec_l12Circle.B15 = true:=by kernel_rfl
set_option maxHeartbeats 8000000 in
set_option maxRecDepth 100000 in
theorem spec_l12Circle.calls (k : Nat) (g : Nat) (s0_0 : List Int) (s0_1 : Int) (s0_2 : Int) (r1 : List Int) (r2 : Int) (r3 : Int) (w0 w : World) (hI : IsS80 w0 w g s0_0 s0_1 s0_2) (hB : Below w0.heap.size w0 w) (h : spec_l12Circle.f k s0_0 s0_1 s0_2 = some (r1,r2,r3)) :
  Calls Try.prog 63 #[.pointer (some ⟨g,0,none⟩)] w fun e w' => ∃ v0_ : Value,e = .returned (.agg #[v0_]) ∧ Kd.R (Kd.int .i64) 3 w' w.heap.size (fun _ => True) v0_ r1 ∧ IsS80 w0 w' g s0_0 r2 r3 ∧ Below w0.heap.size w0 w' ∧ KeepBut w w' g none:=by
 have hu42:=Try.underlying42
 have HI0:=Aside0.mk hI
 have HK:=Aside0.mk (KeepBut.refl w g none)
 have HL:=Aside0.mk hB.size
 clear hI
 have HW0:=Aside0.mk hB.size
 have HB:=Aside0.mk hB
 clear hB
 have H : (if 12 ≤ 35184372088832 then ((spec_l01PickInt.f s0_0 s0_1 s0_2 (([1,2,3,4] : List Int))).bind fun bt233 => (if bt233.1 = 0 then (none) else (spec_l12Circle.l0 k bt233.1 (wrap64 (Int.tdiv (12 : Int) bt233.1)) s0_0 bt233.2.1 bt233.2.2 (List.replicate 12 0)))) else (none)) = some (r1,r2,r3):=h
 clear h
 by_cases c2 : 12 ≤ 35184372088832
 ·rw [if_pos c2] at H
  have c2b0:=eq_true c2
  have c2b1 : decide (12 ≤ 35184372088832) = true:=decide_eq_true c2
  clear c2
  obtain ⟨y226,hy226⟩ : ∃ y_ : List Int,y_ = (List.replicate 12 0):=⟨_,rfl⟩
  replace H : ((spec_l01PickInt.f s0_0 s0_1 s0_2 (([1,2,3,4] : List Int))).bind fun bt233 => (if bt233.1 = 0 then (none) else (spec_l12Circle.l0 k bt233.1 (wrap64 (Int.tdiv (12 : Int) bt233.1)) s0_0 bt233.2.1 bt233.2.2 y226))) = some (r1,r2,r3):=by first|(rw [hy226]; with_reducible exact H)|(have H2_:=(Option.bind_some _ _).symm.trans H; rw [hy226]; with_reducible exact H2_)|(have H2_:=(Option.bind_some _ _).symm.trans H; with_reducible exact H2_)|with_reducible exact H|(rw [hy226]; exact H)|exact H
  have Ny226:=Aside0.mk hy226
  clear hy226
  obtain ⟨y230,hy230⟩ : ∃ y_ : List Int,y_ = (([1,2,3,4] : List Int)):=⟨_,rfl⟩
  replace H : ((spec_l01PickInt.f s0_0 s0_1 s0_2 y230).bind fun bt233 => (if bt233.1 = 0 then (none) else (spec_l12Circle.l0 k bt233.1 (wrap64 (Int.tdiv (12 : Int) bt233.1)) s0_0 bt233.2.1 bt233.2.2 y226))) = some (r1,r2,r3):=by first|(rw [hy230]; with_reducible exact H)|(have H2_:=(Option.bind_some _ _).symm.trans H; rw [hy230]; with_reducible exact H2_)|(have H2_:=(Option.bind_some _ _).symm.trans H; with_reducible exact H2_)|with_reducible exact H|(rw [hy230]; exact H)|exact H
  have Ny230:=Aside0.mk hy230
  clear hy230
  replace H:=Option.bind_eq_some_iff.mp H
  obtain ⟨⟨t233,t234,t235⟩,A30,H⟩:=H
  replace H : (if t233 = 0 then (none) else (spec_l12Circle.l0 k t233 (wrap64 (Int.tdiv (12 : Int) t233)) s0_0 t234 t235 y226)) = some (r1,r2,r3):=H
  have A3:=Aside0.mk A30
  clear A30
  by_cases c4 : t233 = 0
  ·rw [if_pos c4] at H
   exact absurd H (by simp)
  ·rw [if_neg c4] at H
   have c4b0 : (t233 == 0) = false:=beq_eq_false_iff_ne.mpr c4
   have c4b1 : (t233 != 0) = true:=bne_iff_ne.mpr c4
   have H':=Aside0.mk H
   clear H
   go_enter Try.func63,Try.ntmps63
   go_wp2_with (first|((with_reducible refine gate_dst (N:=2) rfl ?_); refine box_event ?hg (N:=2) ?hd (cs:=#[.slice none 0 0]) (t:=42) ?hr ?_; (case hd => rfl); (case hg => rfl); (case hr => first|(go_simp; done)|(go_simp; rfl)); intro gb225 hg w5 hbox hb; have n0_:=Aside0.mk (IsS80.below (by repeat (first|(with_reducible first|exact HI0.out|apply IsS80.alloc|apply IsS80.drewN|apply IsS80.drew|apply IsS80.set_1|apply IsS80.set_2)|exact HI0.out)) hb); have n1_:=Aside0.mk (KeepBut.trans (by repeat (first|(with_reducible first|exact HK.out|apply KeepBut.set_|apply keep_drewN|apply keep_drew|apply keep_alloc)|exact HK.out)) (KeepBut.of_below hb g none) (.inl rfl)); have n2_:=Aside0.mk (below_step (by repeat (first|(with_reducible first|exact HB.out|apply below_alloc|apply pw_below_drewN|apply below_drew1|refine below_set ?_ (IsS80.ge HI0.out))|exact HB.out)) hb); have n3_:=Aside0.mk (hbox); have n4_:=Aside0.mk ((by rw [hg]; exact (keep_size (w:=w) (g:=g) (row:=none) (by repeat (first|(with_reducible first|exact HK.out|apply KeepBut.set_|apply keep_drewN|apply keep_drew|apply keep_alloc)|exact HK.out))) : w.heap.size ≤ gb225)); have n5_:=Aside0.mk ((Nat.le_trans HW0.out (by rw [hg]; exact (keep_size (w:=w) (g:=g) (row:=none) (by repeat (first|(with_reducible first|exact HK.out|apply KeepBut.set_|apply keep_drewN|apply keep_drew|apply keep_alloc)|exact HK.out))) : w.heap.size ≤ gb225) : w0.heap.size ≤ gb225)); have n6_:=Aside0.mk ((by rw [hg]; exact Nat.ne_of_lt (IsS80.lt (show IsS80 w0 _ g s0_0 s0_1 s0_2 from by repeat (first|(with_reducible first|exact HI0.out|apply IsS80.alloc|apply IsS80.drewN|apply IsS80.drew|apply IsS80.set_1|apply IsS80.set_2)|exact HI0.out))) : g ≠ gb225)); have n7_:=Aside0.mk ((by rw [hg]; exact Nat.ne_of_gt (IsS80.lt (show IsS80 w0 _ g s0_0 s0_1 s0_2 from by repeat (first|(with_reducible first|exact HI0.out|apply IsS80.alloc|apply IsS80.drewN|apply IsS80.drew|apply IsS80.set_1|apply IsS80.set_2)|exact HI0.out))) : gb225 ≠ g)); clear HI0; clear HK; clear HB; have HI0:=n0_; have HK:=n1_; have HB:=n2_; have BK225:=n3_; have GW225:=n4_; have GE225:=n5_; have NB0_225:=n6_; have NB225_0:=n7_; clear n0_ n1_ n2_ n3_ n4_ n5_ n6_ n7_; clear hb hbox hg)|((with_reducible refine gate_dst (N:=9) rfl ?_); refine Kd.R_make (Kd.int .i64) _ 3 rfl (N:=9) rfl 22 _ _ rfl 12 rfl rfl Try.underlying22 (.int .i64 0) 8 info3 rfl (by decide) (by omega) 0 (ok:=fun _ => True) (okp:=fun _ => True) rfl (fun _ hk => hk) trivial (by omega) (by omega) (Below.refl _ _) (Nat.le_refl _) ?_; intro v227 w6 ho7 hb hg_ hnew_; clear hg_ hnew_; (first|rw [← Ny226.out] at ho7|(simp only [Int.reduceToNat] at ho7; rw [← Ny226.out] at ho7)); have n0_:=Aside0.mk (Kd.R_lower ho7 (keep_size (w:=w) (g:=g) (row:=none) (by repeat (first|(with_reducible first|exact HK.out|apply KeepBut.set_|apply keep_drewN|apply keep_drew|apply keep_alloc|refine keep_far ?_ GW225.out _)|exact HK.out)))); have n1_:=Aside0.mk (IsS80.below (by repeat (first|(with_reducible first|exact HI0.out|apply IsS80.alloc|apply IsS80.drewN|apply IsS80.drew|apply IsS80.set_1|apply IsS80.set_2|refine IsS80.far ?_ NB0_225.out _)|exact HI0.out)) hb); have n2_:=Aside0.mk (blk_below (g:=gb225) (o:=.cells #[.slice none 0 0] 42 (0,0)) (by (with_reducible repeat (first|refine blk_drewN ?_ _|refine blk_drew ?_|refine blk_alloc ?_ _)); exact BK225.out) hb); have n3_:=Aside0.mk (KeepBut.trans (by repeat (first|(with_reducible first|exact HK.out|apply KeepBut.set_|apply keep_drewN|apply keep_drew|apply keep_alloc|refine keep_far ?_ GW225.out _)|exact HK.out)) (KeepBut.of_below hb g none) (.inl rfl)); have n4_:=Aside0.mk (below_step (by repeat (first|(with_reducible first|exact HB.out|apply below_alloc|apply pw_below_drewN|apply below_drew1|refine below_set ?_ (IsS80.ge HI0.out)|refine below_set ?_ GE225.out)|exact HB.out)) hb); clear HI0; clear BK225; clear HK; clear HB; have HO228:=n0_; have HI0:=n1_; have BK225:=n2_; have HK:=n3_; have HB:=n4_; clear n0_ n1_ n2_ n3_ n4_; clear hb ho7; obtain ⟨Ao8,co8,eo8⟩:=Kd.R_slice HO228.out; subst eo8)|((with_reducible refine gate_dst (N:=3) rfl ?_); refine box_event ?hg (N:=3) ?hd (cs:=#[.slice none 0 0]) (t:=42) ?hr ?_; (case hd => rfl); (case hg => rfl); (case hr => first|(go_simp; done)|(go_simp; rfl)); intro gb229 hg w9 hbox hb; have n0_:=Aside0.mk (Kd.R_below (by (with_reducible repeat (first|apply Kd.R_alloc|apply Kd.R_drewN|apply Kd.R_drew)); exact HO228.out) hb); have n1_:=Aside0.mk (IsS80.below (by repeat (first|(with_reducible first|exact HI0.out|apply IsS80.alloc|apply IsS80.drewN|apply IsS80.drew|apply IsS80.set_1|apply IsS80.set_2|refine IsS80.far ?_ NB0_225.out _)|exact HI0.out)) hb); have n2_:=Aside0.mk (blk_below (g:=gb225) (o:=.cells #[.slice none 0 0] 42 (0,0)) (by (with_reducible repeat (first|refine blk_drewN ?_ _|refine blk_drew ?_|refine blk_alloc ?_ _)); exact BK225.out) hb); have n3_:=Aside0.mk (KeepBut.trans (by repeat (first|(with_reducible first|exact HK.out|apply KeepBut.set_|apply keep_drewN|apply keep_drew|apply keep_alloc|refine keep_far ?_ GW225.out _)|exact HK.out)) (KeepBut.of_below hb g none) (.inl rfl)); have n4_:=Aside0.mk (below_step (by repeat (first|(with_reducible first|exact HB.out|apply below_alloc|apply pw_below_drewN|apply below_drew1|refine below_set ?_ (IsS80.ge HI0.out)|refine below_set ?_ GE225.out)|exact HB.out)) hb); have n5_:=Aside0.mk (hbox); have n6_:=Aside0.mk ((by rw [hg]; exact (keep_size (w:=w) (g:=g) (row:=none) (by repeat (first|(with_reducible first|exact HK.out|apply KeepBut.set_|apply keep_drewN|apply keep_drew|apply keep_alloc|refine keep_far ?_ GW225.out _)|exact HK.out))) : w.heap.size ≤ gb229)); have n7_:=Aside0.mk ((Nat.le_trans HW0.out (by rw [hg]; exact (keep_size (w:=w) (g:=g) (row:=none) (by repeat (first|(with_reducible first|exact HK.out|apply KeepBut.set_|apply keep_drewN|apply keep_drew|apply keep_alloc|refine keep_far ?_ GW225.out _)|exact HK.out))) : w.heap.size ≤ gb229) : w0.heap.size ≤ gb229)); have n8_:=Aside0.mk ((by rw [hg]; exact Nat.ne_of_lt (blk_lt (g:=gb225) (o:=.cells #[.slice none 0 0] 42 (0,0)) (by (with_reducible repeat (first|refine blk_drewN ?_ _|refine blk_drew ?_|refine blk_alloc ?_ _)); exact BK225.out)) : gb225 ≠ gb229)); have n9_:=Aside0.mk ((by rw [hg]; exact Nat.ne_of_gt (blk_lt (g:=gb225) (o:=.cells #[.slice none 0 0] 42 (0,0)) (by (with_reducible repeat (first|refine blk_drewN ?_ _|refine blk_drew ?_|refine blk_alloc ?_ _)); exact BK225.out)) : gb229 ≠ gb225)); have n10_:=Aside0.mk ((by rw [hg]; exact Nat.ne_of_lt (IsS80.lt (show IsS80 w0 _ g s0_0 s0_1 s0_2 from by repeat (first|(with_reducible first|exact HI0.out|apply IsS80.alloc|apply IsS80.drewN|apply IsS80.drew|apply IsS80.set_1|apply IsS80.set_2|refine IsS80.far ?_ NB0_225.out _)|exact HI0.out))) : g ≠ gb229)); have n11_:=Aside0.mk ((by rw [hg]; exact Nat.ne_of_gt (IsS80.lt (show IsS80 w0 _ g s0_0 s0_1 s0_2 from by repeat (first|(with_reducible first|exact HI0.out|apply IsS80.alloc|apply IsS80.drewN|apply IsS80.drew|apply IsS80.set_1|apply IsS80.set_2|refine IsS80.far ?_ NB0_225.out _)|exact HI0.out))) : gb229 ≠ g)); clear HO228; clear HI0; clear BK225; clear HK; clear HB; have HO228:=n0_; have HI0:=n1_; have BK225:=n2_; have HK:=n3_; have HB:=n4_; have BK229:=n5_; have GW229:=n6_; have GE229:=n7_; have NB225_229:=n8_; have NB229_225:=n9_; have NB0_229:=n10_; have NB229_0:=n11_; clear n0_ n1_ n2_ n3_ n4_ n5_ n6_ n7_ n8_ n9_ n10_ n11_; clear hb hbox hg; have hnb10:=NB229_225.out; have hnc10:=NB225_229.out; have hnb11:=NB229_0.out; have hnc11:=NB0_229.out; have hcz12_0 : w9.cell? ⟨gb229,0,none⟩ = some (.slice none 0 0):=(blk_cell BK229.out 0).trans rfl; have hfz12_0:=blk_frozen BK229.out 0)|((with_reducible refine gate_dst (N:=12) rfl ?_); refine Kd.R_lit (Kd.int .i64) _ 3 ?hg (N:=12) ?hd (xs:=([1,2,3,4] : List Int)) (inner:=[.int .i64 1,.int .i64 2,.int .i64 3,.int .i64 4]) (ok:=fun _ => True) (okp:=fun _ => True) ?hr ?hp (fun _ hk => hk) trivial (Below.refl _ _) (Nat.le_refl _) (by simp) ?_; (case hd => rfl); (case hg => rfl); (case hr => first|(go_simp; done)|(go_simp; rfl)); (case hp => exact (Reps.one (show Kd.M (Kd.int .i64) _ _ _ 1 [.int .i64 1] from rfl) (Reps.one (show Kd.M (Kd.int .i64) _ _ _ 2 [.int .i64 2] from rfl) (Reps.one (show Kd.M (Kd.int .i64) _ _ _ 3 [.int .i64 3] from rfl) (Reps.one (show Kd.M (Kd.int .i64) _ _ _ 4 [.int .i64 4] from rfl) (Reps.none _ _)))))); intro v231 w13 ho14 hb hg_ hnew_; clear hg_ hnew_; (first|rw [← Ny230.out] at ho14|(simp only [Int.reduceToNat] at ho14; rw [← Ny230.out] at ho14)); have n0_:=Aside0.mk (Kd.R_elder' (by (with_reducible repeat (first|apply Kd.R_alloc|apply Kd.R_drewN|apply Kd.R_drew)); exact (Kd.R_mono (Kd.R_far (p:=⟨gb229,0,none⟩) (Kd.R_types HO228.out BK229.out (by decide)) (fun _ hk => hk.2) (.slice Ao8 y226.length co8)) (fun _ h_ => h_.1))) (Kd.R_base ho14) hb); have n1_:=Aside0.mk (Kd.R_lower (Kd.R_new' ho14 (Kd.R_lt (by (with_reducible repeat (first|apply Kd.R_alloc|apply Kd.R_drewN|apply Kd.R_drew)); exact (Kd.R_mono (Kd.R_far (p:=⟨gb229,0,none⟩) (Kd.R_types HO228.out BK229.out (by decide)) (fun _ hk => hk.2) (.slice Ao8 y226.length co8)) (fun _ h_ => h_.1))))) (keep_size (w:=w) (g:=g) (row:=none) (by repeat (first|(with_reducible first|exact HK.out|apply KeepBut.set_|apply keep_drewN|apply keep_drew|apply keep_alloc|refine keep_far ?_ GW225.out _|refine keep_far ?_ GW229.out _)|exact HK.out)))); have n2_:=Aside0.mk (IsS80.below (show IsS80 w0 (w9.setCell ⟨gb229,0,none⟩ (.slice Ao8 y226.length co8)) g s0_0 s0_1 s0_2 from by repeat (first|(with_reducible first|exact HI0.out|apply IsS80.alloc|apply IsS80.drewN|apply IsS80.drew|apply IsS80.set_1|apply IsS80.set_2|refine IsS80.far ?_ NB0_225.out _|refine IsS80.far ?_ NB0_229.out _)|exact HI0.out)) hb); have n3_:=Aside0.mk (blk_below (g:=gb225) (o:=.cells #[.slice none 0 0] 42 (0,0)) (by (with_reducible repeat (first|refine blk_drewN ?_ _|refine blk_drew ?_|refine blk_alloc ?_ _)); refine blk_far ?_ NB225_229.out _; (with_reducible repeat (first|refine blk_drewN ?_ _|refine blk_drew ?_|refine blk_alloc ?_ _)); exact BK225.out) hb); have n4_:=Aside0.mk (blk_below (g:=gb229) (o:=.cells #[.slice Ao8 y226.length co8] 42 (0,0)) (by (with_reducible repeat (first|refine blk_drewN ?_ _|refine blk_drew ?_|refine blk_alloc ?_ _)); refine blk_put (cs:=#[.slice none 0 0]) ?_ 0 _ rfl; (with_reducible repeat (first|refine blk_drewN ?_ _|refine blk_drew ?_|refine blk_alloc ?_ _)); exact BK229.out) hb); have n5_:=Aside0.mk (KeepBut.trans (by repeat (first|(with_reducible first|exact HK.out|apply KeepBut.set_|apply keep_drewN|apply keep_drew|apply keep_alloc|refine keep_far ?_ GW225.out _|refine keep_far ?_ GW229.out _)|exact HK.out)) (KeepBut.of_below hb g none) (.inl rfl)); have n6_:=Aside0.mk (below_step (by repeat (first|(with_reducible first|exact HB.out|apply below_alloc|apply pw_below_drewN|apply below_drew1|refine below_set ?_ (IsS80.ge HI0.out)|refine below_set ?_ GE225.out|refine below_set ?_ GE229.out)|exact HB.out)) hb); clear HO228; clear HI0; clear BK225; clear BK229; clear HK; clear HB; have HO228:=n0_; have HO232:=n1_; have HI0:=n2_; have BK225:=n3_; have BK229:=n4_; have HK:=n5_; have HB:=n6_; clear n0_ n1_ n2_ n3_ n4_ n5_ n6_; clear hb ho14; obtain ⟨Ao15,co15,eo15⟩:=Kd.R_slice HO232.out; subst eo15)|((with_reducible refine gate_callee (f:=74) rfl ?_); refine goesL_ (some 13) rfl rfl Try.func74 (by kernel_rfl) rfl #[.pointer (some ⟨g,0,none⟩),.slice Ao15 y230.length co15] rfl (by (try simp only [List.map_toArray,List.map_cons,List.map_nil]); first|done|rfl|(simp only [List.length_drop,List.length_take]; rfl)) ?_; (with_reducible refine (spec_l01PickInt.calls g s0_0 s0_1 s0_2 _ _ y230 t233 t234 t235 w0 _ ?side1 ?side2 ?side3 ?side4 ?side5 A3.out).mono ?_); (case side1 => repeat (first|(with_reducible first|exact HI0.out|apply IsS80.alloc|apply IsS80.drewN|apply IsS80.drew|apply IsS80.set_1|apply IsS80.set_2|refine IsS80.far ?_ NB0_225.out _|refine IsS80.far ?_ NB0_229.out _)|exact HI0.out)); (case side2 => repeat (first|(with_reducible first|exact HB.out|apply below_alloc|apply pw_below_drewN|apply below_drew1|refine below_set ?_ (IsS80.ge HI0.out)|refine below_set ?_ GE225.out|refine below_set ?_ GE229.out)|exact HB.out)); (case side3 => repeat (first|exact (Kd.R_reads' HO232.out).2.2|(with_reducible refine Kd.C_alloc ?_ _)|(with_reducible refine Kd.C_drewN ?_ _)|(with_reducible refine Kd.C_drew ?_))); (case side4 => exact (Kd.R_reads' HO232.out).2.1); (case side5 => exact far_slice (IsS80.own_ne HI0.out HO232.out (by decide))); rintro e w16 ⟨rfl,hi,hb,hk⟩; refine ⟨_,rfl,?_⟩; have n0_:=Aside0.mk (KeepBut.blk hk (g':=gb225) (o:=.cells #[.slice none 0 0] 42 (0,0)) (by (with_reducible repeat (first|refine blk_drewN ?_ _|refine blk_drew ?_|refine blk_alloc ?_ _)); exact BK225.out) NB225_0.out (by simp)); have n1_:=Aside0.mk (Kd.R_mono (Kd.R_keep (IsS80.apart (show IsS80 w0 _ g s0_0 s0_1 s0_2 from by repeat (first|(with_reducible first|exact HI0.out|apply IsS80.alloc|apply IsS80.drewN|apply IsS80.drew|apply IsS80.set_1|apply IsS80.set_2|refine IsS80.far ?_ NB0_225.out _|refine IsS80.far ?_ NB0_229.out _)|exact HI0.out)) (by (with_reducible repeat (first|apply Kd.R_alloc|apply Kd.R_drewN|apply Kd.R_drew)); exact HO228.out) (by decide)) hk (fun _ h => h.2)) (fun _ h => h.1)); have n2_:=Aside0.mk (KeepBut.blk hk (g':=gb229) (o:=.cells #[.slice Ao8 y226.length co8] 42 (0,0)) (by (with_reducible repeat (first|refine blk_drewN ?_ _|refine blk_drew ?_|refine blk_alloc ?_ _)); exact BK229.out) NB229_0.out (by simp)); have n3_:=Aside0.mk (Kd.R_mono (Kd.R_keep (IsS80.apart (show IsS80 w0 _ g s0_0 s0_1 s0_2 from by repeat (first|(with_reducible first|exact HI0.out|apply IsS80.alloc|apply IsS80.drewN|apply IsS80.drew|apply IsS80.set_1|apply IsS80.set_2|refine IsS80.far ?_ NB0_225.out _|refine IsS80.far ?_ NB0_229.out _)|exact HI0.out)) (by (with_reducible repeat (first|apply Kd.R_alloc|apply Kd.R_drewN|apply Kd.R_drew)); exact HO232.out) (by decide)) hk (fun _ h => h.2)) (fun _ h => h.1)); have n4_:=Aside0.mk (KeepBut.trans (by repeat (first|(with_reducible first|exact HK.out|apply KeepBut.set_|apply keep_drewN|apply keep_drew|apply keep_alloc|refine keep_far ?_ GW225.out _|refine keep_far ?_ GW229.out _)|exact HK.out)) hk (.inl rfl)); have n5_:=Aside0.mk (hb); have n6_:=Aside0.mk (hi); clear BK225; clear HO228; clear BK229; clear HO232; clear HK; clear HB; clear HI0; have BK225:=n0_; have HO228:=n1_; have BK229:=n2_; have HO232:=n3_; have HK:=n4_; have HB:=n5_; have HI0:=n6_; clear n0_ n1_ n2_ n3_ n4_ n5_ n6_; (try clear hb); (try clear hb2); (try clear hk); (try clear hi)))
   go_loopg [5] k (fun kq v5 w' => ∃ (x5_1 : Int) (x1001_1 : Int) (x1002_1 : Int) (x230000_1 : List Int) (u230000 : Value),v5 = .int .i64 x5_1 ∧ Aside0 (spec_l12Circle.l0 kq t233 x5_1 s0_0 x1001_1 x1002_1 x230000_1 = some (r1,r2,r3)) ∧ Aside0 (kq ≤ k) ∧ Aside0 (Kd.R (Kd.int .i64) 3 w' w.heap.size (fun _ => True) u230000 x230000_1) ∧ Aside0 (w'.heap[gb225]? = some (.cells #[(.slice none 0 0)] 42 (0,0))) ∧ Aside0 (w'.heap[gb229]? = some (.cells #[u230000] 42 (0,0))) ∧ Aside0 (IsS80 w0 w' g s0_0 x1001_1 x1002_1) ∧ Aside0 (KeepBut w w' g none) ∧ Aside0 (Below w0.heap.size w0 w'))
   case atStart => exact ⟨(wrap64 (Int.tdiv (12 : Int) t233)),(t234),(t235),(y226),(.slice Ao8 y226.length co8),(by first|rfl|(simp; done)|(simp [*]; done)),H',⟨Nat.le_refl _⟩,⟨by (with_reducible repeat (first|apply Kd.R_alloc|apply Kd.R_drewN|apply Kd.R_drew)); exact Kd.R_mono HO228.out (fun _ hk => trivial)⟩,⟨by (with_reducible repeat (first|refine blk_drewN ?_ _|refine blk_drew ?_|refine blk_alloc ?_ _)); exact BK225.out⟩,⟨by (with_reducible repeat (first|refine blk_drewN ?_ _|refine blk_drew ?_|refine blk_alloc ?_ _)); exact BK229.out⟩,⟨by repeat (first|(with_reducible first|exact HI0.out|apply IsS80.alloc|apply IsS80.drewN|apply IsS80.drew|apply IsS80.set_1|apply IsS80.set_2|refine IsS80.far ?_ NB0_225.out _|refine IsS80.far ?_ NB0_229.out _)|exact HI0.out)⟩,⟨by repeat (first|(with_reducible first|exact HK.out|apply KeepBut.set_|apply keep_drewN|apply keep_drew|apply keep_alloc|refine keep_far ?_ GW225.out _|refine keep_far ?_ GW229.out _)|exact HK.out)⟩,⟨by repeat (first|(with_reducible first|exact HB.out|apply below_alloc|apply pw_below_drewN|apply below_drew1|refine below_set ?_ (IsS80.ge HI0.out)|refine below_set ?_ GE225.out|refine below_set ?_ GE229.out)|exact HB.out)⟩⟩
   case round =>
    clear H'
    try clear c1
    try clear c2
    try clear c2b0
    try clear c2b1
    try clear p2
    try clear c4
    try clear c4b0
    try clear c4b1
    try clear c6
    try clear p6
    try clear c7
    try clear c10
    try clear c11
    try clear hcz12_0
    try clear hfz12_0
    obtain ⟨x5_1,x1001_1,x1002_1,x230000_1,u230000,rfl,HA,HK1,HO_230000,BK225,BK229,HI0,HK,HB⟩:=hrel
    cases gk with
    | zero => exact absurd HA.out (by simp [spec_l12Circle.l0])
    | succ k1 =>
     have H:=HA.out
     clear HA
     simp only [spec_l12Circle.l0] at H
     by_cases c17 : x5_1 > 0
     ·rw [if_pos c17] at H
      have c17b0 : decide (0 < x5_1) = true:=decide_eq_true c17
      clear c17
      replace H:=Option.bind_eq_some_iff.mp H
      obtain ⟨⟨t236,t237,t238⟩,A180,H⟩:=H
      replace H : (if 0 ≤ t236 then (if t236 < (x230000_1.length : Int) then (if (rd x230000_1 t236) > 8 then (if 0 ≤ (Int.tmod (wrap64 (t236 + 1)) 12) then (if (Int.tmod (wrap64 (t236 + 1)) 12) < (x230000_1.length : Int) then (spec_l12Circle.l0 k1 t233 (wrap64 (x5_1 - 1)) s0_0 t237 t238 (x230000_1.set ((Int.tmod (wrap64 (t236 + 1)) 12) : Int).toNat (wrap64 ((rd x230000_1 (Int.tmod (wrap64 (t236 + 1)) 12)) + t233)))) else (none)) else (none)) else (spec_l12Circle.l0 k1 t233 (wrap64 (x5_1 - 1)) s0_0 t237 t238 (x230000_1.set (t236 : Int).toNat (wrap64 ((rd x230000_1 t236) + t233))))) else (none)) else (none)) = some (r1,r2,r3):=H
      have A18:=Aside0.mk A180
      clear A180
      by_cases c19 : 0 ≤ t236
      ·rw [if_pos c19] at H
       have c19b0 : decide (0 ≤ t236) = true:=decide_eq_true c19
       clear c19
       by_cases c20 : t236 < (x230000_1.length : Int)
       ·rw [if_pos c20] at H
        have c20b0 : decide (t236 < (x230000_1.length : Int)) = true:=decide_eq_true c20
        clear c20
        by_cases c21 : (rd x230000_1 t236) > 8
        ·rw [if_pos c21] at H
         have c21b0 : decide (8 < (rd x230000_1 t236)) = true:=decide_eq_true c21
         clear c21
         obtain ⟨ji22,hji22⟩ : ∃ j_ : Int,(Int.tmod (wrap64 (t236 + 1)) 12) = j_:=⟨_,rfl⟩
         replace H : (if 0 ≤ (ji22) then (if (ji22) < (x230000_1.length : Int) then (spec_l12Circle.l0 k1 t233 (wrap64 (x5_1 - 1)) s0_0 t237 t238 (x230000_1.set ((ji22) : Int).toNat (wrap64 ((rd x230000_1 (ji22)) + t233)))) else (none)) else (none)) = some (r1,r2,r3):=by first|(rw [hji22] at H; exact H)|(simp only [hji22] at H ⊢; exact H)
         (try rw [hji22] at A18)
         by_cases c23 : 0 ≤ (ji22)
         ·rw [if_pos c23] at H
          have c23b0 : decide (0 ≤ (ji22)) = true:=decide_eq_true c23
          clear c23
          by_cases c24 : (ji22) < (x230000_1.length : Int)
          ·rw [if_pos c24] at H
           have c24b0 : decide ((ji22) < (x230000_1.length : Int)) = true:=decide_eq_true c24
           clear c24
           obtain ⟨y241,hy241⟩ : ∃ y_ : List Int,y_ = (x230000_1.set ((ji22) : Int).toNat (wrap64 ((rd x230000_1 (ji22)) + t233))):=⟨_,rfl⟩
           replace H : (spec_l12Circle.l0 k1 t233 (wrap64 (x5_1 - 1)) s0_0 t237 t238 y241) = some (r1,r2,r3):=by first|(rw [hy241]; with_reducible exact H)|(have H2_:=(Option.bind_some _ _).symm.trans H; rw [hy241]; with_reducible exact H2_)|(have H2_:=(Option.bind_some _ _).symm.trans H; with_reducible exact H2_)|with_reducible exact H|(rw [hy241]; exact H)|exact H
           have Ny241:=Aside0.mk hy241
           clear hy241
           have H':=Aside0.mk H
           clear H
           try go_wp2_with (first|((with_reducible refine gate_callee (f:=75) rfl ?_); refine goesL_ (some 21) rfl rfl Try.func75 (by kernel_rfl) rfl #[.pointer (some ⟨g,0,none⟩),.int .i64 12] rfl (by (try simp only [List.map_toArray,List.map_cons,List.map_nil]); first|done|rfl|(simp only [List.length_drop,List.length_take]; rfl)) ?_; (with_reducible refine (spec_l01Below.calls g s0_0 x1001_1 x1002_1 12 t236 t237 t238 w0 _ ?side1 ?side2 A18.out).mono ?_); (case side1 => repeat (first|(with_reducible first|exact HI0.out|apply IsS80.alloc|apply IsS80.drewN|apply IsS80.drew|apply IsS80.set_1|apply IsS80.set_2|refine IsS80.far ?_ NB0_225.out _|refine IsS80.far ?_ NB0_229.out _)|exact HI0.out)); (case side2 => repeat (first|(with_reducible first|exact HB.out|apply below_alloc|apply pw_below_drewN|apply below_drew1|refine below_set ?_ (IsS80.ge HI0.out)|refine below_set ?_ GE225.out|refine below_set ?_ GE229.out)|exact HB.out)); rintro e w26 ⟨rfl,hi,hb,hk⟩; refine ⟨_,rfl,?_⟩; have n0_:=Aside0.mk (Kd.R_mono (Kd.R_keep (IsS80.apart (show IsS80 w0 _ g s0_0 x1001_1 x1002_1 from by repeat (first|(with_reducible first|exact HI0.out|apply IsS80.alloc|apply IsS80.drewN|apply IsS80.drew|apply IsS80.set_1|apply IsS80.set_2|refine IsS80.far ?_ NB0_225.out _|refine IsS80.far ?_ NB0_229.out _)|exact HI0.out)) (by (with_reducible repeat (first|apply Kd.R_alloc|apply Kd.R_drewN|apply Kd.R_drew)); exact HO_230000.out) (by decide)) hk (fun _ h => h.2)) (fun _ h => h.1)); have n1_:=Aside0.mk (KeepBut.blk hk (g':=gb225) (o:=.cells #[.slice none 0 0] 42 (0,0)) (by (with_reducible repeat (first|refine blk_drewN ?_ _|refine blk_drew ?_|refine blk_alloc ?_ _)); exact BK225.out) NB225_0.out (by simp)); have n2_:=Aside0.mk (KeepBut.blk hk (g':=gb229) (o:=.cells #[u230000] 42 (0,0)) (by (with_reducible repeat (first|refine blk_drewN ?_ _|refine blk_drew ?_|refine blk_alloc ?_ _)); exact BK229.out) NB229_0.out (by simp)); have n3_:=Aside0.mk (KeepBut.trans (by repeat (first|(with_reducible first|exact HK.out|apply KeepBut.set_|apply keep_drewN|apply keep_drew|apply keep_alloc|refine keep_far ?_ GW225.out _|refine keep_far ?_ GW229.out _)|exact HK.out)) hk (.inl rfl)); have n4_:=Aside0.mk (hb); have n5_:=Aside0.mk (hi); clear HO_230000; clear BK225; clear BK229; clear HK; clear HB; clear HI0; have HO_230000:=n0_; have BK225:=n1_; have BK229:=n2_; have HK:=n3_; have HB:=n4_; have HI0:=n5_; clear n0_ n1_ n2_ n3_ n4_ n5_; (try clear hb); (try clear hb2); (try clear hk); (try clear hi); have hnb27:=NB229_225.out; have hnc27:=NB225_229.out; have hnb28:=NB229_0.out; have hnc28:=NB0_229.out; have hcz29_0 : w26.cell? ⟨gb229,0,none⟩ = some (u230000):=(blk_cell BK229.out 0).trans rfl; have hfz29_0:=blk_frozen BK229.out 0; obtain ⟨Ao30,co30,eo30⟩:=Kd.R_slice HO_230000.out; subst eo30; have p239 : 0 ≤ (t236 : Int):=of_decide_eq_true (by first|(with_reducible assumption)|assumption); have q239 : t236 < (x230000_1.length : Int):=of_decide_eq_true (by first|(with_reducible assumption)|assumption); obtain ⟨ad239,e239,hx239_0⟩:=Kd.at_int (Kd.R_reads' HO_230000.out).2.2 t236 p239 q239; cases e239; replace p239:=eq_true p239; replace q239:=eq_true q239))
           have n0_:=Aside0.mk (Kd.R_drew HO_230000.out)
           have n1_:=Aside0.mk (blk_drew BK225.out)
           have n2_:=Aside0.mk (blk_drew BK229.out)
           have n3_:=Aside0.mk (IsS80.drew HI0.out)
           have n4_:=Aside0.mk (keep_drew HK.out)
           have n5_:=Aside0.mk (below_drew1 HB.out)
           clear HO_230000
           clear BK225
           clear BK229
           clear HI0
           clear HK
           clear HB
           have HO_230000:=n0_
           have BK225:=n1_
           have BK229:=n2_
           have HI0:=n3_
           have HK:=n4_
           have HB:=n5_
           clear n0_ n1_ n2_ n3_ n4_ n5_
           have p240 : 0 ≤ ((ji22) : Int):=of_decide_eq_true (by first|(with_reducible assumption)|assumption)
           have q240 : (ji22) < (x230000_1.length : Int):=of_decide_eq_true (by first|(with_reducible assumption)|assumption)
           obtain ⟨ad240,e240,hx240_0⟩:=Kd.at_int (Kd.R_reads' HO_230000.out).2.2 (ji22) p240 q240
           obtain rfl : ad239 = ad240:=(by injection e240)
           replace p240:=eq_true p240
           replace q240:=eq_true q240
           have p25 : 0 ≤ ((ji22) : Int):=of_decide_eq_true (by first|(with_reducible assumption)|assumption)
           have q25 : ((ji22) : Int) < ((x230000_1.length : Int) : Int):=of_decide_eq_true (by first|(with_reducible assumption)|assumption)
           obtain ⟨go25,co25,eo25,gb25,gl25,cl25,HG25⟩:=Kd.R_form HO_230000.out (by omega)
           (first|cases eo25|(injection eo25 with ea_ en_ ec_; (first|subst ea_|(injection ea_ with ea_; subst ea_)); subst ec_; clear en_))
           have GB25:=Aside0.mk gb25
           have GG25:=Aside0.mk HG25
           clear gb25 gl25 HG25
           (first|simp only [add_plain] at hx239_0|skip)
           (first|simp only [add_plain] at hx240_0|skip)
           obtain ⟨hx25_0,hf25_0⟩:=Kd.R_celln 0 HO_230000.out ((ji22) : Int) p25 q25
           replace p25:=eq_true p25
           replace q25:=eq_true q25
           have HN0_go25:=Aside0.mk (show g ≠ go25 from by have h_:=IsS80.own_ne HI0.out HO_230000.out (by decide); intro e_; exact h_ (by rw [e_]; rfl))
           have HP32:=Kd.R_putn HO_230000.out ((ji22) : Int) (wrap64 ((rd x230000_1 (ji22)) + t233))
           rw [← Ny241.out] at HP32
           have HQ32:=Aside0.mk HP32
           clear HP32
           refine start_ (n:=12) (S:=fun w' => w'.cell? ⟨gb229,0,none⟩ = some (.slice (some ⟨go25,0,none⟩) x230000_1.length co30) ∧ w'.cell? ⟨go25,((ji22)).toNat,none⟩ = some (.int .i64 (rd x230000_1 (ji22)))) (ds:=[11]) #[false,false,false,false,false,false,false,false,false,false,false,false] (by kernel_rfl) rfl rfl ⟨(blk_cell BK229.out 0).trans rfl,hx240_0⟩ (fun hHeld => ?_); refine with_tabW spec_l12Circle.tab9 spec_l12Circle.bits9 (fun HT_ HW_ => ?_)
           generalize w26.drew = w31 at HO_230000 BK225 BK229 HI0 HK HB GG25 HQ32 hf25_0 hx239_0 hx240_0 hx25_0 hHeld ⊢
           refine pure_ (i:=0) (N:=some 31) (v:=?_) (a':=?_) #[true,false,false,false,false,false,false,false,false,false,false,false] rfl rfl (any_of HT_.out (by kernel_rfl)) (fun _ _ _ h => h) (Or.inl ⟨by rfl,?_⟩) ?_ ?_
           rotate_left
           ·intro w'
            go_simp
            first|(with_reducible rfl)|(simp only [Instr.field,go_sem, *]; rfl)
           rotate_left
           ·simp only [Act.put,List.setIfInBounds_toArray,List.set_cons_zero,List.set_cons_succ,i64_w,i32_w]
            rfl
           refine pure_ (i:=2) (N:=some 33) (v:=?_) (a':=?_) #[true,false,true,false,false,false,false,false,false,false,false,false] rfl rfl (any_of HT_.out (by kernel_rfl)) (fun _ _ _ h => h) (Or.inl ⟨by rfl,?_⟩) ?_ ?_
           rotate_left
           ·intro w'
            go_simp
            first|(with_reducible rfl)|(simp only [Instr.field,go_sem, *]; rfl)
           rotate_left
           ·simp only [Act.put,List.setIfInBounds_toArray,List.set_cons_zero,List.set_cons_succ,i64_w,i32_w]
            rfl
           refine pure_ (i:=3) (N:=some 34) (v:=?_) (a':=?_) #[true,false,true,true,false,false,false,false,false,false,false,false] rfl rfl (any_of HT_.out (by kernel_rfl)) (fun _ _ _ h => h) (Or.inl ⟨by rfl,?_⟩) ?_ ?_
           rotate_left
           ·intro w'
            go_simp
            first|(with_reducible rfl)|(simp only [Instr.field,go_sem, *]; rfl)
           rotate_left
           ·simp only [Act.put,List.setIfInBounds_toArray,List.set_cons_zero,List.set_cons_succ,i64_w,i32_w]
            rfl
           refine pure_ (i:=5) (N:=some 36) (v:=?_) (a':=?_) #[true,false,true,true,false,true,false,false,false,false,false,false] rfl rfl (any_of HT_.out (by kernel_rfl)) (fun _ _ _ h => h) (Or.inl ⟨by rfl,?_⟩) ?_ ?_
           rotate_left
           ·intro w'
            go_simp
            first|(with_reducible rfl)|(simp only [Instr.field,go_sem, *]; rfl)
           rotate_left
           ·simp only [Act.put,List.setIfInBounds_toArray,List.set_cons_zero,List.set_cons_succ,i64_w,i32_w]
            rfl
           refine pure_ (i:=8) (N:=some 39) (v:=?_) (a':=?_) #[true,false,true,true,false,true,false,false,true,false,false,false] rfl rfl (any_of HT_.out (by kernel_rfl)) (fun _ _ _ h => h) (Or.inl ⟨by rfl,?_⟩) ?_ ?_
           rotate_left
           ·intro w'
            go_simp
            first|(with_reducible rfl)|(simp only [Instr.field,go_sem, *]; rfl)
           rotate_left
           ·simp only [Act.put,List.setIfInBounds_toArray,List.set_cons_zero,List.set_cons_succ,i64_w,i32_w]
            rfl
           refine take_ (i:=1) (N:=some 32) (v:=?_) (a':=?_) #[true,true,true,true,false,true,false,false,true,false,false,false] rfl rfl (take_ofW HT_.out HW_.out (by kernel_rfl)) (fun _ _ _ h => h) (Or.inl ⟨by rfl,?_⟩) hHeld ?_ ?_
           rotate_left
           ·rintro w' ⟨s0,s1⟩
            go_simp
            first|(with_reducible rfl)|(simp only [Instr.field,go_sem, *]; rfl)
           rotate_left
           ·simp only [Act.put,List.setIfInBounds_toArray,List.set_cons_zero,List.set_cons_succ,i64_w,i32_w]
            rfl
           refine take_ (i:=4) (N:=some 35) (v:=?_) (a':=?_) #[true,true,true,true,true,true,false,false,true,false,false,false] rfl rfl (take_ofW HT_.out HW_.out (by kernel_rfl)) (fun _ _ _ h => h) (Or.inl ⟨by rfl,?_⟩) hHeld ?_ ?_
           rotate_left
           ·rintro w' ⟨s0,s1⟩
            go_simp
            first|(with_reducible rfl)|(simp only [Instr.field,go_sem, *]; rfl)
           rotate_left
           ·simp only [Act.put,List.setIfInBounds_toArray,List.set_cons_zero,List.set_cons_succ,i64_w,i32_w]
            rfl
           refine pure_ (i:=6) (N:=some 37) (v:=?_) (a':=?_) #[true,true,true,true,true,true,true,false,true,false,false,false] rfl rfl (any_of HT_.out (by kernel_rfl)) (fun _ _ _ h => h) (Or.inl ⟨by rfl,?_⟩) ?_ ?_
           rotate_left
           ·intro w'
            go_simp
            first|(with_reducible rfl)|(simp only [Instr.field,go_sem, *]; rfl)
           rotate_left
           ·simp only [Act.put,List.setIfInBounds_toArray,List.set_cons_zero,List.set_cons_succ,i64_w,i32_w]
            rfl
           refine take_ (i:=7) (N:=some 38) (v:=?_) (a':=?_) #[true,true,true,true,true,true,true,true,true,false,false,false] rfl rfl (take_ofW HT_.out HW_.out (by kernel_rfl)) (fun _ _ _ h => h) (Or.inl ⟨by rfl,?_⟩) hHeld ?_ ?_
           rotate_left
           ·rintro w' ⟨s0,s1⟩
            go_simp
            first|(with_reducible rfl)|(simp only [Instr.field,go_sem, *]; rfl)
           rotate_left
           ·simp only [Act.put,List.setIfInBounds_toArray,List.set_cons_zero,List.set_cons_succ,i64_w,i32_w]
            rfl
           refine pure_ (i:=9) (N:=some 40) (v:=?_) (a':=?_) #[true,true,true,true,true,true,true,true,true,true,false,false] rfl rfl (any_of HT_.out (by kernel_rfl)) (fun _ _ _ h => h) (Or.inl ⟨by rfl,?_⟩) ?_ ?_
           rotate_left
           ·intro w'
            go_simp
            first|(with_reducible rfl)|(simp only [Instr.field,go_sem, *]; rfl)
           rotate_left
           ·simp only [Act.put,List.setIfInBounds_toArray,List.set_cons_zero,List.set_cons_succ,i64_w,i32_w]
            rfl
           refine pure_ (i:=10) (N:=some 41) (v:=?_) (a':=?_) #[true,true,true,true,true,true,true,true,true,true,true,false] rfl rfl (any_of HT_.out (by kernel_rfl)) (fun _ _ _ h => h) (Or.inl ⟨by rfl,?_⟩) ?_ ?_
           rotate_left
           ·intro w'
            go_simp
            first|(with_reducible rfl)|(simp only [Instr.field,go_sem, *]; rfl)
           rotate_left
           ·simp only [Act.put,List.setIfInBounds_toArray,List.set_cons_zero,List.set_cons_succ,i64_w,i32_w]
            rfl
           refine last_ (i:=11) (N:=none) #[true,true,true,true,true,true,true,true,true,true,true,true] rfl rfl (one_of HT_.out (by kernel_rfl)) (by decide) (fun K hK => ?_)
           refine skip_ (w1:=?_) (by rfl) rfl ?_ ?_
           rotate_left
           ·go_simp
            rfl
           refine hK.out _ _ ?_
           clear hK K
           refine done_ (done_of HT_.out (by kernel_rfl)) ?_
           try go_wp2
           go_roundg k1
           case measure => have:=HK1.out; omega
           case rel => exact ⟨(wrap64 (x5_1 - 1)),(t237),(t238),(y241),(.slice (some ⟨go25,0,none⟩) x230000_1.length co30),(by first|rfl|(simp; done)|(simp [*]; done)),H',⟨by have:=HK1.out; omega⟩,⟨by (with_reducible repeat (first|apply Kd.R_alloc|apply Kd.R_drewN|apply Kd.R_drew)); exact HQ32.out⟩,⟨by (with_reducible repeat (first|refine blk_drewN ?_ _|refine blk_drew ?_|refine blk_alloc ?_ _)); refine blk_far ?_ (by have h_:=Kd.R_ne HO_230000.out BK225.out (by decide); intro e_; exact h_ (by rw [e_]; rfl)) _; (with_reducible repeat (first|refine blk_drewN ?_ _|refine blk_drew ?_|refine blk_alloc ?_ _)); exact BK225.out⟩,⟨by (with_reducible repeat (first|refine blk_drewN ?_ _|refine blk_drew ?_|refine blk_alloc ?_ _)); refine blk_far ?_ (by have h_:=Kd.R_ne HO_230000.out BK229.out (by decide); intro e_; exact h_ (by rw [e_]; rfl)) _; (with_reducible repeat (first|refine blk_drewN ?_ _|refine blk_drew ?_|refine blk_alloc ?_ _)); exact BK229.out⟩,⟨by repeat (first|(with_reducible first|exact HI0.out|apply IsS80.alloc|apply IsS80.drewN|apply IsS80.drew|apply IsS80.set_1|apply IsS80.set_2|refine IsS80.far ?_ HN0_go25.out _|refine IsS80.far ?_ NB0_225.out _|refine IsS80.far ?_ NB0_229.out _)|exact HI0.out)⟩,⟨by repeat (first|(with_reducible first|exact HK.out|apply KeepBut.set_|apply keep_drewN|apply keep_drew|apply keep_alloc|refine keep_far ?_ GB25.out _|refine keep_far ?_ GW225.out _|refine keep_far ?_ GW229.out _)|exact HK.out)⟩,⟨by repeat (first|(with_reducible first|exact HB.out|apply below_alloc|apply pw_below_drewN|apply below_drew1|refine below_set ?_ (Nat.le_trans HL.out GB25.out)|refine below_set ?_ (IsS80.ge HI0.out)|refine below_set ?_ GE225.out|refine below_set ?_ GE229.out)|exact HB.out)⟩⟩
          ·rw [if_neg c24] at H
           exact absurd H (by simp)
         ·rw [if_neg c23] at H
          exact absurd H (by simp)
        ·rw [if_neg c21] at H
         have c21b0 : decide (8 < (rd x230000_1 t236)) = false:=decide_eq_false c21
         clear c21
         obtain ⟨y243,hy243⟩ : ∃ y_ : List Int,y_ = (x230000_1.set (t236 : Int).toNat (wrap64 ((rd x230000_1 t236) + t233))):=⟨_,rfl⟩
         replace H : (spec_l12Circle.l0 k1 t233 (wrap64 (x5_1 - 1)) s0_0 t237 t238 y243) = some (r1,r2,r3):=by first|(rw [hy243]; with_reducible exact H)|(have H2_:=(Option.bind_some _ _).symm.trans H; rw [hy243]; with_reducible exact H2_)|(have H2_:=(Option.bind_some _ _).symm.trans H; with_reducible exact H2_)|with_reducible exact H|(rw [hy243]; exact H)|exact H
         have Ny243:=Aside0.mk hy243
         clear hy243
         have H':=Aside0.mk H
         clear H
         try go_wp2_with (first|((with_reducible refine gate_callee (f:=75) rfl ?_); refine goesL_ (some 21) rfl rfl Try.func75 (by kernel_rfl) rfl #[.pointer (some ⟨g,0,none⟩),.int .i64 12] rfl (by (try simp only [List.map_toArray,List.map_cons,List.map_nil]); first|done|rfl|(simp only [List.length_drop,List.length_take]; rfl)) ?_; (with_reducible refine (spec_l01Below.calls g s0_0 x1001_1 x1002_1 12 t236 t237 t238 w0 _ ?side1 ?side2 A18.out).mono ?_); (case side1 => repeat (first|(with_reducible first|exact HI0.out|apply IsS80.alloc|apply IsS80.drewN|apply IsS80.drew|apply IsS80.set_1|apply IsS80.set_2|refine IsS80.far ?_ NB0_225.out _|refine IsS80.far ?_ NB0_229.out _)|exact HI0.out)); (case side2 => repeat (first|(with_reducible first|exact HB.out|apply below_alloc|apply pw_below_drewN|apply below_drew1|refine below_set ?_ (IsS80.ge HI0.out)|refine below_set ?_ GE225.out|refine below_set ?_ GE229.out)|exact HB.out)); rintro e w34 ⟨rfl,hi,hb,hk⟩; refine ⟨_,rfl,?_⟩; have n0_:=Aside0.mk (Kd.R_mono (Kd.R_keep (IsS80.apart (show IsS80 w0 _ g s0_0 x1001_1 x1002_1 from by repeat (first|(with_reducible first|exact HI0.out|apply IsS80.alloc|apply IsS80.drewN|apply IsS80.drew|apply IsS80.set_1|apply IsS80.set_2|refine IsS80.far ?_ NB0_225.out _|refine IsS80.far ?_ NB0_229.out _)|exact HI0.out)) (by (with_reducible repeat (first|apply Kd.R_alloc|apply Kd.R_drewN|apply Kd.R_drew)); exact HO_230000.out) (by decide)) hk (fun _ h => h.2)) (fun _ h => h.1)); have n1_:=Aside0.mk (KeepBut.blk hk (g':=gb225) (o:=.cells #[.slice none 0 0] 42 (0,0)) (by (with_reducible repeat (first|refine blk_drewN ?_ _|refine blk_drew ?_|refine blk_alloc ?_ _)); exact BK225.out) NB225_0.out (by simp)); have n2_:=Aside0.mk (KeepBut.blk hk (g':=gb229) (o:=.cells #[u230000] 42 (0,0)) (by (with_reducible repeat (first|refine blk_drewN ?_ _|refine blk_drew ?_|refine blk_alloc ?_ _)); exact BK229.out) NB229_0.out (by simp)); have n3_:=Aside0.mk (KeepBut.trans (by repeat (first|(with_reducible first|exact HK.out|apply KeepBut.set_|apply keep_drewN|apply keep_drew|apply keep_alloc|refine keep_far ?_ GW225.out _|refine keep_far ?_ GW229.out _)|exact HK.out)) hk (.inl rfl)); have n4_:=Aside0.mk (hb); have n5_:=Aside0.mk (hi); clear HO_230000; clear BK225; clear BK229; clear HK; clear HB; clear HI0; have HO_230000:=n0_; have BK225:=n1_; have BK229:=n2_; have HK:=n3_; have HB:=n4_; have HI0:=n5_; clear n0_ n1_ n2_ n3_ n4_ n5_; (try clear hb); (try clear hb2); (try clear hk); (try clear hi); have hnb35:=NB229_225.out; have hnc35:=NB225_229.out; have hnb36:=NB229_0.out; have hnc36:=NB0_229.out; have hcz37_0 : w34.cell? ⟨gb229,0,none⟩ = some (u230000):=(blk_cell BK229.out 0).trans rfl; have hfz37_0:=blk_frozen BK229.out 0; obtain ⟨Ao38,co38,eo38⟩:=Kd.R_slice HO_230000.out; subst eo38; have p239 : 0 ≤ (t236 : Int):=of_decide_eq_true (by first|(with_reducible assumption)|assumption); have q239 : t236 < (x230000_1.length : Int):=of_decide_eq_true (by first|(with_reducible assumption)|assumption); obtain ⟨ad239,e239,hx239_0⟩:=Kd.at_int (Kd.R_reads' HO_230000.out).2.2 t236 p239 q239; cases e239; replace p239:=eq_true p239; replace q239:=eq_true q239))
         have n0_:=Aside0.mk (Kd.R_drew HO_230000.out)
         have n1_:=Aside0.mk (blk_drew BK225.out)
         have n2_:=Aside0.mk (blk_drew BK229.out)
         have n3_:=Aside0.mk (IsS80.drew HI0.out)
         have n4_:=Aside0.mk (keep_drew HK.out)
         have n5_:=Aside0.mk (below_drew1 HB.out)
         clear HO_230000
         clear BK225
         clear BK229
         clear HI0
         clear HK
         clear HB
         have HO_230000:=n0_
         have BK225:=n1_
         have BK229:=n2_
         have HI0:=n3_
         have HK:=n4_
         have HB:=n5_
         clear n0_ n1_ n2_ n3_ n4_ n5_
         have p242 : 0 ≤ (t236 : Int):=of_decide_eq_true (by first|(with_reducible assumption)|assumption)
         have q242 : t236 < (x230000_1.length : Int):=of_decide_eq_true (by first|(with_reducible assumption)|assumption)
         obtain ⟨ad242,e242,hx242_0⟩:=Kd.at_int (Kd.R_reads' HO_230000.out).2.2 t236 p242 q242
         obtain rfl : ad239 = ad242:=(by injection e242)
         replace p242:=eq_true p242
         replace q242:=eq_true q242
         have p33 : 0 ≤ (t236 : Int):=of_decide_eq_true (by first|(with_reducible assumption)|assumption)
         have q33 : (t236 : Int) < ((x230000_1.length : Int) : Int):=of_decide_eq_true (by first|(with_reducible assumption)|assumption)
         obtain ⟨go33,co33,eo33,gb33,gl33,cl33,HG33⟩:=Kd.R_form HO_230000.out (by omega)
         (first|cases eo33|(injection eo33 with ea_ en_ ec_; (first|subst ea_|(injection ea_ with ea_; subst ea_)); subst ec_; clear en_))
         have GB33:=Aside0.mk gb33
         have GG33:=Aside0.mk HG33
         clear gb33 gl33 HG33
         (first|simp only [add_plain] at hx239_0|skip)
         (first|simp only [add_plain] at hx242_0|skip)
         obtain ⟨hx33_0,hf33_0⟩:=Kd.R_celln 0 HO_230000.out (t236 : Int) p33 q33
         replace p33:=eq_true p33
         replace q33:=eq_true q33
         have HN0_go33:=Aside0.mk (show g ≠ go33 from by have h_:=IsS80.own_ne HI0.out HO_230000.out (by decide); intro e_; exact h_ (by rw [e_]; rfl))
         have HP40:=Kd.R_putn HO_230000.out (t236 : Int) (wrap64 ((rd x230000_1 t236) + t233))
         rw [← Ny243.out] at HP40
         have HQ40:=Aside0.mk HP40
         clear HP40
         refine start_ (n:=12) (S:=fun w' => w'.cell? ⟨gb229,0,none⟩ = some (.slice (some ⟨go33,0,none⟩) x230000_1.length co38) ∧ w'.cell? ⟨go33,(t236).toNat,none⟩ = some (.int .i64 (rd x230000_1 t236))) (ds:=[11]) #[false,false,false,false,false,false,false,false,false,false,false,false] (by kernel_rfl) rfl rfl ⟨(blk_cell BK229.out 0).trans rfl,hx242_0⟩ (fun hHeld => ?_); refine with_tabW spec_l12Circle.tab9 spec_l12Circle.bits9 (fun HT_ HW_ => ?_)
         generalize w34.drew = w39 at HO_230000 BK225 BK229 HI0 HK HB GG33 HQ40 hf33_0 hx239_0 hx242_0 hx33_0 hHeld ⊢
         refine pure_ (i:=0) (N:=some 31) (v:=?_) (a':=?_) #[true,false,false,false,false,false,false,false,false,false,false,false] rfl rfl (any_of HT_.out (by kernel_rfl)) (fun _ _ _ h => h) (Or.inl ⟨by rfl,?_⟩) ?_ ?_
         rotate_left
         ·intro w'
          go_simp
          first|(with_reducible rfl)|(simp only [Instr.field,go_sem, *]; rfl)
         rotate_left
         ·simp only [Act.put,List.setIfInBounds_toArray,List.set_cons_zero,List.set_cons_succ,i64_w,i32_w]
          rfl
         refine pure_ (i:=2) (N:=some 33) (v:=?_) (a':=?_) #[true,false,true,false,false,false,false,false,false,false,false,false] rfl rfl (any_of HT_.out (by kernel_rfl)) (fun _ _ _ h => h) (Or.inl ⟨by rfl,?_⟩) ?_ ?_
         rotate_left
         ·intro w'
          go_simp
          first|(with_reducible rfl)|(simp only [Instr.field,go_sem, *]; rfl)
         rotate_left
         ·simp only [Act.put,List.setIfInBounds_toArray,List.set_cons_zero,List.set_cons_succ,i64_w,i32_w]
          rfl
         refine pure_ (i:=3) (N:=some 34) (v:=?_) (a':=?_) #[true,false,true,true,false,false,false,false,false,false,false,false] rfl rfl (any_of HT_.out (by kernel_rfl)) (fun _ _ _ h => h) (Or.inl ⟨by rfl,?_⟩) ?_ ?_
         rotate_left
         ·intro w'
          go_simp
          first|(with_reducible rfl)|(simp only [Instr.field,go_sem, *]; rfl)
         rotate_left
         ·simp only [Act.put,List.setIfInBounds_toArray,List.set_cons_zero,List.set_cons_succ,i64_w,i32_w]
          rfl
         refine pure_ (i:=5) (N:=some 36) (v:=?_) (a':=?_) #[true,false,true,true,false,true,false,false,false,false,false,false] rfl rfl (any_of HT_.out (by kernel_rfl)) (fun _ _ _ h => h) (Or.inl ⟨by rfl,?_⟩) ?_ ?_
         rotate_left
         ·intro w'
          go_simp
          first|(with_reducible rfl)|(simp only [Instr.field,go_sem, *]; rfl)
         rotate_left
         ·simp only [Act.put,List.setIfInBounds_toArray,List.set_cons_zero,List.set_cons_succ,i64_w,i32_w]
          rfl
         refine pure_ (i:=8) (N:=some 39) (v:=?_) (a':=?_) #[true,false,true,true,false,true,false,false,true,false,false,false] rfl rfl (any_of HT_.out (by kernel_rfl)) (fun _ _ _ h => h) (Or.inl ⟨by rfl,?_⟩) ?_ ?_
         rotate_left
         ·intro w'
          go_simp
          first|(with_reducible rfl)|(simp only [Instr.field,go_sem, *]; rfl)
         rotate_left
         ·simp only [Act.put,List.setIfInBounds_toArray,List.set_cons_zero,List.set_cons_succ,i64_w,i32_w]
          rfl
         refine take_ (i:=1) (N:=some 32) (v:=?_) (a':=?_) #[true,true,true,true,false,true,false,false,true,false,false,false] rfl rfl (take_ofW HT_.out HW_.out (by kernel_rfl)) (fun _ _ _ h => h) (Or.inl ⟨by rfl,?_⟩) hHeld ?_ ?_
         rotate_left
         ·rintro w' ⟨s0,s1⟩
          go_simp
          first|(with_reducible rfl)|(simp only [Instr.field,go_sem, *]; rfl)
         rotate_left
         ·simp only [Act.put,List.setIfInBounds_toArray,List.set_cons_zero,List.set_cons_succ,i64_w,i32_w]
          rfl
         refine take_ (i:=4) (N:=some 35) (v:=?_) (a':=?_) #[true,true,true,true,true,true,false,false,true,false,false,false] rfl rfl (take_ofW HT_.out HW_.out (by kernel_rfl)) (fun _ _ _ h => h) (Or.inl ⟨by rfl,?_⟩) hHeld ?_ ?_
         rotate_left
         ·rintro w' ⟨s0,s1⟩
          go_simp
          first|(with_reducible rfl)|(simp only [Instr.field,go_sem, *]; rfl)
         rotate_left
         ·simp only [Act.put,List.setIfInBounds_toArray,List.set_cons_zero,List.set_cons_succ,i64_w,i32_w]
          rfl
         refine pure_ (i:=6) (N:=some 37) (v:=?_) (a':=?_) #[true,true,true,true,true,true,true,false,true,false,false,false] rfl rfl (any_of HT_.out (by kernel_rfl)) (fun _ _ _ h => h) (Or.inl ⟨by rfl,?_⟩) ?_ ?_
         rotate_left
         ·intro w'
          go_simp
          first|(with_reducible rfl)|(simp only [Instr.field,go_sem, *]; rfl)
         rotate_left
         ·simp only [Act.put,List.setIfInBounds_toArray,List.set_cons_zero,List.set_cons_succ,i64_w,i32_w]
          rfl
         refine take_ (i:=7) (N:=some 38) (v:=?_) (a':=?_) #[true,true,true,true,true,true,true,true,true,false,false,false] rfl rfl (take_ofW HT_.out HW_.out (by kernel_rfl)) (fun _ _ _ h => h) (Or.inl ⟨by rfl,?_⟩) hHeld ?_ ?_
         rotate_left
         ·rintro w' ⟨s0,s1⟩
          go_simp
          first|(with_reducible rfl)|(simp only [Instr.field,go_sem, *]; rfl)
         rotate_left
         ·simp only [Act.put,List.setIfInBounds_toArray,List.set_cons_zero,List.set_cons_succ,i64_w,i32_w]
          rfl
         refine pure_ (i:=9) (N:=some 40) (v:=?_) (a':=?_) #[true,true,true,true,true,true,true,true,true,true,false,false] rfl rfl (any_of HT_.out (by kernel_rfl)) (fun _ _ _ h => h) (Or.inl ⟨by rfl,?_⟩) ?_ ?_
         rotate_left
         ·intro w'
          go_simp
          first|(with_reducible rfl)|(simp only [Instr.field,go_sem, *]; rfl)
         rotate_left
         ·simp only [Act.put,List.setIfInBounds_toArray,List.set_cons_zero,List.set_cons_succ,i64_w,i32_w]
          rfl
         refine pure_ (i:=10) (N:=some 41) (v:=?_) (a':=?_) #[true,true,true,true,true,true,true,true,true,true,true,false] rfl rfl (any_of HT_.out (by kernel_rfl)) (fun _ _ _ h => h) (Or.inl ⟨by rfl,?_⟩) ?_ ?_
         rotate_left
         ·intro w'
          go_simp
          first|(with_reducible rfl)|(simp only [Instr.field,go_sem, *]; rfl)
         rotate_left
         ·simp only [Act.put,List.setIfInBounds_toArray,List.set_cons_zero,List.set_cons_succ,i64_w,i32_w]
          rfl
         refine last_ (i:=11) (N:=none) #[true,true,true,true,true,true,true,true,true,true,true,true] rfl rfl (one_of HT_.out (by kernel_rfl)) (by decide) (fun K hK => ?_)
         refine skip_ (w1:=?_) (by rfl) rfl ?_ ?_
         rotate_left
         ·go_simp
          rfl
         refine hK.out _ _ ?_
         clear hK K
         refine done_ (done_of HT_.out (by kernel_rfl)) ?_
         try go_wp2
         go_roundg k1
         case measure => have:=HK1.out; omega
         case rel => exact ⟨(wrap64 (x5_1 - 1)),(t237),(t238),(y243),(.slice (some ⟨go33,0,none⟩) x230000_1.length co38),(by first|rfl|(simp; done)|(simp [*]; done)),H',⟨by have:=HK1.out; omega⟩,⟨by (with_reducible repeat (first|apply Kd.R_alloc|apply Kd.R_drewN|apply Kd.R_drew)); exact HQ40.out⟩,⟨by (with_reducible repeat (first|refine blk_drewN ?_ _|refine blk_drew ?_|refine blk_alloc ?_ _)); refine blk_far ?_ (by have h_:=Kd.R_ne HO_230000.out BK225.out (by decide); intro e_; exact h_ (by rw [e_]; rfl)) _; (with_reducible repeat (first|refine blk_drewN ?_ _|refine blk_drew ?_|refine blk_alloc ?_ _)); exact BK225.out⟩,⟨by (with_reducible repeat (first|refine blk_drewN ?_ _|refine blk_drew ?_|refine blk_alloc ?_ _)); refine blk_far ?_ (by have h_:=Kd.R_ne HO_230000.out BK229.out (by decide); intro e_; exact h_ (by rw [e_]; rfl)) _; (with_reducible repeat (first|refine blk_drewN ?_ _|refine blk_drew ?_|refine blk_alloc ?_ _)); exact BK229.out⟩,⟨by repeat (first|(with_reducible first|exact HI0.out|apply IsS80.alloc|apply IsS80.drewN|apply IsS80.drew|apply IsS80.set_1|apply IsS80.set_2|refine IsS80.far ?_ HN0_go33.out _|refine IsS80.far ?_ NB0_225.out _|refine IsS80.far ?_ NB0_229.out _)|exact HI0.out)⟩,⟨by repeat (first|(with_reducible first|exact HK.out|apply KeepBut.set_|apply keep_drewN|apply keep_drew|apply keep_alloc|refine keep_far ?_ GB33.out _|refine keep_far ?_ GW225.out _|refine keep_far ?_ GW229.out _)|exact HK.out)⟩,⟨by repeat (first|(with_reducible first|exact HB.out|apply below_alloc|apply pw_below_drewN|apply below_drew1|refine below_set ?_ (Nat.le_trans HL.out GB33.out)|refine below_set ?_ (IsS80.ge HI0.out)|refine below_set ?_ GE225.out|refine below_set ?_ GE229.out)|exact HB.out)⟩⟩
       ·rw [if_neg c20] at H
        exact absurd H (by simp)
      ·rw [if_neg c19] at H
       exact absurd H (by simp)
     ·rw [if_neg c17] at H
      have c17b0 : decide (0 < x5_1) = false:=decide_eq_false c17
      clear c17
      replace H:=Option.bind_eq_some_iff.mp H
      obtain ⟨⟨t244,t245,t246⟩,A410,H⟩:=H
      replace H : (if t244 = true then ((spec_l01Below.f s0_0 t245 t246 12).bind fun bt247 => ((spec_l01Below.f s0_0 bt247.2.1 bt247.2.2 12).bind fun bt250 => (if 0 ≤ bt247.1 then (if bt247.1 < (x230000_1.length : Int) then (if (rd x230000_1 bt247.1) < 12 then (if 0 ≤ bt250.1 then (if bt250.1 < (x230000_1.length : Int) then (if (rd x230000_1 bt250.1) > 0 then ((some (x230000_1.set (bt247.1 : Int).toNat (wrap64 ((rd x230000_1 bt247.1) + 1)) : List Int)).bind fun y256 => (spec_l12Circle.j1 k1 s0_0 bt250.2.1 bt250.2.2 (y256.set (bt250.1 : Int).toNat (wrap64 ((rd y256 bt250.1) - 1))))) else (spec_l12Circle.j1 k1 s0_0 bt250.2.1 bt250.2.2 x230000_1)) else (none)) else (none)) else (spec_l12Circle.j1 k1 s0_0 bt250.2.1 bt250.2.2 x230000_1)) else (none)) else (none)))) else (spec_l12Circle.j1 k1 s0_0 t245 t246 x230000_1)) = some (r1,r2,r3):=H
      have A41:=Aside0.mk A410
      clear A410
      have HC42:=Aside0.mk H
      clear H
      go_upto_if 43 with (first|((with_reducible refine gate_callee (f:=76) rfl ?_); refine goesL_ (some 43) rfl rfl Try.func76 (by kernel_rfl) rfl #[.pointer (some ⟨g,0,none⟩),.int .i64 4] rfl (by (try simp only [List.map_toArray,List.map_cons,List.map_nil]); first|done|rfl|(simp only [List.length_drop,List.length_take]; rfl)) ?_; (with_reducible refine (spec_l01Once.calls g s0_0 x1001_1 x1002_1 4 t244 t245 t246 w0 _ ?side1 ?side2 A41.out).mono ?_); (case side1 => repeat (first|(with_reducible first|exact HI0.out|apply IsS80.alloc|apply IsS80.drewN|apply IsS80.drew|apply IsS80.set_1|apply IsS80.set_2|refine IsS80.far ?_ NB0_225.out _|refine IsS80.far ?_ NB0_229.out _)|exact HI0.out)); (case side2 => repeat (first|(with_reducible first|exact HB.out|apply below_alloc|apply pw_below_drewN|apply below_drew1|refine below_set ?_ (IsS80.ge HI0.out)|refine below_set ?_ GE225.out|refine below_set ?_ GE229.out)|exact HB.out)); rintro e w43 ⟨rfl,hi,hb,hk⟩; refine ⟨_,rfl,?_⟩; have n0_:=Aside0.mk (Kd.R_mono (Kd.R_keep (IsS80.apart (show IsS80 w0 _ g s0_0 x1001_1 x1002_1 from by repeat (first|(with_reducible first|exact HI0.out|apply IsS80.alloc|apply IsS80.drewN|apply IsS80.drew|apply IsS80.set_1|apply IsS80.set_2|refine IsS80.far ?_ NB0_225.out _|refine IsS80.far ?_ NB0_229.out _)|exact HI0.out)) (by (with_reducible repeat (first|apply Kd.R_alloc|apply Kd.R_drewN|apply Kd.R_drew)); exact HO_230000.out) (by decide)) hk (fun _ h => h.2)) (fun _ h => h.1)); have n1_:=Aside0.mk (KeepBut.blk hk (g':=gb225) (o:=.cells #[.slice none 0 0] 42 (0,0)) (by (with_reducible repeat (first|refine blk_drewN ?_ _|refine blk_drew ?_|refine blk_alloc ?_ _)); exact BK225.out) NB225_0.out (by simp)); have n2_:=Aside0.mk (KeepBut.blk hk (g':=gb229) (o:=.cells #[u230000] 42 (0,0)) (by (with_reducible repeat (first|refine blk_drewN ?_ _|refine blk_drew ?_|refine blk_alloc ?_ _)); exact BK229.out) NB229_0.out (by simp)); have n3_:=Aside0.mk (KeepBut.trans (by repeat (first|(with_reducible first|exact HK.out|apply KeepBut.set_|apply keep_drewN|apply keep_drew|apply keep_alloc|refine keep_far ?_ GW225.out _|refine keep_far ?_ GW229.out _)|exact HK.out)) hk (.inl rfl)); have n4_:=Aside0.mk (hb); have n5_:=Aside0.mk (hi); clear HO_230000; clear BK225; clear BK229; clear HK; clear HB; clear HI0; have HO_230000:=n0_; have BK225:=n1_; have BK229:=n2_; have HK:=n3_; have HB:=n4_; have HI0:=n5_; clear n0_ n1_ n2_ n3_ n4_ n5_; (try clear hb); (try clear hb2); (try clear hk); (try clear hi)))
      (try simp only [Act.put,List.setIfInBounds_toArray,List.set_cons_zero,List.set_cons_succ])
      go_cut [] (fun wc => ∃ (kq : Nat) (x1001_41 : Int) (x1002_41 : Int) (x230000_41 : List Int) (u230000 : Value),Aside0 (spec_l12Circle.j1 kq s0_0 x1001_41 x1002_41 x230000_41 = some (r1,r2,r3)) ∧ Aside0 (kq ≤ k1) ∧ Aside0 (Kd.R (Kd.int .i64) 3 wc w.heap.size (fun _ => True) u230000 x230000_41) ∧ Aside0 (wc.heap[gb225]? = some (.cells #[(.slice none 0 0)] 42 (0,0))) ∧ Aside0 (wc.heap[gb229]? = some (.cells #[u230000] 42 (0,0))) ∧ Aside0 (IsS80 w0 wc g s0_0 x1001_41 x1002_41) ∧ Aside0 (KeepBut w wc g none) ∧ Aside0 (Below w0.heap.size w0 wc))
      case first =>
       have H:=HC42.out
       clear HC42
       by_cases c44 : t244 = true
       ·subst c44
        have H1 : ((spec_l01Below.f s0_0 t245 t246 12).bind fun bt247 => ((spec_l01Below.f s0_0 bt247.2.1 bt247.2.2 12).bind fun bt250 => (if 0 ≤ bt247.1 then (if bt247.1 < (x230000_1.length : Int) then (if (rd x230000_1 bt247.1) < 12 then (if 0 ≤ bt250.1 then (if bt250.1 < (x230000_1.length : Int) then (if (rd x230000_1 bt250.1) > 0 then ((some (x230000_1.set (bt247.1 : Int).toNat (wrap64 ((rd x230000_1 bt247.1) + 1)) : List Int)).bind fun y256 => (spec_l12Circle.j1 k1 s0_0 bt250.2.1 bt250.2.2 (y256.set (bt250.1 : Int).toNat (wrap64 ((rd y256 bt250.1) - 1))))) else (spec_l12Circle.j1 k1 s0_0 bt250.2.1 bt250.2.2 x230000_1)) else (none)) else (none)) else (spec_l12Circle.j1 k1 s0_0 bt250.2.1 bt250.2.2 x230000_1)) else (none)) else (none)))) = some (r1,r2,r3):=by rw [if_pos rfl] at H; exact H
        clear H
        have H:=H1
        clear H1
        replace H:=Option.bind_eq_some_iff.mp H
        obtain ⟨⟨t247,t248,t249⟩,A450,H⟩:=H
        replace H : ((spec_l01Below.f s0_0 t248 t249 12).bind fun bt250 => (if 0 ≤ t247 then (if t247 < (x230000_1.length : Int) then (if (rd x230000_1 t247) < 12 then (if 0 ≤ bt250.1 then (if bt250.1 < (x230000_1.length : Int) then (if (rd x230000_1 bt250.1) > 0 then ((some (x230000_1.set (t247 : Int).toNat (wrap64 ((rd x230000_1 t247) + 1)) : List Int)).bind fun y256 => (spec_l12Circle.j1 k1 s0_0 bt250.2.1 bt250.2.2 (y256.set (bt250.1 : Int).toNat (wrap64 ((rd y256 bt250.1) - 1))))) else (spec_l12Circle.j1 k1 s0_0 bt250.2.1 bt250.2.2 x230000_1)) else (none)) else (none)) else (spec_l12Circle.j1 k1 s0_0 bt250.2.1 bt250.2.2 x230000_1)) else (none)) else (none))) = some (r1,r2,r3):=H
        have A45:=Aside0.mk A450
        clear A450
        replace H:=Option.bind_eq_some_iff.mp H
        obtain ⟨⟨t250,t251,t252⟩,A460,H⟩:=H
        replace H : (if 0 ≤ t247 then (if t247 < (x230000_1.length : Int) then (if (rd x230000_1 t247) < 12 then (if 0 ≤ t250 then (if t250 < (x230000_1.length : Int) then (if (rd x230000_1 t250) > 0 then ((some (x230000_1.set (t247 : Int).toNat (wrap64 ((rd x230000_1 t247) + 1)) : List Int)).bind fun y256 => (spec_l12Circle.j1 k1 s0_0 t251 t252 (y256.set (t250 : Int).toNat (wrap64 ((rd y256 t250) - 1))))) else (spec_l12Circle.j1 k1 s0_0 t251 t252 x230000_1)) else (none)) else (none)) else (spec_l12Circle.j1 k1 s0_0 t251 t252 x230000_1)) else (none)) else (none)) = some (r1,r2,r3):=H
        have A46:=Aside0.mk A460
        clear A460
        by_cases c47 : 0 ≤ t247
        ·rw [if_pos c47] at H
         have c47b0 : decide (0 ≤ t247) = true:=decide_eq_true c47
         clear c47
         (first|rw [c47b0]|(simp only [i64_w,i32_w]; rw [c47b0])|skip)
         by_cases c48 : t247 < (x230000_1.length : Int)
         ·rw [if_pos c48] at H
          have c48b0 : decide (t247 < (x230000_1.length : Int)) = true:=decide_eq_true c48
          clear c48
          by_cases c49 : (rd x230000_1 t247) < 12
          ·rw [if_pos c49] at H
           have c49b0 : decide ((rd x230000_1 t247) < 12) = true:=decide_eq_true c49
           clear c49
           by_cases c50 : 0 ≤ t250
           ·rw [if_pos c50] at H
            have c50b0 : decide (0 ≤ t250) = true:=decide_eq_true c50
            clear c50
            by_cases c51 : t250 < (x230000_1.length : Int)
            ·rw [if_pos c51] at H
             have c51b0 : decide (t250 < (x230000_1.length : Int)) = true:=decide_eq_true c51
             clear c51
             by_cases c52 : (rd x230000_1 t250) > 0
             ·rw [if_pos c52] at H
              have c52b0 : decide (0 < (rd x230000_1 t250)) = true:=decide_eq_true c52
              clear c52
              obtain ⟨y256,hy256⟩ : ∃ y_ : List Int,y_ = (x230000_1.set (t247 : Int).toNat (wrap64 ((rd x230000_1 t247) + 1))):=⟨_,rfl⟩
              replace H : (spec_l12Circle.j1 k1 s0_0 t251 t252 (y256.set (t250 : Int).toNat (wrap64 ((rd y256 t250) - 1)))) = some (r1,r2,r3):=by first|(rw [hy256]; with_reducible exact H)|(have H2_:=(Option.bind_some _ _).symm.trans H; rw [hy256]; with_reducible exact H2_)|(have H2_:=(Option.bind_some _ _).symm.trans H; with_reducible exact H2_)|with_reducible exact H|(rw [hy256]; exact H)|exact H
              have Ny256:=Aside0.mk hy256
              clear hy256
              obtain ⟨y258,hy258⟩ : ∃ y_ : List Int,y_ = (y256.set (t250 : Int).toNat (wrap64 ((rd y256 t250) - 1))):=⟨_,rfl⟩
              replace H : (spec_l12Circle.j1 k1 s0_0 t251 t252 y258) = some (r1,r2,r3):=by first|(rw [hy258]; with_reducible exact H)|(have H2_:=(Option.bind_some _ _).symm.trans H; rw [hy258]; with_reducible exact H2_)|(have H2_:=(Option.bind_some _ _).symm.trans H; with_reducible exact H2_)|with_reducible exact H|(rw [hy258]; exact H)|exact H
              have Ny258:=Aside0.mk hy258
              clear hy258
              have H':=Aside0.mk H
              clear H
              try go_wp2_with (first|((with_reducible refine gate_callee (f:=75) rfl ?_); refine goesL_ (some 45) rfl rfl Try.func75 (by kernel_rfl) rfl #[.pointer (some ⟨g,0,none⟩),.int .i64 12] rfl (by (try simp only [List.map_toArray,List.map_cons,List.map_nil]); first|done|rfl|(simp only [List.length_drop,List.length_take]; rfl)) ?_; (with_reducible refine (spec_l01Below.calls g s0_0 t245 t246 12 t247 t248 t249 w0 _ ?side1 ?side2 A45.out).mono ?_); (case side1 => repeat (first|(with_reducible first|exact HI0.out|apply IsS80.alloc|apply IsS80.drewN|apply IsS80.drew|apply IsS80.set_1|apply IsS80.set_2|refine IsS80.far ?_ NB0_225.out _|refine IsS80.far ?_ NB0_229.out _)|exact HI0.out)); (case side2 => repeat (first|(with_reducible first|exact HB.out|apply below_alloc|apply pw_below_drewN|apply below_drew1|refine below_set ?_ (IsS80.ge HI0.out)|refine below_set ?_ GE225.out|refine below_set ?_ GE229.out)|exact HB.out)); rintro e w55 ⟨rfl,hi,hb,hk⟩; refine ⟨_,rfl,?_⟩; have n0_:=Aside0.mk (Kd.R_mono (Kd.R_keep (IsS80.apart (show IsS80 w0 _ g s0_0 t245 t246 from by repeat (first|(with_reducible first|exact HI0.out|apply IsS80.alloc|apply IsS80.drewN|apply IsS80.drew|apply IsS80.set_1|apply IsS80.set_2|refine IsS80.far ?_ NB0_225.out _|refine IsS80.far ?_ NB0_229.out _)|exact HI0.out)) (by (with_reducible repeat (first|apply Kd.R_alloc|apply Kd.R_drewN|apply Kd.R_drew)); exact HO_230000.out) (by decide)) hk (fun _ h => h.2)) (fun _ h => h.1)); have n1_:=Aside0.mk (KeepBut.blk hk (g':=gb225) (o:=.cells #[.slice none 0 0] 42 (0,0)) (by (with_reducible repeat (first|refine blk_drewN ?_ _|refine blk_drew ?_|refine blk_alloc ?_ _)); exact BK225.out) NB225_0.out (by simp)); have n2_:=Aside0.mk (KeepBut.blk hk (g':=gb229) (o:=.cells #[u230000] 42 (0,0)) (by (with_reducible repeat (first|refine blk_drewN ?_ _|refine blk_drew ?_|refine blk_alloc ?_ _)); exact BK229.out) NB229_0.out (by simp)); have n3_:=Aside0.mk (KeepBut.trans (by repeat (first|(with_reducible first|exact HK.out|apply KeepBut.set_|apply keep_drewN|apply keep_drew|apply keep_alloc|refine keep_far ?_ GW225.out _|refine keep_far ?_ GW229.out _)|exact HK.out)) hk (.inl rfl)); have n4_:=Aside0.mk (hb); have n5_:=Aside0.mk (hi); clear HO_230000; clear BK225; clear BK229; clear HK; clear HB; clear HI0; have HO_230000:=n0_; have BK225:=n1_; have BK229:=n2_; have HK:=n3_; have HB:=n4_; have HI0:=n5_; clear n0_ n1_ n2_ n3_ n4_ n5_; (try clear hb); (try clear hb2); (try clear hk); (try clear hi))|((with_reducible refine gate_callee (f:=75) rfl ?_); refine goesL_ (some 47) rfl rfl Try.func75 (by kernel_rfl) rfl #[.pointer (some ⟨g,0,none⟩),.int .i64 12] rfl (by (try simp only [List.map_toArray,List.map_cons,List.map_nil]); first|done|rfl|(simp only [List.length_drop,List.length_take]; rfl)) ?_; (with_reducible refine (spec_l01Below.calls g s0_0 t248 t249 12 t250 t251 t252 w0 _ ?side1 ?side2 A46.out).mono ?_); (case side1 => repeat (first|(with_reducible first|exact HI0.out|apply IsS80.alloc|apply IsS80.drewN|apply IsS80.drew|apply IsS80.set_1|apply IsS80.set_2|refine IsS80.far ?_ NB0_225.out _|refine IsS80.far ?_ NB0_229.out _)|exact HI0.out)); (case side2 => repeat (first|(with_reducible first|exact HB.out|apply below_alloc|apply pw_below_drewN|apply below_drew1|refine below_set ?_ (IsS80.ge HI0.out)|refine below_set ?_ GE225.out|refine below_set ?_ GE229.out)|exact HB.out)); rintro e w56 ⟨rfl,hi,hb,hk⟩; refine ⟨_,rfl,?_⟩; have n0_:=Aside0.mk (Kd.R_mono (Kd.R_keep (IsS80.apart (show IsS80 w0 _ g s0_0 t248 t249 from by repeat (first|(with_reducible first|exact HI0.out|apply IsS80.alloc|apply IsS80.drewN|apply IsS80.drew|apply IsS80.set_1|apply IsS80.set_2|refine IsS80.far ?_ NB0_225.out _|refine IsS80.far ?_ NB0_229.out _)|exact HI0.out)) (by (with_reducible repeat (first|apply Kd.R_alloc|apply Kd.R_drewN|apply Kd.R_drew)); exact HO_230000.out) (by decide)) hk (fun _ h => h.2)) (fun _ h => h.1)); have n1_:=Aside0.mk (KeepBut.blk hk (g':=gb225) (o:=.cells #[.slice none 0 0] 42 (0,0)) (by (with_reducible repeat (first|refine blk_drewN ?_ _|refine blk_drew ?_|refine blk_alloc ?_ _)); exact BK225.out) NB225_0.out (by simp)); have n2_:=Aside0.mk (KeepBut.blk hk (g':=gb229) (o:=.cells #[u230000] 42 (0,0)) (by (with_reducible repeat (first|refine blk_drewN ?_ _|refine blk_drew ?_|refine blk_alloc ?_ _)); exact BK229.out) NB229_0.out (by simp)); have n3_:=Aside0.mk (KeepBut.trans (by repeat (first|(with_reducible first|exact HK.out|apply KeepBut.set_|apply keep_drewN|apply keep_drew|apply keep_alloc|refine keep_far ?_ GW225.out _|refine keep_far ?_ GW229.out _)|exact HK.out)) hk (.inl rfl)); have n4_:=Aside0.mk (hb); have n5_:=Aside0.mk (hi); clear HO_230000; clear BK225; clear BK229; clear HK; clear HB; clear HI0; have HO_230000:=n0_; have BK225:=n1_; have BK229:=n2_; have HK:=n3_; have HB:=n4_; have HI0:=n5_; clear n0_ n1_ n2_ n3_ n4_ n5_; (try clear hb); (try clear hb2); (try clear hk); (try clear hi); have hnb57:=NB229_225.out; have hnc57:=NB225_229.out; have hnb58:=NB229_0.out; have hnc58:=NB0_229.out; have hcz59_0 : w56.cell? ⟨gb229,0,none⟩ = some (u230000):=(blk_cell BK229.out 0).trans rfl; have hfz59_0:=blk_frozen BK229.out 0; obtain ⟨Ao60,co60,eo60⟩:=Kd.R_slice HO_230000.out; subst eo60; have p253 : 0 ≤ (t247 : Int):=of_decide_eq_true (by first|(with_reducible assumption)|assumption); have q253 : t247 < (x230000_1.length : Int):=of_decide_eq_true (by first|(with_reducible assumption)|assumption); obtain ⟨ad253,e253,hx253_0⟩:=Kd.at_int (Kd.R_reads' HO_230000.out).2.2 t247 p253 q253; cases e253; replace p253:=eq_true p253; replace q253:=eq_true q253; have p254 : 0 ≤ (t250 : Int):=of_decide_eq_true (by first|(with_reducible assumption)|assumption); have q254 : t250 < (x230000_1.length : Int):=of_decide_eq_true (by first|(with_reducible assumption)|assumption); obtain ⟨ad254,e254,hx254_0⟩:=Kd.at_int (Kd.R_reads' HO_230000.out).2.2 t250 p254 q254; obtain rfl : ad253 = ad254:=(by injection e254); replace p254:=eq_true p254; replace q254:=eq_true q254))
              have n0_:=Aside0.mk (Kd.R_drew HO_230000.out)
              have n1_:=Aside0.mk (blk_drew BK225.out)
              have n2_:=Aside0.mk (blk_drew BK229.out)
              have n3_:=Aside0.mk (IsS80.drew HI0.out)
              have n4_:=Aside0.mk (keep_drew HK.out)
              have n5_:=Aside0.mk (below_drew1 HB.out)
              clear HO_230000
              clear BK225
              clear BK229
              clear HI0
              clear HK
              clear HB
              have HO_230000:=n0_
              have BK225:=n1_
              have BK229:=n2_
              have HI0:=n3_
              have HK:=n4_
              have HB:=n5_
              clear n0_ n1_ n2_ n3_ n4_ n5_
              have p255 : 0 ≤ (t247 : Int):=of_decide_eq_true (by first|(with_reducible assumption)|assumption)
              have q255 : t247 < (x230000_1.length : Int):=of_decide_eq_true (by first|(with_reducible assumption)|assumption)
              obtain ⟨ad255,e255,hx255_0⟩:=Kd.at_int (Kd.R_reads' HO_230000.out).2.2 t247 p255 q255
              obtain rfl : ad253 = ad255:=(by injection e255)
              replace p255:=eq_true p255
              replace q255:=eq_true q255
              have p53 : 0 ≤ (t247 : Int):=of_decide_eq_true (by first|(with_reducible assumption)|assumption)
              have q53 : (t247 : Int) < ((x230000_1.length : Int) : Int):=of_decide_eq_true (by first|(with_reducible assumption)|assumption)
              obtain ⟨go53,co53,eo53,gb53,gl53,cl53,HG53⟩:=Kd.R_form HO_230000.out (by omega)
              (first|cases eo53|(injection eo53 with ea_ en_ ec_; (first|subst ea_|(injection ea_ with ea_; subst ea_)); subst ec_; clear en_))
              have GB53:=Aside0.mk gb53
              have GG53:=Aside0.mk HG53
              clear gb53 gl53 HG53
              (first|simp only [add_plain] at hx253_0|skip)
              (first|simp only [add_plain] at hx254_0|skip)
              (first|simp only [add_plain] at hx255_0|skip)
              obtain ⟨hx53_0,hf53_0⟩:=Kd.R_celln 0 HO_230000.out (t247 : Int) p53 q53
              replace p53:=eq_true p53
              replace q53:=eq_true q53
              have HN0_go53:=Aside0.mk (show g ≠ go53 from by have h_:=IsS80.own_ne HI0.out HO_230000.out (by decide); intro e_; exact h_ (by rw [e_]; rfl))
              have HP62:=Kd.R_putn HO_230000.out (t247 : Int) (wrap64 ((rd x230000_1 t247) + 1))
              rw [← Ny256.out] at HP62
              have HQ62:=Aside0.mk HP62
              clear HP62
              refine start_ (n:=11) (S:=fun w' => w'.cell? ⟨gb229,0,none⟩ = some (.slice (some ⟨go53,0,none⟩) x230000_1.length co60) ∧ w'.cell? ⟨go53,(t247).toNat,none⟩ = some (.int .i64 (rd x230000_1 t247))) (ds:=[10]) #[false,false,false,false,false,false,false,false,false,false,false] (by kernel_rfl) rfl rfl ⟨(blk_cell BK229.out 0).trans rfl,hx255_0⟩ (fun hHeld => ?_); refine with_tabW spec_l12Circle.tab14 spec_l12Circle.bits14 (fun HT_ HW_ => ?_)
              generalize w56.drew = w61 at HO_230000 BK225 BK229 HI0 HK HB GG53 HQ62 hf53_0 hx253_0 hx254_0 hx255_0 hx53_0 hHeld ⊢
              refine pure_ (i:=0) (N:=some 62) (v:=?_) (a':=?_) #[true,false,false,false,false,false,false,false,false,false,false] rfl rfl (any_of HT_.out (by kernel_rfl)) (fun _ _ _ h => h) (Or.inl ⟨by rfl,?_⟩) ?_ ?_
              rotate_left
              ·intro w'
               go_simp
               first|(with_reducible rfl)|(simp only [Instr.field,go_sem, *]; rfl)
              rotate_left
              ·simp only [Act.put,List.setIfInBounds_toArray,List.set_cons_zero,List.set_cons_succ,i64_w,i32_w]
               rfl
              refine pure_ (i:=2) (N:=some 64) (v:=?_) (a':=?_) #[true,false,true,false,false,false,false,false,false,false,false] rfl rfl (any_of HT_.out (by kernel_rfl)) (fun _ _ _ h => h) (Or.inl ⟨by rfl,?_⟩) ?_ ?_
              rotate_left
              ·intro w'
               go_simp
               first|(with_reducible rfl)|(simp only [Instr.field,go_sem, *]; rfl)
              rotate_left
              ·simp only [Act.put,List.setIfInBounds_toArray,List.set_cons_zero,List.set_cons_succ,i64_w,i32_w]
               rfl
              refine pure_ (i:=3) (N:=some 65) (v:=?_) (a':=?_) #[true,false,true,true,false,false,false,false,false,false,false] rfl rfl (any_of HT_.out (by kernel_rfl)) (fun _ _ _ h => h) (Or.inl ⟨by rfl,?_⟩) ?_ ?_
              rotate_left
              ·intro w'
               go_simp
               first|(with_reducible rfl)|(simp only [Instr.field,go_sem, *]; rfl)
              rotate_left
              ·simp only [Act.put,List.setIfInBounds_toArray,List.set_cons_zero,List.set_cons_succ,i64_w,i32_w]
               rfl
              refine pure_ (i:=5) (N:=some 67) (v:=?_) (a':=?_) #[true,false,true,true,false,true,false,false,false,false,false] rfl rfl (any_of HT_.out (by kernel_rfl)) (fun _ _ _ h => h) (Or.inl ⟨by rfl,?_⟩) ?_ ?_
              rotate_left
              ·intro w'
               go_simp
               first|(with_reducible rfl)|(simp only [Instr.field,go_sem, *]; rfl)
              rotate_left
              ·simp only [Act.put,List.setIfInBounds_toArray,List.set_cons_zero,List.set_cons_succ,i64_w,i32_w]
               rfl
              refine take_ (i:=1) (N:=some 63) (v:=?_) (a':=?_) #[true,true,true,true,false,true,false,false,false,false,false] rfl rfl (take_ofW HT_.out HW_.out (by kernel_rfl)) (fun _ _ _ h => h) (Or.inl ⟨by rfl,?_⟩) hHeld ?_ ?_
              rotate_left
              ·rintro w' ⟨s0,s1⟩
               go_simp
               first|(with_reducible rfl)|(simp only [Instr.field,go_sem, *]; rfl)
              rotate_left
              ·simp only [Act.put,List.setIfInBounds_toArray,List.set_cons_zero,List.set_cons_succ,i64_w,i32_w]
               rfl
              refine take_ (i:=4) (N:=some 66) (v:=?_) (a':=?_) #[true,true,true,true,true,true,false,false,false,false,false] rfl rfl (take_ofW HT_.out HW_.out (by kernel_rfl)) (fun _ _ _ h => h) (Or.inl ⟨by rfl,?_⟩) hHeld ?_ ?_
              rotate_left
              ·rintro w' ⟨s0,s1⟩
               go_simp
               first|(with_reducible rfl)|(simp only [Instr.field,go_sem, *]; rfl)
              rotate_left
              ·simp only [Act.put,List.setIfInBounds_toArray,List.set_cons_zero,List.set_cons_succ,i64_w,i32_w]
               rfl
              refine pure_ (i:=6) (N:=some 68) (v:=?_) (a':=?_) #[true,true,true,true,true,true,true,false,false,false,false] rfl rfl (any_of HT_.out (by kernel_rfl)) (fun _ _ _ h => h) (Or.inl ⟨by rfl,?_⟩) ?_ ?_
              rotate_left
              ·intro w'
               go_simp
               first|(with_reducible rfl)|(simp only [Instr.field,go_sem, *]; rfl)
              rotate_left
              ·simp only [Act.put,List.setIfInBounds_toArray,List.set_cons_zero,List.set_cons_succ,i64_w,i32_w]
               rfl
              refine take_ (i:=7) (N:=some 69) (v:=?_) (a':=?_) #[true,true,true,true,true,true,true,true,false,false,false] rfl rfl (take_ofW HT_.out HW_.out (by kernel_rfl)) (fun _ _ _ h => h) (Or.inl ⟨by rfl,?_⟩) hHeld ?_ ?_
              rotate_left
              ·rintro w' ⟨s0,s1⟩
               go_simp
               first|(with_reducible rfl)|(simp only [Instr.field,go_sem, *]; rfl)
              rotate_left
              ·simp only [Act.put,List.setIfInBounds_toArray,List.set_cons_zero,List.set_cons_succ,i64_w,i32_w]
               rfl
              refine pure_ (i:=8) (N:=some 70) (v:=?_) (a':=?_) #[true,true,true,true,true,true,true,true,true,false,false] rfl rfl (any_of HT_.out (by kernel_rfl)) (fun _ _ _ h => h) (Or.inl ⟨by rfl,?_⟩) ?_ ?_
              rotate_left
              ·intro w'
               go_simp
               first|(with_reducible rfl)|(simp only [Instr.field,go_sem, *]; rfl)
              rotate_left
              ·simp only [Act.put,List.setIfInBounds_toArray,List.set_cons_zero,List.set_cons_succ,i64_w,i32_w]
               rfl
              refine pure_ (i:=9) (N:=some 71) (v:=?_) (a':=?_) #[true,true,true,true,true,true,true,true,true,true,false] rfl rfl (any_of HT_.out (by kernel_rfl)) (fun _ _ _ h => h) (Or.inl ⟨by rfl,?_⟩) ?_ ?_
              rotate_left
              ·intro w'
               go_simp
               first|(with_reducible rfl)|(simp only [Instr.field,go_sem, *]; rfl)
              rotate_left
              ·simp only [Act.put,List.setIfInBounds_toArray,List.set_cons_zero,List.set_cons_succ,i64_w,i32_w]
               rfl
              refine last_ (i:=10) (N:=none) #[true,true,true,true,true,true,true,true,true,true,true] rfl rfl (one_of HT_.out (by kernel_rfl)) (by decide) (fun K hK => ?_)
              refine skip_ (w1:=?_) (by rfl) rfl ?_ ?_
              rotate_left
              ·go_simp
               rfl
              refine hK.out _ _ ?_
              clear hK K
              refine done_ (done_of HT_.out (by kernel_rfl)) ?_
              try go_wp2
              have n0_ : Aside0 (Kd.R (Kd.int .i64) 3 (w61.setCell ⟨go53,(t247 : Int).toNat,none⟩ (.int .i64 (wrap64 ((rd x230000_1 t247) + 1)))) w.heap.size (fun _ => True) (.slice (some ⟨go53,0,none⟩) x230000_1.length co60) y256):=⟨by (with_reducible repeat (first|apply Kd.R_alloc|apply Kd.R_drewN|apply Kd.R_drew)); exact HQ62.out⟩
              have n1_ : Aside0 ((w61.setCell ⟨go53,(t247 : Int).toNat,none⟩ (.int .i64 (wrap64 ((rd x230000_1 t247) + 1)))).heap[gb225]? = some (.cells #[.slice none 0 0] 42 (0,0))):=⟨by (with_reducible repeat (first|refine blk_drewN ?_ _|refine blk_drew ?_|refine blk_alloc ?_ _)); refine blk_far ?_ (by have h_:=Kd.R_ne HO_230000.out BK225.out (by decide); intro e_; exact h_ (by rw [e_]; rfl)) _; (with_reducible repeat (first|refine blk_drewN ?_ _|refine blk_drew ?_|refine blk_alloc ?_ _)); exact BK225.out⟩
              have n2_ : Aside0 ((w61.setCell ⟨go53,(t247 : Int).toNat,none⟩ (.int .i64 (wrap64 ((rd x230000_1 t247) + 1)))).heap[gb229]? = some (.cells #[.slice (some ⟨go53,0,none⟩) x230000_1.length co60] 42 (0,0))):=⟨by (with_reducible repeat (first|refine blk_drewN ?_ _|refine blk_drew ?_|refine blk_alloc ?_ _)); refine blk_far ?_ (by have h_:=Kd.R_ne HO_230000.out BK229.out (by decide); intro e_; exact h_ (by rw [e_]; rfl)) _; (with_reducible repeat (first|refine blk_drewN ?_ _|refine blk_drew ?_|refine blk_alloc ?_ _)); exact BK229.out⟩
              have n3_ : Aside0 (IsS80 w0 (w61.setCell ⟨go53,(t247 : Int).toNat,none⟩ (.int .i64 (wrap64 ((rd x230000_1 t247) + 1)))) g s0_0 t251 t252):=⟨by repeat (first|(with_reducible first|exact HI0.out|apply IsS80.alloc|apply IsS80.drewN|apply IsS80.drew|apply IsS80.set_1|apply IsS80.set_2|refine IsS80.far ?_ HN0_go53.out _|refine IsS80.far ?_ NB0_225.out _|refine IsS80.far ?_ NB0_229.out _)|exact HI0.out)⟩
              have n4_ : Aside0 (KeepBut w (w61.setCell ⟨go53,(t247 : Int).toNat,none⟩ (.int .i64 (wrap64 ((rd x230000_1 t247) + 1)))) g none):=⟨by repeat (first|(with_reducible first|exact HK.out|apply KeepBut.set_|apply keep_drewN|apply keep_drew|apply keep_alloc|refine keep_far ?_ GB53.out _|refine keep_far ?_ GW225.out _|refine keep_far ?_ GW229.out _)|exact HK.out)⟩
              have n5_ : Aside0 (Below w0.heap.size w0 (w61.setCell ⟨go53,(t247 : Int).toNat,none⟩ (.int .i64 (wrap64 ((rd x230000_1 t247) + 1))))):=⟨by repeat (first|(with_reducible first|exact HB.out|apply below_alloc|apply pw_below_drewN|apply below_drew1|refine below_set ?_ (Nat.le_trans HL.out GB53.out)|refine below_set ?_ (IsS80.ge HI0.out)|refine below_set ?_ GE225.out|refine below_set ?_ GE229.out)|exact HB.out)⟩
              (try clear HO_230000)
              (try clear BK225)
              (try clear BK229)
              (try clear HI0)
              (try clear HK)
              (try clear HB)
              generalize (w61.setCell ⟨go53,(t247 : Int).toNat,none⟩ (.int .i64 (wrap64 ((rd x230000_1 t247) + 1)))) = w63 at n0_ n1_ n2_ n3_ n4_ n5_ ⊢
              have HO_230000:=n0_
              have BK225:=n1_
              have BK229:=n2_
              have HI0:=n3_
              have HK:=n4_
              have HB:=n5_
              clear n0_ n1_ n2_ n3_ n4_ n5_
              have n0_:=Aside0.mk (Kd.R_drew HO_230000.out)
              have n1_:=Aside0.mk (blk_drew BK225.out)
              have n2_:=Aside0.mk (blk_drew BK229.out)
              have n3_:=Aside0.mk (IsS80.drew HI0.out)
              have n4_:=Aside0.mk (keep_drew HK.out)
              have n5_:=Aside0.mk (below_drew1 HB.out)
              clear HO_230000
              clear BK225
              clear BK229
              clear HI0
              clear HK
              clear HB
              have HO_230000:=n0_
              have BK225:=n1_
              have BK229:=n2_
              have HI0:=n3_
              have HK:=n4_
              have HB:=n5_
              clear n0_ n1_ n2_ n3_ n4_ n5_
              have p257 : 0 ≤ (t250 : Int):=of_decide_eq_true (by first|(with_reducible assumption)|assumption)
              have q257 : t250 < (y256.length : Int):=(by have h_ : (t250 : Int) < ((x230000_1.length : Int) : Int):=of_decide_eq_true (by first|(with_reducible assumption)|assumption); first|(have e_:=(Kd.R_reads' HO_230000.out).1; omega)|simpa only [Ny256.out,List.length_set] using h_)
              have ql257 : ((t250 : Int) < ((x230000_1.length : Int) : Int)) = True:=eq_true (of_decide_eq_true (by first|(with_reducible assumption)|assumption))
              obtain ⟨ad257,e257,hx257_0⟩:=Kd.at_int (Kd.R_reads' HO_230000.out).2.2 t250 p257 q257
              obtain rfl : (⟨go53,0,none⟩ : Addr) = ad257:=(by injection e257)
              (first|simp only [add_plain] at hx257_0|simp only [add_at] at hx257_0|simp only [Addr.add,Nat.zero_add] at hx257_0|skip)
              replace p257:=eq_true p257
              replace q257:=eq_true q257
              have p54 : 0 ≤ (t250 : Int):=of_decide_eq_true (by first|(with_reducible assumption)|assumption)
              have q54 : (t250 : Int) < ((x230000_1.length : Int) : Int):=of_decide_eq_true (by first|(with_reducible assumption)|assumption)
              obtain ⟨hx54_0,hf54_0⟩:=Kd.R_celln 0 HO_230000.out (t250 : Int) p54 q54
              replace p54:=eq_true p54
              replace q54:=eq_true q54
              have HN0_go53:=Aside0.mk (show g ≠ go53 from by have h_:=IsS80.own_ne HI0.out HO_230000.out (by decide); intro e_; exact h_ (by rw [e_]; rfl))
              have HP65:=Kd.R_putn HO_230000.out (t250 : Int) (wrap64 ((rd y256 t250) - 1))
              rw [← Ny258.out] at HP65
              have HQ65:=Aside0.mk HP65
              clear HP65
              refine start_ (n:=11) (S:=fun w' => w'.cell? ⟨gb229,0,none⟩ = some (.slice (some ⟨go53,0,none⟩) x230000_1.length co60) ∧ w'.cell? ⟨go53,(t250).toNat,none⟩ = some (.int .i64 (rd y256 t250))) (ds:=[10]) #[false,false,false,false,false,false,false,false,false,false,false] (by kernel_rfl) rfl rfl ⟨(blk_cell BK229.out 0).trans rfl,hx257_0⟩ (fun hHeld => ?_); refine with_tabW spec_l12Circle.tab15 spec_l12Circle.bits15 (fun HT_ HW_ => ?_)
              generalize w63.drew = w64 at HO_230000 BK225 BK229 HI0 HK HB HQ62 HQ65 hf54_0 hx257_0 hx54_0 hHeld ⊢
              refine pure_ (i:=0) (N:=some 72) (v:=?_) (a':=?_) #[true,false,false,false,false,false,false,false,false,false,false] rfl rfl (any_of HT_.out (by kernel_rfl)) (fun _ _ _ h => h) (Or.inl ⟨by rfl,?_⟩) ?_ ?_
              rotate_left
              ·intro w'
               go_simp
               first|(with_reducible rfl)|(simp only [Instr.field,go_sem, *]; rfl)
              rotate_left
              ·simp only [Act.put,List.setIfInBounds_toArray,List.set_cons_zero,List.set_cons_succ,i64_w,i32_w]
               rfl
              refine pure_ (i:=2) (N:=some 74) (v:=?_) (a':=?_) #[true,false,true,false,false,false,false,false,false,false,false] rfl rfl (any_of HT_.out (by kernel_rfl)) (fun _ _ _ h => h) (Or.inl ⟨by rfl,?_⟩) ?_ ?_
              rotate_left
              ·intro w'
               go_simp
               first|(with_reducible rfl)|(simp only [Instr.field,go_sem, *]; rfl)
              rotate_left
              ·simp only [Act.put,List.setIfInBounds_toArray,List.set_cons_zero,List.set_cons_succ,i64_w,i32_w]
               rfl
              refine pure_ (i:=3) (N:=some 75) (v:=?_) (a':=?_) #[true,false,true,true,false,false,false,false,false,false,false] rfl rfl (any_of HT_.out (by kernel_rfl)) (fun _ _ _ h => h) (Or.inl ⟨by rfl,?_⟩) ?_ ?_
              rotate_left
              ·intro w'
               go_simp
               first|(with_reducible rfl)|(simp only [Instr.field,go_sem, *]; rfl)
              rotate_left
              ·simp only [Act.put,List.setIfInBounds_toArray,List.set_cons_zero,List.set_cons_succ,i64_w,i32_w]
               rfl
              refine pure_ (i:=5) (N:=some 77) (v:=?_) (a':=?_) #[true,false,true,true,false,true,false,false,false,false,false] rfl rfl (any_of HT_.out (by kernel_rfl)) (fun _ _ _ h => h) (Or.inl ⟨by rfl,?_⟩) ?_ ?_
              rotate_left
              ·intro w'
               go_simp
               first|(with_reducible rfl)|(simp only [Instr.field,go_sem, *]; rfl)
              rotate_left
              ·simp only [Act.put,List.setIfInBounds_toArray,List.set_cons_zero,List.set_cons_succ,i64_w,i32_w]
               rfl
              refine take_ (i:=1) (N:=some 73) (v:=?_) (a':=?_) #[true,true,true,true,false,true,false,false,false,false,false] rfl rfl (take_ofW HT_.out HW_.out (by kernel_rfl)) (fun _ _ _ h => h) (Or.inl ⟨by rfl,?_⟩) hHeld ?_ ?_
              rotate_left
              ·rintro w' ⟨s0,s1⟩
               go_simp
               first|(with_reducible rfl)|(simp only [Instr.field,go_sem, *]; rfl)
              rotate_left
              ·simp only [Act.put,List.setIfInBounds_toArray,List.set_cons_zero,List.set_cons_succ,i64_w,i32_w]
               rfl
              refine take_ (i:=4) (N:=some 76) (v:=?_) (a':=?_) #[true,true,true,true,true,true,false,false,false,false,false] rfl rfl (take_ofW HT_.out HW_.out (by kernel_rfl)) (fun _ _ _ h => h) (Or.inl ⟨by rfl,?_⟩) hHeld ?_ ?_
              rotate_left
              ·rintro w' ⟨s0,s1⟩
               go_simp
               first|(with_reducible rfl)|(simp only [Instr.field,go_sem, *]; rfl)
              rotate_left
              ·simp only [Act.put,List.setIfInBounds_toArray,List.set_cons_zero,List.set_cons_succ,i64_w,i32_w]
               rfl
              refine pure_ (i:=6) (N:=some 78) (v:=?_) (a':=?_) #[true,true,true,true,true,true,true,false,false,false,false] rfl rfl (any_of HT_.out (by kernel_rfl)) (fun _ _ _ h => h) (Or.inl ⟨by rfl,?_⟩) ?_ ?_
              rotate_left
              ·intro w'
               go_simp
               first|(with_reducible rfl)|(simp only [Instr.field,go_sem, *]; rfl)
              rotate_left
              ·simp only [Act.put,List.setIfInBounds_toArray,List.set_cons_zero,List.set_cons_succ,i64_w,i32_w]
               rfl
              refine take_ (i:=7) (N:=some 79) (v:=?_) (a':=?_) #[true,true,true,true,true,true,true,true,false,false,false] rfl rfl (take_ofW HT_.out HW_.out (by kernel_rfl)) (fun _ _ _ h => h) (Or.inl ⟨by rfl,?_⟩) hHeld ?_ ?_
              rotate_left
              ·rintro w' ⟨s0,s1⟩
               go_simp
               first|(with_reducible rfl)|(simp only [Instr.field,go_sem, *]; rfl)
              rotate_left
              ·simp only [Act.put,List.setIfInBounds_toArray,List.set_cons_zero,List.set_cons_succ,i64_w,i32_w]
               rfl
              refine pure_ (i:=8) (N:=some 80) (v:=?_) (a':=?_) #[true,true,true,true,true,true,true,true,true,false,false] rfl rfl (any_of HT_.out (by kernel_rfl)) (fun _ _ _ h => h) (Or.inl ⟨by rfl,?_⟩) ?_ ?_
              rotate_left
              ·intro w'
               go_simp
               first|(with_reducible rfl)|(simp only [Instr.field,go_sem, *]; rfl)
              rotate_left
              ·simp only [Act.put,List.setIfInBounds_toArray,List.set_cons_zero,List.set_cons_succ,i64_w,i32_w]
               rfl
              refine pure_ (i:=9) (N:=some 81) (v:=?_) (a':=?_) #[true,true,true,true,true,true,true,true,true,true,false] rfl rfl (any_of HT_.out (by kernel_rfl)) (fun _ _ _ h => h) (Or.inl ⟨by rfl,?_⟩) ?_ ?_
              rotate_left
              ·intro w'
               go_simp
               first|(with_reducible rfl)|(simp only [Instr.field,go_sem, *]; rfl)
              rotate_left
              ·simp only [Act.put,List.setIfInBounds_toArray,List.set_cons_zero,List.set_cons_succ,i64_w,i32_w]
               rfl
              refine last_ (i:=10) (N:=none) #[true,true,true,true,true,true,true,true,true,true,true] rfl rfl (one_of HT_.out (by kernel_rfl)) (by decide) (fun K hK => ?_)
              refine skip_ (w1:=?_) (by rfl) rfl ?_ ?_
              rotate_left
              ·go_simp
               rfl
              refine hK.out _ _ ?_
              clear hK K
              refine done_ (done_of HT_.out (by kernel_rfl)) ?_
              try go_wp2
              go_meet
              case rel => exact ⟨_,(t251),(t252),(y258),(.slice (some ⟨go53,0,none⟩) x230000_1.length co60),H',⟨by have:=HK1.out; first|omega|exact Nat.le_refl _⟩,⟨by (with_reducible repeat (first|apply Kd.R_alloc|apply Kd.R_drewN|apply Kd.R_drew)); exact HQ65.out⟩,⟨by (with_reducible repeat (first|refine blk_drewN ?_ _|refine blk_drew ?_|refine blk_alloc ?_ _)); refine blk_far ?_ (by have h_:=Kd.R_ne HO_230000.out BK225.out (by decide); intro e_; exact h_ (by rw [e_]; rfl)) _; (with_reducible repeat (first|refine blk_drewN ?_ _|refine blk_drew ?_|refine blk_alloc ?_ _)); exact BK225.out⟩,⟨by (with_reducible repeat (first|refine blk_drewN ?_ _|refine blk_drew ?_|refine blk_alloc ?_ _)); refine blk_far ?_ (by have h_:=Kd.R_ne HO_230000.out BK229.out (by decide); intro e_; exact h_ (by rw [e_]; rfl)) _; (with_reducible repeat (first|refine blk_drewN ?_ _|refine blk_drew ?_|refine blk_alloc ?_ _)); exact BK229.out⟩,⟨by repeat (first|(with_reducible first|exact HI0.out|apply IsS80.alloc|apply IsS80.drewN|apply IsS80.drew|apply IsS80.set_1|apply IsS80.set_2|refine IsS80.far ?_ HN0_go53.out _|refine IsS80.far ?_ NB0_225.out _|refine IsS80.far ?_ NB0_229.out _)|exact HI0.out)⟩,⟨by repeat (first|(with_reducible first|exact HK.out|apply KeepBut.set_|apply keep_drewN|apply keep_drew|apply keep_alloc|refine keep_far ?_ GB53.out _|refine keep_far ?_ GW225.out _|refine keep_far ?_ GW229.out _)|exact HK.out)⟩,⟨by repeat (first|(with_reducible first|exact HB.out|apply below_alloc|apply pw_below_drewN|apply below_drew1|refine below_set ?_ (Nat.le_trans HL.out GB53.out)|refine below_set ?_ (IsS80.ge HI0.out)|refine below_set ?_ GE225.out|refine below_set ?_ GE229.out)|exact HB.out)⟩⟩
             ·rw [if_neg c52] at H
              have c52b0 : decide (0 < (rd x230000_1 t250)) = false:=decide_eq_false c52
              clear c52
              have H':=Aside0.mk H
              clear H
              go_wp2_with (first|((with_reducible refine gate_callee (f:=75) rfl ?_); refine goesL_ (some 45) rfl rfl Try.func75 (by kernel_rfl) rfl #[.pointer (some ⟨g,0,none⟩),.int .i64 12] rfl (by (try simp only [List.map_toArray,List.map_cons,List.map_nil]); first|done|rfl|(simp only [List.length_drop,List.length_take]; rfl)) ?_; (with_reducible refine (spec_l01Below.calls g s0_0 t245 t246 12 t247 t248 t249 w0 _ ?side1 ?side2 A45.out).mono ?_); (case side1 => repeat (first|(with_reducible first|exact HI0.out|apply IsS80.alloc|apply IsS80.drewN|apply IsS80.drew|apply IsS80.set_1|apply IsS80.set_2|refine IsS80.far ?_ NB0_225.out _|refine IsS80.far ?_ NB0_229.out _)|exact HI0.out)); (case side2 => repeat (first|(with_reducible first|exact HB.out|apply below_alloc|apply pw_below_drewN|apply below_drew1|refine below_set ?_ (IsS80.ge HI0.out)|refine below_set ?_ GE225.out|refine below_set ?_ GE229.out)|exact HB.out)); rintro e w66 ⟨rfl,hi,hb,hk⟩; refine ⟨_,rfl,?_⟩; have n0_:=Aside0.mk (Kd.R_mono (Kd.R_keep (IsS80.apart (show IsS80 w0 _ g s0_0 t245 t246 from by repeat (first|(with_reducible first|exact HI0.out|apply IsS80.alloc|apply IsS80.drewN|apply IsS80.drew|apply IsS80.set_1|apply IsS80.set_2|refine IsS80.far ?_ NB0_225.out _|refine IsS80.far ?_ NB0_229.out _)|exact HI0.out)) (by (with_reducible repeat (first|apply Kd.R_alloc|apply Kd.R_drewN|apply Kd.R_drew)); exact HO_230000.out) (by decide)) hk (fun _ h => h.2)) (fun _ h => h.1)); have n1_:=Aside0.mk (KeepBut.blk hk (g':=gb225) (o:=.cells #[.slice none 0 0] 42 (0,0)) (by (with_reducible repeat (first|refine blk_drewN ?_ _|refine blk_drew ?_|refine blk_alloc ?_ _)); exact BK225.out) NB225_0.out (by simp)); have n2_:=Aside0.mk (KeepBut.blk hk (g':=gb229) (o:=.cells #[u230000] 42 (0,0)) (by (with_reducible repeat (first|refine blk_drewN ?_ _|refine blk_drew ?_|refine blk_alloc ?_ _)); exact BK229.out) NB229_0.out (by simp)); have n3_:=Aside0.mk (KeepBut.trans (by repeat (first|(with_reducible first|exact HK.out|apply KeepBut.set_|apply keep_drewN|apply keep_drew|apply keep_alloc|refine keep_far ?_ GW225.out _|refine keep_far ?_ GW229.out _)|exact HK.out)) hk (.inl rfl)); have n4_:=Aside0.mk (hb); have n5_:=Aside0.mk (hi); clear HO_230000; clear BK225; clear BK229; clear HK; clear HB; clear HI0; have HO_230000:=n0_; have BK225:=n1_; have BK229:=n2_; have HK:=n3_; have HB:=n4_; have HI0:=n5_; clear n0_ n1_ n2_ n3_ n4_ n5_; (try clear hb); (try clear hb2); (try clear hk); (try clear hi))|((with_reducible refine gate_callee (f:=75) rfl ?_); refine goesL_ (some 47) rfl rfl Try.func75 (by kernel_rfl) rfl #[.pointer (some ⟨g,0,none⟩),.int .i64 12] rfl (by (try simp only [List.map_toArray,List.map_cons,List.map_nil]); first|done|rfl|(simp only [List.length_drop,List.length_take]; rfl)) ?_; (with_reducible refine (spec_l01Below.calls g s0_0 t248 t249 12 t250 t251 t252 w0 _ ?side1 ?side2 A46.out).mono ?_); (case side1 => repeat (first|(with_reducible first|exact HI0.out|apply IsS80.alloc|apply IsS80.drewN|apply IsS80.drew|apply IsS80.set_1|apply IsS80.set_2|refine IsS80.far ?_ NB0_225.out _|refine IsS80.far ?_ NB0_229.out _)|exact HI0.out)); (case side2 => repeat (first|(with_reducible first|exact HB.out|apply below_alloc|apply pw_below_drewN|apply below_drew1|refine below_set ?_ (IsS80.ge HI0.out)|refine below_set ?_ GE225.out|refine below_set ?_ GE229.out)|exact HB.out)); rintro e w67 ⟨rfl,hi,hb,hk⟩; refine ⟨_,rfl,?_⟩; have n0_:=Aside0.mk (Kd.R_mono (Kd.R_keep (IsS80.apart (show IsS80 w0 _ g s0_0 t248 t249 from by repeat (first|(with_reducible first|exact HI0.out|apply IsS80.alloc|apply IsS80.drewN|apply IsS80.drew|apply IsS80.set_1|apply IsS80.set_2|refine IsS80.far ?_ NB0_225.out _|refine IsS80.far ?_ NB0_229.out _)|exact HI0.out)) (by (with_reducible repeat (first|apply Kd.R_alloc|apply Kd.R_drewN|apply Kd.R_drew)); exact HO_230000.out) (by decide)) hk (fun _ h => h.2)) (fun _ h => h.1)); have n1_:=Aside0.mk (KeepBut.blk hk (g':=gb225) (o:=.cells #[.slice none 0 0] 42 (0,0)) (by (with_reducible repeat (first|refine blk_drewN ?_ _|refine blk_drew ?_|refine blk_alloc ?_ _)); exact BK225.out) NB225_0.out (by simp)); have n2_:=Aside0.mk (KeepBut.blk hk (g':=gb229) (o:=.cells #[u230000] 42 (0,0)) (by (with_reducible repeat (first|refine blk_drewN ?_ _|refine blk_drew ?_|refine blk_alloc ?_ _)); exact BK229.out) NB229_0.out (by simp)); have n3_:=Aside0.mk (KeepBut.trans (by repeat (first|(with_reducible first|exact HK.out|apply KeepBut.set_|apply keep_drewN|apply keep_drew|apply keep_alloc|refine keep_far ?_ GW225.out _|refine keep_far ?_ GW229.out _)|exact HK.out)) hk (.inl rfl)); have n4_:=Aside0.mk (hb); have n5_:=Aside0.mk (hi); clear HO_230000; clear BK225; clear BK229; clear HK; clear HB; clear HI0; have HO_230000:=n0_; have BK225:=n1_; have BK229:=n2_; have HK:=n3_; have HB:=n4_; have HI0:=n5_; clear n0_ n1_ n2_ n3_ n4_ n5_; (try clear hb); (try clear hb2); (try clear hk); (try clear hi); have hnb68:=NB229_225.out; have hnc68:=NB225_229.out; have hnb69:=NB229_0.out; have hnc69:=NB0_229.out; have hcz70_0 : w67.cell? ⟨gb229,0,none⟩ = some (u230000):=(blk_cell BK229.out 0).trans rfl; have hfz70_0:=blk_frozen BK229.out 0; obtain ⟨Ao71,co71,eo71⟩:=Kd.R_slice HO_230000.out; subst eo71; have p253 : 0 ≤ (t247 : Int):=of_decide_eq_true (by first|(with_reducible assumption)|assumption); have q253 : t247 < (x230000_1.length : Int):=of_decide_eq_true (by first|(with_reducible assumption)|assumption); obtain ⟨ad253,e253,hx253_0⟩:=Kd.at_int (Kd.R_reads' HO_230000.out).2.2 t247 p253 q253; cases e253; replace p253:=eq_true p253; replace q253:=eq_true q253; have p254 : 0 ≤ (t250 : Int):=of_decide_eq_true (by first|(with_reducible assumption)|assumption); have q254 : t250 < (x230000_1.length : Int):=of_decide_eq_true (by first|(with_reducible assumption)|assumption); obtain ⟨ad254,e254,hx254_0⟩:=Kd.at_int (Kd.R_reads' HO_230000.out).2.2 t250 p254 q254; obtain rfl : ad253 = ad254:=(by injection e254); replace p254:=eq_true p254; replace q254:=eq_true q254))
              go_meet
              case rel => exact ⟨_,(t251),(t252),(x230000_1),(.slice (some ad253) x230000_1.length co71),H',⟨by have:=HK1.out; first|omega|exact Nat.le_refl _⟩,⟨by (with_reducible repeat (first|apply Kd.R_alloc|apply Kd.R_drewN|apply Kd.R_drew)); exact HO_230000.out⟩,⟨by (with_reducible repeat (first|refine blk_drewN ?_ _|refine blk_drew ?_|refine blk_alloc ?_ _)); exact BK225.out⟩,⟨by (with_reducible repeat (first|refine blk_drewN ?_ _|refine blk_drew ?_|refine blk_alloc ?_ _)); exact BK229.out⟩,⟨by repeat (first|(with_reducible first|exact HI0.out|apply IsS80.alloc|apply IsS80.drewN|apply IsS80.drew|apply IsS80.set_1|apply IsS80.set_2|refine IsS80.far ?_ NB0_225.out _|refine IsS80.far ?_ NB0_229.out _)|exact HI0.out)⟩,⟨by repeat (first|(with_reducible first|exact HK.out|apply KeepBut.set_|apply keep_drewN|apply keep_drew|apply keep_alloc|refine keep_far ?_ GW225.out _|refine keep_far ?_ GW229.out _)|exact HK.out)⟩,⟨by repeat (first|(with_reducible first|exact HB.out|apply below_alloc|apply pw_below_drewN|apply below_drew1|refine below_set ?_ (IsS80.ge HI0.out)|refine below_set ?_ GE225.out|refine below_set ?_ GE229.out)|exact HB.out)⟩⟩
            ·rw [if_neg c51] at H
             exact absurd H (by simp)
           ·rw [if_neg c50] at H
            exact absurd H (by simp)
          ·rw [if_neg c49] at H
           have c49b0 : decide ((rd x230000_1 t247) < 12) = false:=decide_eq_false c49
           clear c49
           have H':=Aside0.mk H
           clear H
           go_wp2_with (first|((with_reducible refine gate_callee (f:=75) rfl ?_); refine goesL_ (some 45) rfl rfl Try.func75 (by kernel_rfl) rfl #[.pointer (some ⟨g,0,none⟩),.int .i64 12] rfl (by (try simp only [List.map_toArray,List.map_cons,List.map_nil]); first|done|rfl|(simp only [List.length_drop,List.length_take]; rfl)) ?_; (with_reducible refine (spec_l01Below.calls g s0_0 t245 t246 12 t247 t248 t249 w0 _ ?side1 ?side2 A45.out).mono ?_); (case side1 => repeat (first|(with_reducible first|exact HI0.out|apply IsS80.alloc|apply IsS80.drewN|apply IsS80.drew|apply IsS80.set_1|apply IsS80.set_2|refine IsS80.far ?_ NB0_225.out _|refine IsS80.far ?_ NB0_229.out _)|exact HI0.out)); (case side2 => repeat (first|(with_reducible first|exact HB.out|apply below_alloc|apply pw_below_drewN|apply below_drew1|refine below_set ?_ (IsS80.ge HI0.out)|refine below_set ?_ GE225.out|refine below_set ?_ GE229.out)|exact HB.out)); rintro e w72 ⟨rfl,hi,hb,hk⟩; refine ⟨_,rfl,?_⟩; have n0_:=Aside0.mk (Kd.R_mono (Kd.R_keep (IsS80.apart (show IsS80 w0 _ g s0_0 t245 t246 from by repeat (first|(with_reducible first|exact HI0.out|apply IsS80.alloc|apply IsS80.drewN|apply IsS80.drew|apply IsS80.set_1|apply IsS80.set_2|refine IsS80.far ?_ NB0_225.out _|refine IsS80.far ?_ NB0_229.out _)|exact HI0.out)) (by (with_reducible repeat (first|apply Kd.R_alloc|apply Kd.R_drewN|apply Kd.R_drew)); exact HO_230000.out) (by decide)) hk (fun _ h => h.2)) (fun _ h => h.1)); have n1_:=Aside0.mk (KeepBut.blk hk (g':=gb225) (o:=.cells #[.slice none 0 0] 42 (0,0)) (by (with_reducible repeat (first|refine blk_drewN ?_ _|refine blk_drew ?_|refine blk_alloc ?_ _)); exact BK225.out) NB225_0.out (by simp)); have n2_:=Aside0.mk (KeepBut.blk hk (g':=gb229) (o:=.cells #[u230000] 42 (0,0)) (by (with_reducible repeat (first|refine blk_drewN ?_ _|refine blk_drew ?_|refine blk_alloc ?_ _)); exact BK229.out) NB229_0.out (by simp)); have n3_:=Aside0.mk (KeepBut.trans (by repeat (first|(with_reducible first|exact HK.out|apply KeepBut.set_|apply keep_drewN|apply keep_drew|apply keep_alloc|refine keep_far ?_ GW225.out _|refine keep_far ?_ GW229.out _)|exact HK.out)) hk (.inl rfl)); have n4_:=Aside0.mk (hb); have n5_:=Aside0.mk (hi); clear HO_230000; clear BK225; clear BK229; clear HK; clear HB; clear HI0; have HO_230000:=n0_; have BK225:=n1_; have BK229:=n2_; have HK:=n3_; have HB:=n4_; have HI0:=n5_; clear n0_ n1_ n2_ n3_ n4_ n5_; (try clear hb); (try clear hb2); (try clear hk); (try clear hi))|((with_reducible refine gate_callee (f:=75) rfl ?_); refine goesL_ (some 47) rfl rfl Try.func75 (by kernel_rfl) rfl #[.pointer (some ⟨g,0,none⟩),.int .i64 12] rfl (by (try simp only [List.map_toArray,List.map_cons,List.map_nil]); first|done|rfl|(simp only [List.length_drop,List.length_take]; rfl)) ?_; (with_reducible refine (spec_l01Below.calls g s0_0 t248 t249 12 t250 t251 t252 w0 _ ?side1 ?side2 A46.out).mono ?_); (case side1 => repeat (first|(with_reducible first|exact HI0.out|apply IsS80.alloc|apply IsS80.drewN|apply IsS80.drew|apply IsS80.set_1|apply IsS80.set_2|refine IsS80.far ?_ NB0_225.out _|refine IsS80.far ?_ NB0_229.out _)|exact HI0.out)); (case side2 => repeat (first|(with_reducible first|exact HB.out|apply below_alloc|apply pw_below_drewN|apply below_drew1|refine below_set ?_ (IsS80.ge HI0.out)|refine below_set ?_ GE225.out|refine below_set ?_ GE229.out)|exact HB.out)); rintro e w73 ⟨rfl,hi,hb,hk⟩; refine ⟨_,rfl,?_⟩; have n0_:=Aside0.mk (Kd.R_mono (Kd.R_keep (IsS80.apart (show IsS80 w0 _ g s0_0 t248 t249 from by repeat (first|(with_reducible first|exact HI0.out|apply IsS80.alloc|apply IsS80.drewN|apply IsS80.drew|apply IsS80.set_1|apply IsS80.set_2|refine IsS80.far ?_ NB0_225.out _|refine IsS80.far ?_ NB0_229.out _)|exact HI0.out)) (by (with_reducible repeat (first|apply Kd.R_alloc|apply Kd.R_drewN|apply Kd.R_drew)); exact HO_230000.out) (by decide)) hk (fun _ h => h.2)) (fun _ h => h.1)); have n1_:=Aside0.mk (KeepBut.blk hk (g':=gb225) (o:=.cells #[.slice none 0 0] 42 (0,0)) (by (with_reducible repeat (first|refine blk_drewN ?_ _|refine blk_drew ?_|refine blk_alloc ?_ _)); exact BK225.out) NB225_0.out (by simp)); have n2_:=Aside0.mk (KeepBut.blk hk (g':=gb229) (o:=.cells #[u230000] 42 (0,0)) (by (with_reducible repeat (first|refine blk_drewN ?_ _|refine blk_drew ?_|refine blk_alloc ?_ _)); exact BK229.out) NB229_0.out (by simp)); have n3_:=Aside0.mk (KeepBut.trans (by repeat (first|(with_reducible first|exact HK.out|apply KeepBut.set_|apply keep_drewN|apply keep_drew|apply keep_alloc|refine keep_far ?_ GW225.out _|refine keep_far ?_ GW229.out _)|exact HK.out)) hk (.inl rfl)); have n4_:=Aside0.mk (hb); have n5_:=Aside0.mk (hi); clear HO_230000; clear BK225; clear BK229; clear HK; clear HB; clear HI0; have HO_230000:=n0_; have BK225:=n1_; have BK229:=n2_; have HK:=n3_; have HB:=n4_; have HI0:=n5_; clear n0_ n1_ n2_ n3_ n4_ n5_; (try clear hb); (try clear hb2); (try clear hk); (try clear hi); have hnb74:=NB229_225.out; have hnc74:=NB225_229.out; have hnb75:=NB229_0.out; have hnc75:=NB0_229.out; have hcz76_0 : w73.cell? ⟨gb229,0,none⟩ = some (u230000):=(blk_cell BK229.out 0).trans rfl; have hfz76_0:=blk_frozen BK229.out 0; obtain ⟨Ao77,co77,eo77⟩:=Kd.R_slice HO_230000.out; subst eo77; have p253 : 0 ≤ (t247 : Int):=of_decide_eq_true (by first|(with_reducible assumption)|assumption); have q253 : t247 < (x230000_1.length : Int):=of_decide_eq_true (by first|(with_reducible assumption)|assumption); obtain ⟨ad253,e253,hx253_0⟩:=Kd.at_int (Kd.R_reads' HO_230000.out).2.2 t247 p253 q253; cases e253; replace p253:=eq_true p253; replace q253:=eq_true q253))
           go_meet
           case rel => exact ⟨_,(t251),(t252),(x230000_1),(.slice (some ad253) x230000_1.length co77),H',⟨by have:=HK1.out; first|omega|exact Nat.le_refl _⟩,⟨by (with_reducible repeat (first|apply Kd.R_alloc|apply Kd.R_drewN|apply Kd.R_drew)); exact HO_230000.out⟩,⟨by (with_reducible repeat (first|refine blk_drewN ?_ _|refine blk_drew ?_|refine blk_alloc ?_ _)); exact BK225.out⟩,⟨by (with_reducible repeat (first|refine blk_drewN ?_ _|refine blk_drew ?_|refine blk_alloc ?_ _)); exact BK229.out⟩,⟨by repeat (first|(with_reducible first|exact HI0.out|apply IsS80.alloc|apply IsS80.drewN|apply IsS80.drew|apply IsS80.set_1|apply IsS80.set_2|refine IsS80.far ?_ NB0_225.out _|refine IsS80.far ?_ NB0_229.out _)|exact HI0.out)⟩,⟨by repeat (first|(with_reducible first|exact HK.out|apply KeepBut.set_|apply keep_drewN|apply keep_drew|apply keep_alloc|refine keep_far ?_ GW225.out _|refine keep_far ?_ GW229.out _)|exact HK.out)⟩,⟨by repeat (first|(with_reducible first|exact HB.out|apply below_alloc|apply pw_below_drewN|apply below_drew1|refine below_set ?_ (IsS80.ge HI0.out)|refine below_set ?_ GE225.out|refine below_set ?_ GE229.out)|exact HB.out)⟩⟩
         ·rw [if_neg c48] at H
          exact absurd H (by simp)
        ·rw [if_neg c47] at H
         exact absurd H (by simp)
       ·replace c44:=Bool.eq_false_iff.mpr c44
        subst c44
        have H1 : (spec_l12Circle.j1 k1 s0_0 t245 t246 x230000_1) = some (r1,r2,r3):=by rw [if_neg (show ¬ (false = true) by decide)] at H; exact H
        clear H
        have H:=H1
        clear H1
        have H':=Aside0.mk H
        clear H
        go_wp2
        go_meet
        case rel => exact ⟨_,(t245),(t246),(x230000_1),(u230000),H',⟨by have:=HK1.out; first|omega|exact Nat.le_refl _⟩,⟨by (with_reducible repeat (first|apply Kd.R_alloc|apply Kd.R_drewN|apply Kd.R_drew)); exact HO_230000.out⟩,⟨by (with_reducible repeat (first|refine blk_drewN ?_ _|refine blk_drew ?_|refine blk_alloc ?_ _)); exact BK225.out⟩,⟨by (with_reducible repeat (first|refine blk_drewN ?_ _|refine blk_drew ?_|refine blk_alloc ?_ _)); exact BK229.out⟩,⟨by repeat (first|(with_reducible first|exact HI0.out|apply IsS80.alloc|apply IsS80.drewN|apply IsS80.drew|apply IsS80.set_1|apply IsS80.set_2|refine IsS80.far ?_ NB0_225.out _|refine IsS80.far ?_ NB0_229.out _)|exact HI0.out)⟩,⟨by repeat (first|(with_reducible first|exact HK.out|apply KeepBut.set_|apply keep_drewN|apply keep_drew|apply keep_alloc|refine keep_far ?_ GW225.out _|refine keep_far ?_ GW229.out _)|exact HK.out)⟩,⟨by repeat (first|(with_reducible first|exact HB.out|apply below_alloc|apply pw_below_drewN|apply below_drew1|refine below_set ?_ (IsS80.ge HI0.out)|refine below_set ?_ GE225.out|refine below_set ?_ GE229.out)|exact HB.out)⟩⟩
      case rest =>
       clear HC42
       try clear c1
       try clear c2
       try clear p2
       try clear q2
       try clear hx2
       try clear c3
       try clear p3
       try clear q3
       try clear hx3
       try clear hf3
       try clear c4
       try clear c5
       try clear p5
       try clear q5
       try clear hx5
       try clear hf5
       try clear c6
       try clear p6
       try clear c7
       try clear c17
       try clear c17b0
       try clear c19
       try clear c20
       try clear c21
       try clear c21b0
       try clear c23
       try clear p23
       try clear q23
       try clear hx23
       try clear c24
       try clear p24
       try clear q24
       try clear hx24
       try clear p25
       try clear q25
       try clear hx25
       try clear p33
       try clear q33
       try clear hx33
       try clear hf33
       try clear c35
       try clear c36
       try clear c44
       try clear c47
       try clear c47b0
       try clear c48
       try clear c48b0
       try clear c49
       try clear c49b0
       try clear c50
       try clear c50b0
       try clear c51
       try clear c51b0
       try clear c52
       try clear c52b0
       try clear p53
       try clear q53
       try clear hx53
       try clear hf53
       try clear p54
       try clear q54
       try clear hx54
       try clear hf54
       try clear c57
       try clear c58
       try clear p64
       try clear c68
       try clear c69
       try clear c74
       try clear c75
       try clear c76
       try clear hcz37_0
       try clear hcz59_0
       try clear hcz70_0
       try clear hcz76_0
       try clear hfz37_0
       try clear hfz59_0
       try clear hfz70_0
       try clear hfz76_0
       try clear hx239_0
       try clear hx242_0
       try clear hx253_0
       try clear hx254_0
       try clear hx255_0
       try clear hx257_0
       try clear hx33_0
       try clear hx53_0
       try clear hx54_0
       try clear p239
       try clear p242
       try clear p253
       try clear p254
       try clear p255
       try clear p257
       try clear p33
       try clear p53
       try clear p54
       try clear q239
       try clear q242
       try clear q253
       try clear q254
       try clear q255
       try clear q257
       try clear q33
       try clear q53
       try clear q54
       obtain ⟨kq,x1001_41,x1002_41,x230000_41,u230000,HA,HJ41,HO_230000,BK225,BK229,HI0,HK,HB⟩:=hcut
       cases kq with
       | zero => exact absurd HA.out (by simp [spec_l12Circle.j1])
       | succ kj41 =>
        have H:=HA.out
        clear HA
        simp only [spec_l12Circle.j1] at H
        replace H:=Option.bind_eq_some_iff.mp H
        obtain ⟨t259,A780,H⟩:=H
        replace H : (if t259 = true then (some (x230000_41,x1001_41,x1002_41)) else ((spec_EqualCircle.f).bind fun t260 => (some (t260,x1001_41,x1002_41)))) = some (r1,r2,r3):=H
        have A78:=Aside0.mk A780
        clear A780
        by_cases c79 : t259 = true
        ·subst c79
         have H1 : (some (x230000_41,x1001_41,x1002_41)) = some (r1,r2,r3):=by rw [if_pos rfl] at H; exact H
         clear H
         have H:=H1
         clear H1
         simp only [Option.some.injEq,Prod.mk.injEq] at H
         obtain ⟨rfl,rfl,rfl⟩:=H
         have hnb80:=NB229_225.out
         have hnc80:=NB225_229.out
         have hnb81:=NB229_0.out
         have hnc81:=NB0_229.out
         have hcz82_0 : wc.cell? ⟨gb229,0,none⟩ = some (u230000):=(blk_cell BK229.out 0).trans rfl
         have hfz82_0:=blk_frozen BK229.out 0
         obtain ⟨Ao83,co83,eo83⟩:=Kd.R_slice HO_230000.out
         subst eo83
         go_wp2_with (first|((with_reducible refine gate_callee (f:=52) rfl ?_); refine goesL_ (some 83) rfl rfl Try.func52 (by kernel_rfl) rfl #[.agg #[.slice Ao83 x230000_41.length co83]] rfl (by (try simp only [List.map_toArray,List.map_cons,List.map_nil]); first|done|rfl|(simp only [List.length_drop,List.length_take]; rfl)) ?_; (with_reducible refine (spec_CircleOk.calls kj41 _ _ x230000_41 true _ ?side1 ?side2 A78.out).mono ?_); (case side1 => repeat (first|exact (Kd.R_reads' HO_230000.out).2.2|(with_reducible refine Kd.C_alloc ?_ _)|(with_reducible refine Kd.C_drewN ?_ _)|(with_reducible refine Kd.C_drew ?_))); (case side2 => exact (Kd.R_reads' HO_230000.out).2.1); rintro e w84 ⟨rfl,hb⟩; refine ⟨_,rfl,?_⟩; have n0_:=Aside0.mk (Kd.R_below (by (with_reducible repeat (first|apply Kd.R_alloc|apply Kd.R_drewN|apply Kd.R_drew)); exact HO_230000.out) hb); have n1_:=Aside0.mk (blk_below (g:=gb225) (o:=.cells #[.slice none 0 0] 42 (0,0)) (by (with_reducible repeat (first|refine blk_drewN ?_ _|refine blk_drew ?_|refine blk_alloc ?_ _)); exact BK225.out) hb); have n2_:=Aside0.mk (blk_below (g:=gb229) (o:=.cells #[.slice Ao83 x230000_41.length co83] 42 (0,0)) (by (with_reducible repeat (first|refine blk_drewN ?_ _|refine blk_drew ?_|refine blk_alloc ?_ _)); exact BK229.out) hb); have n3_:=Aside0.mk (IsS80.below (by repeat (first|(with_reducible first|exact HI0.out|apply IsS80.alloc|apply IsS80.drewN|apply IsS80.drew|apply IsS80.set_1|apply IsS80.set_2|refine IsS80.far ?_ NB0_225.out _|refine IsS80.far ?_ NB0_229.out _)|exact HI0.out)) hb); have n4_:=Aside0.mk (KeepBut.trans (by repeat (first|(with_reducible first|exact HK.out|apply KeepBut.set_|apply keep_drewN|apply keep_drew|apply keep_alloc|refine keep_far ?_ GW225.out _|refine keep_far ?_ GW229.out _)|exact HK.out)) (KeepBut.of_below hb g none) (.inl rfl)); have n5_:=Aside0.mk (below_step (by repeat (first|(with_reducible first|exact HB.out|apply below_alloc|apply pw_below_drewN|apply below_drew1|refine below_set ?_ (IsS80.ge HI0.out)|refine below_set ?_ GE225.out|refine below_set ?_ GE229.out)|exact HB.out)) hb); clear HO_230000; clear BK225; clear BK229; clear HI0; clear HK; clear HB; have HO_230000:=n0_; have BK225:=n1_; have BK229:=n2_; have HI0:=n3_; have HK:=n4_; have HB:=n5_; clear n0_ n1_ n2_ n3_ n4_ n5_; (try clear hb); (try clear hb2); (try clear hk); (try clear hi); have hcz85_0 : w84.cell? ⟨gb229,0,none⟩ = some (.slice Ao83 x230000_41.length co83):=(blk_cell BK229.out 0).trans rfl; have hfz85_0:=blk_frozen BK229.out 0; have hnb86:=NB225_0.out; have hnc86:=NB0_225.out; have hcz87_0 : w84.cell? ⟨gb225,0,none⟩ = some (.slice none 0 0):=(blk_cell BK225.out 0).trans rfl; have hfz87_0:=blk_frozen BK225.out 0))
         refine bodyPost_ret (results_cell_row rfl _ _ gb225 42 #[.slice Ao83 x230000_41.length co83] (0,0) _ rfl (by (with_reducible repeat (first|refine blk_drewN ?_ _|refine blk_drew ?_|refine blk_alloc ?_ _)); refine blk_put (cs:=#[.slice none 0 0]) ?_ 0 _ rfl; (with_reducible repeat (first|refine blk_drewN ?_ _|refine blk_drew ?_|refine blk_alloc ?_ _)); exact BK225.out) Try.underlying42 rfl (by kernel_rfl)) rfl ?_
         exact ⟨_,by first|rfl|(simp [errW_none,errW_some] <;> rfl)|(simp [*,errW_none,errW_some] <;> rfl),by (with_reducible repeat (first|apply Kd.R_alloc|apply Kd.R_drewN|apply Kd.R_drew)); exact Kd.R_mono (Kd.R_far (p:=⟨gb225,0,none⟩) (Kd.R_types HO_230000.out BK225.out (by decide)) (fun _ hk => hk.2) (.slice Ao83 x230000_41.length co83)) (fun _ hk => trivial),by repeat (first|(with_reducible first|exact HI0.out|apply IsS80.alloc|apply IsS80.drewN|apply IsS80.drew|apply IsS80.set_1|apply IsS80.set_2|refine IsS80.far ?_ NB0_225.out _|refine IsS80.far ?_ NB0_229.out _)|exact HI0.out),by repeat (first|(with_reducible first|exact HB.out|apply below_alloc|apply pw_below_drewN|apply below_drew1|refine below_set ?_ (IsS80.ge HI0.out)|refine below_set ?_ GE225.out|refine below_set ?_ GE229.out)|exact HB.out),by repeat (first|(with_reducible first|exact HK.out|apply KeepBut.set_|apply keep_drewN|apply keep_drew|apply keep_alloc|refine keep_far ?_ GW225.out _|refine keep_far ?_ GW229.out _)|exact HK.out)⟩
        ·replace c79:=Bool.eq_false_iff.mpr c79
         subst c79
         have H1 : ((spec_EqualCircle.f).bind fun t260 => (some (t260,x1001_41,x1002_41))) = some (r1,r2,r3):=by rw [if_neg (show ¬ (false = true) by decide)] at H; exact H
         clear H
         have H:=H1
         clear H1
         replace H:=Option.bind_eq_some_iff.mp H
         obtain ⟨t260,A880,H⟩:=H
         replace H : (some (t260,x1001_41,x1002_41)) = some (r1,r2,r3):=H
         have A88:=Aside0.mk A880
         clear A880
         simp only [Option.some.injEq,Prod.mk.injEq] at H
         obtain ⟨rfl,rfl,rfl⟩:=H
         have hnb89:=NB229_225.out
         have hnc89:=NB225_229.out
         have hnb90:=NB229_0.out
         have hnc90:=NB0_229.out
         have hcz91_0 : wc.cell? ⟨gb229,0,none⟩ = some (u230000):=(blk_cell BK229.out 0).trans rfl
         have hfz91_0:=blk_frozen BK229.out 0
         obtain ⟨Ao92,co92,eo92⟩:=Kd.R_slice HO_230000.out
         subst eo92
         go_wp2_with (first|((with_reducible refine gate_callee (f:=52) rfl ?_); refine goesL_ (some 83) rfl rfl Try.func52 (by kernel_rfl) rfl #[.agg #[.slice Ao92 x230000_41.length co92]] rfl (by (try simp only [List.map_toArray,List.map_cons,List.map_nil]); first|done|rfl|(simp only [List.length_drop,List.length_take]; rfl)) ?_; (with_reducible refine (spec_CircleOk.calls kj41 _ _ x230000_41 false _ ?side1 ?side2 A78.out).mono ?_); (case side1 => repeat (first|exact (Kd.R_reads' HO_230000.out).2.2|(with_reducible refine Kd.C_alloc ?_ _)|(with_reducible refine Kd.C_drewN ?_ _)|(with_reducible refine Kd.C_drew ?_))); (case side2 => exact (Kd.R_reads' HO_230000.out).2.1); rintro e w93 ⟨rfl,hb⟩; refine ⟨_,rfl,?_⟩; have n0_:=Aside0.mk (Kd.R_below (by (with_reducible repeat (first|apply Kd.R_alloc|apply Kd.R_drewN|apply Kd.R_drew)); exact HO_230000.out) hb); have n1_:=Aside0.mk (blk_below (g:=gb225) (o:=.cells #[.slice none 0 0] 42 (0,0)) (by (with_reducible repeat (first|refine blk_drewN ?_ _|refine blk_drew ?_|refine blk_alloc ?_ _)); exact BK225.out) hb); have n2_:=Aside0.mk (blk_below (g:=gb229) (o:=.cells #[.slice Ao92 x230000_41.length co92] 42 (0,0)) (by (with_reducible repeat (first|refine blk_drewN ?_ _|refine blk_drew ?_|refine blk_alloc ?_ _)); exact BK229.out) hb); have n3_:=Aside0.mk (IsS80.below (by repeat (first|(with_reducible first|exact HI0.out|apply IsS80.alloc|apply IsS80.drewN|apply IsS80.drew|apply IsS80.set_1|apply IsS80.set_2|refine IsS80.far ?_ NB0_225.out _|refine IsS80.far ?_ NB0_229.out _)|exact HI0.out)) hb); have n4_:=Aside0.mk (KeepBut.trans (by repeat (first|(with_reducible first|exact HK.out|apply KeepBut.set_|apply keep_drewN|apply keep_drew|apply keep_alloc|refine keep_far ?_ GW225.out _|refine keep_far ?_ GW229.out _)|exact HK.out)) (KeepBut.of_below hb g none) (.inl rfl)); have n5_:=Aside0.mk (below_step (by repeat (first|(with_reducible first|exact HB.out|apply below_alloc|apply pw_below_drewN|apply below_drew1|refine below_set ?_ (IsS80.ge HI0.out)|refine below_set ?_ GE225.out|refine below_set ?_ GE229.out)|exact HB.out)) hb); clear HO_230000; clear BK225; clear BK229; clear HI0; clear HK; clear HB; have HO_230000:=n0_; have BK225:=n1_; have BK229:=n2_; have HI0:=n3_; have HK:=n4_; have HB:=n5_; clear n0_ n1_ n2_ n3_ n4_ n5_; (try clear hb); (try clear hb2); (try clear hk); (try clear hi))|((with_reducible refine gate_callee (f:=58) rfl ?_); refine goesL_ (some 85) rfl rfl Try.func58 (by kernel_rfl) rfl #[] rfl (by (try simp only [List.map_toArray,List.map_cons,List.map_nil]); first|done|rfl|(simp only [List.length_drop,List.length_take]; rfl)) ?_; (with_reducible refine (spec_EqualCircle.calls  t260 _ A88.out).mono ?_); rintro e w94 ⟨v261,rfl,ho0,hb⟩; refine ⟨_,rfl,?_⟩; have n0_:=Aside0.mk (Kd.R_elder' (by (with_reducible repeat (first|apply Kd.R_alloc|apply Kd.R_drewN|apply Kd.R_drew)); exact HO_230000.out) (Kd.R_base ho0) hb); have n1_:=Aside0.mk (Kd.R_lower (Kd.R_new' ho0 (Kd.R_lt (by (with_reducible repeat (first|apply Kd.R_alloc|apply Kd.R_drewN|apply Kd.R_drew)); exact HO_230000.out))) (keep_size (w:=w) (g:=g) (row:=none) (by repeat (first|(with_reducible first|exact HK.out|apply KeepBut.set_|apply keep_drewN|apply keep_drew|apply keep_alloc|refine keep_far ?_ GW225.out _|refine keep_far ?_ GW229.out _)|exact HK.out)))); have n2_:=Aside0.mk (blk_below (g:=gb225) (o:=.cells #[.slice none 0 0] 42 (0,0)) (by (with_reducible repeat (first|refine blk_drewN ?_ _|refine blk_drew ?_|refine blk_alloc ?_ _)); exact BK225.out) hb); have n3_:=Aside0.mk (blk_below (g:=gb229) (o:=.cells #[.slice Ao92 x230000_41.length co92] 42 (0,0)) (by (with_reducible repeat (first|refine blk_drewN ?_ _|refine blk_drew ?_|refine blk_alloc ?_ _)); exact BK229.out) hb); have n4_:=Aside0.mk (IsS80.below (by repeat (first|(with_reducible first|exact HI0.out|apply IsS80.alloc|apply IsS80.drewN|apply IsS80.drew|apply IsS80.set_1|apply IsS80.set_2|refine IsS80.far ?_ NB0_225.out _|refine IsS80.far ?_ NB0_229.out _)|exact HI0.out)) hb); have n5_:=Aside0.mk (KeepBut.trans (by repeat (first|(with_reducible first|exact HK.out|apply KeepBut.set_|apply keep_drewN|apply keep_drew|apply keep_alloc|refine keep_far ?_ GW225.out _|refine keep_far ?_ GW229.out _)|exact HK.out)) (KeepBut.of_below hb g none) (.inl rfl)); have n6_:=Aside0.mk (below_step (by repeat (first|(with_reducible first|exact HB.out|apply below_alloc|apply pw_below_drewN|apply below_drew1|refine below_set ?_ (IsS80.ge HI0.out)|refine below_set ?_ GE225.out|refine below_set ?_ GE229.out)|exact HB.out)) hb); clear HO_230000; clear BK225; clear BK229; clear HI0; clear HK; clear HB; have HO_230000:=n0_; have HO262:=n1_; have BK225:=n2_; have BK229:=n3_; have HI0:=n4_; have HK:=n5_; have HB:=n6_; clear n0_ n1_ n2_ n3_ n4_ n5_ n6_; (try clear hb); (try clear hb2); (try clear hk); (try clear hi); (try clear ho0); obtain ⟨Ao95,co95,eo95⟩:=Kd.R_slice HO262.out; subst eo95; have hnb96:=NB225_0.out; have hnc96:=NB0_225.out; have hcz97_0 : w94.cell? ⟨gb225,0,none⟩ = some (.slice none 0 0):=(blk_cell BK225.out 0).trans rfl; have hfz97_0:=blk_frozen BK225.out 0))
         refine bodyPost_ret (results_cell_row rfl _ _ gb225 42 #[.slice Ao95 t260.length co95] (0,0) _ rfl (by (with_reducible repeat (first|refine blk_drewN ?_ _|refine blk_drew ?_|refine blk_alloc ?_ _)); refine blk_put (cs:=#[.slice none 0 0]) ?_ 0 _ rfl; (with_reducible repeat (first|refine blk_drewN ?_ _|refine blk_drew ?_|refine blk_alloc ?_ _)); exact BK225.out) Try.underlying42 rfl (by kernel_rfl)) rfl ?_
         exact ⟨_,by first|rfl|(simp [errW_none,errW_some] <;> rfl)|(simp [*,errW_none,errW_some] <;> rfl),by (with_reducible repeat (first|apply Kd.R_alloc|apply Kd.R_drewN|apply Kd.R_drew)); exact Kd.R_mono (Kd.R_far (p:=⟨gb225,0,none⟩) (Kd.R_types HO262.out BK225.out (by decide)) (fun _ hk => hk.2) (.slice Ao95 t260.length co95)) (fun _ hk => trivial),by repeat (first|(with_reducible first|exact HI0.out|apply IsS80.alloc|apply IsS80.drewN|apply IsS80.drew|apply IsS80.set_1|apply IsS80.set_2|refine IsS80.far ?_ NB0_225.out _|refine IsS80.far ?_ NB0_229.out _)|exact HI0.out),by repeat (first|(with_reducible first|exact HB.out|apply below_alloc|apply pw_below_drewN|apply below_drew1|refine below_set ?_ (IsS80.ge HI0.out)|refine below_set ?_ GE225.out|refine below_set ?_ GE229.out)|exact HB.out),by repeat (first|(with_reducible first|exact HK.out|apply KeepBut.set_|apply keep_drewN|apply keep_drew|apply keep_alloc|refine keep_far ?_ GW225.out _|refine keep_far ?_ GW229.out _)|exact HK.out)⟩
 ·rw [if_neg c2] at H
  exact absurd H (by simp)

end Go.Proofs.Ytmjccdljalocbaa.PFnClosing
