-- WRITTEN FOR THIS CLAIM by wip/ownprint.py of this session: the print's way, with changes (the print itself does not take this law).
import Derived.Test.YtmjccdljalocbaaPFnExactGroupSumx0
namespace Go.Proofs.Ytmjccdljalocbaa.PFnExactGroupSum
open Go.RowKit Go.Proofs.YtmjccdljalocbaaW.PrintWords Go.Proofs.YtmjccdljalocbaaW.PrintLast Go.Proofs.YtmjccdljalocbaaW.PrintMore
attribute [local go_sem] max2_int min2_int max_two min_two max_three min_three max_four min_four   -- for this text's walks alone
set_option linter.unusedVariables false
set_option linter.unusedSimpArgs false

private abbrev tT := true
private abbrev fF := false
private abbrev lS := @List.setIfInBounds_toArray
private abbrev lZ := @List.set_cons_zero
private abbrev lC := @List.set_cons_succ
private abbrev bD := @pw_below_drewN
private abbrev bA := @below_alloc
private abbrev bE := @below_drew1
private abbrev kN := @blk_drewN
private abbrev kA := @blk_alloc
private abbrev kD := @blk_drew
private abbrev bS := @below_set
private abbrev kC := @blk_cell
private abbrev kB := @blk_below
/-! ### impl_within: function 46 -/
def impl_within.f (a0 : Int) (a1 : Int) (a2 : Int) : Option (Bool):=if a1 ≤ a0 then (some (decide (a0 ≤ a2))) else (some false)
set_option maxHeartbeats 8000000 in
set_option maxRecDepth 100000 in
theorem impl_within.calls (a0 : Int) (a1 : Int) (a2 : Int) (r : Bool) (w : World) (h : impl_within.f a0 a1 a2 = some r) :
  Calls Try.prog 46 #[.int .i64 a0,.int .i64 a1,.int .i64 a2] w fun e w' => e = .returned (.bool r) ∧ Drawn0 w w':=by
 have H : (if a1 ≤ a0 then (some (decide (a0 ≤ a2))) else (some false)) = some r:=h
 clear h
 by_cases c4 : a1 ≤ a0
 ·rw [if_pos c4] at H
  have c4b0 : decide (a1 ≤ a0) = true:=decide_eq_true c4
  clear c4
  obtain rfl:=Option.some.inj H
  go_enter Try.func46,Try.ntmps46
  go_wp2
  go_ret
  exact ⟨by first|rfl|(simp; done)|(simp [*]; done),by repeat (first|exact Drawn0.refl _|apply Drawn0.step)⟩
 rw [if_neg c4] at H
 have c4b0 : decide (a1 ≤ a0) = false:=decide_eq_false c4
 clear c4
 obtain rfl:=Option.some.inj H
 go_enter Try.func46,Try.ntmps46
 go_wp2
 go_ret
 exact ⟨by first|rfl|(simp; done)|(simp [*]; done),by repeat (first|exact Drawn0.refl _|apply Drawn0.step)⟩

/-! ### impl_CircleOk: function 54 -/
def impl_CircleOk.l0 : Nat → Int → List Int → Int → Int → List Int → Option (Bool)
 | 0,_,_,_,_,_ => none
 | k + 1,x3,x7,x8,x9,x193000 => if x9 < x8 then (if 0 ≤ x9 then (if x9 < (x7.length : Int) then ((impl_within.f (rd x7 x9) 0 12).bind fun t194 => (if t194 = true then (impl_CircleOk.l0 k (wrap64 (x3 + (rd x7 x9))) x7 x8 (wrap64 (x9 + 1)) x193000) else (some false))) else (none)) else (none)) else (if (x193000.length : Int) = 12 then (some (x3 == 12)) else (some false))
def impl_CircleOk.f (k : Nat) (l0_0 : List Int) : Option (Bool):=impl_CircleOk.l0 k 0 l0_0 (l0_0.length : Int) 0 l0_0
theorem impl_CircleOk.mono_l : ∀ k,(∀ y0 y1 y2 y3 y4,LeO (impl_CircleOk.l0 k y0 y1 y2 y3 y4) (impl_CircleOk.l0 (k + 1) y0 y1 y2 y3 y4))
 | 0 => fun _ _ _ _ _ r h => by simp [impl_CircleOk.l0] at h
 | k + 1 => by
  have ih0:=impl_CircleOk.mono_l k
  ·intro y0 y1 y2 y3 y4
   unfold impl_CircleOk.l0
   repeat' first
   | (with_reducible exact ih0 _ _ _ _ _)
   | (with_reducible exact LeO.refl _)
   | (with_reducible exact LeO.none _)
   | (with_reducible refine LeO.ite ?_ ?_)
   | (with_reducible refine LeO.bind ?_ (fun _ => ?_))
   | exact ih0 _ _ _ _ _
   | exact LeO.none _
   | refine LeO.ite ?_ ?_
   | refine LeO.bind ?_ (fun _ => ?_)
theorem impl_CircleOk.mono : ∀ a0 k,LeO (impl_CircleOk.f k a0) (impl_CircleOk.f (k + 1) a0):=by
 intro a0 k
 have ih0:=impl_CircleOk.mono_l k
 unfold impl_CircleOk.f
 repeat' first
   | (with_reducible exact ih0 _ _ _ _ _)
   | (with_reducible exact LeO.refl _)
   | (with_reducible exact LeO.none _)
   | (with_reducible refine LeO.ite ?_ ?_)
   | (with_reducible refine LeO.bind ?_ (fun _ => ?_))
   | exact ih0 _ _ _ _ _
   | exact LeO.none _
   | refine LeO.ite ?_ ?_
   | refine LeO.bind ?_ (fun _ => ?_)
set_option maxHeartbeats 8000000 in
set_option maxRecDepth 100000 in
theorem impl_CircleOk.calls (k : Nat) (A0_0 : Option Addr) (c0_0 : Nat) (l0_0 : List Int) (r : Bool) (w : World) (hr0_0 : Kd.C (Kd.int .i64) w A0_0 l0_0.length l0_0) (hc0_0 : l0_0.length ≤ c0_0) (h : impl_CircleOk.f k l0_0 = some r) :
  Calls Try.prog 54 #[.agg #[.slice A0_0 l0_0.length c0_0]] w fun e w' => e = .returned (.bool r) ∧ Below w.heap.size w w':=by
 have hu42:=Try.underlying42
 have HR0_0:=Aside0.mk hr0_0
 have HC0_0:=Aside0.mk hc0_0
 clear hr0_0 hc0_0
 have HB:=Aside0.mk (Below.refl w.heap.size w)
 have H : (impl_CircleOk.l0 k 0 l0_0 (l0_0.length : Int) 0 l0_0) = some r:=h
 clear h
 have H':=Aside0.mk H
 clear H
 go_enter Try.func54,Try.ntmps54
 go_wp2_with (first|((with_reducible refine gate_dst (N:=1) rfl ?_); refine box_event ?hg (N:=1) ?hd (cs:=#[.slice A0_0 l0_0.length c0_0]) (t:=42) ?hr ?_; (case hd => rfl); (case hg => rfl); (case hr => first|(go_simp; done)|(go_simp; rfl)); intro gb192 hg w2 hbox hb; have n0_:=Aside0.mk (below_step (by repeat (first|(with_reducible first|exact HB.out|apply bA|apply bD|apply bE)|exact HB.out)) hb); have n1_:=Aside0.mk (hbox); have n2_:=Aside0.mk ((by rw [hg]; exact (below_size (by repeat (first|(with_reducible first|exact HB.out|apply bA|apply bD|apply bE)|exact HB.out))) : w.heap.size ≤ gb192)); have n3_:=Aside0.mk ((by rw [hg]; exact (below_size (by repeat (first|(with_reducible first|exact HB.out|apply bA|apply bD|apply bE)|exact HB.out))) : w.heap.size ≤ gb192)); clear HB; have HB:=n0_; have BK192:=n1_; have GW192:=n2_; have GE192:=n3_; clear n0_ n1_ n2_ n3_; clear hb hbox hg; have hcz3_0 : w2.cell? ⟨gb192,0,none⟩ = some (.slice A0_0 l0_0.length c0_0):=(kC BK192.out 0).trans rfl; have hfz3_0:=blk_frozen BK192.out 0))
 go_loopg [3,9] k (fun kq v3 v9 w' => ∃ (x3_1 : Int) (x9_1 : Int),v3 = .int .i64 x3_1 ∧ v9 = .int .i64 x9_1 ∧ Aside0 (impl_CircleOk.l0 kq x3_1 l0_0 (l0_0.length : Int) x9_1 l0_0 = some r) ∧ Aside0 (kq ≤ k) ∧ Aside0 (w'.heap[gb192]? = some (.cells #[(.slice A0_0 l0_0.length c0_0)] 42 (0,0))) ∧ Aside0 (Below w.heap.size w w'))
 case atStart => exact ⟨(0),(0),(by first|rfl|(simp; done)|(simp [*]; done)),(by first|rfl|(simp; done)|(simp [*]; done)),H',⟨Nat.le_refl _⟩,⟨by (with_reducible repeat (first|refine kN ?_ _|refine kD ?_|refine kA ?_ _)); exact BK192.out⟩,⟨by repeat (first|(with_reducible first|exact HB.out|apply bA|apply bD|apply bE|refine bS ?_ GE192.out)|exact HB.out)⟩⟩
 case round =>
  clear H'
  try clear p2
  try clear hcz3_0
  try clear hfz3_0
  obtain ⟨x3_1,x9_1,rfl,rfl,HA,HK1,BK192,HB⟩:=hrel
  cases gk with
  | zero => exact absurd HA.out (by simp [impl_CircleOk.l0])
  | succ k1 =>
   have H:=HA.out
   clear HA
   simp only [impl_CircleOk.l0] at H
   by_cases c4 : x9_1 < (l0_0.length : Int)
   rotate_left
   ·rw [if_neg c4] at H
    have c4b0 : decide (x9_1 < (l0_0.length : Int)) = false:=decide_eq_false c4
    clear c4
    by_cases c9 : (l0_0.length : Int) = 12
    rotate_left
    ·rw [if_neg c9] at H
     have c9b0 : ((l0_0.length : Int) == 12) = false:=beq_eq_false_iff_ne.mpr c9
     have c9b1 : ((l0_0.length : Int) != 12) = true:=bne_iff_ne.mpr c9
     obtain rfl:=Option.some.inj H
     have hcz11_0 : wr.cell? ⟨gb192,0,none⟩ = some (.slice A0_0 l0_0.length c0_0):=(kC BK192.out 0).trans rfl
     have hfz11_0:=blk_frozen BK192.out 0
     go_wp2
     go_ret
     exact ⟨by first|rfl|(simp [errW_none,errW_some] <;> rfl)|(simp [*,errW_none,errW_some] <;> rfl),by repeat (first|(with_reducible first|exact HB.out|apply bA|apply bD|apply bE|refine bS ?_ GE192.out)|exact HB.out)⟩

    rw [if_pos c9] at H
    have c9b0 : ((l0_0.length : Int) == 12) = true:=beq_iff_eq.mpr c9
    have c9b1 : ((l0_0.length : Int) != 12) = false:=bne_eq_false_iff_eq.mpr c9
    clear c9
    obtain rfl:=Option.some.inj H
    have hcz10_0 : wr.cell? ⟨gb192,0,none⟩ = some (.slice A0_0 l0_0.length c0_0):=(kC BK192.out 0).trans rfl
    have hfz10_0:=blk_frozen BK192.out 0
    go_wp2
    go_ret
    exact ⟨by first|rfl|(simp [errW_none,errW_some] <;> rfl)|(simp [*,errW_none,errW_some] <;> rfl),by repeat (first|(with_reducible first|exact HB.out|apply bA|apply bD|apply bE|refine bS ?_ GE192.out)|exact HB.out)⟩
   rw [if_pos c4] at H
   have c4b0 : decide (x9_1 < (l0_0.length : Int)) = true:=decide_eq_true c4
   clear c4
   by_cases c5 : 0 ≤ x9_1
   rotate_left
   ·rw [if_neg c5] at H
    exact absurd H (by simp)
   rw [if_pos c5] at H
   have c5b0 : decide (0 ≤ x9_1) = true:=decide_eq_true c5
   clear c5
   by_cases c6 : x9_1 < (l0_0.length : Int)
   rotate_left
   ·rw [if_neg c6] at H
    exact absurd H (by simp)
   rw [if_pos c6] at H
   have c6b0 : decide (x9_1 < (l0_0.length : Int)) = true:=decide_eq_true c6
   clear c6
   replace H:=Option.bind_eq_some_iff.mp H
   obtain ⟨t194,A70,H⟩:=H
   replace H : (if t194 = true then (impl_CircleOk.l0 k1 (wrap64 (x3_1 + (rd l0_0 x9_1))) l0_0 (l0_0.length : Int) (wrap64 (x9_1 + 1)) l0_0) else (some false)) = some r:=H
   have A7:=Aside0.mk A70
   clear A70
   by_cases c8 : t194 = true
   rotate_left
   ·replace c8:=Bool.eq_false_iff.mpr c8
    subst c8
    have H1 : (some false) = some r:=by rw [if_neg (show ¬ (false = true) by decide)] at H; exact H
    clear H
    have H:=H1
    clear H1
    obtain rfl:=Option.some.inj H
    have p193 : 0 ≤ (x9_1 : Int):=of_decide_eq_true (by first|(with_reducible assumption)|assumption)
    have q193 : x9_1 < (l0_0.length : Int):=of_decide_eq_true (by first|(with_reducible assumption)|assumption)
    obtain ⟨ad193,e193,hx193_0⟩:=Kd.at_int HR0_0.out x9_1 p193 q193
    cases e193
    replace hx193_0:=(HB.out.cell (World.block_lt_of_cell? w _ hx193_0)).trans hx193_0
    replace p193:=eq_true p193
    replace q193:=eq_true q193
    go_wp2_with (first|((with_reducible refine gate_callee (f:=46) rfl ?_); refine goesL_ (some 14) rfl rfl Try.func46 (by kernel_rfl) rfl #[.int .i64 (rd l0_0 x9_1),.int .i64 0,.int .i64 12] rfl (by (try simp only [List.map_toArray,List.map_cons,List.map_nil]); first|done|rfl|(simp only [List.length_drop,List.length_take]; rfl)) ?_; (with_reducible refine (impl_within.calls (rd l0_0 x9_1) 0 12 false _ A7.out).mono ?_); rintro e w' ⟨rfl,⟨nd,rfl⟩⟩; refine ⟨_,rfl,?_⟩))
    go_ret
    exact ⟨by first|rfl|(simp [errW_none,errW_some] <;> rfl)|(simp [*,errW_none,errW_some] <;> rfl),by repeat (first|(with_reducible first|exact HB.out|apply bA|apply bD|apply bE|refine bS ?_ GE192.out)|exact HB.out)⟩
   subst c8
   have H1 : (impl_CircleOk.l0 k1 (wrap64 (x3_1 + (rd l0_0 x9_1))) l0_0 (l0_0.length : Int) (wrap64 (x9_1 + 1)) l0_0) = some r:=by rw [if_pos rfl] at H; exact H
   clear H
   have H:=H1
   clear H1
   have H':=Aside0.mk H
   clear H
   have p193 : 0 ≤ (x9_1 : Int):=of_decide_eq_true (by first|(with_reducible assumption)|assumption)
   have q193 : x9_1 < (l0_0.length : Int):=of_decide_eq_true (by first|(with_reducible assumption)|assumption)
   obtain ⟨ad193,e193,hx193_0⟩:=Kd.at_int HR0_0.out x9_1 p193 q193
   cases e193
   replace hx193_0:=(HB.out.cell (World.block_lt_of_cell? w _ hx193_0)).trans hx193_0
   replace p193:=eq_true p193
   replace q193:=eq_true q193
   go_wp2_with (first|((with_reducible refine gate_callee (f:=46) rfl ?_); refine goesL_ (some 14) rfl rfl Try.func46 (by kernel_rfl) rfl #[.int .i64 (rd l0_0 x9_1),.int .i64 0,.int .i64 12] rfl (by (try simp only [List.map_toArray,List.map_cons,List.map_nil]); first|done|rfl|(simp only [List.length_drop,List.length_take]; rfl)) ?_; (with_reducible refine (impl_within.calls (rd l0_0 x9_1) 0 12 true _ A7.out).mono ?_); rintro e w' ⟨rfl,⟨nd,rfl⟩⟩; refine ⟨_,rfl,?_⟩))
   go_roundg k1
   case measure => have:=HK1.out; omega
   case rel => exact ⟨(wrap64 (x3_1 + (rd l0_0 x9_1))),(wrap64 (x9_1 + 1)),(by first|rfl|(simp; done)|(simp [*]; done)),(by first|rfl|(simp; done)|(simp [*]; done)),H',⟨by have:=HK1.out; omega⟩,⟨by (with_reducible repeat (first|refine kN ?_ _|refine kD ?_|refine kA ?_ _)); exact BK192.out⟩,⟨by repeat (first|(with_reducible first|exact HB.out|apply bA|apply bD|apply bE|refine bS ?_ GE192.out)|exact HB.out)⟩⟩
/-! ### impl_IntervalOk: function 65 -/
def impl_IntervalOk.f (a0_0 : Int) (a0_1 : Int) (a0_2 : Int) (a0_3 : Int) : Option (Bool):=(impl_within.f a0_3 1 12).bind fun t196 => (if t196 = true then ((impl_within.f a0_0 (-400) 400).bind fun t197 => (if t197 = true then ((impl_within.f a0_1 (-400) 400).bind fun t198 => (if t198 = true then ((impl_within.f a0_2 (-400) 400).bind fun t199 => (some t199)) else (some false))) else (some false))) else (some false))
set_option maxHeartbeats 8000000 in
set_option maxRecDepth 100000 in
theorem impl_IntervalOk.calls (a0_0 : Int) (a0_1 : Int) (a0_2 : Int) (a0_3 : Int) (r : Bool) (w : World) (h : impl_IntervalOk.f a0_0 a0_1 a0_2 a0_3 = some r) :
  Calls Try.prog 65 #[.agg #[.int .i64 a0_0,.int .i64 a0_1,.int .i64 a0_2,.int .i64 a0_3]] w fun e w' => e = .returned (.bool r) ∧ Below w.heap.size w w':=by
 have hu50:=Try.underlying50
 have HB:=Aside0.mk (Below.refl w.heap.size w)
 have H : ((impl_within.f a0_3 1 12).bind fun t196 => (if t196 = true then ((impl_within.f a0_0 (-400) 400).bind fun t197 => (if t197 = true then ((impl_within.f a0_1 (-400) 400).bind fun t198 => (if t198 = true then ((impl_within.f a0_2 (-400) 400).bind fun t199 => (some t199)) else (some false))) else (some false))) else (some false))) = some r:=h
 clear h
 replace H:=Option.bind_eq_some_iff.mp H
 obtain ⟨t196,A20,H⟩:=H
 replace H : (if t196 = true then ((impl_within.f a0_0 (-400) 400).bind fun t197 => (if t197 = true then ((impl_within.f a0_1 (-400) 400).bind fun t198 => (if t198 = true then ((impl_within.f a0_2 (-400) 400).bind fun t199 => (some t199)) else (some false))) else (some false))) else (some false)) = some r:=H
 have A2:=Aside0.mk A20
 clear A20
 by_cases c3 : t196 = true
 rotate_left
 ·replace c3:=Bool.eq_false_iff.mpr c3
  subst c3
  have H1 : (some false) = some r:=by rw [if_neg (show ¬ (false = true) by decide)] at H; exact H
  clear H
  have H:=H1
  clear H1
  obtain rfl:=Option.some.inj H
  go_enter Try.func65,Try.ntmps65
  go_wp2_with (first|((with_reducible refine gate_dst (N:=1) rfl ?_); refine box_event ?hg (N:=1) ?hd (cs:=#[.int .i64 a0_0,.int .i64 a0_1,.int .i64 a0_2,.int .i64 a0_3]) (t:=50) ?hr ?_; (case hd => rfl); (case hg => rfl); (case hr => first|(go_simp; done)|(go_simp; rfl)); intro gb195 hg w15 hbox hb; have n0_:=Aside0.mk (below_step (by repeat (first|(with_reducible first|exact HB.out|apply bA|apply bD|apply bE)|exact HB.out)) hb); have n1_:=Aside0.mk (hbox); have n2_:=Aside0.mk ((by rw [hg]; exact (below_size (by repeat (first|(with_reducible first|exact HB.out|apply bA|apply bD|apply bE)|exact HB.out))) : w.heap.size ≤ gb195)); have n3_:=Aside0.mk ((by rw [hg]; exact (below_size (by repeat (first|(with_reducible first|exact HB.out|apply bA|apply bD|apply bE)|exact HB.out))) : w.heap.size ≤ gb195)); clear HB; have HB:=n0_; have BK195:=n1_; have GW195:=n2_; have GE195:=n3_; clear n0_ n1_ n2_ n3_; clear hb hbox hg; have hcz16_0 : w15.cell? ⟨gb195,0,none⟩ = some (.int .i64 a0_0):=(kC BK195.out 0).trans rfl; have hcz16_1 : w15.cell? ⟨gb195,1,none⟩ = some (.int .i64 a0_1):=(kC BK195.out 1).trans rfl; have hcz16_2 : w15.cell? ⟨gb195,2,none⟩ = some (.int .i64 a0_2):=(kC BK195.out 2).trans rfl; have hcz16_3 : w15.cell? ⟨gb195,3,none⟩ = some (.int .i64 a0_3):=(kC BK195.out 3).trans rfl; have hfz16_0:=blk_frozen BK195.out 0; have hfz16_1:=blk_frozen BK195.out 1; have hfz16_2:=blk_frozen BK195.out 2; have hfz16_3:=blk_frozen BK195.out 3)|((with_reducible refine gate_callee (f:=46) rfl ?_); refine goesL_ (some 5) rfl rfl Try.func46 (by kernel_rfl) rfl #[.int .i64 a0_3,.int .i64 1,.int .i64 12] rfl (by (try simp only [List.map_toArray,List.map_cons,List.map_nil]); first|done|rfl|(simp only [List.length_drop,List.length_take]; rfl)) ?_; (with_reducible refine (impl_within.calls a0_3 1 12 false _ A2.out).mono ?_); rintro e w' ⟨rfl,⟨nd,rfl⟩⟩; refine ⟨_,rfl,?_⟩))
  go_ret
  exact ⟨by first|rfl|(simp [errW_none,errW_some] <;> rfl)|(simp [*,errW_none,errW_some] <;> rfl),by repeat (first|(with_reducible first|exact HB.out|apply bA|apply bD|apply bE|refine bS ?_ GE195.out)|exact HB.out)⟩

 subst c3
 have H1 : ((impl_within.f a0_0 (-400) 400).bind fun t197 => (if t197 = true then ((impl_within.f a0_1 (-400) 400).bind fun t198 => (if t198 = true then ((impl_within.f a0_2 (-400) 400).bind fun t199 => (some t199)) else (some false))) else (some false))) = some r:=by rw [if_pos rfl] at H; exact H
 clear H
 have H:=H1
 clear H1
 replace H:=Option.bind_eq_some_iff.mp H
 obtain ⟨t197,A40,H⟩:=H
 replace H : (if t197 = true then ((impl_within.f a0_1 (-400) 400).bind fun t198 => (if t198 = true then ((impl_within.f a0_2 (-400) 400).bind fun t199 => (some t199)) else (some false))) else (some false)) = some r:=H
 have A4:=Aside0.mk A40
 clear A40
 by_cases c5 : t197 = true
 rotate_left
 ·replace c5:=Bool.eq_false_iff.mpr c5
  subst c5
  have H1 : (some false) = some r:=by rw [if_neg (show ¬ (false = true) by decide)] at H; exact H
  clear H
  have H:=H1
  clear H1
  obtain rfl:=Option.some.inj H
  go_enter Try.func65,Try.ntmps65
  go_wp2_with (first|((with_reducible refine gate_dst (N:=1) rfl ?_); refine box_event ?hg (N:=1) ?hd (cs:=#[.int .i64 a0_0,.int .i64 a0_1,.int .i64 a0_2,.int .i64 a0_3]) (t:=50) ?hr ?_; (case hd => rfl); (case hg => rfl); (case hr => first|(go_simp; done)|(go_simp; rfl)); intro gb195 hg w13 hbox hb; have n0_:=Aside0.mk (below_step (by repeat (first|(with_reducible first|exact HB.out|apply bA|apply bD|apply bE)|exact HB.out)) hb); have n1_:=Aside0.mk (hbox); have n2_:=Aside0.mk ((by rw [hg]; exact (below_size (by repeat (first|(with_reducible first|exact HB.out|apply bA|apply bD|apply bE)|exact HB.out))) : w.heap.size ≤ gb195)); have n3_:=Aside0.mk ((by rw [hg]; exact (below_size (by repeat (first|(with_reducible first|exact HB.out|apply bA|apply bD|apply bE)|exact HB.out))) : w.heap.size ≤ gb195)); clear HB; have HB:=n0_; have BK195:=n1_; have GW195:=n2_; have GE195:=n3_; clear n0_ n1_ n2_ n3_; clear hb hbox hg; have hcz14_0 : w13.cell? ⟨gb195,0,none⟩ = some (.int .i64 a0_0):=(kC BK195.out 0).trans rfl; have hcz14_1 : w13.cell? ⟨gb195,1,none⟩ = some (.int .i64 a0_1):=(kC BK195.out 1).trans rfl; have hcz14_2 : w13.cell? ⟨gb195,2,none⟩ = some (.int .i64 a0_2):=(kC BK195.out 2).trans rfl; have hcz14_3 : w13.cell? ⟨gb195,3,none⟩ = some (.int .i64 a0_3):=(kC BK195.out 3).trans rfl; have hfz14_0:=blk_frozen BK195.out 0; have hfz14_1:=blk_frozen BK195.out 1; have hfz14_2:=blk_frozen BK195.out 2; have hfz14_3:=blk_frozen BK195.out 3)|((with_reducible refine gate_callee (f:=46) rfl ?_); refine goesL_ (some 5) rfl rfl Try.func46 (by kernel_rfl) rfl #[.int .i64 a0_3,.int .i64 1,.int .i64 12] rfl (by (try simp only [List.map_toArray,List.map_cons,List.map_nil]); first|done|rfl|(simp only [List.length_drop,List.length_take]; rfl)) ?_; (with_reducible refine (impl_within.calls a0_3 1 12 true _ A2.out).mono ?_); rintro e w' ⟨rfl,⟨nd,rfl⟩⟩; refine ⟨_,rfl,?_⟩)|(go_at_call 46; (with_reducible refine (impl_within.calls a0_0 (-400) 400 false _ A4.out).mono ?_); rintro e w' ⟨rfl,⟨nd,rfl⟩⟩))
  go_ret
  exact ⟨by first|rfl|(simp [errW_none,errW_some] <;> rfl)|(simp [*,errW_none,errW_some] <;> rfl),by repeat (first|(with_reducible first|exact HB.out|apply bA|apply bD|apply bE|refine bS ?_ GE195.out)|exact HB.out)⟩
 subst c5
 have H1 : ((impl_within.f a0_1 (-400) 400).bind fun t198 => (if t198 = true then ((impl_within.f a0_2 (-400) 400).bind fun t199 => (some t199)) else (some false))) = some r:=by rw [if_pos rfl] at H; exact H
 clear H
 have H:=H1
 clear H1
 replace H:=Option.bind_eq_some_iff.mp H
 obtain ⟨t198,A60,H⟩:=H
 replace H : (if t198 = true then ((impl_within.f a0_2 (-400) 400).bind fun t199 => (some t199)) else (some false)) = some r:=H
 have A6:=Aside0.mk A60
 clear A60
 by_cases c7 : t198 = true
 rotate_left
 ·replace c7:=Bool.eq_false_iff.mpr c7
  subst c7
  have H1 : (some false) = some r:=by rw [if_neg (show ¬ (false = true) by decide)] at H; exact H
  clear H
  have H:=H1
  clear H1
  obtain rfl:=Option.some.inj H
  go_enter Try.func65,Try.ntmps65
  go_wp2_with (first|((with_reducible refine gate_dst (N:=1) rfl ?_); refine box_event ?hg (N:=1) ?hd (cs:=#[.int .i64 a0_0,.int .i64 a0_1,.int .i64 a0_2,.int .i64 a0_3]) (t:=50) ?hr ?_; (case hd => rfl); (case hg => rfl); (case hr => first|(go_simp; done)|(go_simp; rfl)); intro gb195 hg w11 hbox hb; have n0_:=Aside0.mk (below_step (by repeat (first|(with_reducible first|exact HB.out|apply bA|apply bD|apply bE)|exact HB.out)) hb); have n1_:=Aside0.mk (hbox); have n2_:=Aside0.mk ((by rw [hg]; exact (below_size (by repeat (first|(with_reducible first|exact HB.out|apply bA|apply bD|apply bE)|exact HB.out))) : w.heap.size ≤ gb195)); have n3_:=Aside0.mk ((by rw [hg]; exact (below_size (by repeat (first|(with_reducible first|exact HB.out|apply bA|apply bD|apply bE)|exact HB.out))) : w.heap.size ≤ gb195)); clear HB; have HB:=n0_; have BK195:=n1_; have GW195:=n2_; have GE195:=n3_; clear n0_ n1_ n2_ n3_; clear hb hbox hg; have hcz12_0 : w11.cell? ⟨gb195,0,none⟩ = some (.int .i64 a0_0):=(kC BK195.out 0).trans rfl; have hcz12_1 : w11.cell? ⟨gb195,1,none⟩ = some (.int .i64 a0_1):=(kC BK195.out 1).trans rfl; have hcz12_2 : w11.cell? ⟨gb195,2,none⟩ = some (.int .i64 a0_2):=(kC BK195.out 2).trans rfl; have hcz12_3 : w11.cell? ⟨gb195,3,none⟩ = some (.int .i64 a0_3):=(kC BK195.out 3).trans rfl; have hfz12_0:=blk_frozen BK195.out 0; have hfz12_1:=blk_frozen BK195.out 1; have hfz12_2:=blk_frozen BK195.out 2; have hfz12_3:=blk_frozen BK195.out 3)|((with_reducible refine gate_callee (f:=46) rfl ?_); refine goesL_ (some 5) rfl rfl Try.func46 (by kernel_rfl) rfl #[.int .i64 a0_3,.int .i64 1,.int .i64 12] rfl (by (try simp only [List.map_toArray,List.map_cons,List.map_nil]); first|done|rfl|(simp only [List.length_drop,List.length_take]; rfl)) ?_; (with_reducible refine (impl_within.calls a0_3 1 12 true _ A2.out).mono ?_); rintro e w' ⟨rfl,⟨nd,rfl⟩⟩; refine ⟨_,rfl,?_⟩)|(go_at_call 46; (with_reducible refine (impl_within.calls a0_0 (-400) 400 true _ A4.out).mono ?_); rintro e w' ⟨rfl,⟨nd,rfl⟩⟩)|(go_at_call 46; (with_reducible refine (impl_within.calls a0_1 (-400) 400 false _ A6.out).mono ?_); rintro e w' ⟨rfl,⟨nd,rfl⟩⟩))
  go_ret
  exact ⟨by first|rfl|(simp [errW_none,errW_some] <;> rfl)|(simp [*,errW_none,errW_some] <;> rfl),by repeat (first|(with_reducible first|exact HB.out|apply bA|apply bD|apply bE|refine bS ?_ GE195.out)|exact HB.out)⟩
 subst c7
 have H1 : ((impl_within.f a0_2 (-400) 400).bind fun t199 => (some t199)) = some r:=by rw [if_pos rfl] at H; exact H
 clear H
 have H:=H1
 clear H1
 replace H:=Option.bind_eq_some_iff.mp H
 obtain ⟨t199,A80,H⟩:=H
 replace H : (some t199) = some r:=H
 have A8:=Aside0.mk A80
 clear A80
 obtain rfl:=Option.some.inj H
 go_enter Try.func65,Try.ntmps65
 go_wp2_with (first|((with_reducible refine gate_dst (N:=1) rfl ?_); refine box_event ?hg (N:=1) ?hd (cs:=#[.int .i64 a0_0,.int .i64 a0_1,.int .i64 a0_2,.int .i64 a0_3]) (t:=50) ?hr ?_; (case hd => rfl); (case hg => rfl); (case hr => first|(go_simp; done)|(go_simp; rfl)); intro gb195 hg w9 hbox hb; have n0_:=Aside0.mk (below_step (by repeat (first|(with_reducible first|exact HB.out|apply bA|apply bD|apply bE)|exact HB.out)) hb); have n1_:=Aside0.mk (hbox); have n2_:=Aside0.mk ((by rw [hg]; exact (below_size (by repeat (first|(with_reducible first|exact HB.out|apply bA|apply bD|apply bE)|exact HB.out))) : w.heap.size ≤ gb195)); have n3_:=Aside0.mk ((by rw [hg]; exact (below_size (by repeat (first|(with_reducible first|exact HB.out|apply bA|apply bD|apply bE)|exact HB.out))) : w.heap.size ≤ gb195)); clear HB; have HB:=n0_; have BK195:=n1_; have GW195:=n2_; have GE195:=n3_; clear n0_ n1_ n2_ n3_; clear hb hbox hg; have hcz10_0 : w9.cell? ⟨gb195,0,none⟩ = some (.int .i64 a0_0):=(kC BK195.out 0).trans rfl; have hcz10_1 : w9.cell? ⟨gb195,1,none⟩ = some (.int .i64 a0_1):=(kC BK195.out 1).trans rfl; have hcz10_2 : w9.cell? ⟨gb195,2,none⟩ = some (.int .i64 a0_2):=(kC BK195.out 2).trans rfl; have hcz10_3 : w9.cell? ⟨gb195,3,none⟩ = some (.int .i64 a0_3):=(kC BK195.out 3).trans rfl; have hfz10_0:=blk_frozen BK195.out 0; have hfz10_1:=blk_frozen BK195.out 1; have hfz10_2:=blk_frozen BK195.out 2; have hfz10_3:=blk_frozen BK195.out 3)|((with_reducible refine gate_callee (f:=46) rfl ?_); refine goesL_ (some 5) rfl rfl Try.func46 (by kernel_rfl) rfl #[.int .i64 a0_3,.int .i64 1,.int .i64 12] rfl (by (try simp only [List.map_toArray,List.map_cons,List.map_nil]); first|done|rfl|(simp only [List.length_drop,List.length_take]; rfl)) ?_; (with_reducible refine (impl_within.calls a0_3 1 12 true _ A2.out).mono ?_); rintro e w' ⟨rfl,⟨nd,rfl⟩⟩; refine ⟨_,rfl,?_⟩)|(go_at_call 46; (with_reducible refine (impl_within.calls a0_0 (-400) 400 true _ A4.out).mono ?_); rintro e w' ⟨rfl,⟨nd,rfl⟩⟩)|(go_at_call 46; (with_reducible refine (impl_within.calls a0_1 (-400) 400 true _ A6.out).mono ?_); rintro e w' ⟨rfl,⟨nd,rfl⟩⟩)|(go_at_call 46; (with_reducible refine (impl_within.calls a0_2 (-400) 400 t199 _ A8.out).mono ?_); rintro e w' ⟨rfl,⟨nd,rfl⟩⟩))
 go_ret
 exact ⟨by first|rfl|(simp [errW_none,errW_some] <;> rfl)|(simp [*,errW_none,errW_some] <;> rfl),by repeat (first|(with_reducible first|exact HB.out|apply bA|apply bD|apply bE|refine bS ?_ GE195.out)|exact HB.out)⟩
/-! ### impl_divisor: function 78 -/
def impl_divisor.l0 : Nat → Int → Int → Option (Int)
 | 0,_,_ => none
 | k + 1,x0,x1 => if x1 = 0 then (if x0 < 0 then (some (wrap64 (-x0))) else (some x0)) else (impl_divisor.l0 k x1 (Int.tmod x0 x1))
def impl_divisor.f (k : Nat) (a0 : Int) (a1 : Int) : Option (Int):=impl_divisor.l0 k a0 a1
theorem impl_divisor.mono_l : ∀ k,(∀ y0 y1,LeO (impl_divisor.l0 k y0 y1) (impl_divisor.l0 (k + 1) y0 y1))
 | 0 => fun _ _ r h => by simp [impl_divisor.l0] at h
 | k + 1 => by
  have ih0:=impl_divisor.mono_l k
  ·intro y0 y1
   unfold impl_divisor.l0
   repeat' first
   | (with_reducible exact ih0 _ _)
   | (with_reducible exact LeO.refl _)
   | (with_reducible exact LeO.none _)
   | (with_reducible refine LeO.ite ?_ ?_)
   | (with_reducible refine LeO.bind ?_ (fun _ => ?_))
   | exact ih0 _ _
   | exact LeO.none _
   | refine LeO.ite ?_ ?_
   | refine LeO.bind ?_ (fun _ => ?_)
theorem impl_divisor.mono : ∀ a0 a1 k,LeO (impl_divisor.f k a0 a1) (impl_divisor.f (k + 1) a0 a1):=by
 intro a0 a1 k
 have ih0:=impl_divisor.mono_l k
 unfold impl_divisor.f
 repeat' first
   | (with_reducible exact ih0 _ _)
   | (with_reducible exact LeO.refl _)
   | (with_reducible exact LeO.none _)
   | (with_reducible refine LeO.ite ?_ ?_)
   | (with_reducible refine LeO.bind ?_ (fun _ => ?_))
   | exact ih0 _ _
   | exact LeO.none _
   | refine LeO.ite ?_ ?_
   | refine LeO.bind ?_ (fun _ => ?_)
set_option maxHeartbeats 8000000 in
set_option maxRecDepth 100000 in
theorem impl_divisor.calls (k : Nat) (a0 : Int) (a1 : Int) (r : Int) (w : World) (h : impl_divisor.f k a0 a1 = some r) :
  Calls Try.prog 78 #[.int .i64 a0,.int .i64 a1] w fun e w' => e = .returned (.int .i64 r) ∧ Below w.heap.size w w':=by
 have HB:=Aside0.mk (Below.refl w.heap.size w)
 have H : (impl_divisor.l0 k a0 a1) = some r:=h
 clear h
 have H':=Aside0.mk H
 clear H
 go_enter Try.func78,Try.ntmps78
 go_wp2
 repeat (go_quiet (fail); try go_wp2)
 go_loopg [0,1] k (fun kq v0 v1 w' => ∃ (x0_1 : Int) (x1_1 : Int),v0 = .int .i64 x0_1 ∧ v1 = .int .i64 x1_1 ∧ Aside0 (impl_divisor.l0 kq x0_1 x1_1 = some r) ∧ Aside0 (kq ≤ k) ∧ Aside0 (Below w.heap.size w w'))
 case atStart => exact ⟨(a0),(a1),(by first|rfl|(simp; done)|(simp [*]; done)),(by first|rfl|(simp; done)|(simp [*]; done)),H',⟨Nat.le_refl _⟩,⟨by repeat (first|(with_reducible first|exact HB.out|apply bA|apply bD|apply bE)|exact HB.out)⟩⟩
 case round =>
  clear H'
  try clear p2
  obtain ⟨x0_1,x1_1,rfl,rfl,HA,HK1,HB⟩:=hrel
  cases gk with
  | zero => exact absurd HA.out (by simp [impl_divisor.l0])
  | succ k1 =>
   have H:=HA.out
   clear HA
   simp only [impl_divisor.l0] at H
   by_cases c3 : x1_1 = 0
   rotate_left
   ·rw [if_neg c3] at H
    have c3b0 : (x1_1 == 0) = false:=beq_eq_false_iff_ne.mpr c3
    have c3b1 : (x1_1 != 0) = true:=bne_iff_ne.mpr c3
    have H':=Aside0.mk H
    clear H
    go_wp2
    repeat (go_quiet (fail); try go_wp2)
    go_roundg k1
    case measure => have:=HK1.out; omega
    case rel => exact ⟨(x1_1),(Int.tmod x0_1 x1_1),(by first|rfl|(simp; done)|(simp [*]; done)),(by first|rfl|(simp; done)|(simp [*]; done)),H',⟨by have:=HK1.out; omega⟩,⟨by repeat (first|(with_reducible first|exact HB.out|apply bA|apply bD|apply bE)|exact HB.out)⟩⟩

   rw [if_pos c3] at H
   have c3b0 : (x1_1 == 0) = true:=beq_iff_eq.mpr c3
   have c3b1 : (x1_1 != 0) = false:=bne_eq_false_iff_eq.mpr c3
   clear c3
   by_cases c4 : x0_1 < 0
   rotate_left
   ·rw [if_neg c4] at H
    have c4b0 : decide (x0_1 < 0) = false:=decide_eq_false c4
    clear c4
    obtain rfl:=Option.some.inj H
    go_wp2
    repeat (go_quiet (fail); try go_wp2)
    go_ret
    exact ⟨by first|rfl|(simp [errW_none,errW_some] <;> rfl)|(simp [*,errW_none,errW_some] <;> rfl),by repeat (first|(with_reducible first|exact HB.out|apply bA|apply bD|apply bE)|exact HB.out)⟩
   rw [if_pos c4] at H
   have c4b0 : decide (x0_1 < 0) = true:=decide_eq_true c4
   clear c4
   obtain rfl:=Option.some.inj H
   go_wp2
   repeat (go_quiet (fail); try go_wp2)
   go_ret
   exact ⟨by first|rfl|(simp [errW_none,errW_some] <;> rfl)|(simp [*,errW_none,errW_some] <;> rfl),by repeat (first|(with_reducible first|exact HB.out|apply bA|apply bD|apply bE)|exact HB.out)⟩
/-! ### impl_simplest: function 73 -/
def impl_simplest.f (k : Nat) (a0_0 : Int) (a0_1 : Int) (a0_2 : Int) (a0_3 : Int) : Option (Int × Int × Int × Int):=(impl_divisor.f k a0_0 a0_1).bind fun t202 => ((impl_divisor.f k a0_2 a0_3).bind fun t203 => ((impl_divisor.f k t202 t203).bind fun t204 => (if t204 = 0 then (none) else (some (wrap64 (Int.tdiv a0_0 t204),wrap64 (Int.tdiv a0_1 t204),wrap64 (Int.tdiv a0_2 t204),wrap64 (Int.tdiv a0_3 t204))))))
theorem impl_simplest.mono : ∀ a0 a1 a2 a3 k,LeO (impl_simplest.f k a0 a1 a2 a3) (impl_simplest.f (k + 1) a0 a1 a2 a3):=by
 intro a0 a1 a2 a3 k
 unfold impl_simplest.f
 repeat' first
   | (with_reducible exact impl_divisor.mono _ _ _)
   | (with_reducible exact LeO.refl _)
   | (with_reducible exact LeO.none _)
   | (with_reducible refine LeO.ite ?_ ?_)
   | (with_reducible refine LeO.bind ?_ (fun _ => ?_))
   | exact impl_divisor.mono _ _ _
   | exact LeO.none _
   | refine LeO.ite ?_ ?_
   | refine LeO.bind ?_ (fun _ => ?_)
def impl_simplest.T1 : Bool × List (List Nat × List Nat):=(true,[([],[]),([0],[0]),([],[]),([2],[2]),([1,3],[1,3]),([],[]),([5],[5]),([],[]),([7],[7]),([6,8,4],[6,8]),([4,9,9],[4,9]),([10,10,0,1,2,3,4,5,6,7,8,9,10],[10])])
def impl_simplest.B1 : List Nat:=[0,1,0,4,15,0,32,0,128,511,1023,2047]
theorem impl_simplest.tab1 : rtab .any (opsOf Try.f73 1) = impl_simplest.T1:=by kernel_rfl
theorem impl_simplest.bits1 : waitsOk impl_simplest.T1.2 impl_simplest.B1 = true:=by kernel_rfl
def impl_simplest.T2 : Bool × List (List Nat × List Nat):=(true,[([],[]),([0],[0]),([],[]),([1,2],[1,2]),([],[]),([4],[4]),([],[]),([5,6],[5,6]),([],[]),([8],[8]),([],[]),([9,10],[9,10]),([],[]),([12],[12]),([],[]),([13,14],[13,14]),([3,7,11,15],[3,7,11,15]),([16,0,1,2,3,4,5,6,7,8,9,10,11,12,13,14,15,16],[16])])
def impl_simplest.B2 : List Nat:=[0,1,0,7,0,16,0,112,0,256,0,1792,0,4096,0,28672,65535,131071]
theorem impl_simplest.tab2 : rtab .any (opsOf Try.f73 2) = impl_simplest.T2:=by kernel_rfl
theorem impl_simplest.bits2 : waitsOk impl_simplest.T2.2 impl_simplest.B2 = true:=by kernel_rfl
set_option maxHeartbeats 8000000 in
set_option maxRecDepth 100000 in
theorem impl_simplest.calls (k : Nat) (a0_0 : Int) (a0_1 : Int) (a0_2 : Int) (a0_3 : Int) (r1 : Int) (r2 : Int) (r3 : Int) (r4 : Int) (w : World) (h : impl_simplest.f k a0_0 a0_1 a0_2 a0_3 = some (r1,r2,r3,r4)) :
  Calls Try.prog 73 #[.agg #[.int .i64 a0_0,.int .i64 a0_1,.int .i64 a0_2,.int .i64 a0_3]] w fun e w' => e = .returned (.agg #[.int .i64 r1,.int .i64 r2,.int .i64 r3,.int .i64 r4]) ∧ Below w.heap.size w w':=by
 have hu50:=Try.underlying50
 have HB:=Aside0.mk (Below.refl w.heap.size w)
 have H : ((impl_divisor.f k a0_0 a0_1).bind fun t202 => ((impl_divisor.f k a0_2 a0_3).bind fun t203 => ((impl_divisor.f k t202 t203).bind fun t204 => (if t204 = 0 then (none) else (some (wrap64 (Int.tdiv a0_0 t204),wrap64 (Int.tdiv a0_1 t204),wrap64 (Int.tdiv a0_2 t204),wrap64 (Int.tdiv a0_3 t204))))))) = some (r1,r2,r3,r4):=h
 clear h
 replace H:=Option.bind_eq_some_iff.mp H
 obtain ⟨t202,A20,H⟩:=H
 replace H : ((impl_divisor.f k a0_2 a0_3).bind fun t203 => ((impl_divisor.f k t202 t203).bind fun t204 => (if t204 = 0 then (none) else (some (wrap64 (Int.tdiv a0_0 t204),wrap64 (Int.tdiv a0_1 t204),wrap64 (Int.tdiv a0_2 t204),wrap64 (Int.tdiv a0_3 t204)))))) = some (r1,r2,r3,r4):=H
 have A2:=Aside0.mk A20
 clear A20
 replace H:=Option.bind_eq_some_iff.mp H
 obtain ⟨t203,A30,H⟩:=H
 replace H : ((impl_divisor.f k t202 t203).bind fun t204 => (if t204 = 0 then (none) else (some (wrap64 (Int.tdiv a0_0 t204),wrap64 (Int.tdiv a0_1 t204),wrap64 (Int.tdiv a0_2 t204),wrap64 (Int.tdiv a0_3 t204))))) = some (r1,r2,r3,r4):=H
 have A3:=Aside0.mk A30
 clear A30
 replace H:=Option.bind_eq_some_iff.mp H
 obtain ⟨t204,A40,H⟩:=H
 replace H : (if t204 = 0 then (none) else (some (wrap64 (Int.tdiv a0_0 t204),wrap64 (Int.tdiv a0_1 t204),wrap64 (Int.tdiv a0_2 t204),wrap64 (Int.tdiv a0_3 t204)))) = some (r1,r2,r3,r4):=H
 have A4:=Aside0.mk A40
 clear A40
 by_cases c5 : t204 = 0
 ·rw [if_pos c5] at H
  exact absurd H (by simp)
 rw [if_neg c5] at H
 have c5b0 : (t204 == 0) = false:=beq_eq_false_iff_ne.mpr c5
 have c5b1 : (t204 != 0) = true:=bne_iff_ne.mpr c5
 simp only [Option.some.injEq,Prod.mk.injEq] at H
 obtain ⟨rfl,rfl,rfl,rfl⟩:=H
 go_enter Try.func73,Try.ntmps73
 try go_wp2_with (first|((with_reducible refine gate_dst (N:=1) rfl ?_); refine box_event ?hg (N:=1) ?hd (cs:=#[.int .i64 a0_0,.int .i64 a0_1,.int .i64 a0_2,.int .i64 a0_3]) (t:=50) ?hr ?_; (case hd => rfl); (case hg => rfl); (case hr => first|(go_simp; done)|(go_simp; rfl)); intro gb200 hg w6 hbox hb; have n0_:=Aside0.mk (below_step (by repeat (first|(with_reducible first|exact HB.out|apply bA|apply bD|apply bE)|exact HB.out)) hb); have n1_:=Aside0.mk (hbox); have n2_:=Aside0.mk ((by rw [hg]; exact (below_size (by repeat (first|(with_reducible first|exact HB.out|apply bA|apply bD|apply bE)|exact HB.out))) : w.heap.size ≤ gb200)); have n3_:=Aside0.mk ((by rw [hg]; exact (below_size (by repeat (first|(with_reducible first|exact HB.out|apply bA|apply bD|apply bE)|exact HB.out))) : w.heap.size ≤ gb200)); clear HB; have HB:=n0_; have BK200:=n1_; have GW200:=n2_; have GE200:=n3_; clear n0_ n1_ n2_ n3_; clear hb hbox hg)|((with_reducible refine gate_dst (N:=2) rfl ?_); refine box_event ?hg (N:=2) ?hd (cs:=#[.int .i64 0,.int .i64 0,.int .i64 0,.int .i64 0]) (t:=50) ?hr ?_; (case hd => rfl); (case hg => rfl); (case hr => first|(go_simp; done)|(go_simp; rfl)); intro gb201 hg w7 hbox hb; have n0_:=Aside0.mk (kB (g:=gb200) (o:=.cells #[.int .i64 a0_0,.int .i64 a0_1,.int .i64 a0_2,.int .i64 a0_3] 50 (0,0)) (by (with_reducible repeat (first|refine kN ?_ _|refine kD ?_|refine kA ?_ _)); exact BK200.out) hb); have n1_:=Aside0.mk (below_step (by repeat (first|(with_reducible first|exact HB.out|apply bA|apply bD|apply bE|refine bS ?_ GE200.out)|exact HB.out)) hb); have n2_:=Aside0.mk (hbox); have n3_:=Aside0.mk ((by rw [hg]; exact (below_size (by repeat (first|(with_reducible first|exact HB.out|apply bA|apply bD|apply bE|refine bS ?_ GE200.out)|exact HB.out))) : w.heap.size ≤ gb201)); have n4_:=Aside0.mk ((by rw [hg]; exact (below_size (by repeat (first|(with_reducible first|exact HB.out|apply bA|apply bD|apply bE|refine bS ?_ GE200.out)|exact HB.out))) : w.heap.size ≤ gb201)); have n5_:=Aside0.mk ((by rw [hg]; exact Nat.ne_of_lt (blk_lt (g:=gb200) (o:=.cells #[.int .i64 a0_0,.int .i64 a0_1,.int .i64 a0_2,.int .i64 a0_3] 50 (0,0)) (by (with_reducible repeat (first|refine kN ?_ _|refine kD ?_|refine kA ?_ _)); exact BK200.out)) : gb200 ≠ gb201)); have n6_:=Aside0.mk ((by rw [hg]; exact Nat.ne_of_gt (blk_lt (g:=gb200) (o:=.cells #[.int .i64 a0_0,.int .i64 a0_1,.int .i64 a0_2,.int .i64 a0_3] 50 (0,0)) (by (with_reducible repeat (first|refine kN ?_ _|refine kD ?_|refine kA ?_ _)); exact BK200.out)) : gb201 ≠ gb200)); clear BK200; clear HB; have BK200:=n0_; have HB:=n1_; have BK201:=n2_; have GW201:=n3_; have GE201:=n4_; have NB200_201:=n5_; have NB201_200:=n6_; clear n0_ n1_ n2_ n3_ n4_ n5_ n6_; clear hb hbox hg))
 have n0_:=Aside0.mk (kD BK200.out)
 have n1_:=Aside0.mk (kD BK201.out)
 have n2_:=Aside0.mk (bE HB.out)
 clear BK200
 clear BK201
 clear HB
 have BK200:=n0_
 have BK201:=n1_
 have HB:=n2_
 clear n0_ n1_ n2_
 refine start_ (n:=12) (S:=fun w' => w'.cell? ⟨gb200,0,none⟩ = some (.int .i64 a0_0) ∧ w'.cell? ⟨gb200,1,none⟩ = some (.int .i64 a0_1) ∧ w'.cell? ⟨gb200,2,none⟩ = some (.int .i64 a0_2) ∧ w'.cell? ⟨gb200,3,none⟩ = some (.int .i64 a0_3)) (ds:=[]) #[fF,fF,fF,fF,fF,fF,fF,fF,fF,fF,fF,fF] (by kernel_rfl) rfl rfl ⟨(kC BK200.out 0).trans rfl,(kC BK200.out 1).trans rfl,(kC BK200.out 2).trans rfl,(kC BK200.out 3).trans rfl⟩ (fun hHeld => ?_); refine with_tabW impl_simplest.tab1 impl_simplest.bits1 (fun HT_ HW_ => ?_)
 generalize w7.drew = w8 at BK200 BK201 HB hHeld ⊢
 refine pure_ (i:=0) (N:=some 4) (v:=?_) (a':=?_) #[tT,fF,fF,fF,fF,fF,fF,fF,fF,fF,fF,fF] rfl rfl (any_of HT_.out (by kernel_rfl)) (fun _ _ _ h => h) (Or.inl ⟨by rfl,?_⟩) ?_ ?_
 rotate_left
 ·intro w'
  go_simp
  first|(with_reducible rfl)|(simp only [Instr.field,go_sem, *]; rfl)
 rotate_left
 ·simp only [Act.put,lS,lZ,lC,i64_w,i32_w]
  rfl
 refine pure_ (i:=2) (N:=some 6) (v:=?_) (a':=?_) #[tT,fF,tT,fF,fF,fF,fF,fF,fF,fF,fF,fF] rfl rfl (any_of HT_.out (by kernel_rfl)) (fun _ _ _ h => h) (Or.inl ⟨by rfl,?_⟩) ?_ ?_
 rotate_left
 ·intro w'
  go_simp
  first|(with_reducible rfl)|(simp only [Instr.field,go_sem, *]; rfl)
 rotate_left
 ·simp only [Act.put,lS,lZ,lC,i64_w,i32_w]
  rfl
 refine pure_ (i:=5) (N:=some 9) (v:=?_) (a':=?_) #[tT,fF,tT,fF,fF,tT,fF,fF,fF,fF,fF,fF] rfl rfl (any_of HT_.out (by kernel_rfl)) (fun _ _ _ h => h) (Or.inl ⟨by rfl,?_⟩) ?_ ?_
 rotate_left
 ·intro w'
  go_simp
  first|(with_reducible rfl)|(simp only [Instr.field,go_sem, *]; rfl)
 rotate_left
 ·simp only [Act.put,lS,lZ,lC,i64_w,i32_w]
  rfl
 refine pure_ (i:=7) (N:=some 11) (v:=?_) (a':=?_) #[tT,fF,tT,fF,fF,tT,fF,tT,fF,fF,fF,fF] rfl rfl (any_of HT_.out (by kernel_rfl)) (fun _ _ _ h => h) (Or.inl ⟨by rfl,?_⟩) ?_ ?_
 rotate_left
 ·intro w'
  go_simp
  first|(with_reducible rfl)|(simp only [Instr.field,go_sem, *]; rfl)
 rotate_left
 ·simp only [Act.put,lS,lZ,lC,i64_w,i32_w]
  rfl
 refine take_ (i:=1) (N:=some 5) (v:=?_) (a':=?_) #[tT,tT,tT,fF,fF,tT,fF,tT,fF,fF,fF,fF] rfl rfl (take_ofW HT_.out HW_.out (by kernel_rfl)) (fun _ _ _ h => h) (Or.inl ⟨by rfl,?_⟩) hHeld ?_ ?_
 rotate_left
 ·rintro w' ⟨s0,s1,s2,s3⟩
  go_simp
  first|(with_reducible rfl)|(simp only [Instr.field,go_sem, *]; rfl)
 rotate_left
 ·simp only [Act.put,lS,lZ,lC,i64_w,i32_w]
  rfl
 refine take_ (i:=3) (N:=some 7) (v:=?_) (a':=?_) #[tT,tT,tT,tT,fF,tT,fF,tT,fF,fF,fF,fF] rfl rfl (take_ofW HT_.out HW_.out (by kernel_rfl)) (fun _ _ _ h => h) (Or.inl ⟨by rfl,?_⟩) hHeld ?_ ?_
 rotate_left
 ·rintro w' ⟨s0,s1,s2,s3⟩
  go_simp
  first|(with_reducible rfl)|(simp only [Instr.field,go_sem, *]; rfl)
 rotate_left
 ·simp only [Act.put,lS,lZ,lC,i64_w,i32_w]
  rfl
 refine take_ (i:=6) (N:=some 10) (v:=?_) (a':=?_) #[tT,tT,tT,tT,fF,tT,tT,tT,fF,fF,fF,fF] rfl rfl (take_ofW HT_.out HW_.out (by kernel_rfl)) (fun _ _ _ h => h) (Or.inl ⟨by rfl,?_⟩) hHeld ?_ ?_
 rotate_left
 ·rintro w' ⟨s0,s1,s2,s3⟩
  go_simp
  first|(with_reducible rfl)|(simp only [Instr.field,go_sem, *]; rfl)
 rotate_left
 ·simp only [Act.put,lS,lZ,lC,i64_w,i32_w]
  rfl
 refine take_ (i:=8) (N:=some 12) (v:=?_) (a':=?_) #[tT,tT,tT,tT,fF,tT,tT,tT,tT,fF,fF,fF] rfl rfl (take_ofW HT_.out HW_.out (by kernel_rfl)) (fun _ _ _ h => h) (Or.inl ⟨by rfl,?_⟩) hHeld ?_ ?_
 rotate_left
 ·rintro w' ⟨s0,s1,s2,s3⟩
  go_simp
  first|(with_reducible rfl)|(simp only [Instr.field,go_sem, *]; rfl)
 rotate_left
 ·simp only [Act.put,lS,lZ,lC,i64_w,i32_w]
  rfl
 refine one_ (i:=4) (N:=some 8) #[tT,tT,tT,tT,tT,tT,tT,tT,tT,fF,fF,fF] rfl rfl (one_of HT_.out (by kernel_rfl)) (by decide) (fun K hK => ?_)
 refine goes_ Try.func78 (by kernel_rfl) rfl #[.int .i64 a0_0,.int .i64 a0_1] (by rfl) rfl rfl (by (try simp only [List.map_toArray,List.map_cons,List.map_nil]); first|done|rfl|(simp only [List.length_drop,List.length_take]; rfl)) ?_
 with_reducible refine (impl_divisor.calls k a0_0 a0_1 t202 _ A2.out).mono ?_
 rintro e w9 ⟨rfl,hb⟩
 refine ⟨_,rfl,?_⟩
 have n0_:=Aside0.mk (kB (g:=gb200) (o:=.cells #[.int .i64 a0_0,.int .i64 a0_1,.int .i64 a0_2,.int .i64 a0_3] 50 (0,0)) (by (with_reducible repeat (first|refine kN ?_ _|refine kD ?_|refine kA ?_ _)); exact BK200.out) hb)
 have n1_:=Aside0.mk (kB (g:=gb201) (o:=.cells #[.int .i64 0,.int .i64 0,.int .i64 0,.int .i64 0] 50 (0,0)) (by (with_reducible repeat (first|refine kN ?_ _|refine kD ?_|refine kA ?_ _)); exact BK201.out) hb)
 have n2_:=Aside0.mk (below_step (by repeat (first|(with_reducible first|exact HB.out|apply bA|apply bD|apply bE|refine bS ?_ GE200.out|refine bS ?_ GE201.out)|exact HB.out)) hb)
 clear BK200
 clear BK201
 clear HB
 have BK200:=n0_
 have BK201:=n1_
 have HB:=n2_
 clear n0_ n1_ n2_
 (try clear hb)
 (try clear hb2)
 (try clear hk)
 (try clear hi)
 refine hK.out _ _ ⟨(kC BK200.out 0).trans rfl,(kC BK200.out 1).trans rfl,(kC BK200.out 2).trans rfl,(kC BK200.out 3).trans rfl⟩ (fun hHeld => ?_)
 clear hK K
 refine norm_ (a':=?_) ?_ ?_
 rotate_left
 ·show Act.put _ (some 8) _ = _
  simp only [Act.put,lS,lZ,lC,i64_w,i32_w]
  rfl
 refine one_ (i:=9) (N:=some 13) #[tT,tT,tT,tT,tT,tT,tT,tT,tT,tT,fF,fF] rfl rfl (one_of HT_.out (by kernel_rfl)) (by decide) (fun K hK => ?_)
 refine goes_ Try.func78 (by kernel_rfl) rfl #[.int .i64 a0_2,.int .i64 a0_3] (by rfl) rfl rfl (by (try simp only [List.map_toArray,List.map_cons,List.map_nil]); first|done|rfl|(simp only [List.length_drop,List.length_take]; rfl)) ?_
 with_reducible refine (impl_divisor.calls k a0_2 a0_3 t203 _ A3.out).mono ?_
 rintro e w10 ⟨rfl,hb⟩
 refine ⟨_,rfl,?_⟩
 have n0_:=Aside0.mk (kB (g:=gb200) (o:=.cells #[.int .i64 a0_0,.int .i64 a0_1,.int .i64 a0_2,.int .i64 a0_3] 50 (0,0)) (by (with_reducible repeat (first|refine kN ?_ _|refine kD ?_|refine kA ?_ _)); exact BK200.out) hb)
 have n1_:=Aside0.mk (kB (g:=gb201) (o:=.cells #[.int .i64 0,.int .i64 0,.int .i64 0,.int .i64 0] 50 (0,0)) (by (with_reducible repeat (first|refine kN ?_ _|refine kD ?_|refine kA ?_ _)); exact BK201.out) hb)
 have n2_:=Aside0.mk (below_step (by repeat (first|(with_reducible first|exact HB.out|apply bA|apply bD|apply bE|refine bS ?_ GE200.out|refine bS ?_ GE201.out)|exact HB.out)) hb)
 clear BK200
 clear BK201
 clear HB
 have BK200:=n0_
 have BK201:=n1_
 have HB:=n2_
 clear n0_ n1_ n2_
 (try clear hb)
 (try clear hb2)
 (try clear hk)
 (try clear hi)
 refine hK.out _ _ ⟨(kC BK200.out 0).trans rfl,(kC BK200.out 1).trans rfl,(kC BK200.out 2).trans rfl,(kC BK200.out 3).trans rfl⟩ (fun hHeld => ?_)
 clear hK K
 refine norm_ (a':=?_) ?_ ?_
 rotate_left
 ·show Act.put _ (some 13) _ = _
  simp only [Act.put,lS,lZ,lC,i64_w,i32_w]
  rfl
 refine one_ (i:=10) (N:=some 14) #[tT,tT,tT,tT,tT,tT,tT,tT,tT,tT,tT,fF] rfl rfl (one_of HT_.out (by kernel_rfl)) (by decide) (fun K hK => ?_)
 refine goes_ Try.func78 (by kernel_rfl) rfl #[.int .i64 t202,.int .i64 t203] (by rfl) rfl rfl (by (try simp only [List.map_toArray,List.map_cons,List.map_nil]); first|done|rfl|(simp only [List.length_drop,List.length_take]; rfl)) ?_
 with_reducible refine (impl_divisor.calls k t202 t203 t204 _ A4.out).mono ?_
 rintro e w11 ⟨rfl,hb⟩
 refine ⟨_,rfl,?_⟩
 have n0_:=Aside0.mk (kB (g:=gb200) (o:=.cells #[.int .i64 a0_0,.int .i64 a0_1,.int .i64 a0_2,.int .i64 a0_3] 50 (0,0)) (by (with_reducible repeat (first|refine kN ?_ _|refine kD ?_|refine kA ?_ _)); exact BK200.out) hb)
 have n1_:=Aside0.mk (kB (g:=gb201) (o:=.cells #[.int .i64 0,.int .i64 0,.int .i64 0,.int .i64 0] 50 (0,0)) (by (with_reducible repeat (first|refine kN ?_ _|refine kD ?_|refine kA ?_ _)); exact BK201.out) hb)
 have n2_:=Aside0.mk (below_step (by repeat (first|(with_reducible first|exact HB.out|apply bA|apply bD|apply bE|refine bS ?_ GE200.out|refine bS ?_ GE201.out)|exact HB.out)) hb)
 clear BK200
 clear BK201
 clear HB
 have BK200:=n0_
 have BK201:=n1_
 have HB:=n2_
 clear n0_ n1_ n2_
 (try clear hb)
 (try clear hb2)
 (try clear hk)
 (try clear hi)
 refine hK.out _ _ ⟨(kC BK200.out 0).trans rfl,(kC BK200.out 1).trans rfl,(kC BK200.out 2).trans rfl,(kC BK200.out 3).trans rfl⟩ (fun hHeld => ?_)
 clear hK K
 refine norm_ (a':=?_) ?_ ?_
 rotate_left
 ·show Act.put _ (some 14) _ = _
  simp only [Act.put,lS,lZ,lC,i64_w,i32_w]
  rfl
 refine pure_ (i:=11) (N:=some 3) (v:=?_) (a':=?_) #[tT,tT,tT,tT,tT,tT,tT,tT,tT,tT,tT,tT] rfl rfl (any_of HT_.out (by kernel_rfl)) (fun _ _ _ h => h) (Or.inl ⟨by rfl,?_⟩) ?_ ?_
 rotate_left
 ·intro w'
  go_simp
  first|(with_reducible rfl)|(simp only [Instr.field,go_sem, *]; rfl)
 rotate_left
 ·simp only [Act.put,lS,lZ,lC,i64_w,i32_w]
  rfl
 refine done_ (done_of HT_.out (by kernel_rfl)) ?_
 try go_wp2
 have n0_:=Aside0.mk (kD BK200.out)
 have n1_:=Aside0.mk (kD BK201.out)
 have n2_:=Aside0.mk (bE HB.out)
 clear BK200
 clear BK201
 clear HB
 have BK200:=n0_
 have BK201:=n1_
 have HB:=n2_
 clear n0_ n1_ n2_
 refine start_ (n:=18) (S:=fun w' => w'.cell? ⟨gb200,0,none⟩ = some (.int .i64 a0_0) ∧ w'.cell? ⟨gb200,1,none⟩ = some (.int .i64 a0_1) ∧ w'.cell? ⟨gb200,2,none⟩ = some (.int .i64 a0_2) ∧ w'.cell? ⟨gb200,3,none⟩ = some (.int .i64 a0_3)) (ds:=[]) #[fF,fF,fF,fF,fF,fF,fF,fF,fF,fF,fF,fF,fF,fF,fF,fF,fF,fF] (by kernel_rfl) rfl rfl ⟨(kC BK200.out 0).trans rfl,(kC BK200.out 1).trans rfl,(kC BK200.out 2).trans rfl,(kC BK200.out 3).trans rfl⟩ (fun hHeld => ?_); refine with_tabW impl_simplest.tab2 impl_simplest.bits2 (fun HT_ HW_ => ?_)
 generalize w11.drew = w12 at BK200 BK201 HB hHeld ⊢
 refine pure_ (i:=0) (N:=some 15) (v:=?_) (a':=?_) #[tT,fF,fF,fF,fF,fF,fF,fF,fF,fF,fF,fF,fF,fF,fF,fF,fF,fF] rfl rfl (any_of HT_.out (by kernel_rfl)) (fun _ _ _ h => h) (Or.inl ⟨by rfl,?_⟩) ?_ ?_
 rotate_left
 ·intro w'
  go_simp
  first|(with_reducible rfl)|(simp only [Instr.field,go_sem, *]; rfl)
 rotate_left
 ·simp only [Act.put,lS,lZ,lC,i64_w,i32_w]
  rfl
 refine pure_ (i:=2) (N:=some 17) (v:=?_) (a':=?_) #[tT,fF,tT,fF,fF,fF,fF,fF,fF,fF,fF,fF,fF,fF,fF,fF,fF,fF] rfl rfl (any_of HT_.out (by kernel_rfl)) (fun _ _ _ h => h) (Or.inl ⟨by rfl,?_⟩) ?_ ?_
 rotate_left
 ·intro w'
  go_simp
  first|(with_reducible rfl)|(simp only [Instr.field,go_sem, *]; rfl)
 rotate_left
 ·simp only [Act.put,lS,lZ,lC,i64_w,i32_w]
  rfl
 refine pure_ (i:=4) (N:=some 19) (v:=?_) (a':=?_) #[tT,fF,tT,fF,tT,fF,fF,fF,fF,fF,fF,fF,fF,fF,fF,fF,fF,fF] rfl rfl (any_of HT_.out (by kernel_rfl)) (fun _ _ _ h => h) (Or.inl ⟨by rfl,?_⟩) ?_ ?_
 rotate_left
 ·intro w'
  go_simp
  first|(with_reducible rfl)|(simp only [Instr.field,go_sem, *]; rfl)
 rotate_left
 ·simp only [Act.put,lS,lZ,lC,i64_w,i32_w]
  rfl
 refine pure_ (i:=6) (N:=some 21) (v:=?_) (a':=?_) #[tT,fF,tT,fF,tT,fF,tT,fF,fF,fF,fF,fF,fF,fF,fF,fF,fF,fF] rfl rfl (any_of HT_.out (by kernel_rfl)) (fun _ _ _ h => h) (Or.inl ⟨by rfl,?_⟩) ?_ ?_
 rotate_left
 ·intro w'
  go_simp
  first|(with_reducible rfl)|(simp only [Instr.field,go_sem, *]; rfl)
 rotate_left
 ·simp only [Act.put,lS,lZ,lC,i64_w,i32_w]
  rfl
 refine pure_ (i:=8) (N:=some 23) (v:=?_) (a':=?_) #[tT,fF,tT,fF,tT,fF,tT,fF,tT,fF,fF,fF,fF,fF,fF,fF,fF,fF] rfl rfl (any_of HT_.out (by kernel_rfl)) (fun _ _ _ h => h) (Or.inl ⟨by rfl,?_⟩) ?_ ?_
 rotate_left
 ·intro w'
  go_simp
  first|(with_reducible rfl)|(simp only [Instr.field,go_sem, *]; rfl)
 rotate_left
 ·simp only [Act.put,lS,lZ,lC,i64_w,i32_w]
  rfl
 refine pure_ (i:=10) (N:=some 25) (v:=?_) (a':=?_) #[tT,fF,tT,fF,tT,fF,tT,fF,tT,fF,tT,fF,fF,fF,fF,fF,fF,fF] rfl rfl (any_of HT_.out (by kernel_rfl)) (fun _ _ _ h => h) (Or.inl ⟨by rfl,?_⟩) ?_ ?_
 rotate_left
 ·intro w'
  go_simp
  first|(with_reducible rfl)|(simp only [Instr.field,go_sem, *]; rfl)
 rotate_left
 ·simp only [Act.put,lS,lZ,lC,i64_w,i32_w]
  rfl
 refine pure_ (i:=12) (N:=some 27) (v:=?_) (a':=?_) #[tT,fF,tT,fF,tT,fF,tT,fF,tT,fF,tT,fF,tT,fF,fF,fF,fF,fF] rfl rfl (any_of HT_.out (by kernel_rfl)) (fun _ _ _ h => h) (Or.inl ⟨by rfl,?_⟩) ?_ ?_
 rotate_left
 ·intro w'
  go_simp
  first|(with_reducible rfl)|(simp only [Instr.field,go_sem, *]; rfl)
 rotate_left
 ·simp only [Act.put,lS,lZ,lC,i64_w,i32_w]
  rfl
 refine pure_ (i:=14) (N:=some 29) (v:=?_) (a':=?_) #[tT,fF,tT,fF,tT,fF,tT,fF,tT,fF,tT,fF,tT,fF,tT,fF,fF,fF] rfl rfl (any_of HT_.out (by kernel_rfl)) (fun _ _ _ h => h) (Or.inl ⟨by rfl,?_⟩) ?_ ?_
 rotate_left
 ·intro w'
  go_simp
  first|(with_reducible rfl)|(simp only [Instr.field,go_sem, *]; rfl)
 rotate_left
 ·simp only [Act.put,lS,lZ,lC,i64_w,i32_w]
  rfl
 refine take_ (i:=1) (N:=some 16) (v:=?_) (a':=?_) #[tT,tT,tT,fF,tT,fF,tT,fF,tT,fF,tT,fF,tT,fF,tT,fF,fF,fF] rfl rfl (take_ofW HT_.out HW_.out (by kernel_rfl)) (fun _ _ _ h => h) (Or.inl ⟨by rfl,?_⟩) hHeld ?_ ?_
 rotate_left
 ·rintro w' ⟨s0,s1,s2,s3⟩
  go_simp
  first|(with_reducible rfl)|(simp only [Instr.field,go_sem, *]; rfl)
 rotate_left
 ·simp only [Act.put,lS,lZ,lC,i64_w,i32_w]
  rfl
 refine pure_ (i:=3) (N:=some 18) (v:=?_) (a':=?_) #[tT,tT,tT,tT,tT,fF,tT,fF,tT,fF,tT,fF,tT,fF,tT,fF,fF,fF] rfl rfl (any_of HT_.out (by kernel_rfl)) (fun _ _ _ h => h) (Or.inl ⟨by rfl,?_⟩) ?_ ?_
 rotate_left
 ·intro w'
  go_simp
  first|(with_reducible rfl)|(simp only [Instr.field,go_sem, *]; rfl)
 rotate_left
 ·simp only [Act.put,lS,lZ,lC,i64_w,i32_w]
  rfl
 refine take_ (i:=5) (N:=some 20) (v:=?_) (a':=?_) #[tT,tT,tT,tT,tT,tT,tT,fF,tT,fF,tT,fF,tT,fF,tT,fF,fF,fF] rfl rfl (take_ofW HT_.out HW_.out (by kernel_rfl)) (fun _ _ _ h => h) (Or.inl ⟨by rfl,?_⟩) hHeld ?_ ?_
 rotate_left
 ·rintro w' ⟨s0,s1,s2,s3⟩
  go_simp
  first|(with_reducible rfl)|(simp only [Instr.field,go_sem, *]; rfl)
 rotate_left
 ·simp only [Act.put,lS,lZ,lC,i64_w,i32_w]
  rfl
 refine pure_ (i:=7) (N:=some 22) (v:=?_) (a':=?_) #[tT,tT,tT,tT,tT,tT,tT,tT,tT,fF,tT,fF,tT,fF,tT,fF,fF,fF] rfl rfl (any_of HT_.out (by kernel_rfl)) (fun _ _ _ h => h) (Or.inl ⟨by rfl,?_⟩) ?_ ?_
 rotate_left
 ·intro w'
  go_simp
  first|(with_reducible rfl)|(simp only [Instr.field,go_sem, *]; rfl)
 rotate_left
 ·simp only [Act.put,lS,lZ,lC,i64_w,i32_w]
  rfl
 refine take_ (i:=9) (N:=some 24) (v:=?_) (a':=?_) #[tT,tT,tT,tT,tT,tT,tT,tT,tT,tT,tT,fF,tT,fF,tT,fF,fF,fF] rfl rfl (take_ofW HT_.out HW_.out (by kernel_rfl)) (fun _ _ _ h => h) (Or.inl ⟨by rfl,?_⟩) hHeld ?_ ?_
 rotate_left
 ·rintro w' ⟨s0,s1,s2,s3⟩
  go_simp
  first|(with_reducible rfl)|(simp only [Instr.field,go_sem, *]; rfl)
 rotate_left
 ·simp only [Act.put,lS,lZ,lC,i64_w,i32_w]
  rfl
 refine pure_ (i:=11) (N:=some 26) (v:=?_) (a':=?_) #[tT,tT,tT,tT,tT,tT,tT,tT,tT,tT,tT,tT,tT,fF,tT,fF,fF,fF] rfl rfl (any_of HT_.out (by kernel_rfl)) (fun _ _ _ h => h) (Or.inl ⟨by rfl,?_⟩) ?_ ?_
 rotate_left
 ·intro w'
  go_simp
  first|(with_reducible rfl)|(simp only [Instr.field,go_sem, *]; rfl)
 rotate_left
 ·simp only [Act.put,lS,lZ,lC,i64_w,i32_w]
  rfl
 refine take_ (i:=13) (N:=some 28) (v:=?_) (a':=?_) #[tT,tT,tT,tT,tT,tT,tT,tT,tT,tT,tT,tT,tT,tT,tT,fF,fF,fF] rfl rfl (take_ofW HT_.out HW_.out (by kernel_rfl)) (fun _ _ _ h => h) (Or.inl ⟨by rfl,?_⟩) hHeld ?_ ?_
 rotate_left
 ·rintro w' ⟨s0,s1,s2,s3⟩
  go_simp
  first|(with_reducible rfl)|(simp only [Instr.field,go_sem, *]; rfl)
 rotate_left
 ·simp only [Act.put,lS,lZ,lC,i64_w,i32_w]
  rfl
 refine pure_ (i:=15) (N:=some 30) (v:=?_) (a':=?_) #[tT,tT,tT,tT,tT,tT,tT,tT,tT,tT,tT,tT,tT,tT,tT,tT,fF,fF] rfl rfl (any_of HT_.out (by kernel_rfl)) (fun _ _ _ h => h) (Or.inl ⟨by rfl,?_⟩) ?_ ?_
 rotate_left
 ·intro w'
  go_simp
  first|(with_reducible rfl)|(simp only [Instr.field,go_sem, *]; rfl)
 rotate_left
 ·simp only [Act.put,lS,lZ,lC,i64_w,i32_w]
  rfl
 refine pure_ (i:=16) (N:=some 31) (v:=?_) (a':=?_) #[tT,tT,tT,tT,tT,tT,tT,tT,tT,tT,tT,tT,tT,tT,tT,tT,tT,fF] rfl rfl (any_of HT_.out (by kernel_rfl)) (fun _ _ _ h => h) (Or.inl ⟨by rfl,?_⟩) ?_ ?_
 rotate_left
 ·intro w'
  go_simp
  first|(with_reducible rfl)|(simp only [Instr.field,go_sem, *]; rfl)
 rotate_left
 ·simp only [Act.put,lS,lZ,lC,i64_w,i32_w]
  rfl
 refine one_ (i:=17) (N:=none) #[tT,tT,tT,tT,tT,tT,tT,tT,tT,tT,tT,tT,tT,tT,tT,tT,tT,tT] rfl rfl (one_of HT_.out (by kernel_rfl)) (by decide) (fun K hK => ?_)
 have hs13 : w12.cell? ⟨gb201,0,none⟩ = some (.int .i64 0):=(kC BK201.out 0).trans rfl
 have hfs13:=blk_frozen BK201.out 0
 have hns13_0:=NB200_201.out
 have hms13_0:=NB201_200.out
 have hs14 : w12.cell? ⟨gb201,1,none⟩ = some (.int .i64 0):=(kC BK201.out 1).trans rfl
 have hfs14:=blk_frozen BK201.out 1
 have hns14_0:=NB200_201.out
 have hms14_0:=NB201_200.out
 have hs15 : w12.cell? ⟨gb201,2,none⟩ = some (.int .i64 0):=(kC BK201.out 2).trans rfl
 have hfs15:=blk_frozen BK201.out 2
 have hns15_0:=NB200_201.out
 have hms15_0:=NB201_200.out
 have hs16 : w12.cell? ⟨gb201,3,none⟩ = some (.int .i64 0):=(kC BK201.out 3).trans rfl
 have hfs16:=blk_frozen BK201.out 3
 have hns16_0:=NB200_201.out
 have hms16_0:=NB201_200.out
 refine skip_ (w1:=?_) (by rfl) rfl ?_ ?_
 rotate_left
 ·go_simp
  rfl
 refine hK.out _ _ ⟨((cell_far (p:=⟨gb201,_,none⟩) NB200_201.out _).trans (((cell_far (p:=⟨gb201,_,none⟩) NB200_201.out _).trans (((cell_far (p:=⟨gb201,_,none⟩) NB200_201.out _).trans (((cell_far (p:=⟨gb201,_,none⟩) NB200_201.out _).trans (hHeld.1)))))))),((cell_far (p:=⟨gb201,_,none⟩) NB200_201.out _).trans (((cell_far (p:=⟨gb201,_,none⟩) NB200_201.out _).trans (((cell_far (p:=⟨gb201,_,none⟩) NB200_201.out _).trans (((cell_far (p:=⟨gb201,_,none⟩) NB200_201.out _).trans (hHeld.2.1)))))))),((cell_far (p:=⟨gb201,_,none⟩) NB200_201.out _).trans (((cell_far (p:=⟨gb201,_,none⟩) NB200_201.out _).trans (((cell_far (p:=⟨gb201,_,none⟩) NB200_201.out _).trans (((cell_far (p:=⟨gb201,_,none⟩) NB200_201.out _).trans (hHeld.2.2.1)))))))),((cell_far (p:=⟨gb201,_,none⟩) NB200_201.out _).trans (((cell_far (p:=⟨gb201,_,none⟩) NB200_201.out _).trans (((cell_far (p:=⟨gb201,_,none⟩) NB200_201.out _).trans (((cell_far (p:=⟨gb201,_,none⟩) NB200_201.out _).trans (hHeld.2.2.2))))))))⟩ (fun hHeld => ?_)
 clear hK K
 refine done_ (done_of HT_.out (by kernel_rfl)) ?_
 try go_wp2
 refine bodyPost_ret (results_cell_row rfl _ _ gb201 50 #[.int .i64 (wrap64 (Int.tdiv a0_0 t204)),.int .i64 (wrap64 (Int.tdiv a0_1 t204)),.int .i64 (wrap64 (Int.tdiv a0_2 t204)),.int .i64 (wrap64 (Int.tdiv a0_3 t204))] (0,0) _ rfl (by (with_reducible repeat (first|refine kN ?_ _|refine kD ?_|refine kA ?_ _)); refine blk_put (cs:=#[.int .i64 (wrap64 (Int.tdiv a0_0 t204)),.int .i64 (wrap64 (Int.tdiv a0_1 t204)),.int .i64 (wrap64 (Int.tdiv a0_2 t204)),.int .i64 0]) ?_ 3 _ rfl; (with_reducible repeat (first|refine kN ?_ _|refine kD ?_|refine kA ?_ _)); refine blk_put (cs:=#[.int .i64 (wrap64 (Int.tdiv a0_0 t204)),.int .i64 (wrap64 (Int.tdiv a0_1 t204)),.int .i64 0,.int .i64 0]) ?_ 2 _ rfl; (with_reducible repeat (first|refine kN ?_ _|refine kD ?_|refine kA ?_ _)); refine blk_put (cs:=#[.int .i64 (wrap64 (Int.tdiv a0_0 t204)),.int .i64 0,.int .i64 0,.int .i64 0]) ?_ 1 _ rfl; (with_reducible repeat (first|refine kN ?_ _|refine kD ?_|refine kA ?_ _)); refine blk_put (cs:=#[.int .i64 0,.int .i64 0,.int .i64 0,.int .i64 0]) ?_ 0 _ rfl; (with_reducible repeat (first|refine kN ?_ _|refine kD ?_|refine kA ?_ _)); exact BK201.out) Try.underlying50 rfl (by kernel_rfl)) rfl ?_
 exact ⟨by first|rfl|(simp [errW_none,errW_some] <;> rfl)|(simp [*,errW_none,errW_some] <;> rfl),by repeat (first|(with_reducible first|exact HB.out|apply bA|apply bD|apply bE|refine bS ?_ GE200.out|refine bS ?_ GE201.out)|exact HB.out)⟩

/-! ### impl_okInterval: function 71 -/
def impl_okInterval.f (k : Nat) (a0_0 : Int) (a0_1 : Int) (a0_2 : Int) (a0_3 : Int) : Option (Int × Int × Int × Int × Bool):=(impl_simplest.f k a0_0 a0_1 a0_2 a0_3).bind fun bt207 => ((impl_IntervalOk.f bt207.1 bt207.2.1 bt207.2.2.1 bt207.2.2.2).bind fun t212 => (if t212 = true then (some (bt207.1,bt207.2.1,bt207.2.2.1,bt207.2.2.2,true)) else (some (0,0,0,0,false))))
theorem impl_okInterval.mono : ∀ a0 a1 a2 a3 k,LeO (impl_okInterval.f k a0 a1 a2 a3) (impl_okInterval.f (k + 1) a0 a1 a2 a3):=by
 intro a0 a1 a2 a3 k
 unfold impl_okInterval.f
 repeat' first
   | (with_reducible exact impl_simplest.mono _ _ _ _ _)
   | (with_reducible exact LeO.refl _)
   | (with_reducible exact LeO.none _)
   | (with_reducible refine LeO.ite ?_ ?_)
   | (with_reducible refine LeO.bind ?_ (fun _ => ?_))
   | exact impl_simplest.mono _ _ _ _ _
   | exact LeO.none _
   | refine LeO.ite ?_ ?_
   | refine LeO.bind ?_ (fun _ => ?_)
set_option maxHeartbeats 8000000 in
set_option maxRecDepth 100000 in
theorem impl_okInterval.calls (k : Nat) (a0_0 : Int) (a0_1 : Int) (a0_2 : Int) (a0_3 : Int) (r1 : Int) (r2 : Int) (r3 : Int) (r4 : Int) (r5 : Bool) (w : World) (h : impl_okInterval.f k a0_0 a0_1 a0_2 a0_3 = some (r1,r2,r3,r4,r5)) :
  Calls Try.prog 71 #[.agg #[.int .i64 a0_0,.int .i64 a0_1,.int .i64 a0_2,.int .i64 a0_3]] w fun e w' => e = .returned (.tuple #[.agg #[.int .i64 r1,.int .i64 r2,.int .i64 r3,.int .i64 r4],.bool r5]) ∧ Below w.heap.size w w':=by
 have hu50:=Try.underlying50
 have HB:=Aside0.mk (Below.refl w.heap.size w)
 have H : ((impl_simplest.f k a0_0 a0_1 a0_2 a0_3).bind fun bt207 => ((impl_IntervalOk.f bt207.1 bt207.2.1 bt207.2.2.1 bt207.2.2.2).bind fun t212 => (if t212 = true then (some (bt207.1,bt207.2.1,bt207.2.2.1,bt207.2.2.2,true)) else (some (0,0,0,0,false))))) = some (r1,r2,r3,r4,r5):=h
 clear h
 replace H:=Option.bind_eq_some_iff.mp H
 obtain ⟨⟨t207,t208,t209,t210⟩,A20,H⟩:=H
 replace H : ((impl_IntervalOk.f t207 t208 t209 t210).bind fun t212 => (if t212 = true then (some (t207,t208,t209,t210,true)) else (some (0,0,0,0,false)))) = some (r1,r2,r3,r4,r5):=H
 have A2:=Aside0.mk A20
 clear A20
 replace H:=Option.bind_eq_some_iff.mp H
 obtain ⟨t212,A30,H⟩:=H
 replace H : (if t212 = true then (some (t207,t208,t209,t210,true)) else (some (0,0,0,0,false))) = some (r1,r2,r3,r4,r5):=H
 have A3:=Aside0.mk A30
 clear A30
 by_cases c4 : t212 = true
 ·subst c4
  have H1 : (some (t207,t208,t209,t210,true)) = some (r1,r2,r3,r4,r5):=by rw [if_pos rfl] at H; exact H
  clear H
  have H:=H1
  clear H1
  simp only [Option.some.injEq,Prod.mk.injEq] at H
  obtain ⟨rfl,rfl,rfl,rfl,rfl⟩:=H
  go_enter Try.func71,Try.ntmps71
  go_wp2_with (first|((with_reducible refine gate_dst (N:=1) rfl ?_); refine box_event ?hg (N:=1) ?hd (cs:=#[.int .i64 a0_0,.int .i64 a0_1,.int .i64 a0_2,.int .i64 a0_3]) (t:=50) ?hr ?_; (case hd => rfl); (case hg => rfl); (case hr => first|(go_simp; done)|(go_simp; rfl)); intro gb205 hg w5 hbox hb; have n0_:=Aside0.mk (below_step (by repeat (first|(with_reducible first|exact HB.out|apply bA|apply bD|apply bE)|exact HB.out)) hb); have n1_:=Aside0.mk (hbox); have n2_:=Aside0.mk ((by rw [hg]; exact (below_size (by repeat (first|(with_reducible first|exact HB.out|apply bA|apply bD|apply bE)|exact HB.out))) : w.heap.size ≤ gb205)); have n3_:=Aside0.mk ((by rw [hg]; exact (below_size (by repeat (first|(with_reducible first|exact HB.out|apply bA|apply bD|apply bE)|exact HB.out))) : w.heap.size ≤ gb205)); clear HB; have HB:=n0_; have BK205:=n1_; have GW205:=n2_; have GE205:=n3_; clear n0_ n1_ n2_ n3_; clear hb hbox hg)|((with_reducible refine gate_dst (N:=2) rfl ?_); refine box_event ?hg (N:=2) ?hd (cs:=#[.int .i64 0,.int .i64 0,.int .i64 0,.int .i64 0]) (t:=50) ?hr ?_; (case hd => rfl); (case hg => rfl); (case hr => first|(go_simp; done)|(go_simp; rfl)); intro gb206 hg w6 hbox hb; have n0_:=Aside0.mk (kB (g:=gb205) (o:=.cells #[.int .i64 a0_0,.int .i64 a0_1,.int .i64 a0_2,.int .i64 a0_3] 50 (0,0)) (by (with_reducible repeat (first|refine kN ?_ _|refine kD ?_|refine kA ?_ _)); exact BK205.out) hb); have n1_:=Aside0.mk (below_step (by repeat (first|(with_reducible first|exact HB.out|apply bA|apply bD|apply bE|refine bS ?_ GE205.out)|exact HB.out)) hb); have n2_:=Aside0.mk (hbox); have n3_:=Aside0.mk ((by rw [hg]; exact (below_size (by repeat (first|(with_reducible first|exact HB.out|apply bA|apply bD|apply bE|refine bS ?_ GE205.out)|exact HB.out))) : w.heap.size ≤ gb206)); have n4_:=Aside0.mk ((by rw [hg]; exact (below_size (by repeat (first|(with_reducible first|exact HB.out|apply bA|apply bD|apply bE|refine bS ?_ GE205.out)|exact HB.out))) : w.heap.size ≤ gb206)); have n5_:=Aside0.mk ((by rw [hg]; exact Nat.ne_of_lt (blk_lt (g:=gb205) (o:=.cells #[.int .i64 a0_0,.int .i64 a0_1,.int .i64 a0_2,.int .i64 a0_3] 50 (0,0)) (by (with_reducible repeat (first|refine kN ?_ _|refine kD ?_|refine kA ?_ _)); exact BK205.out)) : gb205 ≠ gb206)); have n6_:=Aside0.mk ((by rw [hg]; exact Nat.ne_of_gt (blk_lt (g:=gb205) (o:=.cells #[.int .i64 a0_0,.int .i64 a0_1,.int .i64 a0_2,.int .i64 a0_3] 50 (0,0)) (by (with_reducible repeat (first|refine kN ?_ _|refine kD ?_|refine kA ?_ _)); exact BK205.out)) : gb206 ≠ gb205)); clear BK205; clear HB; have BK205:=n0_; have HB:=n1_; have BK206:=n2_; have GW206:=n3_; have GE206:=n4_; have NB205_206:=n5_; have NB206_205:=n6_; clear n0_ n1_ n2_ n3_ n4_ n5_ n6_; clear hb hbox hg; have hnb7:=NB205_206.out; have hnc7:=NB206_205.out; have hcz8_0 : w6.cell? ⟨gb205,0,none⟩ = some (.int .i64 a0_0):=(kC BK205.out 0).trans rfl; have hcz8_1 : w6.cell? ⟨gb205,1,none⟩ = some (.int .i64 a0_1):=(kC BK205.out 1).trans rfl; have hcz8_2 : w6.cell? ⟨gb205,2,none⟩ = some (.int .i64 a0_2):=(kC BK205.out 2).trans rfl; have hcz8_3 : w6.cell? ⟨gb205,3,none⟩ = some (.int .i64 a0_3):=(kC BK205.out 3).trans rfl; have hfz8_0:=blk_frozen BK205.out 0; have hfz8_1:=blk_frozen BK205.out 1; have hfz8_2:=blk_frozen BK205.out 2; have hfz8_3:=blk_frozen BK205.out 3)|((with_reducible refine gate_callee (f:=73) rfl ?_); refine goesL_ (some 6) rfl rfl Try.func73 (by kernel_rfl) rfl #[.agg #[.int .i64 a0_0,.int .i64 a0_1,.int .i64 a0_2,.int .i64 a0_3]] rfl (by (try simp only [List.map_toArray,List.map_cons,List.map_nil]); first|done|rfl|(simp only [List.length_drop,List.length_take]; rfl)) ?_; (with_reducible refine (impl_simplest.calls k a0_0 a0_1 a0_2 a0_3 t207 t208 t209 t210 _ A2.out).mono ?_); rintro e w9 ⟨rfl,hb⟩; refine ⟨_,rfl,?_⟩; have n0_:=Aside0.mk (kB (g:=gb205) (o:=.cells #[.int .i64 a0_0,.int .i64 a0_1,.int .i64 a0_2,.int .i64 a0_3] 50 (0,0)) (by (with_reducible repeat (first|refine kN ?_ _|refine kD ?_|refine kA ?_ _)); exact BK205.out) hb); have n1_:=Aside0.mk (kB (g:=gb206) (o:=.cells #[.int .i64 0,.int .i64 0,.int .i64 0,.int .i64 0] 50 (0,0)) (by (with_reducible repeat (first|refine kN ?_ _|refine kD ?_|refine kA ?_ _)); exact BK206.out) hb); have n2_:=Aside0.mk (below_step (by repeat (first|(with_reducible first|exact HB.out|apply bA|apply bD|apply bE|refine bS ?_ GE205.out|refine bS ?_ GE206.out)|exact HB.out)) hb); clear BK205; clear BK206; clear HB; have BK205:=n0_; have BK206:=n1_; have HB:=n2_; clear n0_ n1_ n2_; (try clear hb); (try clear hb2); (try clear hk); (try clear hi))|((with_reducible refine gate_dst (N:=4) rfl ?_); refine box_event ?hg (N:=4) ?hd (cs:=#[.int .i64 0,.int .i64 0,.int .i64 0,.int .i64 0]) (t:=50) ?hr ?_; (case hd => rfl); (case hg => rfl); (case hr => first|(go_simp; done)|(go_simp; rfl)); intro gb211 hg w10 hbox hb; have n0_:=Aside0.mk (kB (g:=gb205) (o:=.cells #[.int .i64 a0_0,.int .i64 a0_1,.int .i64 a0_2,.int .i64 a0_3] 50 (0,0)) (by (with_reducible repeat (first|refine kN ?_ _|refine kD ?_|refine kA ?_ _)); exact BK205.out) hb); have n1_:=Aside0.mk (kB (g:=gb206) (o:=.cells #[.int .i64 0,.int .i64 0,.int .i64 0,.int .i64 0] 50 (0,0)) (by (with_reducible repeat (first|refine kN ?_ _|refine kD ?_|refine kA ?_ _)); exact BK206.out) hb); have n2_:=Aside0.mk (below_step (by repeat (first|(with_reducible first|exact HB.out|apply bA|apply bD|apply bE|refine bS ?_ GE205.out|refine bS ?_ GE206.out)|exact HB.out)) hb); have n3_:=Aside0.mk (hbox); have n4_:=Aside0.mk ((by rw [hg]; exact (below_size (by repeat (first|(with_reducible first|exact HB.out|apply bA|apply bD|apply bE|refine bS ?_ GE205.out|refine bS ?_ GE206.out)|exact HB.out))) : w.heap.size ≤ gb211)); have n5_:=Aside0.mk ((by rw [hg]; exact (below_size (by repeat (first|(with_reducible first|exact HB.out|apply bA|apply bD|apply bE|refine bS ?_ GE205.out|refine bS ?_ GE206.out)|exact HB.out))) : w.heap.size ≤ gb211)); have n6_:=Aside0.mk ((by rw [hg]; exact Nat.ne_of_lt (blk_lt (g:=gb205) (o:=.cells #[.int .i64 a0_0,.int .i64 a0_1,.int .i64 a0_2,.int .i64 a0_3] 50 (0,0)) (by (with_reducible repeat (first|refine kN ?_ _|refine kD ?_|refine kA ?_ _)); exact BK205.out)) : gb205 ≠ gb211)); have n7_:=Aside0.mk ((by rw [hg]; exact Nat.ne_of_gt (blk_lt (g:=gb205) (o:=.cells #[.int .i64 a0_0,.int .i64 a0_1,.int .i64 a0_2,.int .i64 a0_3] 50 (0,0)) (by (with_reducible repeat (first|refine kN ?_ _|refine kD ?_|refine kA ?_ _)); exact BK205.out)) : gb211 ≠ gb205)); have n8_:=Aside0.mk ((by rw [hg]; exact Nat.ne_of_lt (blk_lt (g:=gb206) (o:=.cells #[.int .i64 0,.int .i64 0,.int .i64 0,.int .i64 0] 50 (0,0)) (by (with_reducible repeat (first|refine kN ?_ _|refine kD ?_|refine kA ?_ _)); exact BK206.out)) : gb206 ≠ gb211)); have n9_:=Aside0.mk ((by rw [hg]; exact Nat.ne_of_gt (blk_lt (g:=gb206) (o:=.cells #[.int .i64 0,.int .i64 0,.int .i64 0,.int .i64 0] 50 (0,0)) (by (with_reducible repeat (first|refine kN ?_ _|refine kD ?_|refine kA ?_ _)); exact BK206.out)) : gb211 ≠ gb206)); clear BK205; clear BK206; clear HB; have BK205:=n0_; have BK206:=n1_; have HB:=n2_; have BK211:=n3_; have GW211:=n4_; have GE211:=n5_; have NB205_211:=n6_; have NB211_205:=n7_; have NB206_211:=n8_; have NB211_206:=n9_; clear n0_ n1_ n2_ n3_ n4_ n5_ n6_ n7_ n8_ n9_; clear hb hbox hg; have hnb11:=NB211_205.out; have hnc11:=NB205_211.out; have hnb12:=NB211_206.out; have hnc12:=NB206_211.out; have hcz13_0 : w10.cell? ⟨gb211,0,none⟩ = some (.int .i64 0):=(kC BK211.out 0).trans rfl; have hcz13_1 : w10.cell? ⟨gb211,1,none⟩ = some (.int .i64 0):=(kC BK211.out 1).trans rfl; have hcz13_2 : w10.cell? ⟨gb211,2,none⟩ = some (.int .i64 0):=(kC BK211.out 2).trans rfl; have hcz13_3 : w10.cell? ⟨gb211,3,none⟩ = some (.int .i64 0):=(kC BK211.out 3).trans rfl; have hfz13_0:=blk_frozen BK211.out 0; have hfz13_1:=blk_frozen BK211.out 1; have hfz13_2:=blk_frozen BK211.out 2; have hfz13_3:=blk_frozen BK211.out 3)|((with_reducible refine gate_callee (f:=65) rfl ?_); refine goesL_ (some 8) rfl rfl Try.func65 (by kernel_rfl) rfl #[.agg #[.int .i64 t207,.int .i64 t208,.int .i64 t209,.int .i64 t210]] rfl (by (try simp only [List.map_toArray,List.map_cons,List.map_nil]); first|done|rfl|(simp only [List.length_drop,List.length_take]; rfl)) ?_; (with_reducible refine (impl_IntervalOk.calls t207 t208 t209 t210 true _ A3.out).mono ?_); rintro e w14 ⟨rfl,hb⟩; refine ⟨_,rfl,?_⟩; have n0_:=Aside0.mk (kB (g:=gb205) (o:=.cells #[.int .i64 a0_0,.int .i64 a0_1,.int .i64 a0_2,.int .i64 a0_3] 50 (0,0)) (by (with_reducible repeat (first|refine kN ?_ _|refine kD ?_|refine kA ?_ _)); refine blk_far ?_ NB205_211.out _; (with_reducible repeat (first|refine kN ?_ _|refine kD ?_|refine kA ?_ _)); refine blk_far ?_ NB205_211.out _; (with_reducible repeat (first|refine kN ?_ _|refine kD ?_|refine kA ?_ _)); refine blk_far ?_ NB205_211.out _; (with_reducible repeat (first|refine kN ?_ _|refine kD ?_|refine kA ?_ _)); refine blk_far ?_ NB205_211.out _; (with_reducible repeat (first|refine kN ?_ _|refine kD ?_|refine kA ?_ _)); exact BK205.out) hb); have n1_:=Aside0.mk (kB (g:=gb206) (o:=.cells #[.int .i64 0,.int .i64 0,.int .i64 0,.int .i64 0] 50 (0,0)) (by (with_reducible repeat (first|refine kN ?_ _|refine kD ?_|refine kA ?_ _)); refine blk_far ?_ NB206_211.out _; (with_reducible repeat (first|refine kN ?_ _|refine kD ?_|refine kA ?_ _)); refine blk_far ?_ NB206_211.out _; (with_reducible repeat (first|refine kN ?_ _|refine kD ?_|refine kA ?_ _)); refine blk_far ?_ NB206_211.out _; (with_reducible repeat (first|refine kN ?_ _|refine kD ?_|refine kA ?_ _)); refine blk_far ?_ NB206_211.out _; (with_reducible repeat (first|refine kN ?_ _|refine kD ?_|refine kA ?_ _)); exact BK206.out) hb); have n2_:=Aside0.mk (kB (g:=gb211) (o:=.cells #[.int .i64 t207,.int .i64 t208,.int .i64 t209,.int .i64 t210] 50 (0,0)) (by (with_reducible repeat (first|refine kN ?_ _|refine kD ?_|refine kA ?_ _)); refine blk_put (cs:=#[.int .i64 t207,.int .i64 t208,.int .i64 t209,.int .i64 0]) ?_ 3 _ rfl; (with_reducible repeat (first|refine kN ?_ _|refine kD ?_|refine kA ?_ _)); refine blk_put (cs:=#[.int .i64 t207,.int .i64 t208,.int .i64 0,.int .i64 0]) ?_ 2 _ rfl; (with_reducible repeat (first|refine kN ?_ _|refine kD ?_|refine kA ?_ _)); refine blk_put (cs:=#[.int .i64 t207,.int .i64 0,.int .i64 0,.int .i64 0]) ?_ 1 _ rfl; (with_reducible repeat (first|refine kN ?_ _|refine kD ?_|refine kA ?_ _)); refine blk_put (cs:=#[.int .i64 0,.int .i64 0,.int .i64 0,.int .i64 0]) ?_ 0 _ rfl; (with_reducible repeat (first|refine kN ?_ _|refine kD ?_|refine kA ?_ _)); exact BK211.out) hb); have n3_:=Aside0.mk (below_step (by repeat (first|(with_reducible first|exact HB.out|apply bA|apply bD|apply bE|refine bS ?_ GE205.out|refine bS ?_ GE206.out|refine bS ?_ GE211.out)|exact HB.out)) hb); clear BK205; clear BK206; clear BK211; clear HB; have BK205:=n0_; have BK206:=n1_; have BK211:=n2_; have HB:=n3_; clear n0_ n1_ n2_ n3_; (try clear hb); (try clear hb2); (try clear hk); (try clear hi); have hcz15_0 : w14.cell? ⟨gb211,0,none⟩ = some (.int .i64 t207):=(kC BK211.out 0).trans rfl; have hcz15_1 : w14.cell? ⟨gb211,1,none⟩ = some (.int .i64 t208):=(kC BK211.out 1).trans rfl; have hcz15_2 : w14.cell? ⟨gb211,2,none⟩ = some (.int .i64 t209):=(kC BK211.out 2).trans rfl; have hcz15_3 : w14.cell? ⟨gb211,3,none⟩ = some (.int .i64 t210):=(kC BK211.out 3).trans rfl; have hfz15_0:=blk_frozen BK211.out 0; have hfz15_1:=blk_frozen BK211.out 1; have hfz15_2:=blk_frozen BK211.out 2; have hfz15_3:=blk_frozen BK211.out 3; have hcz16_0 : w14.cell? ⟨gb206,0,none⟩ = some (.int .i64 0):=(kC BK206.out 0).trans rfl; have hcz16_1 : w14.cell? ⟨gb206,1,none⟩ = some (.int .i64 0):=(kC BK206.out 1).trans rfl; have hcz16_2 : w14.cell? ⟨gb206,2,none⟩ = some (.int .i64 0):=(kC BK206.out 2).trans rfl; have hcz16_3 : w14.cell? ⟨gb206,3,none⟩ = some (.int .i64 0):=(kC BK206.out 3).trans rfl; have hfz16_0:=blk_frozen BK206.out 0; have hfz16_1:=blk_frozen BK206.out 1; have hfz16_2:=blk_frozen BK206.out 2; have hfz16_3:=blk_frozen BK206.out 3))
  refine bodyPost_ret (results_ct rfl _ _ gb206 50 #[.int .i64 t207,.int .i64 t208,.int .i64 t209,.int .i64 t210] (0,0) _ rfl (by (with_reducible repeat (first|refine kN ?_ _|refine kD ?_|refine kA ?_ _)); refine blk_put (cs:=#[.int .i64 t207,.int .i64 t208,.int .i64 t209,.int .i64 0]) ?_ 3 _ rfl; (with_reducible repeat (first|refine kN ?_ _|refine kD ?_|refine kA ?_ _)); refine blk_put (cs:=#[.int .i64 t207,.int .i64 t208,.int .i64 0,.int .i64 0]) ?_ 2 _ rfl; (with_reducible repeat (first|refine kN ?_ _|refine kD ?_|refine kA ?_ _)); refine blk_put (cs:=#[.int .i64 t207,.int .i64 0,.int .i64 0,.int .i64 0]) ?_ 1 _ rfl; (with_reducible repeat (first|refine kN ?_ _|refine kD ?_|refine kA ?_ _)); refine blk_put (cs:=#[.int .i64 0,.int .i64 0,.int .i64 0,.int .i64 0]) ?_ 0 _ rfl; (with_reducible repeat (first|refine kN ?_ _|refine kD ?_|refine kA ?_ _)); exact BK206.out) Try.underlying50 rfl (by kernel_rfl)) rfl ?_
  exact ⟨by first|rfl|(simp [errW_none,errW_some] <;> rfl)|(simp [*,errW_none,errW_some] <;> rfl),by repeat (first|(with_reducible first|exact HB.out|apply bA|apply bD|apply bE|refine bS ?_ GE205.out|refine bS ?_ GE206.out|refine bS ?_ GE211.out)|exact HB.out)⟩
 replace c4:=Bool.eq_false_iff.mpr c4
 subst c4
 have H1 : (some (0,0,0,0,false)) = some (r1,r2,r3,r4,r5):=by rw [if_neg (show ¬ (false = true) by decide)] at H; exact H
 clear H
 have H:=H1
 clear H1
 simp only [Option.some.injEq,Prod.mk.injEq] at H
 obtain ⟨rfl,rfl,rfl,rfl,rfl⟩:=H
 go_enter Try.func71,Try.ntmps71
 go_wp2_with (first|((with_reducible refine gate_dst (N:=1) rfl ?_); refine box_event ?hg (N:=1) ?hd (cs:=#[.int .i64 a0_0,.int .i64 a0_1,.int .i64 a0_2,.int .i64 a0_3]) (t:=50) ?hr ?_; (case hd => rfl); (case hg => rfl); (case hr => first|(go_simp; done)|(go_simp; rfl)); intro gb205 hg w17 hbox hb; have n0_:=Aside0.mk (below_step (by repeat (first|(with_reducible first|exact HB.out|apply bA|apply bD|apply bE)|exact HB.out)) hb); have n1_:=Aside0.mk (hbox); have n2_:=Aside0.mk ((by rw [hg]; exact (below_size (by repeat (first|(with_reducible first|exact HB.out|apply bA|apply bD|apply bE)|exact HB.out))) : w.heap.size ≤ gb205)); have n3_:=Aside0.mk ((by rw [hg]; exact (below_size (by repeat (first|(with_reducible first|exact HB.out|apply bA|apply bD|apply bE)|exact HB.out))) : w.heap.size ≤ gb205)); clear HB; have HB:=n0_; have BK205:=n1_; have GW205:=n2_; have GE205:=n3_; clear n0_ n1_ n2_ n3_; clear hb hbox hg)|((with_reducible refine gate_dst (N:=2) rfl ?_); refine box_event ?hg (N:=2) ?hd (cs:=#[.int .i64 0,.int .i64 0,.int .i64 0,.int .i64 0]) (t:=50) ?hr ?_; (case hd => rfl); (case hg => rfl); (case hr => first|(go_simp; done)|(go_simp; rfl)); intro gb206 hg w18 hbox hb; have n0_:=Aside0.mk (kB (g:=gb205) (o:=.cells #[.int .i64 a0_0,.int .i64 a0_1,.int .i64 a0_2,.int .i64 a0_3] 50 (0,0)) (by (with_reducible repeat (first|refine kN ?_ _|refine kD ?_|refine kA ?_ _)); exact BK205.out) hb); have n1_:=Aside0.mk (below_step (by repeat (first|(with_reducible first|exact HB.out|apply bA|apply bD|apply bE|refine bS ?_ GE205.out)|exact HB.out)) hb); have n2_:=Aside0.mk (hbox); have n3_:=Aside0.mk ((by rw [hg]; exact (below_size (by repeat (first|(with_reducible first|exact HB.out|apply bA|apply bD|apply bE|refine bS ?_ GE205.out)|exact HB.out))) : w.heap.size ≤ gb206)); have n4_:=Aside0.mk ((by rw [hg]; exact (below_size (by repeat (first|(with_reducible first|exact HB.out|apply bA|apply bD|apply bE|refine bS ?_ GE205.out)|exact HB.out))) : w.heap.size ≤ gb206)); have n5_:=Aside0.mk ((by rw [hg]; exact Nat.ne_of_lt (blk_lt (g:=gb205) (o:=.cells #[.int .i64 a0_0,.int .i64 a0_1,.int .i64 a0_2,.int .i64 a0_3] 50 (0,0)) (by (with_reducible repeat (first|refine kN ?_ _|refine kD ?_|refine kA ?_ _)); exact BK205.out)) : gb205 ≠ gb206)); have n6_:=Aside0.mk ((by rw [hg]; exact Nat.ne_of_gt (blk_lt (g:=gb205) (o:=.cells #[.int .i64 a0_0,.int .i64 a0_1,.int .i64 a0_2,.int .i64 a0_3] 50 (0,0)) (by (with_reducible repeat (first|refine kN ?_ _|refine kD ?_|refine kA ?_ _)); exact BK205.out)) : gb206 ≠ gb205)); clear BK205; clear HB; have BK205:=n0_; have HB:=n1_; have BK206:=n2_; have GW206:=n3_; have GE206:=n4_; have NB205_206:=n5_; have NB206_205:=n6_; clear n0_ n1_ n2_ n3_ n4_ n5_ n6_; clear hb hbox hg; have hnb19:=NB205_206.out; have hnc19:=NB206_205.out; have hcz20_0 : w18.cell? ⟨gb205,0,none⟩ = some (.int .i64 a0_0):=(kC BK205.out 0).trans rfl; have hcz20_1 : w18.cell? ⟨gb205,1,none⟩ = some (.int .i64 a0_1):=(kC BK205.out 1).trans rfl; have hcz20_2 : w18.cell? ⟨gb205,2,none⟩ = some (.int .i64 a0_2):=(kC BK205.out 2).trans rfl; have hcz20_3 : w18.cell? ⟨gb205,3,none⟩ = some (.int .i64 a0_3):=(kC BK205.out 3).trans rfl; have hfz20_0:=blk_frozen BK205.out 0; have hfz20_1:=blk_frozen BK205.out 1; have hfz20_2:=blk_frozen BK205.out 2; have hfz20_3:=blk_frozen BK205.out 3)|((with_reducible refine gate_callee (f:=73) rfl ?_); refine goesL_ (some 6) rfl rfl Try.func73 (by kernel_rfl) rfl #[.agg #[.int .i64 a0_0,.int .i64 a0_1,.int .i64 a0_2,.int .i64 a0_3]] rfl (by (try simp only [List.map_toArray,List.map_cons,List.map_nil]); first|done|rfl|(simp only [List.length_drop,List.length_take]; rfl)) ?_; (with_reducible refine (impl_simplest.calls k a0_0 a0_1 a0_2 a0_3 t207 t208 t209 t210 _ A2.out).mono ?_); rintro e w21 ⟨rfl,hb⟩; refine ⟨_,rfl,?_⟩; have n0_:=Aside0.mk (kB (g:=gb205) (o:=.cells #[.int .i64 a0_0,.int .i64 a0_1,.int .i64 a0_2,.int .i64 a0_3] 50 (0,0)) (by (with_reducible repeat (first|refine kN ?_ _|refine kD ?_|refine kA ?_ _)); exact BK205.out) hb); have n1_:=Aside0.mk (kB (g:=gb206) (o:=.cells #[.int .i64 0,.int .i64 0,.int .i64 0,.int .i64 0] 50 (0,0)) (by (with_reducible repeat (first|refine kN ?_ _|refine kD ?_|refine kA ?_ _)); exact BK206.out) hb); have n2_:=Aside0.mk (below_step (by repeat (first|(with_reducible first|exact HB.out|apply bA|apply bD|apply bE|refine bS ?_ GE205.out|refine bS ?_ GE206.out)|exact HB.out)) hb); clear BK205; clear BK206; clear HB; have BK205:=n0_; have BK206:=n1_; have HB:=n2_; clear n0_ n1_ n2_; (try clear hb); (try clear hb2); (try clear hk); (try clear hi))|((with_reducible refine gate_dst (N:=4) rfl ?_); refine box_event ?hg (N:=4) ?hd (cs:=#[.int .i64 0,.int .i64 0,.int .i64 0,.int .i64 0]) (t:=50) ?hr ?_; (case hd => rfl); (case hg => rfl); (case hr => first|(go_simp; done)|(go_simp; rfl)); intro gb211 hg w22 hbox hb; have n0_:=Aside0.mk (kB (g:=gb205) (o:=.cells #[.int .i64 a0_0,.int .i64 a0_1,.int .i64 a0_2,.int .i64 a0_3] 50 (0,0)) (by (with_reducible repeat (first|refine kN ?_ _|refine kD ?_|refine kA ?_ _)); exact BK205.out) hb); have n1_:=Aside0.mk (kB (g:=gb206) (o:=.cells #[.int .i64 0,.int .i64 0,.int .i64 0,.int .i64 0] 50 (0,0)) (by (with_reducible repeat (first|refine kN ?_ _|refine kD ?_|refine kA ?_ _)); exact BK206.out) hb); have n2_:=Aside0.mk (below_step (by repeat (first|(with_reducible first|exact HB.out|apply bA|apply bD|apply bE|refine bS ?_ GE205.out|refine bS ?_ GE206.out)|exact HB.out)) hb); have n3_:=Aside0.mk (hbox); have n4_:=Aside0.mk ((by rw [hg]; exact (below_size (by repeat (first|(with_reducible first|exact HB.out|apply bA|apply bD|apply bE|refine bS ?_ GE205.out|refine bS ?_ GE206.out)|exact HB.out))) : w.heap.size ≤ gb211)); have n5_:=Aside0.mk ((by rw [hg]; exact (below_size (by repeat (first|(with_reducible first|exact HB.out|apply bA|apply bD|apply bE|refine bS ?_ GE205.out|refine bS ?_ GE206.out)|exact HB.out))) : w.heap.size ≤ gb211)); have n6_:=Aside0.mk ((by rw [hg]; exact Nat.ne_of_lt (blk_lt (g:=gb205) (o:=.cells #[.int .i64 a0_0,.int .i64 a0_1,.int .i64 a0_2,.int .i64 a0_3] 50 (0,0)) (by (with_reducible repeat (first|refine kN ?_ _|refine kD ?_|refine kA ?_ _)); exact BK205.out)) : gb205 ≠ gb211)); have n7_:=Aside0.mk ((by rw [hg]; exact Nat.ne_of_gt (blk_lt (g:=gb205) (o:=.cells #[.int .i64 a0_0,.int .i64 a0_1,.int .i64 a0_2,.int .i64 a0_3] 50 (0,0)) (by (with_reducible repeat (first|refine kN ?_ _|refine kD ?_|refine kA ?_ _)); exact BK205.out)) : gb211 ≠ gb205)); have n8_:=Aside0.mk ((by rw [hg]; exact Nat.ne_of_lt (blk_lt (g:=gb206) (o:=.cells #[.int .i64 0,.int .i64 0,.int .i64 0,.int .i64 0] 50 (0,0)) (by (with_reducible repeat (first|refine kN ?_ _|refine kD ?_|refine kA ?_ _)); exact BK206.out)) : gb206 ≠ gb211)); have n9_:=Aside0.mk ((by rw [hg]; exact Nat.ne_of_gt (blk_lt (g:=gb206) (o:=.cells #[.int .i64 0,.int .i64 0,.int .i64 0,.int .i64 0] 50 (0,0)) (by (with_reducible repeat (first|refine kN ?_ _|refine kD ?_|refine kA ?_ _)); exact BK206.out)) : gb211 ≠ gb206)); clear BK205; clear BK206; clear HB; have BK205:=n0_; have BK206:=n1_; have HB:=n2_; have BK211:=n3_; have GW211:=n4_; have GE211:=n5_; have NB205_211:=n6_; have NB211_205:=n7_; have NB206_211:=n8_; have NB211_206:=n9_; clear n0_ n1_ n2_ n3_ n4_ n5_ n6_ n7_ n8_ n9_; clear hb hbox hg; have hnb23:=NB211_205.out; have hnc23:=NB205_211.out; have hnb24:=NB211_206.out; have hnc24:=NB206_211.out; have hcz25_0 : w22.cell? ⟨gb211,0,none⟩ = some (.int .i64 0):=(kC BK211.out 0).trans rfl; have hcz25_1 : w22.cell? ⟨gb211,1,none⟩ = some (.int .i64 0):=(kC BK211.out 1).trans rfl; have hcz25_2 : w22.cell? ⟨gb211,2,none⟩ = some (.int .i64 0):=(kC BK211.out 2).trans rfl; have hcz25_3 : w22.cell? ⟨gb211,3,none⟩ = some (.int .i64 0):=(kC BK211.out 3).trans rfl; have hfz25_0:=blk_frozen BK211.out 0; have hfz25_1:=blk_frozen BK211.out 1; have hfz25_2:=blk_frozen BK211.out 2; have hfz25_3:=blk_frozen BK211.out 3)|((with_reducible refine gate_callee (f:=65) rfl ?_); refine goesL_ (some 8) rfl rfl Try.func65 (by kernel_rfl) rfl #[.agg #[.int .i64 t207,.int .i64 t208,.int .i64 t209,.int .i64 t210]] rfl (by (try simp only [List.map_toArray,List.map_cons,List.map_nil]); first|done|rfl|(simp only [List.length_drop,List.length_take]; rfl)) ?_; (with_reducible refine (impl_IntervalOk.calls t207 t208 t209 t210 false _ A3.out).mono ?_); rintro e w26 ⟨rfl,hb⟩; refine ⟨_,rfl,?_⟩; have n0_:=Aside0.mk (kB (g:=gb205) (o:=.cells #[.int .i64 a0_0,.int .i64 a0_1,.int .i64 a0_2,.int .i64 a0_3] 50 (0,0)) (by (with_reducible repeat (first|refine kN ?_ _|refine kD ?_|refine kA ?_ _)); refine blk_far ?_ NB205_211.out _; (with_reducible repeat (first|refine kN ?_ _|refine kD ?_|refine kA ?_ _)); refine blk_far ?_ NB205_211.out _; (with_reducible repeat (first|refine kN ?_ _|refine kD ?_|refine kA ?_ _)); refine blk_far ?_ NB205_211.out _; (with_reducible repeat (first|refine kN ?_ _|refine kD ?_|refine kA ?_ _)); refine blk_far ?_ NB205_211.out _; (with_reducible repeat (first|refine kN ?_ _|refine kD ?_|refine kA ?_ _)); exact BK205.out) hb); have n1_:=Aside0.mk (kB (g:=gb206) (o:=.cells #[.int .i64 0,.int .i64 0,.int .i64 0,.int .i64 0] 50 (0,0)) (by (with_reducible repeat (first|refine kN ?_ _|refine kD ?_|refine kA ?_ _)); refine blk_far ?_ NB206_211.out _; (with_reducible repeat (first|refine kN ?_ _|refine kD ?_|refine kA ?_ _)); refine blk_far ?_ NB206_211.out _; (with_reducible repeat (first|refine kN ?_ _|refine kD ?_|refine kA ?_ _)); refine blk_far ?_ NB206_211.out _; (with_reducible repeat (first|refine kN ?_ _|refine kD ?_|refine kA ?_ _)); refine blk_far ?_ NB206_211.out _; (with_reducible repeat (first|refine kN ?_ _|refine kD ?_|refine kA ?_ _)); exact BK206.out) hb); have n2_:=Aside0.mk (kB (g:=gb211) (o:=.cells #[.int .i64 t207,.int .i64 t208,.int .i64 t209,.int .i64 t210] 50 (0,0)) (by (with_reducible repeat (first|refine kN ?_ _|refine kD ?_|refine kA ?_ _)); refine blk_put (cs:=#[.int .i64 t207,.int .i64 t208,.int .i64 t209,.int .i64 0]) ?_ 3 _ rfl; (with_reducible repeat (first|refine kN ?_ _|refine kD ?_|refine kA ?_ _)); refine blk_put (cs:=#[.int .i64 t207,.int .i64 t208,.int .i64 0,.int .i64 0]) ?_ 2 _ rfl; (with_reducible repeat (first|refine kN ?_ _|refine kD ?_|refine kA ?_ _)); refine blk_put (cs:=#[.int .i64 t207,.int .i64 0,.int .i64 0,.int .i64 0]) ?_ 1 _ rfl; (with_reducible repeat (first|refine kN ?_ _|refine kD ?_|refine kA ?_ _)); refine blk_put (cs:=#[.int .i64 0,.int .i64 0,.int .i64 0,.int .i64 0]) ?_ 0 _ rfl; (with_reducible repeat (first|refine kN ?_ _|refine kD ?_|refine kA ?_ _)); exact BK211.out) hb); have n3_:=Aside0.mk (below_step (by repeat (first|(with_reducible first|exact HB.out|apply bA|apply bD|apply bE|refine bS ?_ GE205.out|refine bS ?_ GE206.out|refine bS ?_ GE211.out)|exact HB.out)) hb); clear BK205; clear BK206; clear BK211; clear HB; have BK205:=n0_; have BK206:=n1_; have BK211:=n2_; have HB:=n3_; clear n0_ n1_ n2_ n3_; (try clear hb); (try clear hb2); (try clear hk); (try clear hi); have hcz27_0 : w26.cell? ⟨gb206,0,none⟩ = some (.int .i64 0):=(kC BK206.out 0).trans rfl; have hcz27_1 : w26.cell? ⟨gb206,1,none⟩ = some (.int .i64 0):=(kC BK206.out 1).trans rfl; have hcz27_2 : w26.cell? ⟨gb206,2,none⟩ = some (.int .i64 0):=(kC BK206.out 2).trans rfl; have hcz27_3 : w26.cell? ⟨gb206,3,none⟩ = some (.int .i64 0):=(kC BK206.out 3).trans rfl; have hfz27_0:=blk_frozen BK206.out 0; have hfz27_1:=blk_frozen BK206.out 1; have hfz27_2:=blk_frozen BK206.out 2; have hfz27_3:=blk_frozen BK206.out 3))
 refine bodyPost_ret (results_ct rfl _ _ gb206 50 #[.int .i64 0,.int .i64 0,.int .i64 0,.int .i64 0] (0,0) _ rfl (by (with_reducible repeat (first|refine kN ?_ _|refine kD ?_|refine kA ?_ _)); refine blk_put (cs:=#[.int .i64 0,.int .i64 0,.int .i64 0,.int .i64 0]) ?_ 3 _ rfl; (with_reducible repeat (first|refine kN ?_ _|refine kD ?_|refine kA ?_ _)); refine blk_put (cs:=#[.int .i64 0,.int .i64 0,.int .i64 0,.int .i64 0]) ?_ 2 _ rfl; (with_reducible repeat (first|refine kN ?_ _|refine kD ?_|refine kA ?_ _)); refine blk_put (cs:=#[.int .i64 0,.int .i64 0,.int .i64 0,.int .i64 0]) ?_ 1 _ rfl; (with_reducible repeat (first|refine kN ?_ _|refine kD ?_|refine kA ?_ _)); refine blk_put (cs:=#[.int .i64 0,.int .i64 0,.int .i64 0,.int .i64 0]) ?_ 0 _ rfl; (with_reducible repeat (first|refine kN ?_ _|refine kD ?_|refine kA ?_ _)); exact BK206.out) Try.underlying50 rfl (by kernel_rfl)) rfl ?_
 exact ⟨by first|rfl|(simp [errW_none,errW_some] <;> rfl)|(simp [*,errW_none,errW_some] <;> rfl),by repeat (first|(with_reducible first|exact HB.out|apply bA|apply bD|apply bE|refine bS ?_ GE205.out|refine bS ?_ GE206.out|refine bS ?_ GE211.out)|exact HB.out)⟩

/-! ### impl_AddIntervals: function 61 -/
def impl_AddIntervals.f (k : Nat) (a0_0 : Int) (a0_1 : Int) (a0_2 : Int) (a0_3 : Int) (a1_0 : Int) (a1_1 : Int) (a1_2 : Int) (a1_3 : Int) : Option (Int × Int × Int × Int × Bool):=(impl_IntervalOk.f a0_0 a0_1 a0_2 a0_3).bind fun t216 => (if t216 = true then ((impl_IntervalOk.f a1_0 a1_1 a1_2 a1_3).bind fun t217 => (if t217 = true then ((impl_okInterval.f k (wrap64 ((wrap64 (a0_0 * a1_3)) + (wrap64 (a1_0 * a0_3)))) (wrap64 ((wrap64 (a0_1 * a1_3)) + (wrap64 (a1_1 * a0_3)))) (wrap64 ((wrap64 (a0_2 * a1_3)) + (wrap64 (a1_2 * a0_3)))) (wrap64 (a0_3 * a1_3))).bind fun bt218 => (some (bt218.1,bt218.2.1,bt218.2.2.1,bt218.2.2.2.1,bt218.2.2.2.2))) else (some (0,0,0,0,false)))) else (some (0,0,0,0,false)))
theorem impl_AddIntervals.mono : ∀ a0 a1 a2 a3 a4 a5 a6 a7 k,LeO (impl_AddIntervals.f k a0 a1 a2 a3 a4 a5 a6 a7) (impl_AddIntervals.f (k + 1) a0 a1 a2 a3 a4 a5 a6 a7):=by
 intro a0 a1 a2 a3 a4 a5 a6 a7 k
 unfold impl_AddIntervals.f
 repeat' first
   | (with_reducible exact impl_okInterval.mono _ _ _ _ _)
   | (with_reducible exact LeO.refl _)
   | (with_reducible exact LeO.none _)
   | (with_reducible refine LeO.ite ?_ ?_)
   | (with_reducible refine LeO.bind ?_ (fun _ => ?_))
   | exact impl_okInterval.mono _ _ _ _ _
   | exact LeO.none _
   | refine LeO.ite ?_ ?_
   | refine LeO.bind ?_ (fun _ => ?_)
set_option maxHeartbeats 8000000 in
set_option maxRecDepth 100000 in
theorem impl_AddIntervals.calls (k : Nat) (a0_0 : Int) (a0_1 : Int) (a0_2 : Int) (a0_3 : Int) (a1_0 : Int) (a1_1 : Int) (a1_2 : Int) (a1_3 : Int) (r1 : Int) (r2 : Int) (r3 : Int) (r4 : Int) (r5 : Bool) (w : World) (h : impl_AddIntervals.f k a0_0 a0_1 a0_2 a0_3 a1_0 a1_1 a1_2 a1_3 = some (r1,r2,r3,r4,r5)) :
  Calls Try.prog 61 #[.agg #[.int .i64 a0_0,.int .i64 a0_1,.int .i64 a0_2,.int .i64 a0_3],.agg #[.int .i64 a1_0,.int .i64 a1_1,.int .i64 a1_2,.int .i64 a1_3]] w fun e w' => e = .returned (.tuple #[.agg #[.int .i64 r1,.int .i64 r2,.int .i64 r3,.int .i64 r4],.bool r5]) ∧ Below w.heap.size w w':=by
 have hu50:=Try.underlying50
 have HB:=Aside0.mk (Below.refl w.heap.size w)
 have H : ((impl_IntervalOk.f a0_0 a0_1 a0_2 a0_3).bind fun t216 => (if t216 = true then ((impl_IntervalOk.f a1_0 a1_1 a1_2 a1_3).bind fun t217 => (if t217 = true then ((impl_okInterval.f k (wrap64 ((wrap64 (a0_0 * a1_3)) + (wrap64 (a1_0 * a0_3)))) (wrap64 ((wrap64 (a0_1 * a1_3)) + (wrap64 (a1_1 * a0_3)))) (wrap64 ((wrap64 (a0_2 * a1_3)) + (wrap64 (a1_2 * a0_3)))) (wrap64 (a0_3 * a1_3))).bind fun bt218 => (some (bt218.1,bt218.2.1,bt218.2.2.1,bt218.2.2.2.1,bt218.2.2.2.2))) else (some (0,0,0,0,false)))) else (some (0,0,0,0,false)))) = some (r1,r2,r3,r4,r5):=h
 clear h
 replace H:=Option.bind_eq_some_iff.mp H
 obtain ⟨t216,A30,H⟩:=H
 replace H : (if t216 = true then ((impl_IntervalOk.f a1_0 a1_1 a1_2 a1_3).bind fun t217 => (if t217 = true then ((impl_okInterval.f k (wrap64 ((wrap64 (a0_0 * a1_3)) + (wrap64 (a1_0 * a0_3)))) (wrap64 ((wrap64 (a0_1 * a1_3)) + (wrap64 (a1_1 * a0_3)))) (wrap64 ((wrap64 (a0_2 * a1_3)) + (wrap64 (a1_2 * a0_3)))) (wrap64 (a0_3 * a1_3))).bind fun bt218 => (some (bt218.1,bt218.2.1,bt218.2.2.1,bt218.2.2.2.1,bt218.2.2.2.2))) else (some (0,0,0,0,false)))) else (some (0,0,0,0,false))) = some (r1,r2,r3,r4,r5):=H
 have A3:=Aside0.mk A30
 clear A30
 by_cases c4 : t216 = true
 rotate_left
 ·replace c4:=Bool.eq_false_iff.mpr c4
  subst c4
  have H1 : (some (0,0,0,0,false)) = some (r1,r2,r3,r4,r5):=by rw [if_neg (show ¬ (false = true) by decide)] at H; exact H
  clear H
  have H:=H1
  clear H1
  simp only [Option.some.injEq,Prod.mk.injEq] at H
  obtain ⟨rfl,rfl,rfl,rfl,rfl⟩:=H
  go_enter Try.func61,Try.ntmps61
  go_wp2_with (first|((with_reducible refine gate_dst (N:=2) rfl ?_); refine box_event ?hg (N:=2) ?hd (cs:=#[.int .i64 a0_0,.int .i64 a0_1,.int .i64 a0_2,.int .i64 a0_3]) (t:=50) ?hr ?_; (case hd => rfl); (case hg => rfl); (case hr => first|(go_simp; done)|(go_simp; rfl)); intro gb213 hg w38 hbox hb; have n0_:=Aside0.mk (below_step (by repeat (first|(with_reducible first|exact HB.out|apply bA|apply bD|apply bE)|exact HB.out)) hb); have n1_:=Aside0.mk (hbox); have n2_:=Aside0.mk ((by rw [hg]; exact (below_size (by repeat (first|(with_reducible first|exact HB.out|apply bA|apply bD|apply bE)|exact HB.out))) : w.heap.size ≤ gb213)); have n3_:=Aside0.mk ((by rw [hg]; exact (below_size (by repeat (first|(with_reducible first|exact HB.out|apply bA|apply bD|apply bE)|exact HB.out))) : w.heap.size ≤ gb213)); clear HB; have HB:=n0_; have BK213:=n1_; have GW213:=n2_; have GE213:=n3_; clear n0_ n1_ n2_ n3_; clear hb hbox hg)|((with_reducible refine gate_dst (N:=3) rfl ?_); refine box_event ?hg (N:=3) ?hd (cs:=#[.int .i64 a1_0,.int .i64 a1_1,.int .i64 a1_2,.int .i64 a1_3]) (t:=50) ?hr ?_; (case hd => rfl); (case hg => rfl); (case hr => first|(go_simp; done)|(go_simp; rfl)); intro gb214 hg w39 hbox hb; have n0_:=Aside0.mk (kB (g:=gb213) (o:=.cells #[.int .i64 a0_0,.int .i64 a0_1,.int .i64 a0_2,.int .i64 a0_3] 50 (0,0)) (by (with_reducible repeat (first|refine kN ?_ _|refine kD ?_|refine kA ?_ _)); exact BK213.out) hb); have n1_:=Aside0.mk (below_step (by repeat (first|(with_reducible first|exact HB.out|apply bA|apply bD|apply bE|refine bS ?_ GE213.out)|exact HB.out)) hb); have n2_:=Aside0.mk (hbox); have n3_:=Aside0.mk ((by rw [hg]; exact (below_size (by repeat (first|(with_reducible first|exact HB.out|apply bA|apply bD|apply bE|refine bS ?_ GE213.out)|exact HB.out))) : w.heap.size ≤ gb214)); have n4_:=Aside0.mk ((by rw [hg]; exact (below_size (by repeat (first|(with_reducible first|exact HB.out|apply bA|apply bD|apply bE|refine bS ?_ GE213.out)|exact HB.out))) : w.heap.size ≤ gb214)); have n5_:=Aside0.mk ((by rw [hg]; exact Nat.ne_of_lt (blk_lt (g:=gb213) (o:=.cells #[.int .i64 a0_0,.int .i64 a0_1,.int .i64 a0_2,.int .i64 a0_3] 50 (0,0)) (by (with_reducible repeat (first|refine kN ?_ _|refine kD ?_|refine kA ?_ _)); exact BK213.out)) : gb213 ≠ gb214)); have n6_:=Aside0.mk ((by rw [hg]; exact Nat.ne_of_gt (blk_lt (g:=gb213) (o:=.cells #[.int .i64 a0_0,.int .i64 a0_1,.int .i64 a0_2,.int .i64 a0_3] 50 (0,0)) (by (with_reducible repeat (first|refine kN ?_ _|refine kD ?_|refine kA ?_ _)); exact BK213.out)) : gb214 ≠ gb213)); clear BK213; clear HB; have BK213:=n0_; have HB:=n1_; have BK214:=n2_; have GW214:=n3_; have GE214:=n4_; have NB213_214:=n5_; have NB214_213:=n6_; clear n0_ n1_ n2_ n3_ n4_ n5_ n6_; clear hb hbox hg)|((with_reducible refine gate_dst (N:=4) rfl ?_); refine box_event ?hg (N:=4) ?hd (cs:=#[.int .i64 0,.int .i64 0,.int .i64 0,.int .i64 0]) (t:=50) ?hr ?_; (case hd => rfl); (case hg => rfl); (case hr => first|(go_simp; done)|(go_simp; rfl)); intro gb215 hg w40 hbox hb; have n0_:=Aside0.mk (kB (g:=gb213) (o:=.cells #[.int .i64 a0_0,.int .i64 a0_1,.int .i64 a0_2,.int .i64 a0_3] 50 (0,0)) (by (with_reducible repeat (first|refine kN ?_ _|refine kD ?_|refine kA ?_ _)); exact BK213.out) hb); have n1_:=Aside0.mk (kB (g:=gb214) (o:=.cells #[.int .i64 a1_0,.int .i64 a1_1,.int .i64 a1_2,.int .i64 a1_3] 50 (0,0)) (by (with_reducible repeat (first|refine kN ?_ _|refine kD ?_|refine kA ?_ _)); exact BK214.out) hb); have n2_:=Aside0.mk (below_step (by repeat (first|(with_reducible first|exact HB.out|apply bA|apply bD|apply bE|refine bS ?_ GE213.out|refine bS ?_ GE214.out)|exact HB.out)) hb); have n3_:=Aside0.mk (hbox); have n4_:=Aside0.mk ((by rw [hg]; exact (below_size (by repeat (first|(with_reducible first|exact HB.out|apply bA|apply bD|apply bE|refine bS ?_ GE213.out|refine bS ?_ GE214.out)|exact HB.out))) : w.heap.size ≤ gb215)); have n5_:=Aside0.mk ((by rw [hg]; exact (below_size (by repeat (first|(with_reducible first|exact HB.out|apply bA|apply bD|apply bE|refine bS ?_ GE213.out|refine bS ?_ GE214.out)|exact HB.out))) : w.heap.size ≤ gb215)); have n6_:=Aside0.mk ((by rw [hg]; exact Nat.ne_of_lt (blk_lt (g:=gb213) (o:=.cells #[.int .i64 a0_0,.int .i64 a0_1,.int .i64 a0_2,.int .i64 a0_3] 50 (0,0)) (by (with_reducible repeat (first|refine kN ?_ _|refine kD ?_|refine kA ?_ _)); exact BK213.out)) : gb213 ≠ gb215)); have n7_:=Aside0.mk ((by rw [hg]; exact Nat.ne_of_gt (blk_lt (g:=gb213) (o:=.cells #[.int .i64 a0_0,.int .i64 a0_1,.int .i64 a0_2,.int .i64 a0_3] 50 (0,0)) (by (with_reducible repeat (first|refine kN ?_ _|refine kD ?_|refine kA ?_ _)); exact BK213.out)) : gb215 ≠ gb213)); have n8_:=Aside0.mk ((by rw [hg]; exact Nat.ne_of_lt (blk_lt (g:=gb214) (o:=.cells #[.int .i64 a1_0,.int .i64 a1_1,.int .i64 a1_2,.int .i64 a1_3] 50 (0,0)) (by (with_reducible repeat (first|refine kN ?_ _|refine kD ?_|refine kA ?_ _)); exact BK214.out)) : gb214 ≠ gb215)); have n9_:=Aside0.mk ((by rw [hg]; exact Nat.ne_of_gt (blk_lt (g:=gb214) (o:=.cells #[.int .i64 a1_0,.int .i64 a1_1,.int .i64 a1_2,.int .i64 a1_3] 50 (0,0)) (by (with_reducible repeat (first|refine kN ?_ _|refine kD ?_|refine kA ?_ _)); exact BK214.out)) : gb215 ≠ gb214)); clear BK213; clear BK214; clear HB; have BK213:=n0_; have BK214:=n1_; have HB:=n2_; have BK215:=n3_; have GW215:=n4_; have GE215:=n5_; have NB213_215:=n6_; have NB215_213:=n7_; have NB214_215:=n8_; have NB215_214:=n9_; clear n0_ n1_ n2_ n3_ n4_ n5_ n6_ n7_ n8_ n9_; clear hb hbox hg; have hnb41:=NB213_214.out; have hnc41:=NB214_213.out; have hnb42:=NB213_215.out; have hnc42:=NB215_213.out; have hcz43_0 : w40.cell? ⟨gb213,0,none⟩ = some (.int .i64 a0_0):=(kC BK213.out 0).trans rfl; have hcz43_1 : w40.cell? ⟨gb213,1,none⟩ = some (.int .i64 a0_1):=(kC BK213.out 1).trans rfl; have hcz43_2 : w40.cell? ⟨gb213,2,none⟩ = some (.int .i64 a0_2):=(kC BK213.out 2).trans rfl; have hcz43_3 : w40.cell? ⟨gb213,3,none⟩ = some (.int .i64 a0_3):=(kC BK213.out 3).trans rfl; have hfz43_0:=blk_frozen BK213.out 0; have hfz43_1:=blk_frozen BK213.out 1; have hfz43_2:=blk_frozen BK213.out 2; have hfz43_3:=blk_frozen BK213.out 3)|((with_reducible refine gate_callee (f:=65) rfl ?_); refine goesL_ (some 9) rfl rfl Try.func65 (by kernel_rfl) rfl #[.agg #[.int .i64 a0_0,.int .i64 a0_1,.int .i64 a0_2,.int .i64 a0_3]] rfl (by (try simp only [List.map_toArray,List.map_cons,List.map_nil]); first|done|rfl|(simp only [List.length_drop,List.length_take]; rfl)) ?_; (with_reducible refine (impl_IntervalOk.calls a0_0 a0_1 a0_2 a0_3 false _ A3.out).mono ?_); rintro e w44 ⟨rfl,hb⟩; refine ⟨_,rfl,?_⟩; have n0_:=Aside0.mk (kB (g:=gb213) (o:=.cells #[.int .i64 a0_0,.int .i64 a0_1,.int .i64 a0_2,.int .i64 a0_3] 50 (0,0)) (by (with_reducible repeat (first|refine kN ?_ _|refine kD ?_|refine kA ?_ _)); exact BK213.out) hb); have n1_:=Aside0.mk (kB (g:=gb214) (o:=.cells #[.int .i64 a1_0,.int .i64 a1_1,.int .i64 a1_2,.int .i64 a1_3] 50 (0,0)) (by (with_reducible repeat (first|refine kN ?_ _|refine kD ?_|refine kA ?_ _)); exact BK214.out) hb); have n2_:=Aside0.mk (kB (g:=gb215) (o:=.cells #[.int .i64 0,.int .i64 0,.int .i64 0,.int .i64 0] 50 (0,0)) (by (with_reducible repeat (first|refine kN ?_ _|refine kD ?_|refine kA ?_ _)); exact BK215.out) hb); have n3_:=Aside0.mk (below_step (by repeat (first|(with_reducible first|exact HB.out|apply bA|apply bD|apply bE|refine bS ?_ GE213.out|refine bS ?_ GE214.out|refine bS ?_ GE215.out)|exact HB.out)) hb); clear BK213; clear BK214; clear BK215; clear HB; have BK213:=n0_; have BK214:=n1_; have BK215:=n2_; have HB:=n3_; clear n0_ n1_ n2_ n3_; (try clear hb); (try clear hb2); (try clear hk); (try clear hi); have hnb45:=NB215_214.out; have hnc45:=NB214_215.out; have hcz46_0 : w44.cell? ⟨gb215,0,none⟩ = some (.int .i64 0):=(kC BK215.out 0).trans rfl; have hcz46_1 : w44.cell? ⟨gb215,1,none⟩ = some (.int .i64 0):=(kC BK215.out 1).trans rfl; have hcz46_2 : w44.cell? ⟨gb215,2,none⟩ = some (.int .i64 0):=(kC BK215.out 2).trans rfl; have hcz46_3 : w44.cell? ⟨gb215,3,none⟩ = some (.int .i64 0):=(kC BK215.out 3).trans rfl; have hfz46_0:=blk_frozen BK215.out 0; have hfz46_1:=blk_frozen BK215.out 1; have hfz46_2:=blk_frozen BK215.out 2; have hfz46_3:=blk_frozen BK215.out 3))
  refine bodyPost_ret (results_ct rfl _ _ gb215 50 #[.int .i64 0,.int .i64 0,.int .i64 0,.int .i64 0] (0,0) _ rfl (by (with_reducible repeat (first|refine kN ?_ _|refine kD ?_|refine kA ?_ _)); refine blk_put (cs:=#[.int .i64 0,.int .i64 0,.int .i64 0,.int .i64 0]) ?_ 3 _ rfl; (with_reducible repeat (first|refine kN ?_ _|refine kD ?_|refine kA ?_ _)); refine blk_put (cs:=#[.int .i64 0,.int .i64 0,.int .i64 0,.int .i64 0]) ?_ 2 _ rfl; (with_reducible repeat (first|refine kN ?_ _|refine kD ?_|refine kA ?_ _)); refine blk_put (cs:=#[.int .i64 0,.int .i64 0,.int .i64 0,.int .i64 0]) ?_ 1 _ rfl; (with_reducible repeat (first|refine kN ?_ _|refine kD ?_|refine kA ?_ _)); refine blk_put (cs:=#[.int .i64 0,.int .i64 0,.int .i64 0,.int .i64 0]) ?_ 0 _ rfl; (with_reducible repeat (first|refine kN ?_ _|refine kD ?_|refine kA ?_ _)); exact BK215.out) Try.underlying50 rfl (by kernel_rfl)) rfl ?_
  exact ⟨by first|rfl|(simp [errW_none,errW_some] <;> rfl)|(simp [*,errW_none,errW_some] <;> rfl),by repeat (first|(with_reducible first|exact HB.out|apply bA|apply bD|apply bE|refine bS ?_ GE213.out|refine bS ?_ GE214.out|refine bS ?_ GE215.out)|exact HB.out)⟩

 subst c4
 have H1 : ((impl_IntervalOk.f a1_0 a1_1 a1_2 a1_3).bind fun t217 => (if t217 = true then ((impl_okInterval.f k (wrap64 ((wrap64 (a0_0 * a1_3)) + (wrap64 (a1_0 * a0_3)))) (wrap64 ((wrap64 (a0_1 * a1_3)) + (wrap64 (a1_1 * a0_3)))) (wrap64 ((wrap64 (a0_2 * a1_3)) + (wrap64 (a1_2 * a0_3)))) (wrap64 (a0_3 * a1_3))).bind fun bt218 => (some (bt218.1,bt218.2.1,bt218.2.2.1,bt218.2.2.2.1,bt218.2.2.2.2))) else (some (0,0,0,0,false)))) = some (r1,r2,r3,r4,r5):=by rw [if_pos rfl] at H; exact H
 clear H
 have H:=H1
 clear H1
 replace H:=Option.bind_eq_some_iff.mp H
 obtain ⟨t217,A50,H⟩:=H
 replace H : (if t217 = true then ((impl_okInterval.f k (wrap64 ((wrap64 (a0_0 * a1_3)) + (wrap64 (a1_0 * a0_3)))) (wrap64 ((wrap64 (a0_1 * a1_3)) + (wrap64 (a1_1 * a0_3)))) (wrap64 ((wrap64 (a0_2 * a1_3)) + (wrap64 (a1_2 * a0_3)))) (wrap64 (a0_3 * a1_3))).bind fun bt218 => (some (bt218.1,bt218.2.1,bt218.2.2.1,bt218.2.2.2.1,bt218.2.2.2.2))) else (some (0,0,0,0,false))) = some (r1,r2,r3,r4,r5):=H
 have A5:=Aside0.mk A50
 clear A50
 by_cases c6 : t217 = true
 rotate_left
 ·replace c6:=Bool.eq_false_iff.mpr c6
  subst c6
  have H1 : (some (0,0,0,0,false)) = some (r1,r2,r3,r4,r5):=by rw [if_neg (show ¬ (false = true) by decide)] at H; exact H
  clear H
  have H:=H1
  clear H1
  simp only [Option.some.injEq,Prod.mk.injEq] at H
  obtain ⟨rfl,rfl,rfl,rfl,rfl⟩:=H
  go_enter Try.func61,Try.ntmps61
  go_wp2_with (first|((with_reducible refine gate_dst (N:=2) rfl ?_); refine box_event ?hg (N:=2) ?hd (cs:=#[.int .i64 a0_0,.int .i64 a0_1,.int .i64 a0_2,.int .i64 a0_3]) (t:=50) ?hr ?_; (case hd => rfl); (case hg => rfl); (case hr => first|(go_simp; done)|(go_simp; rfl)); intro gb213 hg w27 hbox hb; have n0_:=Aside0.mk (below_step (by repeat (first|(with_reducible first|exact HB.out|apply bA|apply bD|apply bE)|exact HB.out)) hb); have n1_:=Aside0.mk (hbox); have n2_:=Aside0.mk ((by rw [hg]; exact (below_size (by repeat (first|(with_reducible first|exact HB.out|apply bA|apply bD|apply bE)|exact HB.out))) : w.heap.size ≤ gb213)); have n3_:=Aside0.mk ((by rw [hg]; exact (below_size (by repeat (first|(with_reducible first|exact HB.out|apply bA|apply bD|apply bE)|exact HB.out))) : w.heap.size ≤ gb213)); clear HB; have HB:=n0_; have BK213:=n1_; have GW213:=n2_; have GE213:=n3_; clear n0_ n1_ n2_ n3_; clear hb hbox hg)|((with_reducible refine gate_dst (N:=3) rfl ?_); refine box_event ?hg (N:=3) ?hd (cs:=#[.int .i64 a1_0,.int .i64 a1_1,.int .i64 a1_2,.int .i64 a1_3]) (t:=50) ?hr ?_; (case hd => rfl); (case hg => rfl); (case hr => first|(go_simp; done)|(go_simp; rfl)); intro gb214 hg w28 hbox hb; have n0_:=Aside0.mk (kB (g:=gb213) (o:=.cells #[.int .i64 a0_0,.int .i64 a0_1,.int .i64 a0_2,.int .i64 a0_3] 50 (0,0)) (by (with_reducible repeat (first|refine kN ?_ _|refine kD ?_|refine kA ?_ _)); exact BK213.out) hb); have n1_:=Aside0.mk (below_step (by repeat (first|(with_reducible first|exact HB.out|apply bA|apply bD|apply bE|refine bS ?_ GE213.out)|exact HB.out)) hb); have n2_:=Aside0.mk (hbox); have n3_:=Aside0.mk ((by rw [hg]; exact (below_size (by repeat (first|(with_reducible first|exact HB.out|apply bA|apply bD|apply bE|refine bS ?_ GE213.out)|exact HB.out))) : w.heap.size ≤ gb214)); have n4_:=Aside0.mk ((by rw [hg]; exact (below_size (by repeat (first|(with_reducible first|exact HB.out|apply bA|apply bD|apply bE|refine bS ?_ GE213.out)|exact HB.out))) : w.heap.size ≤ gb214)); have n5_:=Aside0.mk ((by rw [hg]; exact Nat.ne_of_lt (blk_lt (g:=gb213) (o:=.cells #[.int .i64 a0_0,.int .i64 a0_1,.int .i64 a0_2,.int .i64 a0_3] 50 (0,0)) (by (with_reducible repeat (first|refine kN ?_ _|refine kD ?_|refine kA ?_ _)); exact BK213.out)) : gb213 ≠ gb214)); have n6_:=Aside0.mk ((by rw [hg]; exact Nat.ne_of_gt (blk_lt (g:=gb213) (o:=.cells #[.int .i64 a0_0,.int .i64 a0_1,.int .i64 a0_2,.int .i64 a0_3] 50 (0,0)) (by (with_reducible repeat (first|refine kN ?_ _|refine kD ?_|refine kA ?_ _)); exact BK213.out)) : gb214 ≠ gb213)); clear BK213; clear HB; have BK213:=n0_; have HB:=n1_; have BK214:=n2_; have GW214:=n3_; have GE214:=n4_; have NB213_214:=n5_; have NB214_213:=n6_; clear n0_ n1_ n2_ n3_ n4_ n5_ n6_; clear hb hbox hg)|((with_reducible refine gate_dst (N:=4) rfl ?_); refine box_event ?hg (N:=4) ?hd (cs:=#[.int .i64 0,.int .i64 0,.int .i64 0,.int .i64 0]) (t:=50) ?hr ?_; (case hd => rfl); (case hg => rfl); (case hr => first|(go_simp; done)|(go_simp; rfl)); intro gb215 hg w29 hbox hb; have n0_:=Aside0.mk (kB (g:=gb213) (o:=.cells #[.int .i64 a0_0,.int .i64 a0_1,.int .i64 a0_2,.int .i64 a0_3] 50 (0,0)) (by (with_reducible repeat (first|refine kN ?_ _|refine kD ?_|refine kA ?_ _)); exact BK213.out) hb); have n1_:=Aside0.mk (kB (g:=gb214) (o:=.cells #[.int .i64 a1_0,.int .i64 a1_1,.int .i64 a1_2,.int .i64 a1_3] 50 (0,0)) (by (with_reducible repeat (first|refine kN ?_ _|refine kD ?_|refine kA ?_ _)); exact BK214.out) hb); have n2_:=Aside0.mk (below_step (by repeat (first|(with_reducible first|exact HB.out|apply bA|apply bD|apply bE|refine bS ?_ GE213.out|refine bS ?_ GE214.out)|exact HB.out)) hb); have n3_:=Aside0.mk (hbox); have n4_:=Aside0.mk ((by rw [hg]; exact (below_size (by repeat (first|(with_reducible first|exact HB.out|apply bA|apply bD|apply bE|refine bS ?_ GE213.out|refine bS ?_ GE214.out)|exact HB.out))) : w.heap.size ≤ gb215)); have n5_:=Aside0.mk ((by rw [hg]; exact (below_size (by repeat (first|(with_reducible first|exact HB.out|apply bA|apply bD|apply bE|refine bS ?_ GE213.out|refine bS ?_ GE214.out)|exact HB.out))) : w.heap.size ≤ gb215)); have n6_:=Aside0.mk ((by rw [hg]; exact Nat.ne_of_lt (blk_lt (g:=gb213) (o:=.cells #[.int .i64 a0_0,.int .i64 a0_1,.int .i64 a0_2,.int .i64 a0_3] 50 (0,0)) (by (with_reducible repeat (first|refine kN ?_ _|refine kD ?_|refine kA ?_ _)); exact BK213.out)) : gb213 ≠ gb215)); have n7_:=Aside0.mk ((by rw [hg]; exact Nat.ne_of_gt (blk_lt (g:=gb213) (o:=.cells #[.int .i64 a0_0,.int .i64 a0_1,.int .i64 a0_2,.int .i64 a0_3] 50 (0,0)) (by (with_reducible repeat (first|refine kN ?_ _|refine kD ?_|refine kA ?_ _)); exact BK213.out)) : gb215 ≠ gb213)); have n8_:=Aside0.mk ((by rw [hg]; exact Nat.ne_of_lt (blk_lt (g:=gb214) (o:=.cells #[.int .i64 a1_0,.int .i64 a1_1,.int .i64 a1_2,.int .i64 a1_3] 50 (0,0)) (by (with_reducible repeat (first|refine kN ?_ _|refine kD ?_|refine kA ?_ _)); exact BK214.out)) : gb214 ≠ gb215)); have n9_:=Aside0.mk ((by rw [hg]; exact Nat.ne_of_gt (blk_lt (g:=gb214) (o:=.cells #[.int .i64 a1_0,.int .i64 a1_1,.int .i64 a1_2,.int .i64 a1_3] 50 (0,0)) (by (with_reducible repeat (first|refine kN ?_ _|refine kD ?_|refine kA ?_ _)); exact BK214.out)) : gb215 ≠ gb214)); clear BK213; clear BK214; clear HB; have BK213:=n0_; have BK214:=n1_; have HB:=n2_; have BK215:=n3_; have GW215:=n4_; have GE215:=n5_; have NB213_215:=n6_; have NB215_213:=n7_; have NB214_215:=n8_; have NB215_214:=n9_; clear n0_ n1_ n2_ n3_ n4_ n5_ n6_ n7_ n8_ n9_; clear hb hbox hg; have hnb30:=NB213_214.out; have hnc30:=NB214_213.out; have hnb31:=NB213_215.out; have hnc31:=NB215_213.out; have hcz32_0 : w29.cell? ⟨gb213,0,none⟩ = some (.int .i64 a0_0):=(kC BK213.out 0).trans rfl; have hcz32_1 : w29.cell? ⟨gb213,1,none⟩ = some (.int .i64 a0_1):=(kC BK213.out 1).trans rfl; have hcz32_2 : w29.cell? ⟨gb213,2,none⟩ = some (.int .i64 a0_2):=(kC BK213.out 2).trans rfl; have hcz32_3 : w29.cell? ⟨gb213,3,none⟩ = some (.int .i64 a0_3):=(kC BK213.out 3).trans rfl; have hfz32_0:=blk_frozen BK213.out 0; have hfz32_1:=blk_frozen BK213.out 1; have hfz32_2:=blk_frozen BK213.out 2; have hfz32_3:=blk_frozen BK213.out 3)|((with_reducible refine gate_callee (f:=65) rfl ?_); refine goesL_ (some 9) rfl rfl Try.func65 (by kernel_rfl) rfl #[.agg #[.int .i64 a0_0,.int .i64 a0_1,.int .i64 a0_2,.int .i64 a0_3]] rfl (by (try simp only [List.map_toArray,List.map_cons,List.map_nil]); first|done|rfl|(simp only [List.length_drop,List.length_take]; rfl)) ?_; (with_reducible refine (impl_IntervalOk.calls a0_0 a0_1 a0_2 a0_3 true _ A3.out).mono ?_); rintro e w33 ⟨rfl,hb⟩; refine ⟨_,rfl,?_⟩; have n0_:=Aside0.mk (kB (g:=gb213) (o:=.cells #[.int .i64 a0_0,.int .i64 a0_1,.int .i64 a0_2,.int .i64 a0_3] 50 (0,0)) (by (with_reducible repeat (first|refine kN ?_ _|refine kD ?_|refine kA ?_ _)); exact BK213.out) hb); have n1_:=Aside0.mk (kB (g:=gb214) (o:=.cells #[.int .i64 a1_0,.int .i64 a1_1,.int .i64 a1_2,.int .i64 a1_3] 50 (0,0)) (by (with_reducible repeat (first|refine kN ?_ _|refine kD ?_|refine kA ?_ _)); exact BK214.out) hb); have n2_:=Aside0.mk (kB (g:=gb215) (o:=.cells #[.int .i64 0,.int .i64 0,.int .i64 0,.int .i64 0] 50 (0,0)) (by (with_reducible repeat (first|refine kN ?_ _|refine kD ?_|refine kA ?_ _)); exact BK215.out) hb); have n3_:=Aside0.mk (below_step (by repeat (first|(with_reducible first|exact HB.out|apply bA|apply bD|apply bE|refine bS ?_ GE213.out|refine bS ?_ GE214.out|refine bS ?_ GE215.out)|exact HB.out)) hb); clear BK213; clear BK214; clear BK215; clear HB; have BK213:=n0_; have BK214:=n1_; have BK215:=n2_; have HB:=n3_; clear n0_ n1_ n2_ n3_; (try clear hb); (try clear hb2); (try clear hk); (try clear hi); have hnb34:=NB214_215.out; have hnc34:=NB215_214.out; have hcz35_0 : w33.cell? ⟨gb214,0,none⟩ = some (.int .i64 a1_0):=(kC BK214.out 0).trans rfl; have hcz35_1 : w33.cell? ⟨gb214,1,none⟩ = some (.int .i64 a1_1):=(kC BK214.out 1).trans rfl; have hcz35_2 : w33.cell? ⟨gb214,2,none⟩ = some (.int .i64 a1_2):=(kC BK214.out 2).trans rfl; have hcz35_3 : w33.cell? ⟨gb214,3,none⟩ = some (.int .i64 a1_3):=(kC BK214.out 3).trans rfl; have hfz35_0:=blk_frozen BK214.out 0; have hfz35_1:=blk_frozen BK214.out 1; have hfz35_2:=blk_frozen BK214.out 2; have hfz35_3:=blk_frozen BK214.out 3)|(go_at_call 65; (with_reducible refine (impl_IntervalOk.calls a1_0 a1_1 a1_2 a1_3 false _ A5.out).mono ?_); rintro e w36 ⟨rfl,hb⟩; have n0_:=Aside0.mk (kB (g:=gb213) (o:=.cells #[.int .i64 a0_0,.int .i64 a0_1,.int .i64 a0_2,.int .i64 a0_3] 50 (0,0)) (by (with_reducible repeat (first|refine kN ?_ _|refine kD ?_|refine kA ?_ _)); exact BK213.out) hb); have n1_:=Aside0.mk (kB (g:=gb214) (o:=.cells #[.int .i64 a1_0,.int .i64 a1_1,.int .i64 a1_2,.int .i64 a1_3] 50 (0,0)) (by (with_reducible repeat (first|refine kN ?_ _|refine kD ?_|refine kA ?_ _)); exact BK214.out) hb); have n2_:=Aside0.mk (kB (g:=gb215) (o:=.cells #[.int .i64 0,.int .i64 0,.int .i64 0,.int .i64 0] 50 (0,0)) (by (with_reducible repeat (first|refine kN ?_ _|refine kD ?_|refine kA ?_ _)); exact BK215.out) hb); have n3_:=Aside0.mk (below_step (by repeat (first|(with_reducible first|exact HB.out|apply bA|apply bD|apply bE|refine bS ?_ GE213.out|refine bS ?_ GE214.out|refine bS ?_ GE215.out)|exact HB.out)) hb); clear BK213; clear BK214; clear BK215; clear HB; have BK213:=n0_; have BK214:=n1_; have BK215:=n2_; have HB:=n3_; clear n0_ n1_ n2_ n3_; (try clear hb); (try clear hb2); (try clear hk); (try clear hi); have hcz37_0 : w36.cell? ⟨gb215,0,none⟩ = some (.int .i64 0):=(kC BK215.out 0).trans rfl; have hcz37_1 : w36.cell? ⟨gb215,1,none⟩ = some (.int .i64 0):=(kC BK215.out 1).trans rfl; have hcz37_2 : w36.cell? ⟨gb215,2,none⟩ = some (.int .i64 0):=(kC BK215.out 2).trans rfl; have hcz37_3 : w36.cell? ⟨gb215,3,none⟩ = some (.int .i64 0):=(kC BK215.out 3).trans rfl; have hfz37_0:=blk_frozen BK215.out 0; have hfz37_1:=blk_frozen BK215.out 1; have hfz37_2:=blk_frozen BK215.out 2; have hfz37_3:=blk_frozen BK215.out 3))
  refine bodyPost_ret (results_ct rfl _ _ gb215 50 #[.int .i64 0,.int .i64 0,.int .i64 0,.int .i64 0] (0,0) _ rfl (by (with_reducible repeat (first|refine kN ?_ _|refine kD ?_|refine kA ?_ _)); refine blk_put (cs:=#[.int .i64 0,.int .i64 0,.int .i64 0,.int .i64 0]) ?_ 3 _ rfl; (with_reducible repeat (first|refine kN ?_ _|refine kD ?_|refine kA ?_ _)); refine blk_put (cs:=#[.int .i64 0,.int .i64 0,.int .i64 0,.int .i64 0]) ?_ 2 _ rfl; (with_reducible repeat (first|refine kN ?_ _|refine kD ?_|refine kA ?_ _)); refine blk_put (cs:=#[.int .i64 0,.int .i64 0,.int .i64 0,.int .i64 0]) ?_ 1 _ rfl; (with_reducible repeat (first|refine kN ?_ _|refine kD ?_|refine kA ?_ _)); refine blk_put (cs:=#[.int .i64 0,.int .i64 0,.int .i64 0,.int .i64 0]) ?_ 0 _ rfl; (with_reducible repeat (first|refine kN ?_ _|refine kD ?_|refine kA ?_ _)); exact BK215.out) Try.underlying50 rfl (by kernel_rfl)) rfl ?_
  exact ⟨by first|rfl|(simp [errW_none,errW_some] <;> rfl)|(simp [*,errW_none,errW_some] <;> rfl),by repeat (first|(with_reducible first|exact HB.out|apply bA|apply bD|apply bE|refine bS ?_ GE213.out|refine bS ?_ GE214.out|refine bS ?_ GE215.out)|exact HB.out)⟩
 subst c6
 have H1 : ((impl_okInterval.f k (wrap64 ((wrap64 (a0_0 * a1_3)) + (wrap64 (a1_0 * a0_3)))) (wrap64 ((wrap64 (a0_1 * a1_3)) + (wrap64 (a1_1 * a0_3)))) (wrap64 ((wrap64 (a0_2 * a1_3)) + (wrap64 (a1_2 * a0_3)))) (wrap64 (a0_3 * a1_3))).bind fun bt218 => (some (bt218.1,bt218.2.1,bt218.2.2.1,bt218.2.2.2.1,bt218.2.2.2.2))) = some (r1,r2,r3,r4,r5):=by rw [if_pos rfl] at H; exact H
 clear H
 have H:=H1
 clear H1
 replace H:=Option.bind_eq_some_iff.mp H
 obtain ⟨⟨t218,t219,t220,t221,t222⟩,A70,H⟩:=H
 replace H : (some (t218,t219,t220,t221,t222)) = some (r1,r2,r3,r4,r5):=H
 have A7:=Aside0.mk A70
 clear A70
 simp only [Option.some.injEq,Prod.mk.injEq] at H
 obtain ⟨rfl,rfl,rfl,rfl,rfl⟩:=H
 go_enter Try.func61,Try.ntmps61
 go_wp2_with (first|((with_reducible refine gate_dst (N:=2) rfl ?_); refine box_event ?hg (N:=2) ?hd (cs:=#[.int .i64 a0_0,.int .i64 a0_1,.int .i64 a0_2,.int .i64 a0_3]) (t:=50) ?hr ?_; (case hd => rfl); (case hg => rfl); (case hr => first|(go_simp; done)|(go_simp; rfl)); intro gb213 hg w8 hbox hb; have n0_:=Aside0.mk (below_step (by repeat (first|(with_reducible first|exact HB.out|apply bA|apply bD|apply bE)|exact HB.out)) hb); have n1_:=Aside0.mk (hbox); have n2_:=Aside0.mk ((by rw [hg]; exact (below_size (by repeat (first|(with_reducible first|exact HB.out|apply bA|apply bD|apply bE)|exact HB.out))) : w.heap.size ≤ gb213)); have n3_:=Aside0.mk ((by rw [hg]; exact (below_size (by repeat (first|(with_reducible first|exact HB.out|apply bA|apply bD|apply bE)|exact HB.out))) : w.heap.size ≤ gb213)); clear HB; have HB:=n0_; have BK213:=n1_; have GW213:=n2_; have GE213:=n3_; clear n0_ n1_ n2_ n3_; clear hb hbox hg)|((with_reducible refine gate_dst (N:=3) rfl ?_); refine box_event ?hg (N:=3) ?hd (cs:=#[.int .i64 a1_0,.int .i64 a1_1,.int .i64 a1_2,.int .i64 a1_3]) (t:=50) ?hr ?_; (case hd => rfl); (case hg => rfl); (case hr => first|(go_simp; done)|(go_simp; rfl)); intro gb214 hg w9 hbox hb; have n0_:=Aside0.mk (kB (g:=gb213) (o:=.cells #[.int .i64 a0_0,.int .i64 a0_1,.int .i64 a0_2,.int .i64 a0_3] 50 (0,0)) (by (with_reducible repeat (first|refine kN ?_ _|refine kD ?_|refine kA ?_ _)); exact BK213.out) hb); have n1_:=Aside0.mk (below_step (by repeat (first|(with_reducible first|exact HB.out|apply bA|apply bD|apply bE|refine bS ?_ GE213.out)|exact HB.out)) hb); have n2_:=Aside0.mk (hbox); have n3_:=Aside0.mk ((by rw [hg]; exact (below_size (by repeat (first|(with_reducible first|exact HB.out|apply bA|apply bD|apply bE|refine bS ?_ GE213.out)|exact HB.out))) : w.heap.size ≤ gb214)); have n4_:=Aside0.mk ((by rw [hg]; exact (below_size (by repeat (first|(with_reducible first|exact HB.out|apply bA|apply bD|apply bE|refine bS ?_ GE213.out)|exact HB.out))) : w.heap.size ≤ gb214)); have n5_:=Aside0.mk ((by rw [hg]; exact Nat.ne_of_lt (blk_lt (g:=gb213) (o:=.cells #[.int .i64 a0_0,.int .i64 a0_1,.int .i64 a0_2,.int .i64 a0_3] 50 (0,0)) (by (with_reducible repeat (first|refine kN ?_ _|refine kD ?_|refine kA ?_ _)); exact BK213.out)) : gb213 ≠ gb214)); have n6_:=Aside0.mk ((by rw [hg]; exact Nat.ne_of_gt (blk_lt (g:=gb213) (o:=.cells #[.int .i64 a0_0,.int .i64 a0_1,.int .i64 a0_2,.int .i64 a0_3] 50 (0,0)) (by (with_reducible repeat (first|refine kN ?_ _|refine kD ?_|refine kA ?_ _)); exact BK213.out)) : gb214 ≠ gb213)); clear BK213; clear HB; have BK213:=n0_; have HB:=n1_; have BK214:=n2_; have GW214:=n3_; have GE214:=n4_; have NB213_214:=n5_; have NB214_213:=n6_; clear n0_ n1_ n2_ n3_ n4_ n5_ n6_; clear hb hbox hg)|((with_reducible refine gate_dst (N:=4) rfl ?_); refine box_event ?hg (N:=4) ?hd (cs:=#[.int .i64 0,.int .i64 0,.int .i64 0,.int .i64 0]) (t:=50) ?hr ?_; (case hd => rfl); (case hg => rfl); (case hr => first|(go_simp; done)|(go_simp; rfl)); intro gb215 hg w10 hbox hb; have n0_:=Aside0.mk (kB (g:=gb213) (o:=.cells #[.int .i64 a0_0,.int .i64 a0_1,.int .i64 a0_2,.int .i64 a0_3] 50 (0,0)) (by (with_reducible repeat (first|refine kN ?_ _|refine kD ?_|refine kA ?_ _)); exact BK213.out) hb); have n1_:=Aside0.mk (kB (g:=gb214) (o:=.cells #[.int .i64 a1_0,.int .i64 a1_1,.int .i64 a1_2,.int .i64 a1_3] 50 (0,0)) (by (with_reducible repeat (first|refine kN ?_ _|refine kD ?_|refine kA ?_ _)); exact BK214.out) hb); have n2_:=Aside0.mk (below_step (by repeat (first|(with_reducible first|exact HB.out|apply bA|apply bD|apply bE|refine bS ?_ GE213.out|refine bS ?_ GE214.out)|exact HB.out)) hb); have n3_:=Aside0.mk (hbox); have n4_:=Aside0.mk ((by rw [hg]; exact (below_size (by repeat (first|(with_reducible first|exact HB.out|apply bA|apply bD|apply bE|refine bS ?_ GE213.out|refine bS ?_ GE214.out)|exact HB.out))) : w.heap.size ≤ gb215)); have n5_:=Aside0.mk ((by rw [hg]; exact (below_size (by repeat (first|(with_reducible first|exact HB.out|apply bA|apply bD|apply bE|refine bS ?_ GE213.out|refine bS ?_ GE214.out)|exact HB.out))) : w.heap.size ≤ gb215)); have n6_:=Aside0.mk ((by rw [hg]; exact Nat.ne_of_lt (blk_lt (g:=gb213) (o:=.cells #[.int .i64 a0_0,.int .i64 a0_1,.int .i64 a0_2,.int .i64 a0_3] 50 (0,0)) (by (with_reducible repeat (first|refine kN ?_ _|refine kD ?_|refine kA ?_ _)); exact BK213.out)) : gb213 ≠ gb215)); have n7_:=Aside0.mk ((by rw [hg]; exact Nat.ne_of_gt (blk_lt (g:=gb213) (o:=.cells #[.int .i64 a0_0,.int .i64 a0_1,.int .i64 a0_2,.int .i64 a0_3] 50 (0,0)) (by (with_reducible repeat (first|refine kN ?_ _|refine kD ?_|refine kA ?_ _)); exact BK213.out)) : gb215 ≠ gb213)); have n8_:=Aside0.mk ((by rw [hg]; exact Nat.ne_of_lt (blk_lt (g:=gb214) (o:=.cells #[.int .i64 a1_0,.int .i64 a1_1,.int .i64 a1_2,.int .i64 a1_3] 50 (0,0)) (by (with_reducible repeat (first|refine kN ?_ _|refine kD ?_|refine kA ?_ _)); exact BK214.out)) : gb214 ≠ gb215)); have n9_:=Aside0.mk ((by rw [hg]; exact Nat.ne_of_gt (blk_lt (g:=gb214) (o:=.cells #[.int .i64 a1_0,.int .i64 a1_1,.int .i64 a1_2,.int .i64 a1_3] 50 (0,0)) (by (with_reducible repeat (first|refine kN ?_ _|refine kD ?_|refine kA ?_ _)); exact BK214.out)) : gb215 ≠ gb214)); clear BK213; clear BK214; clear HB; have BK213:=n0_; have BK214:=n1_; have HB:=n2_; have BK215:=n3_; have GW215:=n4_; have GE215:=n5_; have NB213_215:=n6_; have NB215_213:=n7_; have NB214_215:=n8_; have NB215_214:=n9_; clear n0_ n1_ n2_ n3_ n4_ n5_ n6_ n7_ n8_ n9_; clear hb hbox hg; have hnb11:=NB213_214.out; have hnc11:=NB214_213.out; have hnb12:=NB213_215.out; have hnc12:=NB215_213.out; have hcz13_0 : w10.cell? ⟨gb213,0,none⟩ = some (.int .i64 a0_0):=(kC BK213.out 0).trans rfl; have hcz13_1 : w10.cell? ⟨gb213,1,none⟩ = some (.int .i64 a0_1):=(kC BK213.out 1).trans rfl; have hcz13_2 : w10.cell? ⟨gb213,2,none⟩ = some (.int .i64 a0_2):=(kC BK213.out 2).trans rfl; have hcz13_3 : w10.cell? ⟨gb213,3,none⟩ = some (.int .i64 a0_3):=(kC BK213.out 3).trans rfl; have hfz13_0:=blk_frozen BK213.out 0; have hfz13_1:=blk_frozen BK213.out 1; have hfz13_2:=blk_frozen BK213.out 2; have hfz13_3:=blk_frozen BK213.out 3)|((with_reducible refine gate_callee (f:=65) rfl ?_); refine goesL_ (some 9) rfl rfl Try.func65 (by kernel_rfl) rfl #[.agg #[.int .i64 a0_0,.int .i64 a0_1,.int .i64 a0_2,.int .i64 a0_3]] rfl (by (try simp only [List.map_toArray,List.map_cons,List.map_nil]); first|done|rfl|(simp only [List.length_drop,List.length_take]; rfl)) ?_; (with_reducible refine (impl_IntervalOk.calls a0_0 a0_1 a0_2 a0_3 true _ A3.out).mono ?_); rintro e w14 ⟨rfl,hb⟩; refine ⟨_,rfl,?_⟩; have n0_:=Aside0.mk (kB (g:=gb213) (o:=.cells #[.int .i64 a0_0,.int .i64 a0_1,.int .i64 a0_2,.int .i64 a0_3] 50 (0,0)) (by (with_reducible repeat (first|refine kN ?_ _|refine kD ?_|refine kA ?_ _)); exact BK213.out) hb); have n1_:=Aside0.mk (kB (g:=gb214) (o:=.cells #[.int .i64 a1_0,.int .i64 a1_1,.int .i64 a1_2,.int .i64 a1_3] 50 (0,0)) (by (with_reducible repeat (first|refine kN ?_ _|refine kD ?_|refine kA ?_ _)); exact BK214.out) hb); have n2_:=Aside0.mk (kB (g:=gb215) (o:=.cells #[.int .i64 0,.int .i64 0,.int .i64 0,.int .i64 0] 50 (0,0)) (by (with_reducible repeat (first|refine kN ?_ _|refine kD ?_|refine kA ?_ _)); exact BK215.out) hb); have n3_:=Aside0.mk (below_step (by repeat (first|(with_reducible first|exact HB.out|apply bA|apply bD|apply bE|refine bS ?_ GE213.out|refine bS ?_ GE214.out|refine bS ?_ GE215.out)|exact HB.out)) hb); clear BK213; clear BK214; clear BK215; clear HB; have BK213:=n0_; have BK214:=n1_; have BK215:=n2_; have HB:=n3_; clear n0_ n1_ n2_ n3_; (try clear hb); (try clear hb2); (try clear hk); (try clear hi); have hnb15:=NB214_215.out; have hnc15:=NB215_214.out; have hcz16_0 : w14.cell? ⟨gb214,0,none⟩ = some (.int .i64 a1_0):=(kC BK214.out 0).trans rfl; have hcz16_1 : w14.cell? ⟨gb214,1,none⟩ = some (.int .i64 a1_1):=(kC BK214.out 1).trans rfl; have hcz16_2 : w14.cell? ⟨gb214,2,none⟩ = some (.int .i64 a1_2):=(kC BK214.out 2).trans rfl; have hcz16_3 : w14.cell? ⟨gb214,3,none⟩ = some (.int .i64 a1_3):=(kC BK214.out 3).trans rfl; have hfz16_0:=blk_frozen BK214.out 0; have hfz16_1:=blk_frozen BK214.out 1; have hfz16_2:=blk_frozen BK214.out 2; have hfz16_3:=blk_frozen BK214.out 3)|(go_at_call 65; (with_reducible refine (impl_IntervalOk.calls a1_0 a1_1 a1_2 a1_3 true _ A5.out).mono ?_); rintro e w17 ⟨rfl,hb⟩; have n0_:=Aside0.mk (kB (g:=gb213) (o:=.cells #[.int .i64 a0_0,.int .i64 a0_1,.int .i64 a0_2,.int .i64 a0_3] 50 (0,0)) (by (with_reducible repeat (first|refine kN ?_ _|refine kD ?_|refine kA ?_ _)); exact BK213.out) hb); have n1_:=Aside0.mk (kB (g:=gb214) (o:=.cells #[.int .i64 a1_0,.int .i64 a1_1,.int .i64 a1_2,.int .i64 a1_3] 50 (0,0)) (by (with_reducible repeat (first|refine kN ?_ _|refine kD ?_|refine kA ?_ _)); exact BK214.out) hb); have n2_:=Aside0.mk (kB (g:=gb215) (o:=.cells #[.int .i64 0,.int .i64 0,.int .i64 0,.int .i64 0] 50 (0,0)) (by (with_reducible repeat (first|refine kN ?_ _|refine kD ?_|refine kA ?_ _)); exact BK215.out) hb); have n3_:=Aside0.mk (below_step (by repeat (first|(with_reducible first|exact HB.out|apply bA|apply bD|apply bE|refine bS ?_ GE213.out|refine bS ?_ GE214.out|refine bS ?_ GE215.out)|exact HB.out)) hb); clear BK213; clear BK214; clear BK215; clear HB; have BK213:=n0_; have BK214:=n1_; have BK215:=n2_; have HB:=n3_; clear n0_ n1_ n2_ n3_; (try clear hb); (try clear hb2); (try clear hk); (try clear hi); have hcz18_0 : w17.cell? ⟨gb213,0,none⟩ = some (.int .i64 a0_0):=(kC BK213.out 0).trans rfl; have hcz18_1 : w17.cell? ⟨gb213,1,none⟩ = some (.int .i64 a0_1):=(kC BK213.out 1).trans rfl; have hcz18_2 : w17.cell? ⟨gb213,2,none⟩ = some (.int .i64 a0_2):=(kC BK213.out 2).trans rfl; have hcz18_3 : w17.cell? ⟨gb213,3,none⟩ = some (.int .i64 a0_3):=(kC BK213.out 3).trans rfl; have hfz18_0:=blk_frozen BK213.out 0; have hfz18_1:=blk_frozen BK213.out 1; have hfz18_2:=blk_frozen BK213.out 2; have hfz18_3:=blk_frozen BK213.out 3; have hcz19_0 : w17.cell? ⟨gb214,0,none⟩ = some (.int .i64 a1_0):=(kC BK214.out 0).trans rfl; have hcz19_1 : w17.cell? ⟨gb214,1,none⟩ = some (.int .i64 a1_1):=(kC BK214.out 1).trans rfl; have hcz19_2 : w17.cell? ⟨gb214,2,none⟩ = some (.int .i64 a1_2):=(kC BK214.out 2).trans rfl; have hcz19_3 : w17.cell? ⟨gb214,3,none⟩ = some (.int .i64 a1_3):=(kC BK214.out 3).trans rfl; have hfz19_0:=blk_frozen BK214.out 0; have hfz19_1:=blk_frozen BK214.out 1; have hfz19_2:=blk_frozen BK214.out 2; have hfz19_3:=blk_frozen BK214.out 3)|((with_reducible refine gate_callee (f:=71) rfl ?_); refine goesL_ (some 57) rfl rfl Try.func71 (by kernel_rfl) rfl #[.agg #[.int .i64 (wrap64 ((wrap64 (a0_0 * a1_3)) + (wrap64 (a1_0 * a0_3)))),.int .i64 (wrap64 ((wrap64 (a0_1 * a1_3)) + (wrap64 (a1_1 * a0_3)))),.int .i64 (wrap64 ((wrap64 (a0_2 * a1_3)) + (wrap64 (a1_2 * a0_3)))),.int .i64 (wrap64 (a0_3 * a1_3))]] rfl (by (try simp only [List.map_toArray,List.map_cons,List.map_nil]); first|done|rfl|(simp only [List.length_drop,List.length_take]; rfl)) ?_; (with_reducible refine (impl_okInterval.calls k (wrap64 ((wrap64 (a0_0 * a1_3)) + (wrap64 (a1_0 * a0_3)))) (wrap64 ((wrap64 (a0_1 * a1_3)) + (wrap64 (a1_1 * a0_3)))) (wrap64 ((wrap64 (a0_2 * a1_3)) + (wrap64 (a1_2 * a0_3)))) (wrap64 (a0_3 * a1_3)) t218 t219 t220 t221 t222 _ A7.out).mono ?_); rintro e w20 ⟨rfl,hb⟩; refine ⟨_,rfl,?_⟩; have n0_:=Aside0.mk (kB (g:=gb213) (o:=.cells #[.int .i64 a0_0,.int .i64 a0_1,.int .i64 a0_2,.int .i64 a0_3] 50 (0,0)) (by (with_reducible repeat (first|refine kN ?_ _|refine kD ?_|refine kA ?_ _)); exact BK213.out) hb); have n1_:=Aside0.mk (kB (g:=gb214) (o:=.cells #[.int .i64 a1_0,.int .i64 a1_1,.int .i64 a1_2,.int .i64 a1_3] 50 (0,0)) (by (with_reducible repeat (first|refine kN ?_ _|refine kD ?_|refine kA ?_ _)); exact BK214.out) hb); have n2_:=Aside0.mk (kB (g:=gb215) (o:=.cells #[.int .i64 0,.int .i64 0,.int .i64 0,.int .i64 0] 50 (0,0)) (by (with_reducible repeat (first|refine kN ?_ _|refine kD ?_|refine kA ?_ _)); exact BK215.out) hb); have n3_:=Aside0.mk (below_step (by repeat (first|(with_reducible first|exact HB.out|apply bA|apply bD|apply bE|refine bS ?_ GE213.out|refine bS ?_ GE214.out|refine bS ?_ GE215.out)|exact HB.out)) hb); clear BK213; clear BK214; clear BK215; clear HB; have BK213:=n0_; have BK214:=n1_; have BK215:=n2_; have HB:=n3_; clear n0_ n1_ n2_ n3_; (try clear hb); (try clear hb2); (try clear hk); (try clear hi))|((with_reducible refine gate_dst (N:=6) rfl ?_); refine box_event ?hg (N:=6) ?hd (cs:=#[.int .i64 0,.int .i64 0,.int .i64 0,.int .i64 0]) (t:=50) ?hr ?_; (case hd => rfl); (case hg => rfl); (case hr => first|(go_simp; done)|(go_simp; rfl)); intro gb223 hg w21 hbox hb; have n0_:=Aside0.mk (kB (g:=gb213) (o:=.cells #[.int .i64 a0_0,.int .i64 a0_1,.int .i64 a0_2,.int .i64 a0_3] 50 (0,0)) (by (with_reducible repeat (first|refine kN ?_ _|refine kD ?_|refine kA ?_ _)); exact BK213.out) hb); have n1_:=Aside0.mk (kB (g:=gb214) (o:=.cells #[.int .i64 a1_0,.int .i64 a1_1,.int .i64 a1_2,.int .i64 a1_3] 50 (0,0)) (by (with_reducible repeat (first|refine kN ?_ _|refine kD ?_|refine kA ?_ _)); exact BK214.out) hb); have n2_:=Aside0.mk (kB (g:=gb215) (o:=.cells #[.int .i64 0,.int .i64 0,.int .i64 0,.int .i64 0] 50 (0,0)) (by (with_reducible repeat (first|refine kN ?_ _|refine kD ?_|refine kA ?_ _)); exact BK215.out) hb); have n3_:=Aside0.mk (below_step (by repeat (first|(with_reducible first|exact HB.out|apply bA|apply bD|apply bE|refine bS ?_ GE213.out|refine bS ?_ GE214.out|refine bS ?_ GE215.out)|exact HB.out)) hb); have n4_:=Aside0.mk (hbox); have n5_:=Aside0.mk ((by rw [hg]; exact (below_size (by repeat (first|(with_reducible first|exact HB.out|apply bA|apply bD|apply bE|refine bS ?_ GE213.out|refine bS ?_ GE214.out|refine bS ?_ GE215.out)|exact HB.out))) : w.heap.size ≤ gb223)); have n6_:=Aside0.mk ((by rw [hg]; exact (below_size (by repeat (first|(with_reducible first|exact HB.out|apply bA|apply bD|apply bE|refine bS ?_ GE213.out|refine bS ?_ GE214.out|refine bS ?_ GE215.out)|exact HB.out))) : w.heap.size ≤ gb223)); have n7_:=Aside0.mk ((by rw [hg]; exact Nat.ne_of_lt (blk_lt (g:=gb213) (o:=.cells #[.int .i64 a0_0,.int .i64 a0_1,.int .i64 a0_2,.int .i64 a0_3] 50 (0,0)) (by (with_reducible repeat (first|refine kN ?_ _|refine kD ?_|refine kA ?_ _)); exact BK213.out)) : gb213 ≠ gb223)); have n8_:=Aside0.mk ((by rw [hg]; exact Nat.ne_of_gt (blk_lt (g:=gb213) (o:=.cells #[.int .i64 a0_0,.int .i64 a0_1,.int .i64 a0_2,.int .i64 a0_3] 50 (0,0)) (by (with_reducible repeat (first|refine kN ?_ _|refine kD ?_|refine kA ?_ _)); exact BK213.out)) : gb223 ≠ gb213)); have n9_:=Aside0.mk ((by rw [hg]; exact Nat.ne_of_lt (blk_lt (g:=gb214) (o:=.cells #[.int .i64 a1_0,.int .i64 a1_1,.int .i64 a1_2,.int .i64 a1_3] 50 (0,0)) (by (with_reducible repeat (first|refine kN ?_ _|refine kD ?_|refine kA ?_ _)); exact BK214.out)) : gb214 ≠ gb223)); have n10_:=Aside0.mk ((by rw [hg]; exact Nat.ne_of_gt (blk_lt (g:=gb214) (o:=.cells #[.int .i64 a1_0,.int .i64 a1_1,.int .i64 a1_2,.int .i64 a1_3] 50 (0,0)) (by (with_reducible repeat (first|refine kN ?_ _|refine kD ?_|refine kA ?_ _)); exact BK214.out)) : gb223 ≠ gb214)); have n11_:=Aside0.mk ((by rw [hg]; exact Nat.ne_of_lt (blk_lt (g:=gb215) (o:=.cells #[.int .i64 0,.int .i64 0,.int .i64 0,.int .i64 0] 50 (0,0)) (by (with_reducible repeat (first|refine kN ?_ _|refine kD ?_|refine kA ?_ _)); exact BK215.out)) : gb215 ≠ gb223)); have n12_:=Aside0.mk ((by rw [hg]; exact Nat.ne_of_gt (blk_lt (g:=gb215) (o:=.cells #[.int .i64 0,.int .i64 0,.int .i64 0,.int .i64 0] 50 (0,0)) (by (with_reducible repeat (first|refine kN ?_ _|refine kD ?_|refine kA ?_ _)); exact BK215.out)) : gb223 ≠ gb215)); clear BK213; clear BK214; clear BK215; clear HB; have BK213:=n0_; have BK214:=n1_; have BK215:=n2_; have HB:=n3_; have BK223:=n4_; have GW223:=n5_; have GE223:=n6_; have NB213_223:=n7_; have NB223_213:=n8_; have NB214_223:=n9_; have NB223_214:=n10_; have NB215_223:=n11_; have NB223_215:=n12_; clear n0_ n1_ n2_ n3_ n4_ n5_ n6_ n7_ n8_ n9_ n10_ n11_ n12_; clear hb hbox hg; have hnb22:=NB223_213.out; have hnc22:=NB213_223.out; have hnb23:=NB223_214.out; have hnc23:=NB214_223.out; have hnb24:=NB223_215.out; have hnc24:=NB215_223.out; have hcz25_0 : w21.cell? ⟨gb223,0,none⟩ = some (.int .i64 0):=(kC BK223.out 0).trans rfl; have hcz25_1 : w21.cell? ⟨gb223,1,none⟩ = some (.int .i64 0):=(kC BK223.out 1).trans rfl; have hcz25_2 : w21.cell? ⟨gb223,2,none⟩ = some (.int .i64 0):=(kC BK223.out 2).trans rfl; have hcz25_3 : w21.cell? ⟨gb223,3,none⟩ = some (.int .i64 0):=(kC BK223.out 3).trans rfl; have hfz25_0:=blk_frozen BK223.out 0; have hfz25_1:=blk_frozen BK223.out 1; have hfz25_2:=blk_frozen BK223.out 2; have hfz25_3:=blk_frozen BK223.out 3; have hcz26_0 : w21.cell? ⟨gb215,0,none⟩ = some (.int .i64 0):=(kC BK215.out 0).trans rfl; have hcz26_1 : w21.cell? ⟨gb215,1,none⟩ = some (.int .i64 0):=(kC BK215.out 1).trans rfl; have hcz26_2 : w21.cell? ⟨gb215,2,none⟩ = some (.int .i64 0):=(kC BK215.out 2).trans rfl; have hcz26_3 : w21.cell? ⟨gb215,3,none⟩ = some (.int .i64 0):=(kC BK215.out 3).trans rfl; have hfz26_0:=blk_frozen BK215.out 0; have hfz26_1:=blk_frozen BK215.out 1; have hfz26_2:=blk_frozen BK215.out 2; have hfz26_3:=blk_frozen BK215.out 3))
 refine bodyPost_ret (results_ct rfl _ _ gb215 50 #[.int .i64 t218,.int .i64 t219,.int .i64 t220,.int .i64 t221] (0,0) _ rfl (by (with_reducible repeat (first|refine kN ?_ _|refine kD ?_|refine kA ?_ _)); refine blk_put (cs:=#[.int .i64 t218,.int .i64 t219,.int .i64 t220,.int .i64 0]) ?_ 3 _ rfl; (with_reducible repeat (first|refine kN ?_ _|refine kD ?_|refine kA ?_ _)); refine blk_put (cs:=#[.int .i64 t218,.int .i64 t219,.int .i64 0,.int .i64 0]) ?_ 2 _ rfl; (with_reducible repeat (first|refine kN ?_ _|refine kD ?_|refine kA ?_ _)); refine blk_put (cs:=#[.int .i64 t218,.int .i64 0,.int .i64 0,.int .i64 0]) ?_ 1 _ rfl; (with_reducible repeat (first|refine kN ?_ _|refine kD ?_|refine kA ?_ _)); refine blk_put (cs:=#[.int .i64 0,.int .i64 0,.int .i64 0,.int .i64 0]) ?_ 0 _ rfl; (with_reducible repeat (first|refine kN ?_ _|refine kD ?_|refine kA ?_ _)); refine blk_far ?_ NB215_223.out _; (with_reducible repeat (first|refine kN ?_ _|refine kD ?_|refine kA ?_ _)); refine blk_far ?_ NB215_223.out _; (with_reducible repeat (first|refine kN ?_ _|refine kD ?_|refine kA ?_ _)); refine blk_far ?_ NB215_223.out _; (with_reducible repeat (first|refine kN ?_ _|refine kD ?_|refine kA ?_ _)); refine blk_far ?_ NB215_223.out _; (with_reducible repeat (first|refine kN ?_ _|refine kD ?_|refine kA ?_ _)); exact BK215.out) Try.underlying50 rfl (by kernel_rfl)) rfl ?_
 exact ⟨by first|rfl|(simp [errW_none,errW_some] <;> rfl)|(simp [*,errW_none,errW_some] <;> rfl),by repeat (first|(with_reducible first|exact HB.out|apply bA|apply bD|apply bE|refine bS ?_ GE213.out|refine bS ?_ GE214.out|refine bS ?_ GE215.out|refine bS ?_ GE223.out)|exact HB.out)⟩
end Go.Proofs.Ytmjccdljalocbaa.PFnExactGroupSum
