-- WRITTEN FOR THIS CLAIM by wip/ownprint.py of this session: the print's way, with changes (the print itself does not take this law).
import Derived.Test.YtmjccdljalocbaaPFnExactGroupSumx0
import Derived.Test.YtmjccdljalocbaaPFnExactGroupSumx1
namespace Go.Proofs.Ytmjccdljalocbaa.PFnExactGroupSum
open Go.RowKit Go.Proofs.YtmjccdljalocbaaW.PrintWords Go.Proofs.YtmjccdljalocbaaW.PrintLast Go.Proofs.YtmjccdljalocbaaW.PrintMore
attribute [local go_sem] max2_int min2_int max_two min_two max_three min_three max_four min_four   -- for this text's walks alone
set_option linter.unusedVariables false
set_option linter.unusedSimpArgs false

private abbrev tT := true
private abbrev fF := false
private abbrev lS := @List.setIfInBounds_toArray
private abbrev lZ := @List.set_cons_zero
private abbrev lC := @List.set_cons_succ
private abbrev bD := @pw_below_drewN
private abbrev bA := @below_alloc
private abbrev bE := @below_drew1
private abbrev kN := @blk_drewN
private abbrev kA := @blk_alloc
private abbrev kD := @blk_drew
private abbrev bS := @below_set
private abbrev kC := @blk_cell
private abbrev kB := @blk_below
/-! ### spec_l03Simple: function 70 -/
def spec_l03Simple.f (k : Nat) (a0_0 : Int) (a0_1 : Int) (a0_2 : Int) (a0_3 : Int) : Option (Int × Int × Int × Int):=(spec_l03Gcd.f k a0_0 a0_1).bind fun t130 => ((spec_l03Gcd.f k a0_2 a0_3).bind fun t131 => ((spec_l03Gcd.f k t130 t131).bind fun t132 => (if t132 = 0 then (none) else (some (wrap64 (Int.tdiv a0_0 t132),wrap64 (Int.tdiv a0_1 t132),wrap64 (Int.tdiv a0_2 t132),wrap64 (Int.tdiv a0_3 t132))))))
theorem spec_l03Simple.mono : ∀ a0 a1 a2 a3 k,LeO (spec_l03Simple.f k a0 a1 a2 a3) (spec_l03Simple.f (k + 1) a0 a1 a2 a3):=by
 intro a0 a1 a2 a3 k
 unfold spec_l03Simple.f
 repeat' first
   | (with_reducible exact spec_l03Gcd.mono _ _ _)
   | (with_reducible exact LeO.refl _)
   | (with_reducible exact LeO.none _)
   | (with_reducible refine LeO.ite ?_ ?_)
   | (with_reducible refine LeO.bind ?_ (fun _ => ?_))
   | exact spec_l03Gcd.mono _ _ _
   | exact LeO.none _
   | refine LeO.ite ?_ ?_
   | refine LeO.bind ?_ (fun _ => ?_)
def spec_l03Simple.T1 : Bool × List (List Nat × List Nat):=(true,[([],[]),([0],[0]),([],[]),([2],[2]),([1,3],[1,3]),([],[]),([5],[5]),([],[]),([7],[7]),([6,8,4],[6,8]),([4,9,9],[4,9]),([10,10,0,1,2,3,4,5,6,7,8,9,10],[10])])
def spec_l03Simple.B1 : List Nat:=[0,1,0,4,15,0,32,0,128,511,1023,2047]
theorem spec_l03Simple.tab1 : rtab .any (opsOf Try.f70 1) = spec_l03Simple.T1:=by kernel_rfl
theorem spec_l03Simple.bits1 : waitsOk spec_l03Simple.T1.2 spec_l03Simple.B1 = true:=by kernel_rfl
def spec_l03Simple.T2 : Bool × List (List Nat × List Nat):=(true,[([],[]),([0],[0]),([],[]),([1,2],[1,2]),([],[]),([4],[4]),([],[]),([5,6],[5,6]),([],[]),([8],[8]),([],[]),([9,10],[9,10]),([],[]),([12],[12]),([],[]),([13,14],[13,14]),([3,7,11,15],[3,7,11,15]),([16,0,1,2,3,4,5,6,7,8,9,10,11,12,13,14,15,16],[16])])
def spec_l03Simple.B2 : List Nat:=[0,1,0,7,0,16,0,112,0,256,0,1792,0,4096,0,28672,65535,131071]
theorem spec_l03Simple.tab2 : rtab .any (opsOf Try.f70 2) = spec_l03Simple.T2:=by kernel_rfl
theorem spec_l03Simple.bits2 : waitsOk spec_l03Simple.T2.2 spec_l03Simple.B2 = true:=by kernel_rfl
set_option maxHeartbeats 8000000 in
set_option maxRecDepth 100000 in
theorem spec_l03Simple.calls (k : Nat) (a0_0 : Int) (a0_1 : Int) (a0_2 : Int) (a0_3 : Int) (r1 : Int) (r2 : Int) (r3 : Int) (r4 : Int) (w : World) (h : spec_l03Simple.f k a0_0 a0_1 a0_2 a0_3 = some (r1,r2,r3,r4)) :
  Calls Try.prog 70 #[.agg #[.int .i64 a0_0,.int .i64 a0_1,.int .i64 a0_2,.int .i64 a0_3]] w fun e w' => e = .returned (.agg #[.int .i64 r1,.int .i64 r2,.int .i64 r3,.int .i64 r4]) ∧ Below w.heap.size w w':=by
 have hu50:=Try.underlying50
 have HB:=Aside0.mk (Below.refl w.heap.size w)
 have H : ((spec_l03Gcd.f k a0_0 a0_1).bind fun t130 => ((spec_l03Gcd.f k a0_2 a0_3).bind fun t131 => ((spec_l03Gcd.f k t130 t131).bind fun t132 => (if t132 = 0 then (none) else (some (wrap64 (Int.tdiv a0_0 t132),wrap64 (Int.tdiv a0_1 t132),wrap64 (Int.tdiv a0_2 t132),wrap64 (Int.tdiv a0_3 t132))))))) = some (r1,r2,r3,r4):=h
 clear h
 replace H:=Option.bind_eq_some_iff.mp H
 obtain ⟨t130,A20,H⟩:=H
 replace H : ((spec_l03Gcd.f k a0_2 a0_3).bind fun t131 => ((spec_l03Gcd.f k t130 t131).bind fun t132 => (if t132 = 0 then (none) else (some (wrap64 (Int.tdiv a0_0 t132),wrap64 (Int.tdiv a0_1 t132),wrap64 (Int.tdiv a0_2 t132),wrap64 (Int.tdiv a0_3 t132)))))) = some (r1,r2,r3,r4):=H
 have A2:=Aside0.mk A20
 clear A20
 replace H:=Option.bind_eq_some_iff.mp H
 obtain ⟨t131,A30,H⟩:=H
 replace H : ((spec_l03Gcd.f k t130 t131).bind fun t132 => (if t132 = 0 then (none) else (some (wrap64 (Int.tdiv a0_0 t132),wrap64 (Int.tdiv a0_1 t132),wrap64 (Int.tdiv a0_2 t132),wrap64 (Int.tdiv a0_3 t132))))) = some (r1,r2,r3,r4):=H
 have A3:=Aside0.mk A30
 clear A30
 replace H:=Option.bind_eq_some_iff.mp H
 obtain ⟨t132,A40,H⟩:=H
 replace H : (if t132 = 0 then (none) else (some (wrap64 (Int.tdiv a0_0 t132),wrap64 (Int.tdiv a0_1 t132),wrap64 (Int.tdiv a0_2 t132),wrap64 (Int.tdiv a0_3 t132)))) = some (r1,r2,r3,r4):=H
 have A4:=Aside0.mk A40
 clear A40
 by_cases c5 : t132 = 0
 ·rw [if_pos c5] at H
  exact absurd H (by simp)
 rw [if_neg c5] at H
 have c5b0 : (t132 == 0) = false:=beq_eq_false_iff_ne.mpr c5
 have c5b1 : (t132 != 0) = true:=bne_iff_ne.mpr c5
 simp only [Option.some.injEq,Prod.mk.injEq] at H
 obtain ⟨rfl,rfl,rfl,rfl⟩:=H
 go_enter Try.func70,Try.ntmps70
 try go_wp2_with (first|((with_reducible refine gate_dst (N:=1) rfl ?_); refine box_event ?hg (N:=1) ?hd (cs:=#[.int .i64 a0_0,.int .i64 a0_1,.int .i64 a0_2,.int .i64 a0_3]) (t:=50) ?hr ?_; (case hd => rfl); (case hg => rfl); (case hr => first|(go_simp; done)|(go_simp; rfl)); intro gb128 hg w6 hbox hb; have n0_:=Aside0.mk (below_step (by repeat (first|(with_reducible first|exact HB.out|apply bA|apply bD|apply bE)|exact HB.out)) hb); have n1_:=Aside0.mk (hbox); have n2_:=Aside0.mk ((by rw [hg]; exact (below_size (by repeat (first|(with_reducible first|exact HB.out|apply bA|apply bD|apply bE)|exact HB.out))) : w.heap.size ≤ gb128)); have n3_:=Aside0.mk ((by rw [hg]; exact (below_size (by repeat (first|(with_reducible first|exact HB.out|apply bA|apply bD|apply bE)|exact HB.out))) : w.heap.size ≤ gb128)); clear HB; have HB:=n0_; have BK128:=n1_; have GW128:=n2_; have GE128:=n3_; clear n0_ n1_ n2_ n3_; clear hb hbox hg)|((with_reducible refine gate_dst (N:=2) rfl ?_); refine box_event ?hg (N:=2) ?hd (cs:=#[.int .i64 0,.int .i64 0,.int .i64 0,.int .i64 0]) (t:=50) ?hr ?_; (case hd => rfl); (case hg => rfl); (case hr => first|(go_simp; done)|(go_simp; rfl)); intro gb129 hg w7 hbox hb; have n0_:=Aside0.mk (kB (g:=gb128) (o:=.cells #[.int .i64 a0_0,.int .i64 a0_1,.int .i64 a0_2,.int .i64 a0_3] 50 (0,0)) (by (with_reducible repeat (first|refine kN ?_ _|refine kD ?_|refine kA ?_ _)); exact BK128.out) hb); have n1_:=Aside0.mk (below_step (by repeat (first|(with_reducible first|exact HB.out|apply bA|apply bD|apply bE|refine bS ?_ GE128.out)|exact HB.out)) hb); have n2_:=Aside0.mk (hbox); have n3_:=Aside0.mk ((by rw [hg]; exact (below_size (by repeat (first|(with_reducible first|exact HB.out|apply bA|apply bD|apply bE|refine bS ?_ GE128.out)|exact HB.out))) : w.heap.size ≤ gb129)); have n4_:=Aside0.mk ((by rw [hg]; exact (below_size (by repeat (first|(with_reducible first|exact HB.out|apply bA|apply bD|apply bE|refine bS ?_ GE128.out)|exact HB.out))) : w.heap.size ≤ gb129)); have n5_:=Aside0.mk ((by rw [hg]; exact Nat.ne_of_lt (blk_lt (g:=gb128) (o:=.cells #[.int .i64 a0_0,.int .i64 a0_1,.int .i64 a0_2,.int .i64 a0_3] 50 (0,0)) (by (with_reducible repeat (first|refine kN ?_ _|refine kD ?_|refine kA ?_ _)); exact BK128.out)) : gb128 ≠ gb129)); have n6_:=Aside0.mk ((by rw [hg]; exact Nat.ne_of_gt (blk_lt (g:=gb128) (o:=.cells #[.int .i64 a0_0,.int .i64 a0_1,.int .i64 a0_2,.int .i64 a0_3] 50 (0,0)) (by (with_reducible repeat (first|refine kN ?_ _|refine kD ?_|refine kA ?_ _)); exact BK128.out)) : gb129 ≠ gb128)); clear BK128; clear HB; have BK128:=n0_; have HB:=n1_; have BK129:=n2_; have GW129:=n3_; have GE129:=n4_; have NB128_129:=n5_; have NB129_128:=n6_; clear n0_ n1_ n2_ n3_ n4_ n5_ n6_; clear hb hbox hg))
 have n0_:=Aside0.mk (kD BK128.out)
 have n1_:=Aside0.mk (kD BK129.out)
 have n2_:=Aside0.mk (bE HB.out)
 clear BK128
 clear BK129
 clear HB
 have BK128:=n0_
 have BK129:=n1_
 have HB:=n2_
 clear n0_ n1_ n2_
 refine start_ (n:=12) (S:=fun w' => w'.cell? ⟨gb128,0,none⟩ = some (.int .i64 a0_0) ∧ w'.cell? ⟨gb128,1,none⟩ = some (.int .i64 a0_1) ∧ w'.cell? ⟨gb128,2,none⟩ = some (.int .i64 a0_2) ∧ w'.cell? ⟨gb128,3,none⟩ = some (.int .i64 a0_3)) (ds:=[]) #[fF,fF,fF,fF,fF,fF,fF,fF,fF,fF,fF,fF] (by kernel_rfl) rfl rfl ⟨(kC BK128.out 0).trans rfl,(kC BK128.out 1).trans rfl,(kC BK128.out 2).trans rfl,(kC BK128.out 3).trans rfl⟩ (fun hHeld => ?_); refine with_tabW spec_l03Simple.tab1 spec_l03Simple.bits1 (fun HT_ HW_ => ?_)
 generalize w7.drew = w8 at BK128 BK129 HB hHeld ⊢
 refine pure_ (i:=0) (N:=some 4) (v:=?_) (a':=?_) #[tT,fF,fF,fF,fF,fF,fF,fF,fF,fF,fF,fF] rfl rfl (any_of HT_.out (by kernel_rfl)) (fun _ _ _ h => h) (Or.inl ⟨by rfl,?_⟩) ?_ ?_
 rotate_left
 ·intro w'
  go_simp
  first|(with_reducible rfl)|(simp only [Instr.field,go_sem, *]; rfl)
 rotate_left
 ·simp only [Act.put,lS,lZ,lC,i64_w,i32_w]
  rfl
 refine pure_ (i:=2) (N:=some 6) (v:=?_) (a':=?_) #[tT,fF,tT,fF,fF,fF,fF,fF,fF,fF,fF,fF] rfl rfl (any_of HT_.out (by kernel_rfl)) (fun _ _ _ h => h) (Or.inl ⟨by rfl,?_⟩) ?_ ?_
 rotate_left
 ·intro w'
  go_simp
  first|(with_reducible rfl)|(simp only [Instr.field,go_sem, *]; rfl)
 rotate_left
 ·simp only [Act.put,lS,lZ,lC,i64_w,i32_w]
  rfl
 refine pure_ (i:=5) (N:=some 9) (v:=?_) (a':=?_) #[tT,fF,tT,fF,fF,tT,fF,fF,fF,fF,fF,fF] rfl rfl (any_of HT_.out (by kernel_rfl)) (fun _ _ _ h => h) (Or.inl ⟨by rfl,?_⟩) ?_ ?_
 rotate_left
 ·intro w'
  go_simp
  first|(with_reducible rfl)|(simp only [Instr.field,go_sem, *]; rfl)
 rotate_left
 ·simp only [Act.put,lS,lZ,lC,i64_w,i32_w]
  rfl
 refine pure_ (i:=7) (N:=some 11) (v:=?_) (a':=?_) #[tT,fF,tT,fF,fF,tT,fF,tT,fF,fF,fF,fF] rfl rfl (any_of HT_.out (by kernel_rfl)) (fun _ _ _ h => h) (Or.inl ⟨by rfl,?_⟩) ?_ ?_
 rotate_left
 ·intro w'
  go_simp
  first|(with_reducible rfl)|(simp only [Instr.field,go_sem, *]; rfl)
 rotate_left
 ·simp only [Act.put,lS,lZ,lC,i64_w,i32_w]
  rfl
 refine take_ (i:=1) (N:=some 5) (v:=?_) (a':=?_) #[tT,tT,tT,fF,fF,tT,fF,tT,fF,fF,fF,fF] rfl rfl (take_ofW HT_.out HW_.out (by kernel_rfl)) (fun _ _ _ h => h) (Or.inl ⟨by rfl,?_⟩) hHeld ?_ ?_
 rotate_left
 ·rintro w' ⟨s0,s1,s2,s3⟩
  go_simp
  first|(with_reducible rfl)|(simp only [Instr.field,go_sem, *]; rfl)
 rotate_left
 ·simp only [Act.put,lS,lZ,lC,i64_w,i32_w]
  rfl
 refine take_ (i:=3) (N:=some 7) (v:=?_) (a':=?_) #[tT,tT,tT,tT,fF,tT,fF,tT,fF,fF,fF,fF] rfl rfl (take_ofW HT_.out HW_.out (by kernel_rfl)) (fun _ _ _ h => h) (Or.inl ⟨by rfl,?_⟩) hHeld ?_ ?_
 rotate_left
 ·rintro w' ⟨s0,s1,s2,s3⟩
  go_simp
  first|(with_reducible rfl)|(simp only [Instr.field,go_sem, *]; rfl)
 rotate_left
 ·simp only [Act.put,lS,lZ,lC,i64_w,i32_w]
  rfl
 refine take_ (i:=6) (N:=some 10) (v:=?_) (a':=?_) #[tT,tT,tT,tT,fF,tT,tT,tT,fF,fF,fF,fF] rfl rfl (take_ofW HT_.out HW_.out (by kernel_rfl)) (fun _ _ _ h => h) (Or.inl ⟨by rfl,?_⟩) hHeld ?_ ?_
 rotate_left
 ·rintro w' ⟨s0,s1,s2,s3⟩
  go_simp
  first|(with_reducible rfl)|(simp only [Instr.field,go_sem, *]; rfl)
 rotate_left
 ·simp only [Act.put,lS,lZ,lC,i64_w,i32_w]
  rfl
 refine take_ (i:=8) (N:=some 12) (v:=?_) (a':=?_) #[tT,tT,tT,tT,fF,tT,tT,tT,tT,fF,fF,fF] rfl rfl (take_ofW HT_.out HW_.out (by kernel_rfl)) (fun _ _ _ h => h) (Or.inl ⟨by rfl,?_⟩) hHeld ?_ ?_
 rotate_left
 ·rintro w' ⟨s0,s1,s2,s3⟩
  go_simp
  first|(with_reducible rfl)|(simp only [Instr.field,go_sem, *]; rfl)
 rotate_left
 ·simp only [Act.put,lS,lZ,lC,i64_w,i32_w]
  rfl
 refine one_ (i:=4) (N:=some 8) #[tT,tT,tT,tT,tT,tT,tT,tT,tT,fF,fF,fF] rfl rfl (one_of HT_.out (by kernel_rfl)) (by decide) (fun K hK => ?_)
 refine goes_ Try.func77 (by kernel_rfl) rfl #[.int .i64 a0_0,.int .i64 a0_1] (by rfl) rfl rfl (by (try simp only [List.map_toArray,List.map_cons,List.map_nil]); first|done|rfl|(simp only [List.length_drop,List.length_take]; rfl)) ?_
 with_reducible refine (spec_l03Gcd.calls k a0_0 a0_1 t130 _ A2.out).mono ?_
 rintro e w9 ⟨rfl,hb⟩
 refine ⟨_,rfl,?_⟩
 have n0_:=Aside0.mk (kB (g:=gb128) (o:=.cells #[.int .i64 a0_0,.int .i64 a0_1,.int .i64 a0_2,.int .i64 a0_3] 50 (0,0)) (by (with_reducible repeat (first|refine kN ?_ _|refine kD ?_|refine kA ?_ _)); exact BK128.out) hb)
 have n1_:=Aside0.mk (kB (g:=gb129) (o:=.cells #[.int .i64 0,.int .i64 0,.int .i64 0,.int .i64 0] 50 (0,0)) (by (with_reducible repeat (first|refine kN ?_ _|refine kD ?_|refine kA ?_ _)); exact BK129.out) hb)
 have n2_:=Aside0.mk (below_step (by repeat (first|(with_reducible first|exact HB.out|apply bA|apply bD|apply bE|refine bS ?_ GE128.out|refine bS ?_ GE129.out)|exact HB.out)) hb)
 clear BK128
 clear BK129
 clear HB
 have BK128:=n0_
 have BK129:=n1_
 have HB:=n2_
 clear n0_ n1_ n2_
 (try clear hb)
 (try clear hb2)
 (try clear hk)
 (try clear hi)
 refine hK.out _ _ ⟨(kC BK128.out 0).trans rfl,(kC BK128.out 1).trans rfl,(kC BK128.out 2).trans rfl,(kC BK128.out 3).trans rfl⟩ (fun hHeld => ?_)
 clear hK K
 refine norm_ (a':=?_) ?_ ?_
 rotate_left
 ·show Act.put _ (some 8) _ = _
  simp only [Act.put,lS,lZ,lC,i64_w,i32_w]
  rfl
 refine one_ (i:=9) (N:=some 13) #[tT,tT,tT,tT,tT,tT,tT,tT,tT,tT,fF,fF] rfl rfl (one_of HT_.out (by kernel_rfl)) (by decide) (fun K hK => ?_)
 refine goes_ Try.func77 (by kernel_rfl) rfl #[.int .i64 a0_2,.int .i64 a0_3] (by rfl) rfl rfl (by (try simp only [List.map_toArray,List.map_cons,List.map_nil]); first|done|rfl|(simp only [List.length_drop,List.length_take]; rfl)) ?_
 with_reducible refine (spec_l03Gcd.calls k a0_2 a0_3 t131 _ A3.out).mono ?_
 rintro e w10 ⟨rfl,hb⟩
 refine ⟨_,rfl,?_⟩
 have n0_:=Aside0.mk (kB (g:=gb128) (o:=.cells #[.int .i64 a0_0,.int .i64 a0_1,.int .i64 a0_2,.int .i64 a0_3] 50 (0,0)) (by (with_reducible repeat (first|refine kN ?_ _|refine kD ?_|refine kA ?_ _)); exact BK128.out) hb)
 have n1_:=Aside0.mk (kB (g:=gb129) (o:=.cells #[.int .i64 0,.int .i64 0,.int .i64 0,.int .i64 0] 50 (0,0)) (by (with_reducible repeat (first|refine kN ?_ _|refine kD ?_|refine kA ?_ _)); exact BK129.out) hb)
 have n2_:=Aside0.mk (below_step (by repeat (first|(with_reducible first|exact HB.out|apply bA|apply bD|apply bE|refine bS ?_ GE128.out|refine bS ?_ GE129.out)|exact HB.out)) hb)
 clear BK128
 clear BK129
 clear HB
 have BK128:=n0_
 have BK129:=n1_
 have HB:=n2_
 clear n0_ n1_ n2_
 (try clear hb)
 (try clear hb2)
 (try clear hk)
 (try clear hi)
 refine hK.out _ _ ⟨(kC BK128.out 0).trans rfl,(kC BK128.out 1).trans rfl,(kC BK128.out 2).trans rfl,(kC BK128.out 3).trans rfl⟩ (fun hHeld => ?_)
 clear hK K
 refine norm_ (a':=?_) ?_ ?_
 rotate_left
 ·show Act.put _ (some 13) _ = _
  simp only [Act.put,lS,lZ,lC,i64_w,i32_w]
  rfl
 refine one_ (i:=10) (N:=some 14) #[tT,tT,tT,tT,tT,tT,tT,tT,tT,tT,tT,fF] rfl rfl (one_of HT_.out (by kernel_rfl)) (by decide) (fun K hK => ?_)
 refine goes_ Try.func77 (by kernel_rfl) rfl #[.int .i64 t130,.int .i64 t131] (by rfl) rfl rfl (by (try simp only [List.map_toArray,List.map_cons,List.map_nil]); first|done|rfl|(simp only [List.length_drop,List.length_take]; rfl)) ?_
 with_reducible refine (spec_l03Gcd.calls k t130 t131 t132 _ A4.out).mono ?_
 rintro e w11 ⟨rfl,hb⟩
 refine ⟨_,rfl,?_⟩
 have n0_:=Aside0.mk (kB (g:=gb128) (o:=.cells #[.int .i64 a0_0,.int .i64 a0_1,.int .i64 a0_2,.int .i64 a0_3] 50 (0,0)) (by (with_reducible repeat (first|refine kN ?_ _|refine kD ?_|refine kA ?_ _)); exact BK128.out) hb)
 have n1_:=Aside0.mk (kB (g:=gb129) (o:=.cells #[.int .i64 0,.int .i64 0,.int .i64 0,.int .i64 0] 50 (0,0)) (by (with_reducible repeat (first|refine kN ?_ _|refine kD ?_|refine kA ?_ _)); exact BK129.out) hb)
 have n2_:=Aside0.mk (below_step (by repeat (first|(with_reducible first|exact HB.out|apply bA|apply bD|apply bE|refine bS ?_ GE128.out|refine bS ?_ GE129.out)|exact HB.out)) hb)
 clear BK128
 clear BK129
 clear HB
 have BK128:=n0_
 have BK129:=n1_
 have HB:=n2_
 clear n0_ n1_ n2_
 (try clear hb)
 (try clear hb2)
 (try clear hk)
 (try clear hi)
 refine hK.out _ _ ⟨(kC BK128.out 0).trans rfl,(kC BK128.out 1).trans rfl,(kC BK128.out 2).trans rfl,(kC BK128.out 3).trans rfl⟩ (fun hHeld => ?_)
 clear hK K
 refine norm_ (a':=?_) ?_ ?_
 rotate_left
 ·show Act.put _ (some 14) _ = _
  simp only [Act.put,lS,lZ,lC,i64_w,i32_w]
  rfl
 refine pure_ (i:=11) (N:=some 3) (v:=?_) (a':=?_) #[tT,tT,tT,tT,tT,tT,tT,tT,tT,tT,tT,tT] rfl rfl (any_of HT_.out (by kernel_rfl)) (fun _ _ _ h => h) (Or.inl ⟨by rfl,?_⟩) ?_ ?_
 rotate_left
 ·intro w'
  go_simp
  first|(with_reducible rfl)|(simp only [Instr.field,go_sem, *]; rfl)
 rotate_left
 ·simp only [Act.put,lS,lZ,lC,i64_w,i32_w]
  rfl
 refine done_ (done_of HT_.out (by kernel_rfl)) ?_
 try go_wp2
 have n0_:=Aside0.mk (kD BK128.out)
 have n1_:=Aside0.mk (kD BK129.out)
 have n2_:=Aside0.mk (bE HB.out)
 clear BK128
 clear BK129
 clear HB
 have BK128:=n0_
 have BK129:=n1_
 have HB:=n2_
 clear n0_ n1_ n2_
 refine start_ (n:=18) (S:=fun w' => w'.cell? ⟨gb128,0,none⟩ = some (.int .i64 a0_0) ∧ w'.cell? ⟨gb128,1,none⟩ = some (.int .i64 a0_1) ∧ w'.cell? ⟨gb128,2,none⟩ = some (.int .i64 a0_2) ∧ w'.cell? ⟨gb128,3,none⟩ = some (.int .i64 a0_3)) (ds:=[]) #[fF,fF,fF,fF,fF,fF,fF,fF,fF,fF,fF,fF,fF,fF,fF,fF,fF,fF] (by kernel_rfl) rfl rfl ⟨(kC BK128.out 0).trans rfl,(kC BK128.out 1).trans rfl,(kC BK128.out 2).trans rfl,(kC BK128.out 3).trans rfl⟩ (fun hHeld => ?_); refine with_tabW spec_l03Simple.tab2 spec_l03Simple.bits2 (fun HT_ HW_ => ?_)
 generalize w11.drew = w12 at BK128 BK129 HB hHeld ⊢
 refine pure_ (i:=0) (N:=some 15) (v:=?_) (a':=?_) #[tT,fF,fF,fF,fF,fF,fF,fF,fF,fF,fF,fF,fF,fF,fF,fF,fF,fF] rfl rfl (any_of HT_.out (by kernel_rfl)) (fun _ _ _ h => h) (Or.inl ⟨by rfl,?_⟩) ?_ ?_
 rotate_left
 ·intro w'
  go_simp
  first|(with_reducible rfl)|(simp only [Instr.field,go_sem, *]; rfl)
 rotate_left
 ·simp only [Act.put,lS,lZ,lC,i64_w,i32_w]
  rfl
 refine pure_ (i:=2) (N:=some 17) (v:=?_) (a':=?_) #[tT,fF,tT,fF,fF,fF,fF,fF,fF,fF,fF,fF,fF,fF,fF,fF,fF,fF] rfl rfl (any_of HT_.out (by kernel_rfl)) (fun _ _ _ h => h) (Or.inl ⟨by rfl,?_⟩) ?_ ?_
 rotate_left
 ·intro w'
  go_simp
  first|(with_reducible rfl)|(simp only [Instr.field,go_sem, *]; rfl)
 rotate_left
 ·simp only [Act.put,lS,lZ,lC,i64_w,i32_w]
  rfl
 refine pure_ (i:=4) (N:=some 19) (v:=?_) (a':=?_) #[tT,fF,tT,fF,tT,fF,fF,fF,fF,fF,fF,fF,fF,fF,fF,fF,fF,fF] rfl rfl (any_of HT_.out (by kernel_rfl)) (fun _ _ _ h => h) (Or.inl ⟨by rfl,?_⟩) ?_ ?_
 rotate_left
 ·intro w'
  go_simp
  first|(with_reducible rfl)|(simp only [Instr.field,go_sem, *]; rfl)
 rotate_left
 ·simp only [Act.put,lS,lZ,lC,i64_w,i32_w]
  rfl
 refine pure_ (i:=6) (N:=some 21) (v:=?_) (a':=?_) #[tT,fF,tT,fF,tT,fF,tT,fF,fF,fF,fF,fF,fF,fF,fF,fF,fF,fF] rfl rfl (any_of HT_.out (by kernel_rfl)) (fun _ _ _ h => h) (Or.inl ⟨by rfl,?_⟩) ?_ ?_
 rotate_left
 ·intro w'
  go_simp
  first|(with_reducible rfl)|(simp only [Instr.field,go_sem, *]; rfl)
 rotate_left
 ·simp only [Act.put,lS,lZ,lC,i64_w,i32_w]
  rfl
 refine pure_ (i:=8) (N:=some 23) (v:=?_) (a':=?_) #[tT,fF,tT,fF,tT,fF,tT,fF,tT,fF,fF,fF,fF,fF,fF,fF,fF,fF] rfl rfl (any_of HT_.out (by kernel_rfl)) (fun _ _ _ h => h) (Or.inl ⟨by rfl,?_⟩) ?_ ?_
 rotate_left
 ·intro w'
  go_simp
  first|(with_reducible rfl)|(simp only [Instr.field,go_sem, *]; rfl)
 rotate_left
 ·simp only [Act.put,lS,lZ,lC,i64_w,i32_w]
  rfl
 refine pure_ (i:=10) (N:=some 25) (v:=?_) (a':=?_) #[tT,fF,tT,fF,tT,fF,tT,fF,tT,fF,tT,fF,fF,fF,fF,fF,fF,fF] rfl rfl (any_of HT_.out (by kernel_rfl)) (fun _ _ _ h => h) (Or.inl ⟨by rfl,?_⟩) ?_ ?_
 rotate_left
 ·intro w'
  go_simp
  first|(with_reducible rfl)|(simp only [Instr.field,go_sem, *]; rfl)
 rotate_left
 ·simp only [Act.put,lS,lZ,lC,i64_w,i32_w]
  rfl
 refine pure_ (i:=12) (N:=some 27) (v:=?_) (a':=?_) #[tT,fF,tT,fF,tT,fF,tT,fF,tT,fF,tT,fF,tT,fF,fF,fF,fF,fF] rfl rfl (any_of HT_.out (by kernel_rfl)) (fun _ _ _ h => h) (Or.inl ⟨by rfl,?_⟩) ?_ ?_
 rotate_left
 ·intro w'
  go_simp
  first|(with_reducible rfl)|(simp only [Instr.field,go_sem, *]; rfl)
 rotate_left
 ·simp only [Act.put,lS,lZ,lC,i64_w,i32_w]
  rfl
 refine pure_ (i:=14) (N:=some 29) (v:=?_) (a':=?_) #[tT,fF,tT,fF,tT,fF,tT,fF,tT,fF,tT,fF,tT,fF,tT,fF,fF,fF] rfl rfl (any_of HT_.out (by kernel_rfl)) (fun _ _ _ h => h) (Or.inl ⟨by rfl,?_⟩) ?_ ?_
 rotate_left
 ·intro w'
  go_simp
  first|(with_reducible rfl)|(simp only [Instr.field,go_sem, *]; rfl)
 rotate_left
 ·simp only [Act.put,lS,lZ,lC,i64_w,i32_w]
  rfl
 refine take_ (i:=1) (N:=some 16) (v:=?_) (a':=?_) #[tT,tT,tT,fF,tT,fF,tT,fF,tT,fF,tT,fF,tT,fF,tT,fF,fF,fF] rfl rfl (take_ofW HT_.out HW_.out (by kernel_rfl)) (fun _ _ _ h => h) (Or.inl ⟨by rfl,?_⟩) hHeld ?_ ?_
 rotate_left
 ·rintro w' ⟨s0,s1,s2,s3⟩
  go_simp
  first|(with_reducible rfl)|(simp only [Instr.field,go_sem, *]; rfl)
 rotate_left
 ·simp only [Act.put,lS,lZ,lC,i64_w,i32_w]
  rfl
 refine pure_ (i:=3) (N:=some 18) (v:=?_) (a':=?_) #[tT,tT,tT,tT,tT,fF,tT,fF,tT,fF,tT,fF,tT,fF,tT,fF,fF,fF] rfl rfl (any_of HT_.out (by kernel_rfl)) (fun _ _ _ h => h) (Or.inl ⟨by rfl,?_⟩) ?_ ?_
 rotate_left
 ·intro w'
  go_simp
  first|(with_reducible rfl)|(simp only [Instr.field,go_sem, *]; rfl)
 rotate_left
 ·simp only [Act.put,lS,lZ,lC,i64_w,i32_w]
  rfl
 refine take_ (i:=5) (N:=some 20) (v:=?_) (a':=?_) #[tT,tT,tT,tT,tT,tT,tT,fF,tT,fF,tT,fF,tT,fF,tT,fF,fF,fF] rfl rfl (take_ofW HT_.out HW_.out (by kernel_rfl)) (fun _ _ _ h => h) (Or.inl ⟨by rfl,?_⟩) hHeld ?_ ?_
 rotate_left
 ·rintro w' ⟨s0,s1,s2,s3⟩
  go_simp
  first|(with_reducible rfl)|(simp only [Instr.field,go_sem, *]; rfl)
 rotate_left
 ·simp only [Act.put,lS,lZ,lC,i64_w,i32_w]
  rfl
 refine pure_ (i:=7) (N:=some 22) (v:=?_) (a':=?_) #[tT,tT,tT,tT,tT,tT,tT,tT,tT,fF,tT,fF,tT,fF,tT,fF,fF,fF] rfl rfl (any_of HT_.out (by kernel_rfl)) (fun _ _ _ h => h) (Or.inl ⟨by rfl,?_⟩) ?_ ?_
 rotate_left
 ·intro w'
  go_simp
  first|(with_reducible rfl)|(simp only [Instr.field,go_sem, *]; rfl)
 rotate_left
 ·simp only [Act.put,lS,lZ,lC,i64_w,i32_w]
  rfl
 refine take_ (i:=9) (N:=some 24) (v:=?_) (a':=?_) #[tT,tT,tT,tT,tT,tT,tT,tT,tT,tT,tT,fF,tT,fF,tT,fF,fF,fF] rfl rfl (take_ofW HT_.out HW_.out (by kernel_rfl)) (fun _ _ _ h => h) (Or.inl ⟨by rfl,?_⟩) hHeld ?_ ?_
 rotate_left
 ·rintro w' ⟨s0,s1,s2,s3⟩
  go_simp
  first|(with_reducible rfl)|(simp only [Instr.field,go_sem, *]; rfl)
 rotate_left
 ·simp only [Act.put,lS,lZ,lC,i64_w,i32_w]
  rfl
 refine pure_ (i:=11) (N:=some 26) (v:=?_) (a':=?_) #[tT,tT,tT,tT,tT,tT,tT,tT,tT,tT,tT,tT,tT,fF,tT,fF,fF,fF] rfl rfl (any_of HT_.out (by kernel_rfl)) (fun _ _ _ h => h) (Or.inl ⟨by rfl,?_⟩) ?_ ?_
 rotate_left
 ·intro w'
  go_simp
  first|(with_reducible rfl)|(simp only [Instr.field,go_sem, *]; rfl)
 rotate_left
 ·simp only [Act.put,lS,lZ,lC,i64_w,i32_w]
  rfl
 refine take_ (i:=13) (N:=some 28) (v:=?_) (a':=?_) #[tT,tT,tT,tT,tT,tT,tT,tT,tT,tT,tT,tT,tT,tT,tT,fF,fF,fF] rfl rfl (take_ofW HT_.out HW_.out (by kernel_rfl)) (fun _ _ _ h => h) (Or.inl ⟨by rfl,?_⟩) hHeld ?_ ?_
 rotate_left
 ·rintro w' ⟨s0,s1,s2,s3⟩
  go_simp
  first|(with_reducible rfl)|(simp only [Instr.field,go_sem, *]; rfl)
 rotate_left
 ·simp only [Act.put,lS,lZ,lC,i64_w,i32_w]
  rfl
 refine pure_ (i:=15) (N:=some 30) (v:=?_) (a':=?_) #[tT,tT,tT,tT,tT,tT,tT,tT,tT,tT,tT,tT,tT,tT,tT,tT,fF,fF] rfl rfl (any_of HT_.out (by kernel_rfl)) (fun _ _ _ h => h) (Or.inl ⟨by rfl,?_⟩) ?_ ?_
 rotate_left
 ·intro w'
  go_simp
  first|(with_reducible rfl)|(simp only [Instr.field,go_sem, *]; rfl)
 rotate_left
 ·simp only [Act.put,lS,lZ,lC,i64_w,i32_w]
  rfl
 refine pure_ (i:=16) (N:=some 31) (v:=?_) (a':=?_) #[tT,tT,tT,tT,tT,tT,tT,tT,tT,tT,tT,tT,tT,tT,tT,tT,tT,fF] rfl rfl (any_of HT_.out (by kernel_rfl)) (fun _ _ _ h => h) (Or.inl ⟨by rfl,?_⟩) ?_ ?_
 rotate_left
 ·intro w'
  go_simp
  first|(with_reducible rfl)|(simp only [Instr.field,go_sem, *]; rfl)
 rotate_left
 ·simp only [Act.put,lS,lZ,lC,i64_w,i32_w]
  rfl
 refine one_ (i:=17) (N:=none) #[tT,tT,tT,tT,tT,tT,tT,tT,tT,tT,tT,tT,tT,tT,tT,tT,tT,tT] rfl rfl (one_of HT_.out (by kernel_rfl)) (by decide) (fun K hK => ?_)
 have hs13 : w12.cell? ⟨gb129,0,none⟩ = some (.int .i64 0):=(kC BK129.out 0).trans rfl
 have hfs13:=blk_frozen BK129.out 0
 have hns13_0:=NB128_129.out
 have hms13_0:=NB129_128.out
 have hs14 : w12.cell? ⟨gb129,1,none⟩ = some (.int .i64 0):=(kC BK129.out 1).trans rfl
 have hfs14:=blk_frozen BK129.out 1
 have hns14_0:=NB128_129.out
 have hms14_0:=NB129_128.out
 have hs15 : w12.cell? ⟨gb129,2,none⟩ = some (.int .i64 0):=(kC BK129.out 2).trans rfl
 have hfs15:=blk_frozen BK129.out 2
 have hns15_0:=NB128_129.out
 have hms15_0:=NB129_128.out
 have hs16 : w12.cell? ⟨gb129,3,none⟩ = some (.int .i64 0):=(kC BK129.out 3).trans rfl
 have hfs16:=blk_frozen BK129.out 3
 have hns16_0:=NB128_129.out
 have hms16_0:=NB129_128.out
 refine skip_ (w1:=?_) (by rfl) rfl ?_ ?_
 rotate_left
 ·go_simp
  rfl
 refine hK.out _ _ ⟨((cell_far (p:=⟨gb129,_,none⟩) NB128_129.out _).trans (((cell_far (p:=⟨gb129,_,none⟩) NB128_129.out _).trans (((cell_far (p:=⟨gb129,_,none⟩) NB128_129.out _).trans (((cell_far (p:=⟨gb129,_,none⟩) NB128_129.out _).trans (hHeld.1)))))))),((cell_far (p:=⟨gb129,_,none⟩) NB128_129.out _).trans (((cell_far (p:=⟨gb129,_,none⟩) NB128_129.out _).trans (((cell_far (p:=⟨gb129,_,none⟩) NB128_129.out _).trans (((cell_far (p:=⟨gb129,_,none⟩) NB128_129.out _).trans (hHeld.2.1)))))))),((cell_far (p:=⟨gb129,_,none⟩) NB128_129.out _).trans (((cell_far (p:=⟨gb129,_,none⟩) NB128_129.out _).trans (((cell_far (p:=⟨gb129,_,none⟩) NB128_129.out _).trans (((cell_far (p:=⟨gb129,_,none⟩) NB128_129.out _).trans (hHeld.2.2.1)))))))),((cell_far (p:=⟨gb129,_,none⟩) NB128_129.out _).trans (((cell_far (p:=⟨gb129,_,none⟩) NB128_129.out _).trans (((cell_far (p:=⟨gb129,_,none⟩) NB128_129.out _).trans (((cell_far (p:=⟨gb129,_,none⟩) NB128_129.out _).trans (hHeld.2.2.2))))))))⟩ (fun hHeld => ?_)
 clear hK K
 refine done_ (done_of HT_.out (by kernel_rfl)) ?_
 try go_wp2
 refine bodyPost_ret (results_cell_row rfl _ _ gb129 50 #[.int .i64 (wrap64 (Int.tdiv a0_0 t132)),.int .i64 (wrap64 (Int.tdiv a0_1 t132)),.int .i64 (wrap64 (Int.tdiv a0_2 t132)),.int .i64 (wrap64 (Int.tdiv a0_3 t132))] (0,0) _ rfl (by (with_reducible repeat (first|refine kN ?_ _|refine kD ?_|refine kA ?_ _)); refine blk_put (cs:=#[.int .i64 (wrap64 (Int.tdiv a0_0 t132)),.int .i64 (wrap64 (Int.tdiv a0_1 t132)),.int .i64 (wrap64 (Int.tdiv a0_2 t132)),.int .i64 0]) ?_ 3 _ rfl; (with_reducible repeat (first|refine kN ?_ _|refine kD ?_|refine kA ?_ _)); refine blk_put (cs:=#[.int .i64 (wrap64 (Int.tdiv a0_0 t132)),.int .i64 (wrap64 (Int.tdiv a0_1 t132)),.int .i64 0,.int .i64 0]) ?_ 2 _ rfl; (with_reducible repeat (first|refine kN ?_ _|refine kD ?_|refine kA ?_ _)); refine blk_put (cs:=#[.int .i64 (wrap64 (Int.tdiv a0_0 t132)),.int .i64 0,.int .i64 0,.int .i64 0]) ?_ 1 _ rfl; (with_reducible repeat (first|refine kN ?_ _|refine kD ?_|refine kA ?_ _)); refine blk_put (cs:=#[.int .i64 0,.int .i64 0,.int .i64 0,.int .i64 0]) ?_ 0 _ rfl; (with_reducible repeat (first|refine kN ?_ _|refine kD ?_|refine kA ?_ _)); exact BK129.out) Try.underlying50 rfl (by kernel_rfl)) rfl ?_
 exact ⟨by first|rfl|(simp [errW_none,errW_some] <;> rfl)|(simp [*,errW_none,errW_some] <;> rfl),by repeat (first|(with_reducible first|exact HB.out|apply bA|apply bD|apply bE|refine bS ?_ GE128.out|refine bS ?_ GE129.out)|exact HB.out)⟩

/-! ### spec_l03Checked: function 68 -/
def spec_l03Checked.f (k : Nat) (a0_0 : Int) (a0_1 : Int) (a0_2 : Int) (a0_3 : Int) : Option (Int × Int × Int × Int × Bool):=(spec_l03Simple.f k a0_0 a0_1 a0_2 a0_3).bind fun bt135 => ((spec_IntervalOk.f bt135.1 bt135.2.1 bt135.2.2.1 bt135.2.2.2).bind fun t140 => (if t140 = true then (some (bt135.1,bt135.2.1,bt135.2.2.1,bt135.2.2.2,true)) else (some (0,0,0,0,false))))
theorem spec_l03Checked.mono : ∀ a0 a1 a2 a3 k,LeO (spec_l03Checked.f k a0 a1 a2 a3) (spec_l03Checked.f (k + 1) a0 a1 a2 a3):=by
 intro a0 a1 a2 a3 k
 unfold spec_l03Checked.f
 repeat' first
   | (with_reducible exact spec_l03Simple.mono _ _ _ _ _)
   | (with_reducible exact LeO.refl _)
   | (with_reducible exact LeO.none _)
   | (with_reducible refine LeO.ite ?_ ?_)
   | (with_reducible refine LeO.bind ?_ (fun _ => ?_))
   | exact spec_l03Simple.mono _ _ _ _ _
   | exact LeO.none _
   | refine LeO.ite ?_ ?_
   | refine LeO.bind ?_ (fun _ => ?_)
set_option maxHeartbeats 8000000 in
set_option maxRecDepth 100000 in
theorem spec_l03Checked.calls (k : Nat) (a0_0 : Int) (a0_1 : Int) (a0_2 : Int) (a0_3 : Int) (r1 : Int) (r2 : Int) (r3 : Int) (r4 : Int) (r5 : Bool) (w : World) (h : spec_l03Checked.f k a0_0 a0_1 a0_2 a0_3 = some (r1,r2,r3,r4,r5)) :
  Calls Try.prog 68 #[.agg #[.int .i64 a0_0,.int .i64 a0_1,.int .i64 a0_2,.int .i64 a0_3]] w fun e w' => e = .returned (.tuple #[.agg #[.int .i64 r1,.int .i64 r2,.int .i64 r3,.int .i64 r4],.bool r5]) ∧ Below w.heap.size w w':=by
 have hu50:=Try.underlying50
 have HB:=Aside0.mk (Below.refl w.heap.size w)
 have H : ((spec_l03Simple.f k a0_0 a0_1 a0_2 a0_3).bind fun bt135 => ((spec_IntervalOk.f bt135.1 bt135.2.1 bt135.2.2.1 bt135.2.2.2).bind fun t140 => (if t140 = true then (some (bt135.1,bt135.2.1,bt135.2.2.1,bt135.2.2.2,true)) else (some (0,0,0,0,false))))) = some (r1,r2,r3,r4,r5):=h
 clear h
 replace H:=Option.bind_eq_some_iff.mp H
 obtain ⟨⟨t135,t136,t137,t138⟩,A20,H⟩:=H
 replace H : ((spec_IntervalOk.f t135 t136 t137 t138).bind fun t140 => (if t140 = true then (some (t135,t136,t137,t138,true)) else (some (0,0,0,0,false)))) = some (r1,r2,r3,r4,r5):=H
 have A2:=Aside0.mk A20
 clear A20
 replace H:=Option.bind_eq_some_iff.mp H
 obtain ⟨t140,A30,H⟩:=H
 replace H : (if t140 = true then (some (t135,t136,t137,t138,true)) else (some (0,0,0,0,false))) = some (r1,r2,r3,r4,r5):=H
 have A3:=Aside0.mk A30
 clear A30
 by_cases c4 : t140 = true
 ·subst c4
  have H1 : (some (t135,t136,t137,t138,true)) = some (r1,r2,r3,r4,r5):=by rw [if_pos rfl] at H; exact H
  clear H
  have H:=H1
  clear H1
  simp only [Option.some.injEq,Prod.mk.injEq] at H
  obtain ⟨rfl,rfl,rfl,rfl,rfl⟩:=H
  go_enter Try.func68,Try.ntmps68
  go_wp2_with (first|((with_reducible refine gate_dst (N:=1) rfl ?_); refine box_event ?hg (N:=1) ?hd (cs:=#[.int .i64 a0_0,.int .i64 a0_1,.int .i64 a0_2,.int .i64 a0_3]) (t:=50) ?hr ?_; (case hd => rfl); (case hg => rfl); (case hr => first|(go_simp; done)|(go_simp; rfl)); intro gb133 hg w5 hbox hb; have n0_:=Aside0.mk (below_step (by repeat (first|(with_reducible first|exact HB.out|apply bA|apply bD|apply bE)|exact HB.out)) hb); have n1_:=Aside0.mk (hbox); have n2_:=Aside0.mk ((by rw [hg]; exact (below_size (by repeat (first|(with_reducible first|exact HB.out|apply bA|apply bD|apply bE)|exact HB.out))) : w.heap.size ≤ gb133)); have n3_:=Aside0.mk ((by rw [hg]; exact (below_size (by repeat (first|(with_reducible first|exact HB.out|apply bA|apply bD|apply bE)|exact HB.out))) : w.heap.size ≤ gb133)); clear HB; have HB:=n0_; have BK133:=n1_; have GW133:=n2_; have GE133:=n3_; clear n0_ n1_ n2_ n3_; clear hb hbox hg)|((with_reducible refine gate_dst (N:=2) rfl ?_); refine box_event ?hg (N:=2) ?hd (cs:=#[.int .i64 0,.int .i64 0,.int .i64 0,.int .i64 0]) (t:=50) ?hr ?_; (case hd => rfl); (case hg => rfl); (case hr => first|(go_simp; done)|(go_simp; rfl)); intro gb134 hg w6 hbox hb; have n0_:=Aside0.mk (kB (g:=gb133) (o:=.cells #[.int .i64 a0_0,.int .i64 a0_1,.int .i64 a0_2,.int .i64 a0_3] 50 (0,0)) (by (with_reducible repeat (first|refine kN ?_ _|refine kD ?_|refine kA ?_ _)); exact BK133.out) hb); have n1_:=Aside0.mk (below_step (by repeat (first|(with_reducible first|exact HB.out|apply bA|apply bD|apply bE|refine bS ?_ GE133.out)|exact HB.out)) hb); have n2_:=Aside0.mk (hbox); have n3_:=Aside0.mk ((by rw [hg]; exact (below_size (by repeat (first|(with_reducible first|exact HB.out|apply bA|apply bD|apply bE|refine bS ?_ GE133.out)|exact HB.out))) : w.heap.size ≤ gb134)); have n4_:=Aside0.mk ((by rw [hg]; exact (below_size (by repeat (first|(with_reducible first|exact HB.out|apply bA|apply bD|apply bE|refine bS ?_ GE133.out)|exact HB.out))) : w.heap.size ≤ gb134)); have n5_:=Aside0.mk ((by rw [hg]; exact Nat.ne_of_lt (blk_lt (g:=gb133) (o:=.cells #[.int .i64 a0_0,.int .i64 a0_1,.int .i64 a0_2,.int .i64 a0_3] 50 (0,0)) (by (with_reducible repeat (first|refine kN ?_ _|refine kD ?_|refine kA ?_ _)); exact BK133.out)) : gb133 ≠ gb134)); have n6_:=Aside0.mk ((by rw [hg]; exact Nat.ne_of_gt (blk_lt (g:=gb133) (o:=.cells #[.int .i64 a0_0,.int .i64 a0_1,.int .i64 a0_2,.int .i64 a0_3] 50 (0,0)) (by (with_reducible repeat (first|refine kN ?_ _|refine kD ?_|refine kA ?_ _)); exact BK133.out)) : gb134 ≠ gb133)); clear BK133; clear HB; have BK133:=n0_; have HB:=n1_; have BK134:=n2_; have GW134:=n3_; have GE134:=n4_; have NB133_134:=n5_; have NB134_133:=n6_; clear n0_ n1_ n2_ n3_ n4_ n5_ n6_; clear hb hbox hg; have hnb7:=NB133_134.out; have hnc7:=NB134_133.out; have hcz8_0 : w6.cell? ⟨gb133,0,none⟩ = some (.int .i64 a0_0):=(kC BK133.out 0).trans rfl; have hcz8_1 : w6.cell? ⟨gb133,1,none⟩ = some (.int .i64 a0_1):=(kC BK133.out 1).trans rfl; have hcz8_2 : w6.cell? ⟨gb133,2,none⟩ = some (.int .i64 a0_2):=(kC BK133.out 2).trans rfl; have hcz8_3 : w6.cell? ⟨gb133,3,none⟩ = some (.int .i64 a0_3):=(kC BK133.out 3).trans rfl; have hfz8_0:=blk_frozen BK133.out 0; have hfz8_1:=blk_frozen BK133.out 1; have hfz8_2:=blk_frozen BK133.out 2; have hfz8_3:=blk_frozen BK133.out 3)|((with_reducible refine gate_callee (f:=70) rfl ?_); refine goesL_ (some 6) rfl rfl Try.func70 (by kernel_rfl) rfl #[.agg #[.int .i64 a0_0,.int .i64 a0_1,.int .i64 a0_2,.int .i64 a0_3]] rfl (by (try simp only [List.map_toArray,List.map_cons,List.map_nil]); first|done|rfl|(simp only [List.length_drop,List.length_take]; rfl)) ?_; (with_reducible refine (spec_l03Simple.calls k a0_0 a0_1 a0_2 a0_3 t135 t136 t137 t138 _ A2.out).mono ?_); rintro e w9 ⟨rfl,hb⟩; refine ⟨_,rfl,?_⟩; have n0_:=Aside0.mk (kB (g:=gb133) (o:=.cells #[.int .i64 a0_0,.int .i64 a0_1,.int .i64 a0_2,.int .i64 a0_3] 50 (0,0)) (by (with_reducible repeat (first|refine kN ?_ _|refine kD ?_|refine kA ?_ _)); exact BK133.out) hb); have n1_:=Aside0.mk (kB (g:=gb134) (o:=.cells #[.int .i64 0,.int .i64 0,.int .i64 0,.int .i64 0] 50 (0,0)) (by (with_reducible repeat (first|refine kN ?_ _|refine kD ?_|refine kA ?_ _)); exact BK134.out) hb); have n2_:=Aside0.mk (below_step (by repeat (first|(with_reducible first|exact HB.out|apply bA|apply bD|apply bE|refine bS ?_ GE133.out|refine bS ?_ GE134.out)|exact HB.out)) hb); clear BK133; clear BK134; clear HB; have BK133:=n0_; have BK134:=n1_; have HB:=n2_; clear n0_ n1_ n2_; (try clear hb); (try clear hb2); (try clear hk); (try clear hi))|((with_reducible refine gate_dst (N:=4) rfl ?_); refine box_event ?hg (N:=4) ?hd (cs:=#[.int .i64 0,.int .i64 0,.int .i64 0,.int .i64 0]) (t:=50) ?hr ?_; (case hd => rfl); (case hg => rfl); (case hr => first|(go_simp; done)|(go_simp; rfl)); intro gb139 hg w10 hbox hb; have n0_:=Aside0.mk (kB (g:=gb133) (o:=.cells #[.int .i64 a0_0,.int .i64 a0_1,.int .i64 a0_2,.int .i64 a0_3] 50 (0,0)) (by (with_reducible repeat (first|refine kN ?_ _|refine kD ?_|refine kA ?_ _)); exact BK133.out) hb); have n1_:=Aside0.mk (kB (g:=gb134) (o:=.cells #[.int .i64 0,.int .i64 0,.int .i64 0,.int .i64 0] 50 (0,0)) (by (with_reducible repeat (first|refine kN ?_ _|refine kD ?_|refine kA ?_ _)); exact BK134.out) hb); have n2_:=Aside0.mk (below_step (by repeat (first|(with_reducible first|exact HB.out|apply bA|apply bD|apply bE|refine bS ?_ GE133.out|refine bS ?_ GE134.out)|exact HB.out)) hb); have n3_:=Aside0.mk (hbox); have n4_:=Aside0.mk ((by rw [hg]; exact (below_size (by repeat (first|(with_reducible first|exact HB.out|apply bA|apply bD|apply bE|refine bS ?_ GE133.out|refine bS ?_ GE134.out)|exact HB.out))) : w.heap.size ≤ gb139)); have n5_:=Aside0.mk ((by rw [hg]; exact (below_size (by repeat (first|(with_reducible first|exact HB.out|apply bA|apply bD|apply bE|refine bS ?_ GE133.out|refine bS ?_ GE134.out)|exact HB.out))) : w.heap.size ≤ gb139)); have n6_:=Aside0.mk ((by rw [hg]; exact Nat.ne_of_lt (blk_lt (g:=gb133) (o:=.cells #[.int .i64 a0_0,.int .i64 a0_1,.int .i64 a0_2,.int .i64 a0_3] 50 (0,0)) (by (with_reducible repeat (first|refine kN ?_ _|refine kD ?_|refine kA ?_ _)); exact BK133.out)) : gb133 ≠ gb139)); have n7_:=Aside0.mk ((by rw [hg]; exact Nat.ne_of_gt (blk_lt (g:=gb133) (o:=.cells #[.int .i64 a0_0,.int .i64 a0_1,.int .i64 a0_2,.int .i64 a0_3] 50 (0,0)) (by (with_reducible repeat (first|refine kN ?_ _|refine kD ?_|refine kA ?_ _)); exact BK133.out)) : gb139 ≠ gb133)); have n8_:=Aside0.mk ((by rw [hg]; exact Nat.ne_of_lt (blk_lt (g:=gb134) (o:=.cells #[.int .i64 0,.int .i64 0,.int .i64 0,.int .i64 0] 50 (0,0)) (by (with_reducible repeat (first|refine kN ?_ _|refine kD ?_|refine kA ?_ _)); exact BK134.out)) : gb134 ≠ gb139)); have n9_:=Aside0.mk ((by rw [hg]; exact Nat.ne_of_gt (blk_lt (g:=gb134) (o:=.cells #[.int .i64 0,.int .i64 0,.int .i64 0,.int .i64 0] 50 (0,0)) (by (with_reducible repeat (first|refine kN ?_ _|refine kD ?_|refine kA ?_ _)); exact BK134.out)) : gb139 ≠ gb134)); clear BK133; clear BK134; clear HB; have BK133:=n0_; have BK134:=n1_; have HB:=n2_; have BK139:=n3_; have GW139:=n4_; have GE139:=n5_; have NB133_139:=n6_; have NB139_133:=n7_; have NB134_139:=n8_; have NB139_134:=n9_; clear n0_ n1_ n2_ n3_ n4_ n5_ n6_ n7_ n8_ n9_; clear hb hbox hg; have hnb11:=NB139_133.out; have hnc11:=NB133_139.out; have hnb12:=NB139_134.out; have hnc12:=NB134_139.out; have hcz13_0 : w10.cell? ⟨gb139,0,none⟩ = some (.int .i64 0):=(kC BK139.out 0).trans rfl; have hcz13_1 : w10.cell? ⟨gb139,1,none⟩ = some (.int .i64 0):=(kC BK139.out 1).trans rfl; have hcz13_2 : w10.cell? ⟨gb139,2,none⟩ = some (.int .i64 0):=(kC BK139.out 2).trans rfl; have hcz13_3 : w10.cell? ⟨gb139,3,none⟩ = some (.int .i64 0):=(kC BK139.out 3).trans rfl; have hfz13_0:=blk_frozen BK139.out 0; have hfz13_1:=blk_frozen BK139.out 1; have hfz13_2:=blk_frozen BK139.out 2; have hfz13_3:=blk_frozen BK139.out 3)|((with_reducible refine gate_callee (f:=67) rfl ?_); refine goesL_ (some 8) rfl rfl Try.func67 (by kernel_rfl) rfl #[.agg #[.int .i64 t135,.int .i64 t136,.int .i64 t137,.int .i64 t138]] rfl (by (try simp only [List.map_toArray,List.map_cons,List.map_nil]); first|done|rfl|(simp only [List.length_drop,List.length_take]; rfl)) ?_; (with_reducible refine (spec_IntervalOk.calls t135 t136 t137 t138 true _ A3.out).mono ?_); rintro e w14 ⟨rfl,hb⟩; refine ⟨_,rfl,?_⟩; have n0_:=Aside0.mk (kB (g:=gb133) (o:=.cells #[.int .i64 a0_0,.int .i64 a0_1,.int .i64 a0_2,.int .i64 a0_3] 50 (0,0)) (by (with_reducible repeat (first|refine kN ?_ _|refine kD ?_|refine kA ?_ _)); refine blk_far ?_ NB133_139.out _; (with_reducible repeat (first|refine kN ?_ _|refine kD ?_|refine kA ?_ _)); refine blk_far ?_ NB133_139.out _; (with_reducible repeat (first|refine kN ?_ _|refine kD ?_|refine kA ?_ _)); refine blk_far ?_ NB133_139.out _; (with_reducible repeat (first|refine kN ?_ _|refine kD ?_|refine kA ?_ _)); refine blk_far ?_ NB133_139.out _; (with_reducible repeat (first|refine kN ?_ _|refine kD ?_|refine kA ?_ _)); exact BK133.out) hb); have n1_:=Aside0.mk (kB (g:=gb134) (o:=.cells #[.int .i64 0,.int .i64 0,.int .i64 0,.int .i64 0] 50 (0,0)) (by (with_reducible repeat (first|refine kN ?_ _|refine kD ?_|refine kA ?_ _)); refine blk_far ?_ NB134_139.out _; (with_reducible repeat (first|refine kN ?_ _|refine kD ?_|refine kA ?_ _)); refine blk_far ?_ NB134_139.out _; (with_reducible repeat (first|refine kN ?_ _|refine kD ?_|refine kA ?_ _)); refine blk_far ?_ NB134_139.out _; (with_reducible repeat (first|refine kN ?_ _|refine kD ?_|refine kA ?_ _)); refine blk_far ?_ NB134_139.out _; (with_reducible repeat (first|refine kN ?_ _|refine kD ?_|refine kA ?_ _)); exact BK134.out) hb); have n2_:=Aside0.mk (kB (g:=gb139) (o:=.cells #[.int .i64 t135,.int .i64 t136,.int .i64 t137,.int .i64 t138] 50 (0,0)) (by (with_reducible repeat (first|refine kN ?_ _|refine kD ?_|refine kA ?_ _)); refine blk_put (cs:=#[.int .i64 t135,.int .i64 t136,.int .i64 t137,.int .i64 0]) ?_ 3 _ rfl; (with_reducible repeat (first|refine kN ?_ _|refine kD ?_|refine kA ?_ _)); refine blk_put (cs:=#[.int .i64 t135,.int .i64 t136,.int .i64 0,.int .i64 0]) ?_ 2 _ rfl; (with_reducible repeat (first|refine kN ?_ _|refine kD ?_|refine kA ?_ _)); refine blk_put (cs:=#[.int .i64 t135,.int .i64 0,.int .i64 0,.int .i64 0]) ?_ 1 _ rfl; (with_reducible repeat (first|refine kN ?_ _|refine kD ?_|refine kA ?_ _)); refine blk_put (cs:=#[.int .i64 0,.int .i64 0,.int .i64 0,.int .i64 0]) ?_ 0 _ rfl; (with_reducible repeat (first|refine kN ?_ _|refine kD ?_|refine kA ?_ _)); exact BK139.out) hb); have n3_:=Aside0.mk (below_step (by repeat (first|(with_reducible first|exact HB.out|apply bA|apply bD|apply bE|refine bS ?_ GE133.out|refine bS ?_ GE134.out|refine bS ?_ GE139.out)|exact HB.out)) hb); clear BK133; clear BK134; clear BK139; clear HB; have BK133:=n0_; have BK134:=n1_; have BK139:=n2_; have HB:=n3_; clear n0_ n1_ n2_ n3_; (try clear hb); (try clear hb2); (try clear hk); (try clear hi); have hcz15_0 : w14.cell? ⟨gb139,0,none⟩ = some (.int .i64 t135):=(kC BK139.out 0).trans rfl; have hcz15_1 : w14.cell? ⟨gb139,1,none⟩ = some (.int .i64 t136):=(kC BK139.out 1).trans rfl; have hcz15_2 : w14.cell? ⟨gb139,2,none⟩ = some (.int .i64 t137):=(kC BK139.out 2).trans rfl; have hcz15_3 : w14.cell? ⟨gb139,3,none⟩ = some (.int .i64 t138):=(kC BK139.out 3).trans rfl; have hfz15_0:=blk_frozen BK139.out 0; have hfz15_1:=blk_frozen BK139.out 1; have hfz15_2:=blk_frozen BK139.out 2; have hfz15_3:=blk_frozen BK139.out 3; have hcz16_0 : w14.cell? ⟨gb134,0,none⟩ = some (.int .i64 0):=(kC BK134.out 0).trans rfl; have hcz16_1 : w14.cell? ⟨gb134,1,none⟩ = some (.int .i64 0):=(kC BK134.out 1).trans rfl; have hcz16_2 : w14.cell? ⟨gb134,2,none⟩ = some (.int .i64 0):=(kC BK134.out 2).trans rfl; have hcz16_3 : w14.cell? ⟨gb134,3,none⟩ = some (.int .i64 0):=(kC BK134.out 3).trans rfl; have hfz16_0:=blk_frozen BK134.out 0; have hfz16_1:=blk_frozen BK134.out 1; have hfz16_2:=blk_frozen BK134.out 2; have hfz16_3:=blk_frozen BK134.out 3))
  refine bodyPost_ret (results_ct rfl _ _ gb134 50 #[.int .i64 t135,.int .i64 t136,.int .i64 t137,.int .i64 t138] (0,0) _ rfl (by (with_reducible repeat (first|refine kN ?_ _|refine kD ?_|refine kA ?_ _)); refine blk_put (cs:=#[.int .i64 t135,.int .i64 t136,.int .i64 t137,.int .i64 0]) ?_ 3 _ rfl; (with_reducible repeat (first|refine kN ?_ _|refine kD ?_|refine kA ?_ _)); refine blk_put (cs:=#[.int .i64 t135,.int .i64 t136,.int .i64 0,.int .i64 0]) ?_ 2 _ rfl; (with_reducible repeat (first|refine kN ?_ _|refine kD ?_|refine kA ?_ _)); refine blk_put (cs:=#[.int .i64 t135,.int .i64 0,.int .i64 0,.int .i64 0]) ?_ 1 _ rfl; (with_reducible repeat (first|refine kN ?_ _|refine kD ?_|refine kA ?_ _)); refine blk_put (cs:=#[.int .i64 0,.int .i64 0,.int .i64 0,.int .i64 0]) ?_ 0 _ rfl; (with_reducible repeat (first|refine kN ?_ _|refine kD ?_|refine kA ?_ _)); exact BK134.out) Try.underlying50 rfl (by kernel_rfl)) rfl ?_
  exact ⟨by first|rfl|(simp [errW_none,errW_some] <;> rfl)|(simp [*,errW_none,errW_some] <;> rfl),by repeat (first|(with_reducible first|exact HB.out|apply bA|apply bD|apply bE|refine bS ?_ GE133.out|refine bS ?_ GE134.out|refine bS ?_ GE139.out)|exact HB.out)⟩
 replace c4:=Bool.eq_false_iff.mpr c4
 subst c4
 have H1 : (some (0,0,0,0,false)) = some (r1,r2,r3,r4,r5):=by rw [if_neg (show ¬ (false = true) by decide)] at H; exact H
 clear H
 have H:=H1
 clear H1
 simp only [Option.some.injEq,Prod.mk.injEq] at H
 obtain ⟨rfl,rfl,rfl,rfl,rfl⟩:=H
 go_enter Try.func68,Try.ntmps68
 go_wp2_with (first|((with_reducible refine gate_dst (N:=1) rfl ?_); refine box_event ?hg (N:=1) ?hd (cs:=#[.int .i64 a0_0,.int .i64 a0_1,.int .i64 a0_2,.int .i64 a0_3]) (t:=50) ?hr ?_; (case hd => rfl); (case hg => rfl); (case hr => first|(go_simp; done)|(go_simp; rfl)); intro gb133 hg w17 hbox hb; have n0_:=Aside0.mk (below_step (by repeat (first|(with_reducible first|exact HB.out|apply bA|apply bD|apply bE)|exact HB.out)) hb); have n1_:=Aside0.mk (hbox); have n2_:=Aside0.mk ((by rw [hg]; exact (below_size (by repeat (first|(with_reducible first|exact HB.out|apply bA|apply bD|apply bE)|exact HB.out))) : w.heap.size ≤ gb133)); have n3_:=Aside0.mk ((by rw [hg]; exact (below_size (by repeat (first|(with_reducible first|exact HB.out|apply bA|apply bD|apply bE)|exact HB.out))) : w.heap.size ≤ gb133)); clear HB; have HB:=n0_; have BK133:=n1_; have GW133:=n2_; have GE133:=n3_; clear n0_ n1_ n2_ n3_; clear hb hbox hg)|((with_reducible refine gate_dst (N:=2) rfl ?_); refine box_event ?hg (N:=2) ?hd (cs:=#[.int .i64 0,.int .i64 0,.int .i64 0,.int .i64 0]) (t:=50) ?hr ?_; (case hd => rfl); (case hg => rfl); (case hr => first|(go_simp; done)|(go_simp; rfl)); intro gb134 hg w18 hbox hb; have n0_:=Aside0.mk (kB (g:=gb133) (o:=.cells #[.int .i64 a0_0,.int .i64 a0_1,.int .i64 a0_2,.int .i64 a0_3] 50 (0,0)) (by (with_reducible repeat (first|refine kN ?_ _|refine kD ?_|refine kA ?_ _)); exact BK133.out) hb); have n1_:=Aside0.mk (below_step (by repeat (first|(with_reducible first|exact HB.out|apply bA|apply bD|apply bE|refine bS ?_ GE133.out)|exact HB.out)) hb); have n2_:=Aside0.mk (hbox); have n3_:=Aside0.mk ((by rw [hg]; exact (below_size (by repeat (first|(with_reducible first|exact HB.out|apply bA|apply bD|apply bE|refine bS ?_ GE133.out)|exact HB.out))) : w.heap.size ≤ gb134)); have n4_:=Aside0.mk ((by rw [hg]; exact (below_size (by repeat (first|(with_reducible first|exact HB.out|apply bA|apply bD|apply bE|refine bS ?_ GE133.out)|exact HB.out))) : w.heap.size ≤ gb134)); have n5_:=Aside0.mk ((by rw [hg]; exact Nat.ne_of_lt (blk_lt (g:=gb133) (o:=.cells #[.int .i64 a0_0,.int .i64 a0_1,.int .i64 a0_2,.int .i64 a0_3] 50 (0,0)) (by (with_reducible repeat (first|refine kN ?_ _|refine kD ?_|refine kA ?_ _)); exact BK133.out)) : gb133 ≠ gb134)); have n6_:=Aside0.mk ((by rw [hg]; exact Nat.ne_of_gt (blk_lt (g:=gb133) (o:=.cells #[.int .i64 a0_0,.int .i64 a0_1,.int .i64 a0_2,.int .i64 a0_3] 50 (0,0)) (by (with_reducible repeat (first|refine kN ?_ _|refine kD ?_|refine kA ?_ _)); exact BK133.out)) : gb134 ≠ gb133)); clear BK133; clear HB; have BK133:=n0_; have HB:=n1_; have BK134:=n2_; have GW134:=n3_; have GE134:=n4_; have NB133_134:=n5_; have NB134_133:=n6_; clear n0_ n1_ n2_ n3_ n4_ n5_ n6_; clear hb hbox hg; have hnb19:=NB133_134.out; have hnc19:=NB134_133.out; have hcz20_0 : w18.cell? ⟨gb133,0,none⟩ = some (.int .i64 a0_0):=(kC BK133.out 0).trans rfl; have hcz20_1 : w18.cell? ⟨gb133,1,none⟩ = some (.int .i64 a0_1):=(kC BK133.out 1).trans rfl; have hcz20_2 : w18.cell? ⟨gb133,2,none⟩ = some (.int .i64 a0_2):=(kC BK133.out 2).trans rfl; have hcz20_3 : w18.cell? ⟨gb133,3,none⟩ = some (.int .i64 a0_3):=(kC BK133.out 3).trans rfl; have hfz20_0:=blk_frozen BK133.out 0; have hfz20_1:=blk_frozen BK133.out 1; have hfz20_2:=blk_frozen BK133.out 2; have hfz20_3:=blk_frozen BK133.out 3)|((with_reducible refine gate_callee (f:=70) rfl ?_); refine goesL_ (some 6) rfl rfl Try.func70 (by kernel_rfl) rfl #[.agg #[.int .i64 a0_0,.int .i64 a0_1,.int .i64 a0_2,.int .i64 a0_3]] rfl (by (try simp only [List.map_toArray,List.map_cons,List.map_nil]); first|done|rfl|(simp only [List.length_drop,List.length_take]; rfl)) ?_; (with_reducible refine (spec_l03Simple.calls k a0_0 a0_1 a0_2 a0_3 t135 t136 t137 t138 _ A2.out).mono ?_); rintro e w21 ⟨rfl,hb⟩; refine ⟨_,rfl,?_⟩; have n0_:=Aside0.mk (kB (g:=gb133) (o:=.cells #[.int .i64 a0_0,.int .i64 a0_1,.int .i64 a0_2,.int .i64 a0_3] 50 (0,0)) (by (with_reducible repeat (first|refine kN ?_ _|refine kD ?_|refine kA ?_ _)); exact BK133.out) hb); have n1_:=Aside0.mk (kB (g:=gb134) (o:=.cells #[.int .i64 0,.int .i64 0,.int .i64 0,.int .i64 0] 50 (0,0)) (by (with_reducible repeat (first|refine kN ?_ _|refine kD ?_|refine kA ?_ _)); exact BK134.out) hb); have n2_:=Aside0.mk (below_step (by repeat (first|(with_reducible first|exact HB.out|apply bA|apply bD|apply bE|refine bS ?_ GE133.out|refine bS ?_ GE134.out)|exact HB.out)) hb); clear BK133; clear BK134; clear HB; have BK133:=n0_; have BK134:=n1_; have HB:=n2_; clear n0_ n1_ n2_; (try clear hb); (try clear hb2); (try clear hk); (try clear hi))|((with_reducible refine gate_dst (N:=4) rfl ?_); refine box_event ?hg (N:=4) ?hd (cs:=#[.int .i64 0,.int .i64 0,.int .i64 0,.int .i64 0]) (t:=50) ?hr ?_; (case hd => rfl); (case hg => rfl); (case hr => first|(go_simp; done)|(go_simp; rfl)); intro gb139 hg w22 hbox hb; have n0_:=Aside0.mk (kB (g:=gb133) (o:=.cells #[.int .i64 a0_0,.int .i64 a0_1,.int .i64 a0_2,.int .i64 a0_3] 50 (0,0)) (by (with_reducible repeat (first|refine kN ?_ _|refine kD ?_|refine kA ?_ _)); exact BK133.out) hb); have n1_:=Aside0.mk (kB (g:=gb134) (o:=.cells #[.int .i64 0,.int .i64 0,.int .i64 0,.int .i64 0] 50 (0,0)) (by (with_reducible repeat (first|refine kN ?_ _|refine kD ?_|refine kA ?_ _)); exact BK134.out) hb); have n2_:=Aside0.mk (below_step (by repeat (first|(with_reducible first|exact HB.out|apply bA|apply bD|apply bE|refine bS ?_ GE133.out|refine bS ?_ GE134.out)|exact HB.out)) hb); have n3_:=Aside0.mk (hbox); have n4_:=Aside0.mk ((by rw [hg]; exact (below_size (by repeat (first|(with_reducible first|exact HB.out|apply bA|apply bD|apply bE|refine bS ?_ GE133.out|refine bS ?_ GE134.out)|exact HB.out))) : w.heap.size ≤ gb139)); have n5_:=Aside0.mk ((by rw [hg]; exact (below_size (by repeat (first|(with_reducible first|exact HB.out|apply bA|apply bD|apply bE|refine bS ?_ GE133.out|refine bS ?_ GE134.out)|exact HB.out))) : w.heap.size ≤ gb139)); have n6_:=Aside0.mk ((by rw [hg]; exact Nat.ne_of_lt (blk_lt (g:=gb133) (o:=.cells #[.int .i64 a0_0,.int .i64 a0_1,.int .i64 a0_2,.int .i64 a0_3] 50 (0,0)) (by (with_reducible repeat (first|refine kN ?_ _|refine kD ?_|refine kA ?_ _)); exact BK133.out)) : gb133 ≠ gb139)); have n7_:=Aside0.mk ((by rw [hg]; exact Nat.ne_of_gt (blk_lt (g:=gb133) (o:=.cells #[.int .i64 a0_0,.int .i64 a0_1,.int .i64 a0_2,.int .i64 a0_3] 50 (0,0)) (by (with_reducible repeat (first|refine kN ?_ _|refine kD ?_|refine kA ?_ _)); exact BK133.out)) : gb139 ≠ gb133)); have n8_:=Aside0.mk ((by rw [hg]; exact Nat.ne_of_lt (blk_lt (g:=gb134) (o:=.cells #[.int .i64 0,.int .i64 0,.int .i64 0,.int .i64 0] 50 (0,0)) (by (with_reducible repeat (first|refine kN ?_ _|refine kD ?_|refine kA ?_ _)); exact BK134.out)) : gb134 ≠ gb139)); have n9_:=Aside0.mk ((by rw [hg]; exact Nat.ne_of_gt (blk_lt (g:=gb134) (o:=.cells #[.int .i64 0,.int .i64 0,.int .i64 0,.int .i64 0] 50 (0,0)) (by (with_reducible repeat (first|refine kN ?_ _|refine kD ?_|refine kA ?_ _)); exact BK134.out)) : gb139 ≠ gb134)); clear BK133; clear BK134; clear HB; have BK133:=n0_; have BK134:=n1_; have HB:=n2_; have BK139:=n3_; have GW139:=n4_; have GE139:=n5_; have NB133_139:=n6_; have NB139_133:=n7_; have NB134_139:=n8_; have NB139_134:=n9_; clear n0_ n1_ n2_ n3_ n4_ n5_ n6_ n7_ n8_ n9_; clear hb hbox hg; have hnb23:=NB139_133.out; have hnc23:=NB133_139.out; have hnb24:=NB139_134.out; have hnc24:=NB134_139.out; have hcz25_0 : w22.cell? ⟨gb139,0,none⟩ = some (.int .i64 0):=(kC BK139.out 0).trans rfl; have hcz25_1 : w22.cell? ⟨gb139,1,none⟩ = some (.int .i64 0):=(kC BK139.out 1).trans rfl; have hcz25_2 : w22.cell? ⟨gb139,2,none⟩ = some (.int .i64 0):=(kC BK139.out 2).trans rfl; have hcz25_3 : w22.cell? ⟨gb139,3,none⟩ = some (.int .i64 0):=(kC BK139.out 3).trans rfl; have hfz25_0:=blk_frozen BK139.out 0; have hfz25_1:=blk_frozen BK139.out 1; have hfz25_2:=blk_frozen BK139.out 2; have hfz25_3:=blk_frozen BK139.out 3)|((with_reducible refine gate_callee (f:=67) rfl ?_); refine goesL_ (some 8) rfl rfl Try.func67 (by kernel_rfl) rfl #[.agg #[.int .i64 t135,.int .i64 t136,.int .i64 t137,.int .i64 t138]] rfl (by (try simp only [List.map_toArray,List.map_cons,List.map_nil]); first|done|rfl|(simp only [List.length_drop,List.length_take]; rfl)) ?_; (with_reducible refine (spec_IntervalOk.calls t135 t136 t137 t138 false _ A3.out).mono ?_); rintro e w26 ⟨rfl,hb⟩; refine ⟨_,rfl,?_⟩; have n0_:=Aside0.mk (kB (g:=gb133) (o:=.cells #[.int .i64 a0_0,.int .i64 a0_1,.int .i64 a0_2,.int .i64 a0_3] 50 (0,0)) (by (with_reducible repeat (first|refine kN ?_ _|refine kD ?_|refine kA ?_ _)); refine blk_far ?_ NB133_139.out _; (with_reducible repeat (first|refine kN ?_ _|refine kD ?_|refine kA ?_ _)); refine blk_far ?_ NB133_139.out _; (with_reducible repeat (first|refine kN ?_ _|refine kD ?_|refine kA ?_ _)); refine blk_far ?_ NB133_139.out _; (with_reducible repeat (first|refine kN ?_ _|refine kD ?_|refine kA ?_ _)); refine blk_far ?_ NB133_139.out _; (with_reducible repeat (first|refine kN ?_ _|refine kD ?_|refine kA ?_ _)); exact BK133.out) hb); have n1_:=Aside0.mk (kB (g:=gb134) (o:=.cells #[.int .i64 0,.int .i64 0,.int .i64 0,.int .i64 0] 50 (0,0)) (by (with_reducible repeat (first|refine kN ?_ _|refine kD ?_|refine kA ?_ _)); refine blk_far ?_ NB134_139.out _; (with_reducible repeat (first|refine kN ?_ _|refine kD ?_|refine kA ?_ _)); refine blk_far ?_ NB134_139.out _; (with_reducible repeat (first|refine kN ?_ _|refine kD ?_|refine kA ?_ _)); refine blk_far ?_ NB134_139.out _; (with_reducible repeat (first|refine kN ?_ _|refine kD ?_|refine kA ?_ _)); refine blk_far ?_ NB134_139.out _; (with_reducible repeat (first|refine kN ?_ _|refine kD ?_|refine kA ?_ _)); exact BK134.out) hb); have n2_:=Aside0.mk (kB (g:=gb139) (o:=.cells #[.int .i64 t135,.int .i64 t136,.int .i64 t137,.int .i64 t138] 50 (0,0)) (by (with_reducible repeat (first|refine kN ?_ _|refine kD ?_|refine kA ?_ _)); refine blk_put (cs:=#[.int .i64 t135,.int .i64 t136,.int .i64 t137,.int .i64 0]) ?_ 3 _ rfl; (with_reducible repeat (first|refine kN ?_ _|refine kD ?_|refine kA ?_ _)); refine blk_put (cs:=#[.int .i64 t135,.int .i64 t136,.int .i64 0,.int .i64 0]) ?_ 2 _ rfl; (with_reducible repeat (first|refine kN ?_ _|refine kD ?_|refine kA ?_ _)); refine blk_put (cs:=#[.int .i64 t135,.int .i64 0,.int .i64 0,.int .i64 0]) ?_ 1 _ rfl; (with_reducible repeat (first|refine kN ?_ _|refine kD ?_|refine kA ?_ _)); refine blk_put (cs:=#[.int .i64 0,.int .i64 0,.int .i64 0,.int .i64 0]) ?_ 0 _ rfl; (with_reducible repeat (first|refine kN ?_ _|refine kD ?_|refine kA ?_ _)); exact BK139.out) hb); have n3_:=Aside0.mk (below_step (by repeat (first|(with_reducible first|exact HB.out|apply bA|apply bD|apply bE|refine bS ?_ GE133.out|refine bS ?_ GE134.out|refine bS ?_ GE139.out)|exact HB.out)) hb); clear BK133; clear BK134; clear BK139; clear HB; have BK133:=n0_; have BK134:=n1_; have BK139:=n2_; have HB:=n3_; clear n0_ n1_ n2_ n3_; (try clear hb); (try clear hb2); (try clear hk); (try clear hi); have hcz27_0 : w26.cell? ⟨gb134,0,none⟩ = some (.int .i64 0):=(kC BK134.out 0).trans rfl; have hcz27_1 : w26.cell? ⟨gb134,1,none⟩ = some (.int .i64 0):=(kC BK134.out 1).trans rfl; have hcz27_2 : w26.cell? ⟨gb134,2,none⟩ = some (.int .i64 0):=(kC BK134.out 2).trans rfl; have hcz27_3 : w26.cell? ⟨gb134,3,none⟩ = some (.int .i64 0):=(kC BK134.out 3).trans rfl; have hfz27_0:=blk_frozen BK134.out 0; have hfz27_1:=blk_frozen BK134.out 1; have hfz27_2:=blk_frozen BK134.out 2; have hfz27_3:=blk_frozen BK134.out 3))
 refine bodyPost_ret (results_ct rfl _ _ gb134 50 #[.int .i64 0,.int .i64 0,.int .i64 0,.int .i64 0] (0,0) _ rfl (by (with_reducible repeat (first|refine kN ?_ _|refine kD ?_|refine kA ?_ _)); refine blk_put (cs:=#[.int .i64 0,.int .i64 0,.int .i64 0,.int .i64 0]) ?_ 3 _ rfl; (with_reducible repeat (first|refine kN ?_ _|refine kD ?_|refine kA ?_ _)); refine blk_put (cs:=#[.int .i64 0,.int .i64 0,.int .i64 0,.int .i64 0]) ?_ 2 _ rfl; (with_reducible repeat (first|refine kN ?_ _|refine kD ?_|refine kA ?_ _)); refine blk_put (cs:=#[.int .i64 0,.int .i64 0,.int .i64 0,.int .i64 0]) ?_ 1 _ rfl; (with_reducible repeat (first|refine kN ?_ _|refine kD ?_|refine kA ?_ _)); refine blk_put (cs:=#[.int .i64 0,.int .i64 0,.int .i64 0,.int .i64 0]) ?_ 0 _ rfl; (with_reducible repeat (first|refine kN ?_ _|refine kD ?_|refine kA ?_ _)); exact BK134.out) Try.underlying50 rfl (by kernel_rfl)) rfl ?_
 exact ⟨by first|rfl|(simp [errW_none,errW_some] <;> rfl)|(simp [*,errW_none,errW_some] <;> rfl),by repeat (first|(with_reducible first|exact HB.out|apply bA|apply bD|apply bE|refine bS ?_ GE133.out|refine bS ?_ GE134.out|refine bS ?_ GE139.out)|exact HB.out)⟩

/-! ### spec_AddIntervals: function 59 -/
def spec_AddIntervals.f (k : Nat) (a0_0 : Int) (a0_1 : Int) (a0_2 : Int) (a0_3 : Int) (a1_0 : Int) (a1_1 : Int) (a1_2 : Int) (a1_3 : Int) : Option (Int × Int × Int × Int × Bool):=(spec_IntervalOk.f a0_0 a0_1 a0_2 a0_3).bind fun t144 => (if t144 = true then ((spec_IntervalOk.f a1_0 a1_1 a1_2 a1_3).bind fun t145 => (if t145 = true then ((spec_l03Checked.f k (wrap64 ((wrap64 (a0_0 * a1_3)) + (wrap64 (a1_0 * a0_3)))) (wrap64 ((wrap64 (a0_1 * a1_3)) + (wrap64 (a1_1 * a0_3)))) (wrap64 ((wrap64 (a0_2 * a1_3)) + (wrap64 (a1_2 * a0_3)))) (wrap64 (a0_3 * a1_3))).bind fun bt146 => (some (bt146.1,bt146.2.1,bt146.2.2.1,bt146.2.2.2.1,bt146.2.2.2.2))) else (some (0,0,0,0,false)))) else (some (0,0,0,0,false)))
theorem spec_AddIntervals.mono : ∀ a0 a1 a2 a3 a4 a5 a6 a7 k,LeO (spec_AddIntervals.f k a0 a1 a2 a3 a4 a5 a6 a7) (spec_AddIntervals.f (k + 1) a0 a1 a2 a3 a4 a5 a6 a7):=by
 intro a0 a1 a2 a3 a4 a5 a6 a7 k
 unfold spec_AddIntervals.f
 repeat' first
   | (with_reducible exact spec_l03Checked.mono _ _ _ _ _)
   | (with_reducible exact LeO.refl _)
   | (with_reducible exact LeO.none _)
   | (with_reducible refine LeO.ite ?_ ?_)
   | (with_reducible refine LeO.bind ?_ (fun _ => ?_))
   | exact spec_l03Checked.mono _ _ _ _ _
   | exact LeO.none _
   | refine LeO.ite ?_ ?_
   | refine LeO.bind ?_ (fun _ => ?_)
set_option maxHeartbeats 8000000 in
set_option maxRecDepth 100000 in
theorem spec_AddIntervals.calls (k : Nat) (a0_0 : Int) (a0_1 : Int) (a0_2 : Int) (a0_3 : Int) (a1_0 : Int) (a1_1 : Int) (a1_2 : Int) (a1_3 : Int) (r1 : Int) (r2 : Int) (r3 : Int) (r4 : Int) (r5 : Bool) (w : World) (h : spec_AddIntervals.f k a0_0 a0_1 a0_2 a0_3 a1_0 a1_1 a1_2 a1_3 = some (r1,r2,r3,r4,r5)) :
  Calls Try.prog 59 #[.agg #[.int .i64 a0_0,.int .i64 a0_1,.int .i64 a0_2,.int .i64 a0_3],.agg #[.int .i64 a1_0,.int .i64 a1_1,.int .i64 a1_2,.int .i64 a1_3]] w fun e w' => e = .returned (.tuple #[.agg #[.int .i64 r1,.int .i64 r2,.int .i64 r3,.int .i64 r4],.bool r5]) ∧ Below w.heap.size w w':=by
 have hu50:=Try.underlying50
 have HB:=Aside0.mk (Below.refl w.heap.size w)
 have H : ((spec_IntervalOk.f a0_0 a0_1 a0_2 a0_3).bind fun t144 => (if t144 = true then ((spec_IntervalOk.f a1_0 a1_1 a1_2 a1_3).bind fun t145 => (if t145 = true then ((spec_l03Checked.f k (wrap64 ((wrap64 (a0_0 * a1_3)) + (wrap64 (a1_0 * a0_3)))) (wrap64 ((wrap64 (a0_1 * a1_3)) + (wrap64 (a1_1 * a0_3)))) (wrap64 ((wrap64 (a0_2 * a1_3)) + (wrap64 (a1_2 * a0_3)))) (wrap64 (a0_3 * a1_3))).bind fun bt146 => (some (bt146.1,bt146.2.1,bt146.2.2.1,bt146.2.2.2.1,bt146.2.2.2.2))) else (some (0,0,0,0,false)))) else (some (0,0,0,0,false)))) = some (r1,r2,r3,r4,r5):=h
 clear h
 replace H:=Option.bind_eq_some_iff.mp H
 obtain ⟨t144,A30,H⟩:=H
 replace H : (if t144 = true then ((spec_IntervalOk.f a1_0 a1_1 a1_2 a1_3).bind fun t145 => (if t145 = true then ((spec_l03Checked.f k (wrap64 ((wrap64 (a0_0 * a1_3)) + (wrap64 (a1_0 * a0_3)))) (wrap64 ((wrap64 (a0_1 * a1_3)) + (wrap64 (a1_1 * a0_3)))) (wrap64 ((wrap64 (a0_2 * a1_3)) + (wrap64 (a1_2 * a0_3)))) (wrap64 (a0_3 * a1_3))).bind fun bt146 => (some (bt146.1,bt146.2.1,bt146.2.2.1,bt146.2.2.2.1,bt146.2.2.2.2))) else (some (0,0,0,0,false)))) else (some (0,0,0,0,false))) = some (r1,r2,r3,r4,r5):=H
 have A3:=Aside0.mk A30
 clear A30
 by_cases c4 : t144 = true
 rotate_left
 ·replace c4:=Bool.eq_false_iff.mpr c4
  subst c4
  have H1 : (some (0,0,0,0,false)) = some (r1,r2,r3,r4,r5):=by rw [if_neg (show ¬ (false = true) by decide)] at H; exact H
  clear H
  have H:=H1
  clear H1
  simp only [Option.some.injEq,Prod.mk.injEq] at H
  obtain ⟨rfl,rfl,rfl,rfl,rfl⟩:=H
  go_enter Try.func59,Try.ntmps59
  go_wp2_with (first|((with_reducible refine gate_dst (N:=2) rfl ?_); refine box_event ?hg (N:=2) ?hd (cs:=#[.int .i64 a0_0,.int .i64 a0_1,.int .i64 a0_2,.int .i64 a0_3]) (t:=50) ?hr ?_; (case hd => rfl); (case hg => rfl); (case hr => first|(go_simp; done)|(go_simp; rfl)); intro gb141 hg w33 hbox hb; have n0_:=Aside0.mk (below_step (by repeat (first|(with_reducible first|exact HB.out|apply bA|apply bD|apply bE)|exact HB.out)) hb); have n1_:=Aside0.mk (hbox); have n2_:=Aside0.mk ((by rw [hg]; exact (below_size (by repeat (first|(with_reducible first|exact HB.out|apply bA|apply bD|apply bE)|exact HB.out))) : w.heap.size ≤ gb141)); have n3_:=Aside0.mk ((by rw [hg]; exact (below_size (by repeat (first|(with_reducible first|exact HB.out|apply bA|apply bD|apply bE)|exact HB.out))) : w.heap.size ≤ gb141)); clear HB; have HB:=n0_; have BK141:=n1_; have GW141:=n2_; have GE141:=n3_; clear n0_ n1_ n2_ n3_; clear hb hbox hg)|((with_reducible refine gate_dst (N:=3) rfl ?_); refine box_event ?hg (N:=3) ?hd (cs:=#[.int .i64 a1_0,.int .i64 a1_1,.int .i64 a1_2,.int .i64 a1_3]) (t:=50) ?hr ?_; (case hd => rfl); (case hg => rfl); (case hr => first|(go_simp; done)|(go_simp; rfl)); intro gb142 hg w34 hbox hb; have n0_:=Aside0.mk (kB (g:=gb141) (o:=.cells #[.int .i64 a0_0,.int .i64 a0_1,.int .i64 a0_2,.int .i64 a0_3] 50 (0,0)) (by (with_reducible repeat (first|refine kN ?_ _|refine kD ?_|refine kA ?_ _)); exact BK141.out) hb); have n1_:=Aside0.mk (below_step (by repeat (first|(with_reducible first|exact HB.out|apply bA|apply bD|apply bE|refine bS ?_ GE141.out)|exact HB.out)) hb); have n2_:=Aside0.mk (hbox); have n3_:=Aside0.mk ((by rw [hg]; exact (below_size (by repeat (first|(with_reducible first|exact HB.out|apply bA|apply bD|apply bE|refine bS ?_ GE141.out)|exact HB.out))) : w.heap.size ≤ gb142)); have n4_:=Aside0.mk ((by rw [hg]; exact (below_size (by repeat (first|(with_reducible first|exact HB.out|apply bA|apply bD|apply bE|refine bS ?_ GE141.out)|exact HB.out))) : w.heap.size ≤ gb142)); have n5_:=Aside0.mk ((by rw [hg]; exact Nat.ne_of_lt (blk_lt (g:=gb141) (o:=.cells #[.int .i64 a0_0,.int .i64 a0_1,.int .i64 a0_2,.int .i64 a0_3] 50 (0,0)) (by (with_reducible repeat (first|refine kN ?_ _|refine kD ?_|refine kA ?_ _)); exact BK141.out)) : gb141 ≠ gb142)); have n6_:=Aside0.mk ((by rw [hg]; exact Nat.ne_of_gt (blk_lt (g:=gb141) (o:=.cells #[.int .i64 a0_0,.int .i64 a0_1,.int .i64 a0_2,.int .i64 a0_3] 50 (0,0)) (by (with_reducible repeat (first|refine kN ?_ _|refine kD ?_|refine kA ?_ _)); exact BK141.out)) : gb142 ≠ gb141)); clear BK141; clear HB; have BK141:=n0_; have HB:=n1_; have BK142:=n2_; have GW142:=n3_; have GE142:=n4_; have NB141_142:=n5_; have NB142_141:=n6_; clear n0_ n1_ n2_ n3_ n4_ n5_ n6_; clear hb hbox hg)|((with_reducible refine gate_dst (N:=4) rfl ?_); refine box_event ?hg (N:=4) ?hd (cs:=#[.int .i64 0,.int .i64 0,.int .i64 0,.int .i64 0]) (t:=50) ?hr ?_; (case hd => rfl); (case hg => rfl); (case hr => first|(go_simp; done)|(go_simp; rfl)); intro gb143 hg w35 hbox hb; have n0_:=Aside0.mk (kB (g:=gb141) (o:=.cells #[.int .i64 a0_0,.int .i64 a0_1,.int .i64 a0_2,.int .i64 a0_3] 50 (0,0)) (by (with_reducible repeat (first|refine kN ?_ _|refine kD ?_|refine kA ?_ _)); exact BK141.out) hb); have n1_:=Aside0.mk (kB (g:=gb142) (o:=.cells #[.int .i64 a1_0,.int .i64 a1_1,.int .i64 a1_2,.int .i64 a1_3] 50 (0,0)) (by (with_reducible repeat (first|refine kN ?_ _|refine kD ?_|refine kA ?_ _)); exact BK142.out) hb); have n2_:=Aside0.mk (below_step (by repeat (first|(with_reducible first|exact HB.out|apply bA|apply bD|apply bE|refine bS ?_ GE141.out|refine bS ?_ GE142.out)|exact HB.out)) hb); have n3_:=Aside0.mk (hbox); have n4_:=Aside0.mk ((by rw [hg]; exact (below_size (by repeat (first|(with_reducible first|exact HB.out|apply bA|apply bD|apply bE|refine bS ?_ GE141.out|refine bS ?_ GE142.out)|exact HB.out))) : w.heap.size ≤ gb143)); have n5_:=Aside0.mk ((by rw [hg]; exact (below_size (by repeat (first|(with_reducible first|exact HB.out|apply bA|apply bD|apply bE|refine bS ?_ GE141.out|refine bS ?_ GE142.out)|exact HB.out))) : w.heap.size ≤ gb143)); have n6_:=Aside0.mk ((by rw [hg]; exact Nat.ne_of_lt (blk_lt (g:=gb141) (o:=.cells #[.int .i64 a0_0,.int .i64 a0_1,.int .i64 a0_2,.int .i64 a0_3] 50 (0,0)) (by (with_reducible repeat (first|refine kN ?_ _|refine kD ?_|refine kA ?_ _)); exact BK141.out)) : gb141 ≠ gb143)); have n7_:=Aside0.mk ((by rw [hg]; exact Nat.ne_of_gt (blk_lt (g:=gb141) (o:=.cells #[.int .i64 a0_0,.int .i64 a0_1,.int .i64 a0_2,.int .i64 a0_3] 50 (0,0)) (by (with_reducible repeat (first|refine kN ?_ _|refine kD ?_|refine kA ?_ _)); exact BK141.out)) : gb143 ≠ gb141)); have n8_:=Aside0.mk ((by rw [hg]; exact Nat.ne_of_lt (blk_lt (g:=gb142) (o:=.cells #[.int .i64 a1_0,.int .i64 a1_1,.int .i64 a1_2,.int .i64 a1_3] 50 (0,0)) (by (with_reducible repeat (first|refine kN ?_ _|refine kD ?_|refine kA ?_ _)); exact BK142.out)) : gb142 ≠ gb143)); have n9_:=Aside0.mk ((by rw [hg]; exact Nat.ne_of_gt (blk_lt (g:=gb142) (o:=.cells #[.int .i64 a1_0,.int .i64 a1_1,.int .i64 a1_2,.int .i64 a1_3] 50 (0,0)) (by (with_reducible repeat (first|refine kN ?_ _|refine kD ?_|refine kA ?_ _)); exact BK142.out)) : gb143 ≠ gb142)); clear BK141; clear BK142; clear HB; have BK141:=n0_; have BK142:=n1_; have HB:=n2_; have BK143:=n3_; have GW143:=n4_; have GE143:=n5_; have NB141_143:=n6_; have NB143_141:=n7_; have NB142_143:=n8_; have NB143_142:=n9_; clear n0_ n1_ n2_ n3_ n4_ n5_ n6_ n7_ n8_ n9_; clear hb hbox hg; have hnb36:=NB141_142.out; have hnc36:=NB142_141.out; have hnb37:=NB141_143.out; have hnc37:=NB143_141.out; have hcz38_0 : w35.cell? ⟨gb141,0,none⟩ = some (.int .i64 a0_0):=(kC BK141.out 0).trans rfl; have hcz38_1 : w35.cell? ⟨gb141,1,none⟩ = some (.int .i64 a0_1):=(kC BK141.out 1).trans rfl; have hcz38_2 : w35.cell? ⟨gb141,2,none⟩ = some (.int .i64 a0_2):=(kC BK141.out 2).trans rfl; have hcz38_3 : w35.cell? ⟨gb141,3,none⟩ = some (.int .i64 a0_3):=(kC BK141.out 3).trans rfl; have hfz38_0:=blk_frozen BK141.out 0; have hfz38_1:=blk_frozen BK141.out 1; have hfz38_2:=blk_frozen BK141.out 2; have hfz38_3:=blk_frozen BK141.out 3)|((with_reducible refine gate_callee (f:=67) rfl ?_); refine goesL_ (some 7) rfl rfl Try.func67 (by kernel_rfl) rfl #[.agg #[.int .i64 a0_0,.int .i64 a0_1,.int .i64 a0_2,.int .i64 a0_3]] rfl (by (try simp only [List.map_toArray,List.map_cons,List.map_nil]); first|done|rfl|(simp only [List.length_drop,List.length_take]; rfl)) ?_; (with_reducible refine (spec_IntervalOk.calls a0_0 a0_1 a0_2 a0_3 false _ A3.out).mono ?_); rintro e w39 ⟨rfl,hb⟩; refine ⟨_,rfl,?_⟩; have n0_:=Aside0.mk (kB (g:=gb141) (o:=.cells #[.int .i64 a0_0,.int .i64 a0_1,.int .i64 a0_2,.int .i64 a0_3] 50 (0,0)) (by (with_reducible repeat (first|refine kN ?_ _|refine kD ?_|refine kA ?_ _)); exact BK141.out) hb); have n1_:=Aside0.mk (kB (g:=gb142) (o:=.cells #[.int .i64 a1_0,.int .i64 a1_1,.int .i64 a1_2,.int .i64 a1_3] 50 (0,0)) (by (with_reducible repeat (first|refine kN ?_ _|refine kD ?_|refine kA ?_ _)); exact BK142.out) hb); have n2_:=Aside0.mk (kB (g:=gb143) (o:=.cells #[.int .i64 0,.int .i64 0,.int .i64 0,.int .i64 0] 50 (0,0)) (by (with_reducible repeat (first|refine kN ?_ _|refine kD ?_|refine kA ?_ _)); exact BK143.out) hb); have n3_:=Aside0.mk (below_step (by repeat (first|(with_reducible first|exact HB.out|apply bA|apply bD|apply bE|refine bS ?_ GE141.out|refine bS ?_ GE142.out|refine bS ?_ GE143.out)|exact HB.out)) hb); clear BK141; clear BK142; clear BK143; clear HB; have BK141:=n0_; have BK142:=n1_; have BK143:=n2_; have HB:=n3_; clear n0_ n1_ n2_ n3_; (try clear hb); (try clear hb2); (try clear hk); (try clear hi); have hnb40:=NB143_142.out; have hnc40:=NB142_143.out; have hcz41_0 : w39.cell? ⟨gb143,0,none⟩ = some (.int .i64 0):=(kC BK143.out 0).trans rfl; have hcz41_1 : w39.cell? ⟨gb143,1,none⟩ = some (.int .i64 0):=(kC BK143.out 1).trans rfl; have hcz41_2 : w39.cell? ⟨gb143,2,none⟩ = some (.int .i64 0):=(kC BK143.out 2).trans rfl; have hcz41_3 : w39.cell? ⟨gb143,3,none⟩ = some (.int .i64 0):=(kC BK143.out 3).trans rfl; have hfz41_0:=blk_frozen BK143.out 0; have hfz41_1:=blk_frozen BK143.out 1; have hfz41_2:=blk_frozen BK143.out 2; have hfz41_3:=blk_frozen BK143.out 3))
  refine bodyPost_ret (results_ct rfl _ _ gb143 50 #[.int .i64 0,.int .i64 0,.int .i64 0,.int .i64 0] (0,0) _ rfl (by (with_reducible repeat (first|refine kN ?_ _|refine kD ?_|refine kA ?_ _)); refine blk_put (cs:=#[.int .i64 0,.int .i64 0,.int .i64 0,.int .i64 0]) ?_ 3 _ rfl; (with_reducible repeat (first|refine kN ?_ _|refine kD ?_|refine kA ?_ _)); refine blk_put (cs:=#[.int .i64 0,.int .i64 0,.int .i64 0,.int .i64 0]) ?_ 2 _ rfl; (with_reducible repeat (first|refine kN ?_ _|refine kD ?_|refine kA ?_ _)); refine blk_put (cs:=#[.int .i64 0,.int .i64 0,.int .i64 0,.int .i64 0]) ?_ 1 _ rfl; (with_reducible repeat (first|refine kN ?_ _|refine kD ?_|refine kA ?_ _)); refine blk_put (cs:=#[.int .i64 0,.int .i64 0,.int .i64 0,.int .i64 0]) ?_ 0 _ rfl; (with_reducible repeat (first|refine kN ?_ _|refine kD ?_|refine kA ?_ _)); exact BK143.out) Try.underlying50 rfl (by kernel_rfl)) rfl ?_
  exact ⟨by first|rfl|(simp [errW_none,errW_some] <;> rfl)|(simp [*,errW_none,errW_some] <;> rfl),by repeat (first|(with_reducible first|exact HB.out|apply bA|apply bD|apply bE|refine bS ?_ GE141.out|refine bS ?_ GE142.out|refine bS ?_ GE143.out)|exact HB.out)⟩

 subst c4
 have H1 : ((spec_IntervalOk.f a1_0 a1_1 a1_2 a1_3).bind fun t145 => (if t145 = true then ((spec_l03Checked.f k (wrap64 ((wrap64 (a0_0 * a1_3)) + (wrap64 (a1_0 * a0_3)))) (wrap64 ((wrap64 (a0_1 * a1_3)) + (wrap64 (a1_1 * a0_3)))) (wrap64 ((wrap64 (a0_2 * a1_3)) + (wrap64 (a1_2 * a0_3)))) (wrap64 (a0_3 * a1_3))).bind fun bt146 => (some (bt146.1,bt146.2.1,bt146.2.2.1,bt146.2.2.2.1,bt146.2.2.2.2))) else (some (0,0,0,0,false)))) = some (r1,r2,r3,r4,r5):=by rw [if_pos rfl] at H; exact H
 clear H
 have H:=H1
 clear H1
 replace H:=Option.bind_eq_some_iff.mp H
 obtain ⟨t145,A50,H⟩:=H
 replace H : (if t145 = true then ((spec_l03Checked.f k (wrap64 ((wrap64 (a0_0 * a1_3)) + (wrap64 (a1_0 * a0_3)))) (wrap64 ((wrap64 (a0_1 * a1_3)) + (wrap64 (a1_1 * a0_3)))) (wrap64 ((wrap64 (a0_2 * a1_3)) + (wrap64 (a1_2 * a0_3)))) (wrap64 (a0_3 * a1_3))).bind fun bt146 => (some (bt146.1,bt146.2.1,bt146.2.2.1,bt146.2.2.2.1,bt146.2.2.2.2))) else (some (0,0,0,0,false))) = some (r1,r2,r3,r4,r5):=H
 have A5:=Aside0.mk A50
 clear A50
 by_cases c6 : t145 = true
 rotate_left
 ·replace c6:=Bool.eq_false_iff.mpr c6
  subst c6
  have H1 : (some (0,0,0,0,false)) = some (r1,r2,r3,r4,r5):=by rw [if_neg (show ¬ (false = true) by decide)] at H; exact H
  clear H
  have H:=H1
  clear H1
  simp only [Option.some.injEq,Prod.mk.injEq] at H
  obtain ⟨rfl,rfl,rfl,rfl,rfl⟩:=H
  go_enter Try.func59,Try.ntmps59
  go_wp2_with (first|((with_reducible refine gate_dst (N:=2) rfl ?_); refine box_event ?hg (N:=2) ?hd (cs:=#[.int .i64 a0_0,.int .i64 a0_1,.int .i64 a0_2,.int .i64 a0_3]) (t:=50) ?hr ?_; (case hd => rfl); (case hg => rfl); (case hr => first|(go_simp; done)|(go_simp; rfl)); intro gb141 hg w22 hbox hb; have n0_:=Aside0.mk (below_step (by repeat (first|(with_reducible first|exact HB.out|apply bA|apply bD|apply bE)|exact HB.out)) hb); have n1_:=Aside0.mk (hbox); have n2_:=Aside0.mk ((by rw [hg]; exact (below_size (by repeat (first|(with_reducible first|exact HB.out|apply bA|apply bD|apply bE)|exact HB.out))) : w.heap.size ≤ gb141)); have n3_:=Aside0.mk ((by rw [hg]; exact (below_size (by repeat (first|(with_reducible first|exact HB.out|apply bA|apply bD|apply bE)|exact HB.out))) : w.heap.size ≤ gb141)); clear HB; have HB:=n0_; have BK141:=n1_; have GW141:=n2_; have GE141:=n3_; clear n0_ n1_ n2_ n3_; clear hb hbox hg)|((with_reducible refine gate_dst (N:=3) rfl ?_); refine box_event ?hg (N:=3) ?hd (cs:=#[.int .i64 a1_0,.int .i64 a1_1,.int .i64 a1_2,.int .i64 a1_3]) (t:=50) ?hr ?_; (case hd => rfl); (case hg => rfl); (case hr => first|(go_simp; done)|(go_simp; rfl)); intro gb142 hg w23 hbox hb; have n0_:=Aside0.mk (kB (g:=gb141) (o:=.cells #[.int .i64 a0_0,.int .i64 a0_1,.int .i64 a0_2,.int .i64 a0_3] 50 (0,0)) (by (with_reducible repeat (first|refine kN ?_ _|refine kD ?_|refine kA ?_ _)); exact BK141.out) hb); have n1_:=Aside0.mk (below_step (by repeat (first|(with_reducible first|exact HB.out|apply bA|apply bD|apply bE|refine bS ?_ GE141.out)|exact HB.out)) hb); have n2_:=Aside0.mk (hbox); have n3_:=Aside0.mk ((by rw [hg]; exact (below_size (by repeat (first|(with_reducible first|exact HB.out|apply bA|apply bD|apply bE|refine bS ?_ GE141.out)|exact HB.out))) : w.heap.size ≤ gb142)); have n4_:=Aside0.mk ((by rw [hg]; exact (below_size (by repeat (first|(with_reducible first|exact HB.out|apply bA|apply bD|apply bE|refine bS ?_ GE141.out)|exact HB.out))) : w.heap.size ≤ gb142)); have n5_:=Aside0.mk ((by rw [hg]; exact Nat.ne_of_lt (blk_lt (g:=gb141) (o:=.cells #[.int .i64 a0_0,.int .i64 a0_1,.int .i64 a0_2,.int .i64 a0_3] 50 (0,0)) (by (with_reducible repeat (first|refine kN ?_ _|refine kD ?_|refine kA ?_ _)); exact BK141.out)) : gb141 ≠ gb142)); have n6_:=Aside0.mk ((by rw [hg]; exact Nat.ne_of_gt (blk_lt (g:=gb141) (o:=.cells #[.int .i64 a0_0,.int .i64 a0_1,.int .i64 a0_2,.int .i64 a0_3] 50 (0,0)) (by (with_reducible repeat (first|refine kN ?_ _|refine kD ?_|refine kA ?_ _)); exact BK141.out)) : gb142 ≠ gb141)); clear BK141; clear HB; have BK141:=n0_; have HB:=n1_; have BK142:=n2_; have GW142:=n3_; have GE142:=n4_; have NB141_142:=n5_; have NB142_141:=n6_; clear n0_ n1_ n2_ n3_ n4_ n5_ n6_; clear hb hbox hg)|((with_reducible refine gate_dst (N:=4) rfl ?_); refine box_event ?hg (N:=4) ?hd (cs:=#[.int .i64 0,.int .i64 0,.int .i64 0,.int .i64 0]) (t:=50) ?hr ?_; (case hd => rfl); (case hg => rfl); (case hr => first|(go_simp; done)|(go_simp; rfl)); intro gb143 hg w24 hbox hb; have n0_:=Aside0.mk (kB (g:=gb141) (o:=.cells #[.int .i64 a0_0,.int .i64 a0_1,.int .i64 a0_2,.int .i64 a0_3] 50 (0,0)) (by (with_reducible repeat (first|refine kN ?_ _|refine kD ?_|refine kA ?_ _)); exact BK141.out) hb); have n1_:=Aside0.mk (kB (g:=gb142) (o:=.cells #[.int .i64 a1_0,.int .i64 a1_1,.int .i64 a1_2,.int .i64 a1_3] 50 (0,0)) (by (with_reducible repeat (first|refine kN ?_ _|refine kD ?_|refine kA ?_ _)); exact BK142.out) hb); have n2_:=Aside0.mk (below_step (by repeat (first|(with_reducible first|exact HB.out|apply bA|apply bD|apply bE|refine bS ?_ GE141.out|refine bS ?_ GE142.out)|exact HB.out)) hb); have n3_:=Aside0.mk (hbox); have n4_:=Aside0.mk ((by rw [hg]; exact (below_size (by repeat (first|(with_reducible first|exact HB.out|apply bA|apply bD|apply bE|refine bS ?_ GE141.out|refine bS ?_ GE142.out)|exact HB.out))) : w.heap.size ≤ gb143)); have n5_:=Aside0.mk ((by rw [hg]; exact (below_size (by repeat (first|(with_reducible first|exact HB.out|apply bA|apply bD|apply bE|refine bS ?_ GE141.out|refine bS ?_ GE142.out)|exact HB.out))) : w.heap.size ≤ gb143)); have n6_:=Aside0.mk ((by rw [hg]; exact Nat.ne_of_lt (blk_lt (g:=gb141) (o:=.cells #[.int .i64 a0_0,.int .i64 a0_1,.int .i64 a0_2,.int .i64 a0_3] 50 (0,0)) (by (with_reducible repeat (first|refine kN ?_ _|refine kD ?_|refine kA ?_ _)); exact BK141.out)) : gb141 ≠ gb143)); have n7_:=Aside0.mk ((by rw [hg]; exact Nat.ne_of_gt (blk_lt (g:=gb141) (o:=.cells #[.int .i64 a0_0,.int .i64 a0_1,.int .i64 a0_2,.int .i64 a0_3] 50 (0,0)) (by (with_reducible repeat (first|refine kN ?_ _|refine kD ?_|refine kA ?_ _)); exact BK141.out)) : gb143 ≠ gb141)); have n8_:=Aside0.mk ((by rw [hg]; exact Nat.ne_of_lt (blk_lt (g:=gb142) (o:=.cells #[.int .i64 a1_0,.int .i64 a1_1,.int .i64 a1_2,.int .i64 a1_3] 50 (0,0)) (by (with_reducible repeat (first|refine kN ?_ _|refine kD ?_|refine kA ?_ _)); exact BK142.out)) : gb142 ≠ gb143)); have n9_:=Aside0.mk ((by rw [hg]; exact Nat.ne_of_gt (blk_lt (g:=gb142) (o:=.cells #[.int .i64 a1_0,.int .i64 a1_1,.int .i64 a1_2,.int .i64 a1_3] 50 (0,0)) (by (with_reducible repeat (first|refine kN ?_ _|refine kD ?_|refine kA ?_ _)); exact BK142.out)) : gb143 ≠ gb142)); clear BK141; clear BK142; clear HB; have BK141:=n0_; have BK142:=n1_; have HB:=n2_; have BK143:=n3_; have GW143:=n4_; have GE143:=n5_; have NB141_143:=n6_; have NB143_141:=n7_; have NB142_143:=n8_; have NB143_142:=n9_; clear n0_ n1_ n2_ n3_ n4_ n5_ n6_ n7_ n8_ n9_; clear hb hbox hg; have hnb25:=NB141_142.out; have hnc25:=NB142_141.out; have hnb26:=NB141_143.out; have hnc26:=NB143_141.out; have hcz27_0 : w24.cell? ⟨gb141,0,none⟩ = some (.int .i64 a0_0):=(kC BK141.out 0).trans rfl; have hcz27_1 : w24.cell? ⟨gb141,1,none⟩ = some (.int .i64 a0_1):=(kC BK141.out 1).trans rfl; have hcz27_2 : w24.cell? ⟨gb141,2,none⟩ = some (.int .i64 a0_2):=(kC BK141.out 2).trans rfl; have hcz27_3 : w24.cell? ⟨gb141,3,none⟩ = some (.int .i64 a0_3):=(kC BK141.out 3).trans rfl; have hfz27_0:=blk_frozen BK141.out 0; have hfz27_1:=blk_frozen BK141.out 1; have hfz27_2:=blk_frozen BK141.out 2; have hfz27_3:=blk_frozen BK141.out 3)|((with_reducible refine gate_callee (f:=67) rfl ?_); refine goesL_ (some 7) rfl rfl Try.func67 (by kernel_rfl) rfl #[.agg #[.int .i64 a0_0,.int .i64 a0_1,.int .i64 a0_2,.int .i64 a0_3]] rfl (by (try simp only [List.map_toArray,List.map_cons,List.map_nil]); first|done|rfl|(simp only [List.length_drop,List.length_take]; rfl)) ?_; (with_reducible refine (spec_IntervalOk.calls a0_0 a0_1 a0_2 a0_3 true _ A3.out).mono ?_); rintro e w28 ⟨rfl,hb⟩; refine ⟨_,rfl,?_⟩; have n0_:=Aside0.mk (kB (g:=gb141) (o:=.cells #[.int .i64 a0_0,.int .i64 a0_1,.int .i64 a0_2,.int .i64 a0_3] 50 (0,0)) (by (with_reducible repeat (first|refine kN ?_ _|refine kD ?_|refine kA ?_ _)); exact BK141.out) hb); have n1_:=Aside0.mk (kB (g:=gb142) (o:=.cells #[.int .i64 a1_0,.int .i64 a1_1,.int .i64 a1_2,.int .i64 a1_3] 50 (0,0)) (by (with_reducible repeat (first|refine kN ?_ _|refine kD ?_|refine kA ?_ _)); exact BK142.out) hb); have n2_:=Aside0.mk (kB (g:=gb143) (o:=.cells #[.int .i64 0,.int .i64 0,.int .i64 0,.int .i64 0] 50 (0,0)) (by (with_reducible repeat (first|refine kN ?_ _|refine kD ?_|refine kA ?_ _)); exact BK143.out) hb); have n3_:=Aside0.mk (below_step (by repeat (first|(with_reducible first|exact HB.out|apply bA|apply bD|apply bE|refine bS ?_ GE141.out|refine bS ?_ GE142.out|refine bS ?_ GE143.out)|exact HB.out)) hb); clear BK141; clear BK142; clear BK143; clear HB; have BK141:=n0_; have BK142:=n1_; have BK143:=n2_; have HB:=n3_; clear n0_ n1_ n2_ n3_; (try clear hb); (try clear hb2); (try clear hk); (try clear hi); have hnb29:=NB142_143.out; have hnc29:=NB143_142.out; have hcz30_0 : w28.cell? ⟨gb142,0,none⟩ = some (.int .i64 a1_0):=(kC BK142.out 0).trans rfl; have hcz30_1 : w28.cell? ⟨gb142,1,none⟩ = some (.int .i64 a1_1):=(kC BK142.out 1).trans rfl; have hcz30_2 : w28.cell? ⟨gb142,2,none⟩ = some (.int .i64 a1_2):=(kC BK142.out 2).trans rfl; have hcz30_3 : w28.cell? ⟨gb142,3,none⟩ = some (.int .i64 a1_3):=(kC BK142.out 3).trans rfl; have hfz30_0:=blk_frozen BK142.out 0; have hfz30_1:=blk_frozen BK142.out 1; have hfz30_2:=blk_frozen BK142.out 2; have hfz30_3:=blk_frozen BK142.out 3)|(go_at_call 67; (with_reducible refine (spec_IntervalOk.calls a1_0 a1_1 a1_2 a1_3 false _ A5.out).mono ?_); rintro e w31 ⟨rfl,hb⟩; have n0_:=Aside0.mk (kB (g:=gb141) (o:=.cells #[.int .i64 a0_0,.int .i64 a0_1,.int .i64 a0_2,.int .i64 a0_3] 50 (0,0)) (by (with_reducible repeat (first|refine kN ?_ _|refine kD ?_|refine kA ?_ _)); exact BK141.out) hb); have n1_:=Aside0.mk (kB (g:=gb142) (o:=.cells #[.int .i64 a1_0,.int .i64 a1_1,.int .i64 a1_2,.int .i64 a1_3] 50 (0,0)) (by (with_reducible repeat (first|refine kN ?_ _|refine kD ?_|refine kA ?_ _)); exact BK142.out) hb); have n2_:=Aside0.mk (kB (g:=gb143) (o:=.cells #[.int .i64 0,.int .i64 0,.int .i64 0,.int .i64 0] 50 (0,0)) (by (with_reducible repeat (first|refine kN ?_ _|refine kD ?_|refine kA ?_ _)); exact BK143.out) hb); have n3_:=Aside0.mk (below_step (by repeat (first|(with_reducible first|exact HB.out|apply bA|apply bD|apply bE|refine bS ?_ GE141.out|refine bS ?_ GE142.out|refine bS ?_ GE143.out)|exact HB.out)) hb); clear BK141; clear BK142; clear BK143; clear HB; have BK141:=n0_; have BK142:=n1_; have BK143:=n2_; have HB:=n3_; clear n0_ n1_ n2_ n3_; (try clear hb); (try clear hb2); (try clear hk); (try clear hi); have hcz32_0 : w31.cell? ⟨gb143,0,none⟩ = some (.int .i64 0):=(kC BK143.out 0).trans rfl; have hcz32_1 : w31.cell? ⟨gb143,1,none⟩ = some (.int .i64 0):=(kC BK143.out 1).trans rfl; have hcz32_2 : w31.cell? ⟨gb143,2,none⟩ = some (.int .i64 0):=(kC BK143.out 2).trans rfl; have hcz32_3 : w31.cell? ⟨gb143,3,none⟩ = some (.int .i64 0):=(kC BK143.out 3).trans rfl; have hfz32_0:=blk_frozen BK143.out 0; have hfz32_1:=blk_frozen BK143.out 1; have hfz32_2:=blk_frozen BK143.out 2; have hfz32_3:=blk_frozen BK143.out 3))
  refine bodyPost_ret (results_ct rfl _ _ gb143 50 #[.int .i64 0,.int .i64 0,.int .i64 0,.int .i64 0] (0,0) _ rfl (by (with_reducible repeat (first|refine kN ?_ _|refine kD ?_|refine kA ?_ _)); refine blk_put (cs:=#[.int .i64 0,.int .i64 0,.int .i64 0,.int .i64 0]) ?_ 3 _ rfl; (with_reducible repeat (first|refine kN ?_ _|refine kD ?_|refine kA ?_ _)); refine blk_put (cs:=#[.int .i64 0,.int .i64 0,.int .i64 0,.int .i64 0]) ?_ 2 _ rfl; (with_reducible repeat (first|refine kN ?_ _|refine kD ?_|refine kA ?_ _)); refine blk_put (cs:=#[.int .i64 0,.int .i64 0,.int .i64 0,.int .i64 0]) ?_ 1 _ rfl; (with_reducible repeat (first|refine kN ?_ _|refine kD ?_|refine kA ?_ _)); refine blk_put (cs:=#[.int .i64 0,.int .i64 0,.int .i64 0,.int .i64 0]) ?_ 0 _ rfl; (with_reducible repeat (first|refine kN ?_ _|refine kD ?_|refine kA ?_ _)); exact BK143.out) Try.underlying50 rfl (by kernel_rfl)) rfl ?_
  exact ⟨by first|rfl|(simp [errW_none,errW_some] <;> rfl)|(simp [*,errW_none,errW_some] <;> rfl),by repeat (first|(with_reducible first|exact HB.out|apply bA|apply bD|apply bE|refine bS ?_ GE141.out|refine bS ?_ GE142.out|refine bS ?_ GE143.out)|exact HB.out)⟩
 subst c6
 have H1 : ((spec_l03Checked.f k (wrap64 ((wrap64 (a0_0 * a1_3)) + (wrap64 (a1_0 * a0_3)))) (wrap64 ((wrap64 (a0_1 * a1_3)) + (wrap64 (a1_1 * a0_3)))) (wrap64 ((wrap64 (a0_2 * a1_3)) + (wrap64 (a1_2 * a0_3)))) (wrap64 (a0_3 * a1_3))).bind fun bt146 => (some (bt146.1,bt146.2.1,bt146.2.2.1,bt146.2.2.2.1,bt146.2.2.2.2))) = some (r1,r2,r3,r4,r5):=by rw [if_pos rfl] at H; exact H
 clear H
 have H:=H1
 clear H1
 replace H:=Option.bind_eq_some_iff.mp H
 obtain ⟨⟨t146,t147,t148,t149,t150⟩,A70,H⟩:=H
 replace H : (some (t146,t147,t148,t149,t150)) = some (r1,r2,r3,r4,r5):=H
 have A7:=Aside0.mk A70
 clear A70
 simp only [Option.some.injEq,Prod.mk.injEq] at H
 obtain ⟨rfl,rfl,rfl,rfl,rfl⟩:=H
 go_enter Try.func59,Try.ntmps59
 go_wp2_with (first|((with_reducible refine gate_dst (N:=2) rfl ?_); refine box_event ?hg (N:=2) ?hd (cs:=#[.int .i64 a0_0,.int .i64 a0_1,.int .i64 a0_2,.int .i64 a0_3]) (t:=50) ?hr ?_; (case hd => rfl); (case hg => rfl); (case hr => first|(go_simp; done)|(go_simp; rfl)); intro gb141 hg w8 hbox hb; have n0_:=Aside0.mk (below_step (by repeat (first|(with_reducible first|exact HB.out|apply bA|apply bD|apply bE)|exact HB.out)) hb); have n1_:=Aside0.mk (hbox); have n2_:=Aside0.mk ((by rw [hg]; exact (below_size (by repeat (first|(with_reducible first|exact HB.out|apply bA|apply bD|apply bE)|exact HB.out))) : w.heap.size ≤ gb141)); have n3_:=Aside0.mk ((by rw [hg]; exact (below_size (by repeat (first|(with_reducible first|exact HB.out|apply bA|apply bD|apply bE)|exact HB.out))) : w.heap.size ≤ gb141)); clear HB; have HB:=n0_; have BK141:=n1_; have GW141:=n2_; have GE141:=n3_; clear n0_ n1_ n2_ n3_; clear hb hbox hg)|((with_reducible refine gate_dst (N:=3) rfl ?_); refine box_event ?hg (N:=3) ?hd (cs:=#[.int .i64 a1_0,.int .i64 a1_1,.int .i64 a1_2,.int .i64 a1_3]) (t:=50) ?hr ?_; (case hd => rfl); (case hg => rfl); (case hr => first|(go_simp; done)|(go_simp; rfl)); intro gb142 hg w9 hbox hb; have n0_:=Aside0.mk (kB (g:=gb141) (o:=.cells #[.int .i64 a0_0,.int .i64 a0_1,.int .i64 a0_2,.int .i64 a0_3] 50 (0,0)) (by (with_reducible repeat (first|refine kN ?_ _|refine kD ?_|refine kA ?_ _)); exact BK141.out) hb); have n1_:=Aside0.mk (below_step (by repeat (first|(with_reducible first|exact HB.out|apply bA|apply bD|apply bE|refine bS ?_ GE141.out)|exact HB.out)) hb); have n2_:=Aside0.mk (hbox); have n3_:=Aside0.mk ((by rw [hg]; exact (below_size (by repeat (first|(with_reducible first|exact HB.out|apply bA|apply bD|apply bE|refine bS ?_ GE141.out)|exact HB.out))) : w.heap.size ≤ gb142)); have n4_:=Aside0.mk ((by rw [hg]; exact (below_size (by repeat (first|(with_reducible first|exact HB.out|apply bA|apply bD|apply bE|refine bS ?_ GE141.out)|exact HB.out))) : w.heap.size ≤ gb142)); have n5_:=Aside0.mk ((by rw [hg]; exact Nat.ne_of_lt (blk_lt (g:=gb141) (o:=.cells #[.int .i64 a0_0,.int .i64 a0_1,.int .i64 a0_2,.int .i64 a0_3] 50 (0,0)) (by (with_reducible repeat (first|refine kN ?_ _|refine kD ?_|refine kA ?_ _)); exact BK141.out)) : gb141 ≠ gb142)); have n6_:=Aside0.mk ((by rw [hg]; exact Nat.ne_of_gt (blk_lt (g:=gb141) (o:=.cells #[.int .i64 a0_0,.int .i64 a0_1,.int .i64 a0_2,.int .i64 a0_3] 50 (0,0)) (by (with_reducible repeat (first|refine kN ?_ _|refine kD ?_|refine kA ?_ _)); exact BK141.out)) : gb142 ≠ gb141)); clear BK141; clear HB; have BK141:=n0_; have HB:=n1_; have BK142:=n2_; have GW142:=n3_; have GE142:=n4_; have NB141_142:=n5_; have NB142_141:=n6_; clear n0_ n1_ n2_ n3_ n4_ n5_ n6_; clear hb hbox hg)|((with_reducible refine gate_dst (N:=4) rfl ?_); refine box_event ?hg (N:=4) ?hd (cs:=#[.int .i64 0,.int .i64 0,.int .i64 0,.int .i64 0]) (t:=50) ?hr ?_; (case hd => rfl); (case hg => rfl); (case hr => first|(go_simp; done)|(go_simp; rfl)); intro gb143 hg w10 hbox hb; have n0_:=Aside0.mk (kB (g:=gb141) (o:=.cells #[.int .i64 a0_0,.int .i64 a0_1,.int .i64 a0_2,.int .i64 a0_3] 50 (0,0)) (by (with_reducible repeat (first|refine kN ?_ _|refine kD ?_|refine kA ?_ _)); exact BK141.out) hb); have n1_:=Aside0.mk (kB (g:=gb142) (o:=.cells #[.int .i64 a1_0,.int .i64 a1_1,.int .i64 a1_2,.int .i64 a1_3] 50 (0,0)) (by (with_reducible repeat (first|refine kN ?_ _|refine kD ?_|refine kA ?_ _)); exact BK142.out) hb); have n2_:=Aside0.mk (below_step (by repeat (first|(with_reducible first|exact HB.out|apply bA|apply bD|apply bE|refine bS ?_ GE141.out|refine bS ?_ GE142.out)|exact HB.out)) hb); have n3_:=Aside0.mk (hbox); have n4_:=Aside0.mk ((by rw [hg]; exact (below_size (by repeat (first|(with_reducible first|exact HB.out|apply bA|apply bD|apply bE|refine bS ?_ GE141.out|refine bS ?_ GE142.out)|exact HB.out))) : w.heap.size ≤ gb143)); have n5_:=Aside0.mk ((by rw [hg]; exact (below_size (by repeat (first|(with_reducible first|exact HB.out|apply bA|apply bD|apply bE|refine bS ?_ GE141.out|refine bS ?_ GE142.out)|exact HB.out))) : w.heap.size ≤ gb143)); have n6_:=Aside0.mk ((by rw [hg]; exact Nat.ne_of_lt (blk_lt (g:=gb141) (o:=.cells #[.int .i64 a0_0,.int .i64 a0_1,.int .i64 a0_2,.int .i64 a0_3] 50 (0,0)) (by (with_reducible repeat (first|refine kN ?_ _|refine kD ?_|refine kA ?_ _)); exact BK141.out)) : gb141 ≠ gb143)); have n7_:=Aside0.mk ((by rw [hg]; exact Nat.ne_of_gt (blk_lt (g:=gb141) (o:=.cells #[.int .i64 a0_0,.int .i64 a0_1,.int .i64 a0_2,.int .i64 a0_3] 50 (0,0)) (by (with_reducible repeat (first|refine kN ?_ _|refine kD ?_|refine kA ?_ _)); exact BK141.out)) : gb143 ≠ gb141)); have n8_:=Aside0.mk ((by rw [hg]; exact Nat.ne_of_lt (blk_lt (g:=gb142) (o:=.cells #[.int .i64 a1_0,.int .i64 a1_1,.int .i64 a1_2,.int .i64 a1_3] 50 (0,0)) (by (with_reducible repeat (first|refine kN ?_ _|refine kD ?_|refine kA ?_ _)); exact BK142.out)) : gb142 ≠ gb143)); have n9_:=Aside0.mk ((by rw [hg]; exact Nat.ne_of_gt (blk_lt (g:=gb142) (o:=.cells #[.int .i64 a1_0,.int .i64 a1_1,.int .i64 a1_2,.int .i64 a1_3] 50 (0,0)) (by (with_reducible repeat (first|refine kN ?_ _|refine kD ?_|refine kA ?_ _)); exact BK142.out)) : gb143 ≠ gb142)); clear BK141; clear BK142; clear HB; have BK141:=n0_; have BK142:=n1_; have HB:=n2_; have BK143:=n3_; have GW143:=n4_; have GE143:=n5_; have NB141_143:=n6_; have NB143_141:=n7_; have NB142_143:=n8_; have NB143_142:=n9_; clear n0_ n1_ n2_ n3_ n4_ n5_ n6_ n7_ n8_ n9_; clear hb hbox hg; have hnb11:=NB141_142.out; have hnc11:=NB142_141.out; have hnb12:=NB141_143.out; have hnc12:=NB143_141.out; have hcz13_0 : w10.cell? ⟨gb141,0,none⟩ = some (.int .i64 a0_0):=(kC BK141.out 0).trans rfl; have hcz13_1 : w10.cell? ⟨gb141,1,none⟩ = some (.int .i64 a0_1):=(kC BK141.out 1).trans rfl; have hcz13_2 : w10.cell? ⟨gb141,2,none⟩ = some (.int .i64 a0_2):=(kC BK141.out 2).trans rfl; have hcz13_3 : w10.cell? ⟨gb141,3,none⟩ = some (.int .i64 a0_3):=(kC BK141.out 3).trans rfl; have hfz13_0:=blk_frozen BK141.out 0; have hfz13_1:=blk_frozen BK141.out 1; have hfz13_2:=blk_frozen BK141.out 2; have hfz13_3:=blk_frozen BK141.out 3)|((with_reducible refine gate_callee (f:=67) rfl ?_); refine goesL_ (some 7) rfl rfl Try.func67 (by kernel_rfl) rfl #[.agg #[.int .i64 a0_0,.int .i64 a0_1,.int .i64 a0_2,.int .i64 a0_3]] rfl (by (try simp only [List.map_toArray,List.map_cons,List.map_nil]); first|done|rfl|(simp only [List.length_drop,List.length_take]; rfl)) ?_; (with_reducible refine (spec_IntervalOk.calls a0_0 a0_1 a0_2 a0_3 true _ A3.out).mono ?_); rintro e w14 ⟨rfl,hb⟩; refine ⟨_,rfl,?_⟩; have n0_:=Aside0.mk (kB (g:=gb141) (o:=.cells #[.int .i64 a0_0,.int .i64 a0_1,.int .i64 a0_2,.int .i64 a0_3] 50 (0,0)) (by (with_reducible repeat (first|refine kN ?_ _|refine kD ?_|refine kA ?_ _)); exact BK141.out) hb); have n1_:=Aside0.mk (kB (g:=gb142) (o:=.cells #[.int .i64 a1_0,.int .i64 a1_1,.int .i64 a1_2,.int .i64 a1_3] 50 (0,0)) (by (with_reducible repeat (first|refine kN ?_ _|refine kD ?_|refine kA ?_ _)); exact BK142.out) hb); have n2_:=Aside0.mk (kB (g:=gb143) (o:=.cells #[.int .i64 0,.int .i64 0,.int .i64 0,.int .i64 0] 50 (0,0)) (by (with_reducible repeat (first|refine kN ?_ _|refine kD ?_|refine kA ?_ _)); exact BK143.out) hb); have n3_:=Aside0.mk (below_step (by repeat (first|(with_reducible first|exact HB.out|apply bA|apply bD|apply bE|refine bS ?_ GE141.out|refine bS ?_ GE142.out|refine bS ?_ GE143.out)|exact HB.out)) hb); clear BK141; clear BK142; clear BK143; clear HB; have BK141:=n0_; have BK142:=n1_; have BK143:=n2_; have HB:=n3_; clear n0_ n1_ n2_ n3_; (try clear hb); (try clear hb2); (try clear hk); (try clear hi); have hnb15:=NB142_143.out; have hnc15:=NB143_142.out; have hcz16_0 : w14.cell? ⟨gb142,0,none⟩ = some (.int .i64 a1_0):=(kC BK142.out 0).trans rfl; have hcz16_1 : w14.cell? ⟨gb142,1,none⟩ = some (.int .i64 a1_1):=(kC BK142.out 1).trans rfl; have hcz16_2 : w14.cell? ⟨gb142,2,none⟩ = some (.int .i64 a1_2):=(kC BK142.out 2).trans rfl; have hcz16_3 : w14.cell? ⟨gb142,3,none⟩ = some (.int .i64 a1_3):=(kC BK142.out 3).trans rfl; have hfz16_0:=blk_frozen BK142.out 0; have hfz16_1:=blk_frozen BK142.out 1; have hfz16_2:=blk_frozen BK142.out 2; have hfz16_3:=blk_frozen BK142.out 3)|(go_at_call 67; (with_reducible refine (spec_IntervalOk.calls a1_0 a1_1 a1_2 a1_3 true _ A5.out).mono ?_); rintro e w17 ⟨rfl,hb⟩; have n0_:=Aside0.mk (kB (g:=gb141) (o:=.cells #[.int .i64 a0_0,.int .i64 a0_1,.int .i64 a0_2,.int .i64 a0_3] 50 (0,0)) (by (with_reducible repeat (first|refine kN ?_ _|refine kD ?_|refine kA ?_ _)); exact BK141.out) hb); have n1_:=Aside0.mk (kB (g:=gb142) (o:=.cells #[.int .i64 a1_0,.int .i64 a1_1,.int .i64 a1_2,.int .i64 a1_3] 50 (0,0)) (by (with_reducible repeat (first|refine kN ?_ _|refine kD ?_|refine kA ?_ _)); exact BK142.out) hb); have n2_:=Aside0.mk (kB (g:=gb143) (o:=.cells #[.int .i64 0,.int .i64 0,.int .i64 0,.int .i64 0] 50 (0,0)) (by (with_reducible repeat (first|refine kN ?_ _|refine kD ?_|refine kA ?_ _)); exact BK143.out) hb); have n3_:=Aside0.mk (below_step (by repeat (first|(with_reducible first|exact HB.out|apply bA|apply bD|apply bE|refine bS ?_ GE141.out|refine bS ?_ GE142.out|refine bS ?_ GE143.out)|exact HB.out)) hb); clear BK141; clear BK142; clear BK143; clear HB; have BK141:=n0_; have BK142:=n1_; have BK143:=n2_; have HB:=n3_; clear n0_ n1_ n2_ n3_; (try clear hb); (try clear hb2); (try clear hk); (try clear hi); have hcz18_0 : w17.cell? ⟨gb141,0,none⟩ = some (.int .i64 a0_0):=(kC BK141.out 0).trans rfl; have hcz18_1 : w17.cell? ⟨gb141,1,none⟩ = some (.int .i64 a0_1):=(kC BK141.out 1).trans rfl; have hcz18_2 : w17.cell? ⟨gb141,2,none⟩ = some (.int .i64 a0_2):=(kC BK141.out 2).trans rfl; have hcz18_3 : w17.cell? ⟨gb141,3,none⟩ = some (.int .i64 a0_3):=(kC BK141.out 3).trans rfl; have hfz18_0:=blk_frozen BK141.out 0; have hfz18_1:=blk_frozen BK141.out 1; have hfz18_2:=blk_frozen BK141.out 2; have hfz18_3:=blk_frozen BK141.out 3; have hcz19_0 : w17.cell? ⟨gb142,0,none⟩ = some (.int .i64 a1_0):=(kC BK142.out 0).trans rfl; have hcz19_1 : w17.cell? ⟨gb142,1,none⟩ = some (.int .i64 a1_1):=(kC BK142.out 1).trans rfl; have hcz19_2 : w17.cell? ⟨gb142,2,none⟩ = some (.int .i64 a1_2):=(kC BK142.out 2).trans rfl; have hcz19_3 : w17.cell? ⟨gb142,3,none⟩ = some (.int .i64 a1_3):=(kC BK142.out 3).trans rfl; have hfz19_0:=blk_frozen BK142.out 0; have hfz19_1:=blk_frozen BK142.out 1; have hfz19_2:=blk_frozen BK142.out 2; have hfz19_3:=blk_frozen BK142.out 3)|((with_reducible refine gate_callee (f:=68) rfl ?_); refine goesL_ (some 54) rfl rfl Try.func68 (by kernel_rfl) rfl #[.agg #[.int .i64 (wrap64 ((wrap64 (a0_0 * a1_3)) + (wrap64 (a1_0 * a0_3)))),.int .i64 (wrap64 ((wrap64 (a0_1 * a1_3)) + (wrap64 (a1_1 * a0_3)))),.int .i64 (wrap64 ((wrap64 (a0_2 * a1_3)) + (wrap64 (a1_2 * a0_3)))),.int .i64 (wrap64 (a0_3 * a1_3))]] rfl (by (try simp only [List.map_toArray,List.map_cons,List.map_nil]); first|done|rfl|(simp only [List.length_drop,List.length_take]; rfl)) ?_; (with_reducible refine (spec_l03Checked.calls k (wrap64 ((wrap64 (a0_0 * a1_3)) + (wrap64 (a1_0 * a0_3)))) (wrap64 ((wrap64 (a0_1 * a1_3)) + (wrap64 (a1_1 * a0_3)))) (wrap64 ((wrap64 (a0_2 * a1_3)) + (wrap64 (a1_2 * a0_3)))) (wrap64 (a0_3 * a1_3)) t146 t147 t148 t149 t150 _ A7.out).mono ?_); rintro e w20 ⟨rfl,hb⟩; refine ⟨_,rfl,?_⟩; have n0_:=Aside0.mk (kB (g:=gb141) (o:=.cells #[.int .i64 a0_0,.int .i64 a0_1,.int .i64 a0_2,.int .i64 a0_3] 50 (0,0)) (by (with_reducible repeat (first|refine kN ?_ _|refine kD ?_|refine kA ?_ _)); exact BK141.out) hb); have n1_:=Aside0.mk (kB (g:=gb142) (o:=.cells #[.int .i64 a1_0,.int .i64 a1_1,.int .i64 a1_2,.int .i64 a1_3] 50 (0,0)) (by (with_reducible repeat (first|refine kN ?_ _|refine kD ?_|refine kA ?_ _)); exact BK142.out) hb); have n2_:=Aside0.mk (kB (g:=gb143) (o:=.cells #[.int .i64 0,.int .i64 0,.int .i64 0,.int .i64 0] 50 (0,0)) (by (with_reducible repeat (first|refine kN ?_ _|refine kD ?_|refine kA ?_ _)); exact BK143.out) hb); have n3_:=Aside0.mk (below_step (by repeat (first|(with_reducible first|exact HB.out|apply bA|apply bD|apply bE|refine bS ?_ GE141.out|refine bS ?_ GE142.out|refine bS ?_ GE143.out)|exact HB.out)) hb); clear BK141; clear BK142; clear BK143; clear HB; have BK141:=n0_; have BK142:=n1_; have BK143:=n2_; have HB:=n3_; clear n0_ n1_ n2_ n3_; (try clear hb); (try clear hb2); (try clear hk); (try clear hi); have hcz21_0 : w20.cell? ⟨gb143,0,none⟩ = some (.int .i64 0):=(kC BK143.out 0).trans rfl; have hcz21_1 : w20.cell? ⟨gb143,1,none⟩ = some (.int .i64 0):=(kC BK143.out 1).trans rfl; have hcz21_2 : w20.cell? ⟨gb143,2,none⟩ = some (.int .i64 0):=(kC BK143.out 2).trans rfl; have hcz21_3 : w20.cell? ⟨gb143,3,none⟩ = some (.int .i64 0):=(kC BK143.out 3).trans rfl; have hfz21_0:=blk_frozen BK143.out 0; have hfz21_1:=blk_frozen BK143.out 1; have hfz21_2:=blk_frozen BK143.out 2; have hfz21_3:=blk_frozen BK143.out 3))
 refine bodyPost_ret (results_ct rfl _ _ gb143 50 #[.int .i64 t146,.int .i64 t147,.int .i64 t148,.int .i64 t149] (0,0) _ rfl (by (with_reducible repeat (first|refine kN ?_ _|refine kD ?_|refine kA ?_ _)); refine blk_put (cs:=#[.int .i64 t146,.int .i64 t147,.int .i64 t148,.int .i64 0]) ?_ 3 _ rfl; (with_reducible repeat (first|refine kN ?_ _|refine kD ?_|refine kA ?_ _)); refine blk_put (cs:=#[.int .i64 t146,.int .i64 t147,.int .i64 0,.int .i64 0]) ?_ 2 _ rfl; (with_reducible repeat (first|refine kN ?_ _|refine kD ?_|refine kA ?_ _)); refine blk_put (cs:=#[.int .i64 t146,.int .i64 0,.int .i64 0,.int .i64 0]) ?_ 1 _ rfl; (with_reducible repeat (first|refine kN ?_ _|refine kD ?_|refine kA ?_ _)); refine blk_put (cs:=#[.int .i64 0,.int .i64 0,.int .i64 0,.int .i64 0]) ?_ 0 _ rfl; (with_reducible repeat (first|refine kN ?_ _|refine kD ?_|refine kA ?_ _)); exact BK143.out) Try.underlying50 rfl (by kernel_rfl)) rfl ?_
 exact ⟨by first|rfl|(simp [errW_none,errW_some] <;> rfl)|(simp [*,errW_none,errW_some] <;> rfl),by repeat (first|(with_reducible first|exact HB.out|apply bA|apply bD|apply bE|refine bS ?_ GE141.out|refine bS ?_ GE142.out|refine bS ?_ GE143.out)|exact HB.out)⟩
/-! ### spec_l13Sum: function 53 -/
def spec_l13Sum.l0 : Nat → Int → Int → Int → Int → List Int → Option (Int)
 | 0,_,_,_,_,_ => none
 | k + 1,x1,x2,x7,x8,x152000 => if x8 < x2 then (if 0 ≤ (Int.tmod (wrap64 (x1 + x8)) 12) then (if (Int.tmod (wrap64 (x1 + x8)) 12) < (x152000.length : Int) then (spec_l13Sum.l0 k x1 x2 (wrap64 (x7 + (rd x152000 (Int.tmod (wrap64 (x1 + x8)) 12)))) (wrap64 (x8 + 1)) x152000) else (none)) else (none)) else (some x7)
def spec_l13Sum.f (k : Nat) (l0_0 : List Int) (a1 : Int) (a2 : Int) : Option (Int):=spec_l13Sum.l0 k a1 a2 0 0 l0_0
theorem spec_l13Sum.mono_l : ∀ k,(∀ y0 y1 y2 y3 y4,LeO (spec_l13Sum.l0 k y0 y1 y2 y3 y4) (spec_l13Sum.l0 (k + 1) y0 y1 y2 y3 y4))
 | 0 => fun _ _ _ _ _ r h => by simp [spec_l13Sum.l0] at h
 | k + 1 => by
  have ih0:=spec_l13Sum.mono_l k
  ·intro y0 y1 y2 y3 y4
   unfold spec_l13Sum.l0
   repeat' first
   | (with_reducible exact ih0 _ _ _ _ _)
   | (with_reducible exact LeO.refl _)
   | (with_reducible exact LeO.none _)
   | (with_reducible refine LeO.ite ?_ ?_)
   | (with_reducible refine LeO.bind ?_ (fun _ => ?_))
   | exact ih0 _ _ _ _ _
   | exact LeO.none _
   | refine LeO.ite ?_ ?_
   | refine LeO.bind ?_ (fun _ => ?_)
theorem spec_l13Sum.mono : ∀ a0 a1 a2 k,LeO (spec_l13Sum.f k a0 a1 a2) (spec_l13Sum.f (k + 1) a0 a1 a2):=by
 intro a0 a1 a2 k
 have ih0:=spec_l13Sum.mono_l k
 unfold spec_l13Sum.f
 repeat' first
   | (with_reducible exact ih0 _ _ _ _ _)
   | (with_reducible exact LeO.refl _)
   | (with_reducible exact LeO.none _)
   | (with_reducible refine LeO.ite ?_ ?_)
   | (with_reducible refine LeO.bind ?_ (fun _ => ?_))
   | exact ih0 _ _ _ _ _
   | exact LeO.none _
   | refine LeO.ite ?_ ?_
   | refine LeO.bind ?_ (fun _ => ?_)
set_option maxHeartbeats 8000000 in
set_option maxRecDepth 100000 in
theorem spec_l13Sum.calls (k : Nat) (A0_0 : Option Addr) (c0_0 : Nat) (l0_0 : List Int) (a1 : Int) (a2 : Int) (r : Int) (w : World) (hr0_0 : Kd.C (Kd.int .i64) w A0_0 l0_0.length l0_0) (hc0_0 : l0_0.length ≤ c0_0) (h : spec_l13Sum.f k l0_0 a1 a2 = some r) :
  Calls Try.prog 53 #[.agg #[.slice A0_0 l0_0.length c0_0],.int .i64 a1,.int .i64 a2] w fun e w' => e = .returned (.int .i64 r) ∧ Below w.heap.size w w':=by
 have hu42:=Try.underlying42
 have HR0_0:=Aside0.mk hr0_0
 have HC0_0:=Aside0.mk hc0_0
 clear hr0_0 hc0_0
 have HB:=Aside0.mk (Below.refl w.heap.size w)
 have H : (spec_l13Sum.l0 k a1 a2 0 0 l0_0) = some r:=h
 clear h
 have H':=Aside0.mk H
 clear H
 go_enter Try.func53,Try.ntmps53
 go_wp2_with (first|((with_reducible refine gate_dst (N:=3) rfl ?_); refine box_event ?hg (N:=3) ?hd (cs:=#[.slice A0_0 l0_0.length c0_0]) (t:=42) ?hr ?_; (case hd => rfl); (case hg => rfl); (case hr => first|(go_simp; done)|(go_simp; rfl)); intro gb151 hg w4 hbox hb; have n0_:=Aside0.mk (below_step (by repeat (first|(with_reducible first|exact HB.out|apply bA|apply bD|apply bE)|exact HB.out)) hb); have n1_:=Aside0.mk (hbox); have n2_:=Aside0.mk ((by rw [hg]; exact (below_size (by repeat (first|(with_reducible first|exact HB.out|apply bA|apply bD|apply bE)|exact HB.out))) : w.heap.size ≤ gb151)); have n3_:=Aside0.mk ((by rw [hg]; exact (below_size (by repeat (first|(with_reducible first|exact HB.out|apply bA|apply bD|apply bE)|exact HB.out))) : w.heap.size ≤ gb151)); clear HB; have HB:=n0_; have BK151:=n1_; have GW151:=n2_; have GE151:=n3_; clear n0_ n1_ n2_ n3_; clear hb hbox hg))
 go_loopg [7,8] k (fun kq v7 v8 w' => ∃ (x7_1 : Int) (x8_1 : Int),v7 = .int .i64 x7_1 ∧ v8 = .int .i64 x8_1 ∧ Aside0 (spec_l13Sum.l0 kq a1 a2 x7_1 x8_1 l0_0 = some r) ∧ Aside0 (kq ≤ k) ∧ Aside0 (w'.heap[gb151]? = some (.cells #[(.slice A0_0 l0_0.length c0_0)] 42 (0,0))) ∧ Aside0 (Below w.heap.size w w'))
 case atStart => exact ⟨(0),(0),(by first|rfl|(simp; done)|(simp [*]; done)),(by first|rfl|(simp; done)|(simp [*]; done)),H',⟨Nat.le_refl _⟩,⟨by (with_reducible repeat (first|refine kN ?_ _|refine kD ?_|refine kA ?_ _)); exact BK151.out⟩,⟨by repeat (first|(with_reducible first|exact HB.out|apply bA|apply bD|apply bE|refine bS ?_ GE151.out)|exact HB.out)⟩⟩
 case round =>
  clear H'
  try clear p2
  obtain ⟨x7_1,x8_1,rfl,rfl,HA,HK1,BK151,HB⟩:=hrel
  cases gk with
  | zero => exact absurd HA.out (by simp [spec_l13Sum.l0])
  | succ k1 =>
   have H:=HA.out
   clear HA
   simp only [spec_l13Sum.l0] at H
   by_cases c5 : x8_1 < a2
   rotate_left
   ·rw [if_neg c5] at H
    have c5b0 : decide (x8_1 < a2) = false:=decide_eq_false c5
    clear c5
    obtain rfl:=Option.some.inj H
    go_wp2
    go_ret
    exact ⟨by first|rfl|(simp [errW_none,errW_some] <;> rfl)|(simp [*,errW_none,errW_some] <;> rfl),by repeat (first|(with_reducible first|exact HB.out|apply bA|apply bD|apply bE|refine bS ?_ GE151.out)|exact HB.out)⟩

   rw [if_pos c5] at H
   have c5b0 : decide (x8_1 < a2) = true:=decide_eq_true c5
   clear c5
   obtain ⟨ji6,hji6⟩ : ∃ j_ : Int,(Int.tmod (wrap64 (a1 + x8_1)) 12) = j_:=⟨_,rfl⟩
   replace H : (if 0 ≤ (ji6) then (if (ji6) < (l0_0.length : Int) then (spec_l13Sum.l0 k1 a1 a2 (wrap64 (x7_1 + (rd l0_0 (ji6)))) (wrap64 (x8_1 + 1)) l0_0) else (none)) else (none)) = some r:=by first|(rw [hji6] at H; exact H)|(simp only [hji6] at H ⊢; exact H)
   by_cases c7 : 0 ≤ (ji6)
   rotate_left
   ·rw [if_neg c7] at H
    exact absurd H (by simp)
   rw [if_pos c7] at H
   have c7b0 : decide (0 ≤ (ji6)) = true:=decide_eq_true c7
   clear c7
   by_cases c8 : (ji6) < (l0_0.length : Int)
   rotate_left
   ·rw [if_neg c8] at H
    exact absurd H (by simp)
   rw [if_pos c8] at H
   have c8b0 : decide ((ji6) < (l0_0.length : Int)) = true:=decide_eq_true c8
   clear c8
   have H':=Aside0.mk H
   clear H
   have hcz9_0 : wr.cell? ⟨gb151,0,none⟩ = some (.slice A0_0 l0_0.length c0_0):=(kC BK151.out 0).trans rfl
   have hfz9_0:=blk_frozen BK151.out 0
   have p152 : 0 ≤ ((ji6) : Int):=of_decide_eq_true (by first|(with_reducible assumption)|assumption)
   have q152 : (ji6) < (l0_0.length : Int):=of_decide_eq_true (by first|(with_reducible assumption)|assumption)
   obtain ⟨ad152,e152,hx152_0⟩:=Kd.at_int HR0_0.out (ji6) p152 q152
   cases e152
   replace hx152_0:=(HB.out.cell (World.block_lt_of_cell? w _ hx152_0)).trans hx152_0
   replace p152:=eq_true p152
   replace q152:=eq_true q152
   go_wp2
   go_roundg k1
   case measure => have:=HK1.out; omega
   case rel => exact ⟨(wrap64 (x7_1 + (rd l0_0 (ji6)))),(wrap64 (x8_1 + 1)),(by first|rfl|(simp; done)|(simp only [← hji6] <;> (first|rfl|simp))|(simp [*]; done)),(by first|rfl|(simp; done)|(simp [*]; done)),H',⟨by have:=HK1.out; omega⟩,⟨by (with_reducible repeat (first|refine kN ?_ _|refine kD ?_|refine kA ?_ _)); exact BK151.out⟩,⟨by repeat (first|(with_reducible first|exact HB.out|apply bA|apply bD|apply bE|refine bS ?_ GE151.out)|exact HB.out)⟩⟩
/-! ### spec_l12Has: function 69 -/
def spec_l12Has.f (k : Nat) (l0_0 : List Int) (a1 : Int) : Option (Bool):=(spec_CircleOk.f k l0_0).bind fun t154 => (if t154 = true then ((spec_l01In.f a1 0 11).bind fun t155 => (some t155)) else (some false))
theorem spec_l12Has.mono : ∀ a0 a1 k,LeO (spec_l12Has.f k a0 a1) (spec_l12Has.f (k + 1) a0 a1):=by
 intro a0 a1 k
 unfold spec_l12Has.f
 repeat' first
   | (with_reducible exact spec_CircleOk.mono _ _)
   | (with_reducible exact LeO.refl _)
   | (with_reducible exact LeO.none _)
   | (with_reducible refine LeO.ite ?_ ?_)
   | (with_reducible refine LeO.bind ?_ (fun _ => ?_))
   | exact spec_CircleOk.mono _ _
   | exact LeO.none _
   | refine LeO.ite ?_ ?_
   | refine LeO.bind ?_ (fun _ => ?_)
set_option maxHeartbeats 8000000 in
set_option maxRecDepth 100000 in
theorem spec_l12Has.calls (k : Nat) (A0_0 : Option Addr) (c0_0 : Nat) (l0_0 : List Int) (a1 : Int) (r : Bool) (w : World) (hr0_0 : Kd.C (Kd.int .i64) w A0_0 l0_0.length l0_0) (hc0_0 : l0_0.length ≤ c0_0) (h : spec_l12Has.f k l0_0 a1 = some r) :
  Calls Try.prog 69 #[.agg #[.slice A0_0 l0_0.length c0_0],.int .i64 a1] w fun e w' => e = .returned (.bool r) ∧ Below w.heap.size w w':=by
 have hu42:=Try.underlying42
 have HR0_0:=Aside0.mk hr0_0
 have HC0_0:=Aside0.mk hc0_0
 clear hr0_0 hc0_0
 have HB:=Aside0.mk (Below.refl w.heap.size w)
 have H : ((spec_CircleOk.f k l0_0).bind fun t154 => (if t154 = true then ((spec_l01In.f a1 0 11).bind fun t155 => (some t155)) else (some false))) = some r:=h
 clear h
 replace H:=Option.bind_eq_some_iff.mp H
 obtain ⟨t154,A30,H⟩:=H
 replace H : (if t154 = true then ((spec_l01In.f a1 0 11).bind fun t155 => (some t155)) else (some false)) = some r:=H
 have A3:=Aside0.mk A30
 clear A30
 by_cases c4 : t154 = true
 rotate_left
 ·replace c4:=Bool.eq_false_iff.mpr c4
  subst c4
  have H1 : (some false) = some r:=by rw [if_neg (show ¬ (false = true) by decide)] at H; exact H
  clear H
  have H:=H1
  clear H1
  obtain rfl:=Option.some.inj H
  go_enter Try.func69,Try.ntmps69
  go_wp2_with (first|((with_reducible refine gate_dst (N:=2) rfl ?_); refine box_event ?hg (N:=2) ?hd (cs:=#[.slice A0_0 l0_0.length c0_0]) (t:=42) ?hr ?_; (case hd => rfl); (case hg => rfl); (case hr => first|(go_simp; done)|(go_simp; rfl)); intro gb153 hg w9 hbox hb; have n0_:=Aside0.mk (below_step (by repeat (first|(with_reducible first|exact HB.out|apply bA|apply bD|apply bE)|exact HB.out)) hb); have n1_:=Aside0.mk (hbox); have n2_:=Aside0.mk ((by rw [hg]; exact (below_size (by repeat (first|(with_reducible first|exact HB.out|apply bA|apply bD|apply bE)|exact HB.out))) : w.heap.size ≤ gb153)); have n3_:=Aside0.mk ((by rw [hg]; exact (below_size (by repeat (first|(with_reducible first|exact HB.out|apply bA|apply bD|apply bE)|exact HB.out))) : w.heap.size ≤ gb153)); clear HB; have HB:=n0_; have BK153:=n1_; have GW153:=n2_; have GE153:=n3_; clear n0_ n1_ n2_ n3_; clear hb hbox hg; have hcz10_0 : w9.cell? ⟨gb153,0,none⟩ = some (.slice A0_0 l0_0.length c0_0):=(kC BK153.out 0).trans rfl; have hfz10_0:=blk_frozen BK153.out 0)|((with_reducible refine gate_callee (f:=52) rfl ?_); refine goesL_ (some 6) rfl rfl Try.func52 (by kernel_rfl) rfl #[.agg #[.slice A0_0 l0_0.length c0_0]] rfl (by (try simp only [List.map_toArray,List.map_cons,List.map_nil]); first|done|rfl|(simp only [List.length_drop,List.length_take]; rfl)) ?_; (with_reducible refine (spec_CircleOk.calls k _ _ l0_0 false _ ?side1 ?side2 A3.out).mono ?_); (case side1 => repeat (first|exact (Kd.C_below HR0_0.out HB.out)|(with_reducible refine Kd.C_alloc ?_ _)|(with_reducible refine Kd.C_drewN ?_ _)|(with_reducible refine Kd.C_drew ?_))); (case side2 => exact HC0_0.out); rintro e w11 ⟨rfl,hb⟩; refine ⟨_,rfl,?_⟩; have n0_:=Aside0.mk (kB (g:=gb153) (o:=.cells #[.slice A0_0 l0_0.length c0_0] 42 (0,0)) (by (with_reducible repeat (first|refine kN ?_ _|refine kD ?_|refine kA ?_ _)); exact BK153.out) hb); have n1_:=Aside0.mk (below_step (by repeat (first|(with_reducible first|exact HB.out|apply bA|apply bD|apply bE|refine bS ?_ GE153.out)|exact HB.out)) hb); clear BK153; clear HB; have BK153:=n0_; have HB:=n1_; clear n0_ n1_; (try clear hb); (try clear hb2); (try clear hk); (try clear hi)))
  go_ret
  exact ⟨by first|rfl|(simp [errW_none,errW_some] <;> rfl)|(simp [*,errW_none,errW_some] <;> rfl),by repeat (first|(with_reducible first|exact HB.out|apply bA|apply bD|apply bE|refine bS ?_ GE153.out)|exact HB.out)⟩

 subst c4
 have H1 : ((spec_l01In.f a1 0 11).bind fun t155 => (some t155)) = some r:=by rw [if_pos rfl] at H; exact H
 clear H
 have H:=H1
 clear H1
 replace H:=Option.bind_eq_some_iff.mp H
 obtain ⟨t155,A50,H⟩:=H
 replace H : (some t155) = some r:=H
 have A5:=Aside0.mk A50
 clear A50
 obtain rfl:=Option.some.inj H
 go_enter Try.func69,Try.ntmps69
 go_wp2_with (first|((with_reducible refine gate_dst (N:=2) rfl ?_); refine box_event ?hg (N:=2) ?hd (cs:=#[.slice A0_0 l0_0.length c0_0]) (t:=42) ?hr ?_; (case hd => rfl); (case hg => rfl); (case hr => first|(go_simp; done)|(go_simp; rfl)); intro gb153 hg w6 hbox hb; have n0_:=Aside0.mk (below_step (by repeat (first|(with_reducible first|exact HB.out|apply bA|apply bD|apply bE)|exact HB.out)) hb); have n1_:=Aside0.mk (hbox); have n2_:=Aside0.mk ((by rw [hg]; exact (below_size (by repeat (first|(with_reducible first|exact HB.out|apply bA|apply bD|apply bE)|exact HB.out))) : w.heap.size ≤ gb153)); have n3_:=Aside0.mk ((by rw [hg]; exact (below_size (by repeat (first|(with_reducible first|exact HB.out|apply bA|apply bD|apply bE)|exact HB.out))) : w.heap.size ≤ gb153)); clear HB; have HB:=n0_; have BK153:=n1_; have GW153:=n2_; have GE153:=n3_; clear n0_ n1_ n2_ n3_; clear hb hbox hg; have hcz7_0 : w6.cell? ⟨gb153,0,none⟩ = some (.slice A0_0 l0_0.length c0_0):=(kC BK153.out 0).trans rfl; have hfz7_0:=blk_frozen BK153.out 0)|((with_reducible refine gate_callee (f:=52) rfl ?_); refine goesL_ (some 6) rfl rfl Try.func52 (by kernel_rfl) rfl #[.agg #[.slice A0_0 l0_0.length c0_0]] rfl (by (try simp only [List.map_toArray,List.map_cons,List.map_nil]); first|done|rfl|(simp only [List.length_drop,List.length_take]; rfl)) ?_; (with_reducible refine (spec_CircleOk.calls k _ _ l0_0 true _ ?side1 ?side2 A3.out).mono ?_); (case side1 => repeat (first|exact (Kd.C_below HR0_0.out HB.out)|(with_reducible refine Kd.C_alloc ?_ _)|(with_reducible refine Kd.C_drewN ?_ _)|(with_reducible refine Kd.C_drew ?_))); (case side2 => exact HC0_0.out); rintro e w8 ⟨rfl,hb⟩; refine ⟨_,rfl,?_⟩; have n0_:=Aside0.mk (kB (g:=gb153) (o:=.cells #[.slice A0_0 l0_0.length c0_0] 42 (0,0)) (by (with_reducible repeat (first|refine kN ?_ _|refine kD ?_|refine kA ?_ _)); exact BK153.out) hb); have n1_:=Aside0.mk (below_step (by repeat (first|(with_reducible first|exact HB.out|apply bA|apply bD|apply bE|refine bS ?_ GE153.out)|exact HB.out)) hb); clear BK153; clear HB; have BK153:=n0_; have HB:=n1_; clear n0_ n1_; (try clear hb); (try clear hb2); (try clear hk); (try clear hi))|(go_at_call 45; (with_reducible refine (spec_l01In.calls a1 0 11 t155 _ A5.out).mono ?_); rintro e w' ⟨rfl,⟨nd,rfl⟩⟩))
 go_ret
 exact ⟨by first|rfl|(simp [errW_none,errW_some] <;> rfl)|(simp [*,errW_none,errW_some] <;> rfl),by repeat (first|(with_reducible first|exact HB.out|apply bA|apply bD|apply bE|refine bS ?_ GE153.out)|exact HB.out)⟩
/-! ### spec_ThirdAt: function 60 -/
def spec_ThirdAt.f (k : Nat) (l0_0 : List Int) (a1 : Int) : Option (Int × Int × Int × Int):=(spec_l12Has.f k l0_0 a1).bind fun t158 => (if t158 = true then ((spec_l13Sum.f k l0_0 a1 4).bind fun t159 => ((spec_l03Simple.f k (wrap64 ((wrap64 (19 * t159)) - 72)) (wrap64 (48 - (wrap64 (12 * t159)))) 0 12).bind fun bt160 => (some (bt160.1,bt160.2.1,bt160.2.2.1,bt160.2.2.2)))) else (some (0,0,0,0)))
theorem spec_ThirdAt.mono : ∀ a0 a1 k,LeO (spec_ThirdAt.f k a0 a1) (spec_ThirdAt.f (k + 1) a0 a1):=by
 intro a0 a1 k
 unfold spec_ThirdAt.f
 repeat' first
   | (with_reducible exact spec_l03Simple.mono _ _ _ _ _)
   | (with_reducible exact spec_l12Has.mono _ _ _)
   | (with_reducible exact spec_l13Sum.mono _ _ _ _)
   | (with_reducible exact LeO.refl _)
   | (with_reducible exact LeO.none _)
   | (with_reducible refine LeO.ite ?_ ?_)
   | (with_reducible refine LeO.bind ?_ (fun _ => ?_))
   | exact spec_l03Simple.mono _ _ _ _ _
   | exact spec_l12Has.mono _ _ _
   | exact spec_l13Sum.mono _ _ _ _
   | exact LeO.none _
   | refine LeO.ite ?_ ?_
   | refine LeO.bind ?_ (fun _ => ?_)
set_option maxHeartbeats 8000000 in
set_option maxRecDepth 100000 in
theorem spec_ThirdAt.calls (k : Nat) (A0_0 : Option Addr) (c0_0 : Nat) (l0_0 : List Int) (a1 : Int) (r1 : Int) (r2 : Int) (r3 : Int) (r4 : Int) (w : World) (hr0_0 : Kd.C (Kd.int .i64) w A0_0 l0_0.length l0_0) (hc0_0 : l0_0.length ≤ c0_0) (h : spec_ThirdAt.f k l0_0 a1 = some (r1,r2,r3,r4)) :
  Calls Try.prog 60 #[.agg #[.slice A0_0 l0_0.length c0_0],.int .i64 a1] w fun e w' => e = .returned (.agg #[.int .i64 r1,.int .i64 r2,.int .i64 r3,.int .i64 r4]) ∧ Below w.heap.size w w':=by
 have hu42:=Try.underlying42
 have hu50:=Try.underlying50
 have HR0_0:=Aside0.mk hr0_0
 have HC0_0:=Aside0.mk hc0_0
 clear hr0_0 hc0_0
 have HB:=Aside0.mk (Below.refl w.heap.size w)
 have H : ((spec_l12Has.f k l0_0 a1).bind fun t158 => (if t158 = true then ((spec_l13Sum.f k l0_0 a1 4).bind fun t159 => ((spec_l03Simple.f k (wrap64 ((wrap64 (19 * t159)) - 72)) (wrap64 (48 - (wrap64 (12 * t159)))) 0 12).bind fun bt160 => (some (bt160.1,bt160.2.1,bt160.2.2.1,bt160.2.2.2)))) else (some (0,0,0,0)))) = some (r1,r2,r3,r4):=h
 clear h
 replace H:=Option.bind_eq_some_iff.mp H
 obtain ⟨t158,A30,H⟩:=H
 replace H : (if t158 = true then ((spec_l13Sum.f k l0_0 a1 4).bind fun t159 => ((spec_l03Simple.f k (wrap64 ((wrap64 (19 * t159)) - 72)) (wrap64 (48 - (wrap64 (12 * t159)))) 0 12).bind fun bt160 => (some (bt160.1,bt160.2.1,bt160.2.2.1,bt160.2.2.2)))) else (some (0,0,0,0))) = some (r1,r2,r3,r4):=H
 have A3:=Aside0.mk A30
 clear A30
 by_cases c4 : t158 = true
 rotate_left
 ·replace c4:=Bool.eq_false_iff.mpr c4
  subst c4
  have H1 : (some (0,0,0,0)) = some (r1,r2,r3,r4):=by rw [if_neg (show ¬ (false = true) by decide)] at H; exact H
  clear H
  have H:=H1
  clear H1
  simp only [Option.some.injEq,Prod.mk.injEq] at H
  obtain ⟨rfl,rfl,rfl,rfl⟩:=H
  go_enter Try.func60,Try.ntmps60
  go_wp2_with (first|((with_reducible refine gate_dst (N:=2) rfl ?_); refine box_event ?hg (N:=2) ?hd (cs:=#[.slice A0_0 l0_0.length c0_0]) (t:=42) ?hr ?_; (case hd => rfl); (case hg => rfl); (case hr => first|(go_simp; done)|(go_simp; rfl)); intro gb156 hg w16 hbox hb; have n0_:=Aside0.mk (below_step (by repeat (first|(with_reducible first|exact HB.out|apply bA|apply bD|apply bE)|exact HB.out)) hb); have n1_:=Aside0.mk (hbox); have n2_:=Aside0.mk ((by rw [hg]; exact (below_size (by repeat (first|(with_reducible first|exact HB.out|apply bA|apply bD|apply bE)|exact HB.out))) : w.heap.size ≤ gb156)); have n3_:=Aside0.mk ((by rw [hg]; exact (below_size (by repeat (first|(with_reducible first|exact HB.out|apply bA|apply bD|apply bE)|exact HB.out))) : w.heap.size ≤ gb156)); clear HB; have HB:=n0_; have BK156:=n1_; have GW156:=n2_; have GE156:=n3_; clear n0_ n1_ n2_ n3_; clear hb hbox hg)|((with_reducible refine gate_dst (N:=4) rfl ?_); refine box_event ?hg (N:=4) ?hd (cs:=#[.int .i64 0,.int .i64 0,.int .i64 0,.int .i64 0]) (t:=50) ?hr ?_; (case hd => rfl); (case hg => rfl); (case hr => first|(go_simp; done)|(go_simp; rfl)); intro gb157 hg w17 hbox hb; have n0_:=Aside0.mk (kB (g:=gb156) (o:=.cells #[.slice A0_0 l0_0.length c0_0] 42 (0,0)) (by (with_reducible repeat (first|refine kN ?_ _|refine kD ?_|refine kA ?_ _)); exact BK156.out) hb); have n1_:=Aside0.mk (below_step (by repeat (first|(with_reducible first|exact HB.out|apply bA|apply bD|apply bE|refine bS ?_ GE156.out)|exact HB.out)) hb); have n2_:=Aside0.mk (hbox); have n3_:=Aside0.mk ((by rw [hg]; exact (below_size (by repeat (first|(with_reducible first|exact HB.out|apply bA|apply bD|apply bE|refine bS ?_ GE156.out)|exact HB.out))) : w.heap.size ≤ gb157)); have n4_:=Aside0.mk ((by rw [hg]; exact (below_size (by repeat (first|(with_reducible first|exact HB.out|apply bA|apply bD|apply bE|refine bS ?_ GE156.out)|exact HB.out))) : w.heap.size ≤ gb157)); have n5_:=Aside0.mk ((by rw [hg]; exact Nat.ne_of_lt (blk_lt (g:=gb156) (o:=.cells #[.slice A0_0 l0_0.length c0_0] 42 (0,0)) (by (with_reducible repeat (first|refine kN ?_ _|refine kD ?_|refine kA ?_ _)); exact BK156.out)) : gb156 ≠ gb157)); have n6_:=Aside0.mk ((by rw [hg]; exact Nat.ne_of_gt (blk_lt (g:=gb156) (o:=.cells #[.slice A0_0 l0_0.length c0_0] 42 (0,0)) (by (with_reducible repeat (first|refine kN ?_ _|refine kD ?_|refine kA ?_ _)); exact BK156.out)) : gb157 ≠ gb156)); clear BK156; clear HB; have BK156:=n0_; have HB:=n1_; have BK157:=n2_; have GW157:=n3_; have GE157:=n4_; have NB156_157:=n5_; have NB157_156:=n6_; clear n0_ n1_ n2_ n3_ n4_ n5_ n6_; clear hb hbox hg; have hnb18:=NB156_157.out; have hnc18:=NB157_156.out; have hcz19_0 : w17.cell? ⟨gb156,0,none⟩ = some (.slice A0_0 l0_0.length c0_0):=(kC BK156.out 0).trans rfl; have hfz19_0:=blk_frozen BK156.out 0)|((with_reducible refine gate_callee (f:=69) rfl ?_); refine goesL_ (some 8) rfl rfl Try.func69 (by kernel_rfl) rfl #[.agg #[.slice A0_0 l0_0.length c0_0],.int .i64 a1] rfl (by (try simp only [List.map_toArray,List.map_cons,List.map_nil]); first|done|rfl|(simp only [List.length_drop,List.length_take]; rfl)) ?_; (with_reducible refine (spec_l12Has.calls k _ _ l0_0 a1 false _ ?side1 ?side2 A3.out).mono ?_); (case side1 => repeat (first|exact (Kd.C_below HR0_0.out HB.out)|(with_reducible refine Kd.C_alloc ?_ _)|(with_reducible refine Kd.C_drewN ?_ _)|(with_reducible refine Kd.C_drew ?_))); (case side2 => exact HC0_0.out); rintro e w20 ⟨rfl,hb⟩; refine ⟨_,rfl,?_⟩; have n0_:=Aside0.mk (kB (g:=gb156) (o:=.cells #[.slice A0_0 l0_0.length c0_0] 42 (0,0)) (by (with_reducible repeat (first|refine kN ?_ _|refine kD ?_|refine kA ?_ _)); exact BK156.out) hb); have n1_:=Aside0.mk (kB (g:=gb157) (o:=.cells #[.int .i64 0,.int .i64 0,.int .i64 0,.int .i64 0] 50 (0,0)) (by (with_reducible repeat (first|refine kN ?_ _|refine kD ?_|refine kA ?_ _)); exact BK157.out) hb); have n2_:=Aside0.mk (below_step (by repeat (first|(with_reducible first|exact HB.out|apply bA|apply bD|apply bE|refine bS ?_ GE156.out|refine bS ?_ GE157.out)|exact HB.out)) hb); clear BK156; clear BK157; clear HB; have BK156:=n0_; have BK157:=n1_; have HB:=n2_; clear n0_ n1_ n2_; (try clear hb); (try clear hb2); (try clear hk); (try clear hi); have hcz21_0 : w20.cell? ⟨gb157,0,none⟩ = some (.int .i64 0):=(kC BK157.out 0).trans rfl; have hcz21_1 : w20.cell? ⟨gb157,1,none⟩ = some (.int .i64 0):=(kC BK157.out 1).trans rfl; have hcz21_2 : w20.cell? ⟨gb157,2,none⟩ = some (.int .i64 0):=(kC BK157.out 2).trans rfl; have hcz21_3 : w20.cell? ⟨gb157,3,none⟩ = some (.int .i64 0):=(kC BK157.out 3).trans rfl; have hfz21_0:=blk_frozen BK157.out 0; have hfz21_1:=blk_frozen BK157.out 1; have hfz21_2:=blk_frozen BK157.out 2; have hfz21_3:=blk_frozen BK157.out 3))
  refine bodyPost_ret (results_cell_row rfl _ _ gb157 50 #[.int .i64 0,.int .i64 0,.int .i64 0,.int .i64 0] (0,0) _ rfl (by (with_reducible repeat (first|refine kN ?_ _|refine kD ?_|refine kA ?_ _)); refine blk_put (cs:=#[.int .i64 0,.int .i64 0,.int .i64 0,.int .i64 0]) ?_ 3 _ rfl; (with_reducible repeat (first|refine kN ?_ _|refine kD ?_|refine kA ?_ _)); refine blk_put (cs:=#[.int .i64 0,.int .i64 0,.int .i64 0,.int .i64 0]) ?_ 2 _ rfl; (with_reducible repeat (first|refine kN ?_ _|refine kD ?_|refine kA ?_ _)); refine blk_put (cs:=#[.int .i64 0,.int .i64 0,.int .i64 0,.int .i64 0]) ?_ 1 _ rfl; (with_reducible repeat (first|refine kN ?_ _|refine kD ?_|refine kA ?_ _)); refine blk_put (cs:=#[.int .i64 0,.int .i64 0,.int .i64 0,.int .i64 0]) ?_ 0 _ rfl; (with_reducible repeat (first|refine kN ?_ _|refine kD ?_|refine kA ?_ _)); exact BK157.out) Try.underlying50 rfl (by kernel_rfl)) rfl ?_
  exact ⟨by first|rfl|(simp [errW_none,errW_some] <;> rfl)|(simp [*,errW_none,errW_some] <;> rfl),by repeat (first|(with_reducible first|exact HB.out|apply bA|apply bD|apply bE|refine bS ?_ GE156.out|refine bS ?_ GE157.out)|exact HB.out)⟩

 subst c4
 have H1 : ((spec_l13Sum.f k l0_0 a1 4).bind fun t159 => ((spec_l03Simple.f k (wrap64 ((wrap64 (19 * t159)) - 72)) (wrap64 (48 - (wrap64 (12 * t159)))) 0 12).bind fun bt160 => (some (bt160.1,bt160.2.1,bt160.2.2.1,bt160.2.2.2)))) = some (r1,r2,r3,r4):=by rw [if_pos rfl] at H; exact H
 clear H
 have H:=H1
 clear H1
 replace H:=Option.bind_eq_some_iff.mp H
 obtain ⟨t159,A50,H⟩:=H
 replace H : ((spec_l03Simple.f k (wrap64 ((wrap64 (19 * t159)) - 72)) (wrap64 (48 - (wrap64 (12 * t159)))) 0 12).bind fun bt160 => (some (bt160.1,bt160.2.1,bt160.2.2.1,bt160.2.2.2))) = some (r1,r2,r3,r4):=H
 have A5:=Aside0.mk A50
 clear A50
 replace H:=Option.bind_eq_some_iff.mp H
 obtain ⟨⟨t160,t161,t162,t163⟩,A60,H⟩:=H
 replace H : (some (t160,t161,t162,t163)) = some (r1,r2,r3,r4):=H
 have A6:=Aside0.mk A60
 clear A60
 simp only [Option.some.injEq,Prod.mk.injEq] at H
 obtain ⟨rfl,rfl,rfl,rfl⟩:=H
 go_enter Try.func60,Try.ntmps60
 go_wp2_with (first|((with_reducible refine gate_dst (N:=2) rfl ?_); refine box_event ?hg (N:=2) ?hd (cs:=#[.slice A0_0 l0_0.length c0_0]) (t:=42) ?hr ?_; (case hd => rfl); (case hg => rfl); (case hr => first|(go_simp; done)|(go_simp; rfl)); intro gb156 hg w7 hbox hb; have n0_:=Aside0.mk (below_step (by repeat (first|(with_reducible first|exact HB.out|apply bA|apply bD|apply bE)|exact HB.out)) hb); have n1_:=Aside0.mk (hbox); have n2_:=Aside0.mk ((by rw [hg]; exact (below_size (by repeat (first|(with_reducible first|exact HB.out|apply bA|apply bD|apply bE)|exact HB.out))) : w.heap.size ≤ gb156)); have n3_:=Aside0.mk ((by rw [hg]; exact (below_size (by repeat (first|(with_reducible first|exact HB.out|apply bA|apply bD|apply bE)|exact HB.out))) : w.heap.size ≤ gb156)); clear HB; have HB:=n0_; have BK156:=n1_; have GW156:=n2_; have GE156:=n3_; clear n0_ n1_ n2_ n3_; clear hb hbox hg)|((with_reducible refine gate_dst (N:=4) rfl ?_); refine box_event ?hg (N:=4) ?hd (cs:=#[.int .i64 0,.int .i64 0,.int .i64 0,.int .i64 0]) (t:=50) ?hr ?_; (case hd => rfl); (case hg => rfl); (case hr => first|(go_simp; done)|(go_simp; rfl)); intro gb157 hg w8 hbox hb; have n0_:=Aside0.mk (kB (g:=gb156) (o:=.cells #[.slice A0_0 l0_0.length c0_0] 42 (0,0)) (by (with_reducible repeat (first|refine kN ?_ _|refine kD ?_|refine kA ?_ _)); exact BK156.out) hb); have n1_:=Aside0.mk (below_step (by repeat (first|(with_reducible first|exact HB.out|apply bA|apply bD|apply bE|refine bS ?_ GE156.out)|exact HB.out)) hb); have n2_:=Aside0.mk (hbox); have n3_:=Aside0.mk ((by rw [hg]; exact (below_size (by repeat (first|(with_reducible first|exact HB.out|apply bA|apply bD|apply bE|refine bS ?_ GE156.out)|exact HB.out))) : w.heap.size ≤ gb157)); have n4_:=Aside0.mk ((by rw [hg]; exact (below_size (by repeat (first|(with_reducible first|exact HB.out|apply bA|apply bD|apply bE|refine bS ?_ GE156.out)|exact HB.out))) : w.heap.size ≤ gb157)); have n5_:=Aside0.mk ((by rw [hg]; exact Nat.ne_of_lt (blk_lt (g:=gb156) (o:=.cells #[.slice A0_0 l0_0.length c0_0] 42 (0,0)) (by (with_reducible repeat (first|refine kN ?_ _|refine kD ?_|refine kA ?_ _)); exact BK156.out)) : gb156 ≠ gb157)); have n6_:=Aside0.mk ((by rw [hg]; exact Nat.ne_of_gt (blk_lt (g:=gb156) (o:=.cells #[.slice A0_0 l0_0.length c0_0] 42 (0,0)) (by (with_reducible repeat (first|refine kN ?_ _|refine kD ?_|refine kA ?_ _)); exact BK156.out)) : gb157 ≠ gb156)); clear BK156; clear HB; have BK156:=n0_; have HB:=n1_; have BK157:=n2_; have GW157:=n3_; have GE157:=n4_; have NB156_157:=n5_; have NB157_156:=n6_; clear n0_ n1_ n2_ n3_ n4_ n5_ n6_; clear hb hbox hg; have hnb9:=NB156_157.out; have hnc9:=NB157_156.out; have hcz10_0 : w8.cell? ⟨gb156,0,none⟩ = some (.slice A0_0 l0_0.length c0_0):=(kC BK156.out 0).trans rfl; have hfz10_0:=blk_frozen BK156.out 0)|((with_reducible refine gate_callee (f:=69) rfl ?_); refine goesL_ (some 8) rfl rfl Try.func69 (by kernel_rfl) rfl #[.agg #[.slice A0_0 l0_0.length c0_0],.int .i64 a1] rfl (by (try simp only [List.map_toArray,List.map_cons,List.map_nil]); first|done|rfl|(simp only [List.length_drop,List.length_take]; rfl)) ?_; (with_reducible refine (spec_l12Has.calls k _ _ l0_0 a1 true _ ?side1 ?side2 A3.out).mono ?_); (case side1 => repeat (first|exact (Kd.C_below HR0_0.out HB.out)|(with_reducible refine Kd.C_alloc ?_ _)|(with_reducible refine Kd.C_drewN ?_ _)|(with_reducible refine Kd.C_drew ?_))); (case side2 => exact HC0_0.out); rintro e w11 ⟨rfl,hb⟩; refine ⟨_,rfl,?_⟩; have n0_:=Aside0.mk (kB (g:=gb156) (o:=.cells #[.slice A0_0 l0_0.length c0_0] 42 (0,0)) (by (with_reducible repeat (first|refine kN ?_ _|refine kD ?_|refine kA ?_ _)); exact BK156.out) hb); have n1_:=Aside0.mk (kB (g:=gb157) (o:=.cells #[.int .i64 0,.int .i64 0,.int .i64 0,.int .i64 0] 50 (0,0)) (by (with_reducible repeat (first|refine kN ?_ _|refine kD ?_|refine kA ?_ _)); exact BK157.out) hb); have n2_:=Aside0.mk (below_step (by repeat (first|(with_reducible first|exact HB.out|apply bA|apply bD|apply bE|refine bS ?_ GE156.out|refine bS ?_ GE157.out)|exact HB.out)) hb); clear BK156; clear BK157; clear HB; have BK156:=n0_; have BK157:=n1_; have HB:=n2_; clear n0_ n1_ n2_; (try clear hb); (try clear hb2); (try clear hk); (try clear hi); have hcz12_0 : w11.cell? ⟨gb156,0,none⟩ = some (.slice A0_0 l0_0.length c0_0):=(kC BK156.out 0).trans rfl; have hfz12_0:=blk_frozen BK156.out 0)|((with_reducible refine gate_callee (f:=53) rfl ?_); refine goesL_ (some 13) rfl rfl Try.func53 (by kernel_rfl) rfl #[.agg #[.slice A0_0 l0_0.length c0_0],.int .i64 a1,.int .i64 4] rfl (by (try simp only [List.map_toArray,List.map_cons,List.map_nil]); first|done|rfl|(simp only [List.length_drop,List.length_take]; rfl)) ?_; (with_reducible refine (spec_l13Sum.calls k _ _ l0_0 a1 4 t159 _ ?side1 ?side2 A5.out).mono ?_); (case side1 => repeat (first|exact (Kd.C_below HR0_0.out HB.out)|(with_reducible refine Kd.C_alloc ?_ _)|(with_reducible refine Kd.C_drewN ?_ _)|(with_reducible refine Kd.C_drew ?_))); (case side2 => exact HC0_0.out); rintro e w13 ⟨rfl,hb⟩; refine ⟨_,rfl,?_⟩; have n0_:=Aside0.mk (kB (g:=gb156) (o:=.cells #[.slice A0_0 l0_0.length c0_0] 42 (0,0)) (by (with_reducible repeat (first|refine kN ?_ _|refine kD ?_|refine kA ?_ _)); exact BK156.out) hb); have n1_:=Aside0.mk (kB (g:=gb157) (o:=.cells #[.int .i64 0,.int .i64 0,.int .i64 0,.int .i64 0] 50 (0,0)) (by (with_reducible repeat (first|refine kN ?_ _|refine kD ?_|refine kA ?_ _)); exact BK157.out) hb); have n2_:=Aside0.mk (below_step (by repeat (first|(with_reducible first|exact HB.out|apply bA|apply bD|apply bE|refine bS ?_ GE156.out|refine bS ?_ GE157.out)|exact HB.out)) hb); clear BK156; clear BK157; clear HB; have BK156:=n0_; have BK157:=n1_; have HB:=n2_; clear n0_ n1_ n2_; (try clear hb); (try clear hb2); (try clear hk); (try clear hi))|((with_reducible refine gate_callee (f:=70) rfl ?_); refine goesL_ (some 21) rfl rfl Try.func70 (by kernel_rfl) rfl #[.agg #[.int .i64 (wrap64 ((wrap64 (19 * t159)) - 72)),.int .i64 (wrap64 (48 - (wrap64 (12 * t159)))),.int .i64 0,.int .i64 12]] rfl (by (try simp only [List.map_toArray,List.map_cons,List.map_nil]); first|done|rfl|(simp only [List.length_drop,List.length_take]; rfl)) ?_; (with_reducible refine (spec_l03Simple.calls k (wrap64 ((wrap64 (19 * t159)) - 72)) (wrap64 (48 - (wrap64 (12 * t159)))) 0 12 t160 t161 t162 t163 _ A6.out).mono ?_); rintro e w14 ⟨rfl,hb⟩; refine ⟨_,rfl,?_⟩; have n0_:=Aside0.mk (kB (g:=gb156) (o:=.cells #[.slice A0_0 l0_0.length c0_0] 42 (0,0)) (by (with_reducible repeat (first|refine kN ?_ _|refine kD ?_|refine kA ?_ _)); exact BK156.out) hb); have n1_:=Aside0.mk (kB (g:=gb157) (o:=.cells #[.int .i64 0,.int .i64 0,.int .i64 0,.int .i64 0] 50 (0,0)) (by (with_reducible repeat (first|refine kN ?_ _|refine kD ?_|refine kA ?_ _)); exact BK157.out) hb); have n2_:=Aside0.mk (below_step (by repeat (first|(with_reducible first|exact HB.out|apply bA|apply bD|apply bE|refine bS ?_ GE156.out|refine bS ?_ GE157.out)|exact HB.out)) hb); clear BK156; clear BK157; clear HB; have BK156:=n0_; have BK157:=n1_; have HB:=n2_; clear n0_ n1_ n2_; (try clear hb); (try clear hb2); (try clear hk); (try clear hi); have hcz15_0 : w14.cell? ⟨gb157,0,none⟩ = some (.int .i64 0):=(kC BK157.out 0).trans rfl; have hcz15_1 : w14.cell? ⟨gb157,1,none⟩ = some (.int .i64 0):=(kC BK157.out 1).trans rfl; have hcz15_2 : w14.cell? ⟨gb157,2,none⟩ = some (.int .i64 0):=(kC BK157.out 2).trans rfl; have hcz15_3 : w14.cell? ⟨gb157,3,none⟩ = some (.int .i64 0):=(kC BK157.out 3).trans rfl; have hfz15_0:=blk_frozen BK157.out 0; have hfz15_1:=blk_frozen BK157.out 1; have hfz15_2:=blk_frozen BK157.out 2; have hfz15_3:=blk_frozen BK157.out 3))
 refine bodyPost_ret (results_cell_row rfl _ _ gb157 50 #[.int .i64 t160,.int .i64 t161,.int .i64 t162,.int .i64 t163] (0,0) _ rfl (by (with_reducible repeat (first|refine kN ?_ _|refine kD ?_|refine kA ?_ _)); refine blk_put (cs:=#[.int .i64 t160,.int .i64 t161,.int .i64 t162,.int .i64 0]) ?_ 3 _ rfl; (with_reducible repeat (first|refine kN ?_ _|refine kD ?_|refine kA ?_ _)); refine blk_put (cs:=#[.int .i64 t160,.int .i64 t161,.int .i64 0,.int .i64 0]) ?_ 2 _ rfl; (with_reducible repeat (first|refine kN ?_ _|refine kD ?_|refine kA ?_ _)); refine blk_put (cs:=#[.int .i64 t160,.int .i64 0,.int .i64 0,.int .i64 0]) ?_ 1 _ rfl; (with_reducible repeat (first|refine kN ?_ _|refine kD ?_|refine kA ?_ _)); refine blk_put (cs:=#[.int .i64 0,.int .i64 0,.int .i64 0,.int .i64 0]) ?_ 0 _ rfl; (with_reducible repeat (first|refine kN ?_ _|refine kD ?_|refine kA ?_ _)); exact BK157.out) Try.underlying50 rfl (by kernel_rfl)) rfl ?_
 exact ⟨by first|rfl|(simp [errW_none,errW_some] <;> rfl)|(simp [*,errW_none,errW_some] <;> rfl),by repeat (first|(with_reducible first|exact HB.out|apply bA|apply bD|apply bE|refine bS ?_ GE156.out|refine bS ?_ GE157.out)|exact HB.out)⟩
end Go.Proofs.Ytmjccdljalocbaa.PFnExactGroupSum
