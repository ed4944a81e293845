-- WRITTEN FOR THIS CLAIM by wip/ownprint.py of this session: the print's way, with changes (the print itself does not take this law).
import Derived.Test.YthhcpfaabnanoaaPFnSpreadx0
import Derived.Test.YthhcpfaabnanoaaPFnSpreadx2
import Derived.Test.YthhcpfaabnanoaaPFnSpreadx3
namespace Go.Proofs.Ythhcpfaabnanoaa.PFnSpread
open Go.RowKit Go.Proofs.YthhcpfaabnanoaaW.PrintWords Go.Proofs.YthhcpfaabnanoaaW.PrintLast Go.Proofs.YthhcpfaabnanoaaW.PrintMore
attribute [local go_sem] max2_int min2_int max_two min_two max_three min_three max_four min_four   -- for this text's walks alone
set_option linter.unusedVariables false
set_option linter.unusedSimpArgs false

/-! ### impl_RunPlan: function 20 -/
mutual
def impl_RunPlan.j0 : Nat → Int → List (S32) → Bool → Option (List Int × Bool)
  | 0, _, _, _ => none
  | k + 1, x0, x1, x16 => if x16 = true then (some (([] : List Int), false)) else (if 12 ≤ 35184372088832 then ((some (List.replicate 12 0 : List Int)).bind fun y224 => (if 0 < (y224.length : Int) then (impl_RunPlan.l0 k (y224.set (0 : Int).toNat x0) x1 (x1.length : Int) 0) else (none))) else (none))
def impl_RunPlan.l0 : Nat → List Int → List (S32) → Int → Int → Option (List Int × Bool)
  | 0, _, _, _, _ => none
  | k + 1, x6, x21, x22, x23 => if x23 < x22 then (if 0 ≤ x23 then (if x23 < (x21.length : Int) then (if 0 ≤ ((rd_T32 x21 x23).f0) then (if ((rd_T32 x21 x23).f0) < (x6.length : Int) then ((impl_TunedPitch.f k (rd x6 ((rd_T32 x21 x23).f0)) ((rd_T32 x21 x23).f2) ((rd_T32 x21 x23).f3)).bind fun t231 => (if 0 ≤ ((rd_T32 x21 x23).f1) then (if ((rd_T32 x21 x23).f1) < (x6.length : Int) then (if t231 = 0 then (some (([] : List Int), false)) else (impl_RunPlan.l0 k (x6.set (((rd_T32 x21 x23).f1) : Int).toNat t231) x21 x22 (wrap64 (x23 + 1)))) else (none)) else (none))) else (none)) else (none)) else (none)) else (none)) else (some (x6, true))
end
def impl_RunPlan.f (k : Nat) (a0 : Int) (l1 : List (S32)) : Option (List Int × Bool) := (impl_PlanOk.f k l1).bind fun t222 => (if t222 = true then ((impl_isFine.f a0).bind fun t223 => (impl_RunPlan.j0 k a0 l1 (!t223))) else (impl_RunPlan.j0 k a0 l1 true))
theorem impl_RunPlan.mono_l : ∀ k, (∀ y0 y1 y2, LeO (impl_RunPlan.j0 k y0 y1 y2) (impl_RunPlan.j0 (k + 1) y0 y1 y2)) ∧ (∀ y0 y1 y2 y3, LeO (impl_RunPlan.l0 k y0 y1 y2 y3) (impl_RunPlan.l0 (k + 1) y0 y1 y2 y3))
  | 0 => ⟨fun _ _ _ r h => by simp [impl_RunPlan.j0] at h, fun _ _ _ _ r h => by simp [impl_RunPlan.l0] at h⟩
  | k + 1 => by
    obtain ⟨ih0, ih1⟩ := impl_RunPlan.mono_l k
    refine ⟨?_, ?_⟩
    · intro y0 y1 y2
      unfold impl_RunPlan.j0
      repeat' first
      | (with_reducible exact ih0 _ _ _)
      | (with_reducible exact ih1 _ _ _ _)
      | (with_reducible exact impl_PlanOk.mono _ _)
      | (with_reducible exact impl_TunedPitch.mono _ _ _ _)
      | (with_reducible exact LeO.refl _)
      | (with_reducible exact LeO.none _)
      | (with_reducible refine LeO.ite ?_ ?_)
      | (with_reducible refine LeO.bind ?_ (fun _ => ?_))
      | exact ih0 _ _ _
      | exact ih1 _ _ _ _
      | exact impl_PlanOk.mono _ _
      | exact impl_TunedPitch.mono _ _ _ _
      | exact LeO.none _
      | refine LeO.ite ?_ ?_
      | refine LeO.bind ?_ (fun _ => ?_)
    · intro y0 y1 y2 y3
      unfold impl_RunPlan.l0
      repeat' first
      | (with_reducible exact ih0 _ _ _)
      | (with_reducible exact ih1 _ _ _ _)
      | (with_reducible exact impl_PlanOk.mono _ _)
      | (with_reducible exact impl_TunedPitch.mono _ _ _ _)
      | (with_reducible exact LeO.refl _)
      | (with_reducible exact LeO.none _)
      | (with_reducible refine LeO.ite ?_ ?_)
      | (with_reducible refine LeO.bind ?_ (fun _ => ?_))
      | exact ih0 _ _ _
      | exact ih1 _ _ _ _
      | exact impl_PlanOk.mono _ _
      | exact impl_TunedPitch.mono _ _ _ _
      | exact LeO.none _
      | refine LeO.ite ?_ ?_
      | refine LeO.bind ?_ (fun _ => ?_)
theorem impl_RunPlan.mono : ∀ a0 a1 k, LeO (impl_RunPlan.f k a0 a1) (impl_RunPlan.f (k + 1) a0 a1) := by
  intro a0 a1 k
  obtain ⟨ih0, ih1⟩ := impl_RunPlan.mono_l k
  unfold impl_RunPlan.f
  repeat' first
      | (with_reducible exact ih0 _ _ _)
      | (with_reducible exact ih1 _ _ _ _)
      | (with_reducible exact impl_PlanOk.mono _ _)
      | (with_reducible exact impl_TunedPitch.mono _ _ _ _)
      | (with_reducible exact LeO.refl _)
      | (with_reducible exact LeO.none _)
      | (with_reducible refine LeO.ite ?_ ?_)
      | (with_reducible refine LeO.bind ?_ (fun _ => ?_))
      | exact ih0 _ _ _
      | exact ih1 _ _ _ _
      | exact impl_PlanOk.mono _ _
      | exact impl_TunedPitch.mono _ _ _ _
      | exact LeO.none _
      | refine LeO.ite ?_ ?_
      | refine LeO.bind ?_ (fun _ => ?_)
def impl_RunPlan.T8 : Bool × List (List Nat × List Nat) := (true, [([], []), ([], []), ([1], [1]), ([], []), ([], []), ([4], [4]), ([3, 5], [3, 5]), ([6], [6]), ([], []), ([8], [8]), ([], []), ([10], [10]), ([7, 9, 11], [7, 9, 11]), ([0, 2, 0, 1, 2, 3, 4, 5, 6, 7, 8, 9, 10, 11, 12], [0, 2]), ([13, 12, 12, 0, 1, 2, 3, 4, 5, 6, 7, 8, 9, 10, 11, 12], [12, 13])])
def impl_RunPlan.B8 : List Nat := [0, 0, 2, 0, 0, 16, 56, 120, 0, 256, 0, 1024, 4088, 8191, 16383]
theorem impl_RunPlan.tab8 : rtab .any (opsOf Try.f20 8) = impl_RunPlan.T8 := by kernel_rfl
theorem impl_RunPlan.bits8 : waitsOk impl_RunPlan.T8.2 impl_RunPlan.B8 = true := by kernel_rfl
set_option maxHeartbeats 8000000 in
set_option maxRecDepth 100000 in
theorem impl_RunPlan.calls (k : Nat) (a0 : Int) (A1 : Option Addr) (c1 : Nat) (l1 : List (S32)) (r1 : List Int) (r2 : Bool) (w : World) (hr1 : Kd.C k32 w A1 l1.length l1) (hc1 : l1.length ≤ c1) (h : impl_RunPlan.f k a0 l1 = some (r1, r2)) :
    Calls Try.prog 20 #[.int .i64 a0, .slice A1 l1.length c1] w fun e w' => ∃ v0_ : Value, e = .returned (.tuple #[v0_, .bool r2]) ∧ Kd.R (Kd.int .i64) 3 w' w.heap.size (fun _ => True) v0_ r1 ∧ Below w.heap.size w w' := by
  have hu32 := Try.underlying32
  have HR1 := Aside0.mk hr1
  have HC1 := Aside0.mk hc1
  clear hr1 hc1
  have HB := Aside0.mk (Below.refl w.heap.size w)
  have H : ((impl_PlanOk.f k l1).bind fun t222 => (if t222 = true then ((impl_isFine.f a0).bind fun t223 => (impl_RunPlan.j0 k a0 l1 (!t223))) else (impl_RunPlan.j0 k a0 l1 true))) = some (r1, r2) := h
  clear h
  have HC3 := Aside0.mk H
  clear H
  go_enter Try.func20, Try.ntmps20
  go_upto_region 1 with (fail)
  go_cut [16] (fun v16 wc => ∃ (kq : Nat) (x16_2 : Bool), v16 = .bool x16_2 ∧ Aside0 (impl_RunPlan.j0 kq a0 l1 x16_2 = some (r1, r2)) ∧ Aside0 (kq ≤ k) ∧ Aside0 (Below w.heap.size w wc))
  case first =>
    have H := HC3.out
    clear HC3
    replace H := Option.bind_eq_some_iff.mp H
    obtain ⟨t222, A40, H⟩ := H
    replace H : (if t222 = true then ((impl_isFine.f a0).bind fun t223 => (impl_RunPlan.j0 k a0 l1 (!t223))) else (impl_RunPlan.j0 k a0 l1 true)) = some (r1, r2) := H
    have A4 := Aside0.mk A40
    clear A40
    by_cases c5 : t222 = true
    · subst c5
      have H1 : ((impl_isFine.f a0).bind fun t223 => (impl_RunPlan.j0 k a0 l1 (!t223))) = some (r1, r2) := by rw [if_pos rfl] at H; exact H
      clear H
      have H := H1
      clear H1
      replace H := Option.bind_eq_some_iff.mp H
      obtain ⟨t223, A60, H⟩ := H
      replace H : (impl_RunPlan.j0 k a0 l1 (!t223)) = some (r1, r2) := H
      have A6 := Aside0.mk A60
      clear A60
      have H' := Aside0.mk H
      clear H
      go_wp2_with (first | ((with_reducible refine gate_callee (f := 28) rfl ?_); refine goesL_ (some 10) rfl rfl Try.func28 (by kernel_rfl) rfl #[.slice A1 l1.length c1] rfl (by (try simp only [List.map_toArray, List.map_cons, List.map_nil]); first | done | rfl | (simp only [List.length_drop, List.length_take]; rfl)) ?_; (with_reducible refine (impl_PlanOk.calls k _ _ l1 true _ ?side1 ?side2 A4.out).mono ?_); (case side1 => repeat (first | exact (Kd.C_below HR1.out HB.out) | (with_reducible refine Kd.C_alloc ?_ _) | (with_reducible refine Kd.C_drewN ?_ _) | (with_reducible refine Kd.C_drew ?_))); (case side2 => exact HC1.out); rintro e w7 ⟨rfl, hb⟩; refine ⟨_, rfl, ?_⟩; have n0_ := Aside0.mk (below_step (by repeat (first | (with_reducible first | exact HB.out | apply below_alloc | apply pw_below_drewN | apply below_drew1) | exact HB.out)) hb); clear HB; have HB := n0_; clear n0_; (try clear hb); (try clear hb2); (try clear hk); (try clear hi)) | (go_at_call 52; (with_reducible refine (impl_isFine.calls a0 t223 _ A6.out).mono ?_); rintro e w' ⟨rfl, ⟨nd, rfl⟩⟩))
      go_meet
      case rel => exact ⟨_, (!t223), (by first | rfl | (simp; done) | (simp [*]; done)), H', ⟨by first | omega | exact Nat.le_refl _⟩, ⟨by repeat (first | (with_reducible first | exact HB.out | apply below_alloc | apply pw_below_drewN | apply below_drew1) | exact HB.out)⟩⟩
    · replace c5 := Bool.eq_false_iff.mpr c5
      subst c5
      have H1 : (impl_RunPlan.j0 k a0 l1 true) = some (r1, r2) := by rw [if_neg (show ¬ (false = true) by decide)] at H; exact H
      clear H
      have H := H1
      clear H1
      have H' := Aside0.mk H
      clear H
      go_wp2_with (first | ((with_reducible refine gate_callee (f := 28) rfl ?_); refine goesL_ (some 10) rfl rfl Try.func28 (by kernel_rfl) rfl #[.slice A1 l1.length c1] rfl (by (try simp only [List.map_toArray, List.map_cons, List.map_nil]); first | done | rfl | (simp only [List.length_drop, List.length_take]; rfl)) ?_; (with_reducible refine (impl_PlanOk.calls k _ _ l1 false _ ?side1 ?side2 A4.out).mono ?_); (case side1 => repeat (first | exact (Kd.C_below HR1.out HB.out) | (with_reducible refine Kd.C_alloc ?_ _) | (with_reducible refine Kd.C_drewN ?_ _) | (with_reducible refine Kd.C_drew ?_))); (case side2 => exact HC1.out); rintro e w8 ⟨rfl, hb⟩; refine ⟨_, rfl, ?_⟩; have n0_ := Aside0.mk (below_step (by repeat (first | (with_reducible first | exact HB.out | apply below_alloc | apply pw_below_drewN | apply below_drew1) | exact HB.out)) hb); clear HB; have HB := n0_; clear n0_; (try clear hb); (try clear hb2); (try clear hk); (try clear hi)))
      go_meet
      case rel => exact ⟨_, (true), (by first | rfl | (simp; done) | (simp [*]; done)), H', ⟨by first | omega | exact Nat.le_refl _⟩, ⟨by repeat (first | (with_reducible first | exact HB.out | apply below_alloc | apply pw_below_drewN | apply below_drew1) | exact HB.out)⟩⟩
  case rest =>
    clear HC3
    try clear c1
    try clear c2
    try clear p2
    try clear c5
    obtain ⟨kq, x16_2, rfl, HA, HJ2, HB⟩ := hcut
    cases kq with
    | zero => exact absurd HA.out (by simp [impl_RunPlan.j0])
    | succ kj2 =>
      have H := HA.out
      clear HA
      simp only [impl_RunPlan.j0] at H
      by_cases c9 : x16_2 = true
      · subst c9
        have H1 : (some (([] : List Int), false)) = some (r1, r2) := by rw [if_pos rfl] at H; exact H
        clear H
        have H := H1
        clear H1
        simp only [Option.some.injEq, Prod.mk.injEq] at H
        obtain ⟨rfl, rfl⟩ := H
        go_wp2
        go_ret2
        exact ⟨_, by first | rfl | (simp [errW_none, errW_some] <;> rfl) | (simp [*, errW_none, errW_some] <;> rfl), by first | exact Kd.R_nil _ _ _ _ _ | exact Kd.N_nil _ _ _ _ _ | exact Kd.V_nil _ _ _ _ _ | exact Kd.Q_nil _ _ _ _ _ | exact Kd.S_nil _ _ _ _ _, by repeat (first | (with_reducible first | exact HB.out | apply below_alloc | apply pw_below_drewN | apply below_drew1) | exact HB.out)⟩
      · replace c9 := Bool.eq_false_iff.mpr c9
        subst c9
        have H1 : (if 12 ≤ 35184372088832 then ((some (List.replicate 12 0 : List Int)).bind fun y224 => (if 0 < (y224.length : Int) then (impl_RunPlan.l0 kj2 (y224.set (0 : Int).toNat a0) l1 (l1.length : Int) 0) else (none))) else (none)) = some (r1, r2) := by rw [if_neg (show ¬ (false = true) by decide)] at H; exact H
        clear H
        have H := H1
        clear H1
        by_cases c10 : 12 ≤ 35184372088832
        · rw [if_pos c10] at H
          have c10b0 := eq_true c10
          have c10b1 : decide (12 ≤ 35184372088832) = true := decide_eq_true c10
          clear c10
          obtain ⟨y224, hy224⟩ : ∃ y_ : List Int, y_ = (List.replicate 12 0) := ⟨_, rfl⟩
          replace H : (if 0 < (y224.length : Int) then (impl_RunPlan.l0 kj2 (y224.set (0 : Int).toNat a0) l1 (l1.length : Int) 0) else (none)) = some (r1, r2) := by first | (rw [hy224]; with_reducible exact H) | (have H2_ := (Option.bind_some _ _).symm.trans H; rw [hy224]; with_reducible exact H2_) | (have H2_ := (Option.bind_some _ _).symm.trans H; with_reducible exact H2_) | with_reducible exact H | (rw [hy224]; exact H) | exact H
          have Ny224 := Aside0.mk hy224
          clear hy224
          by_cases c11 : 0 < (y224.length : Int)
          · rw [if_pos c11] at H
            have c11b0 : decide (0 < (y224.length : Int)) = true := decide_eq_true c11
            have c11b1 : decide (0 < y224.length) = true := decide_eq_true (by omega)
            clear c11
            obtain ⟨y227, hy227⟩ : ∃ y_ : List Int, y_ = (y224.set (0 : Int).toNat a0) := ⟨_, rfl⟩
            replace H : (impl_RunPlan.l0 kj2 y227 l1 (l1.length : Int) 0) = some (r1, r2) := by first | (rw [hy227]; with_reducible exact H) | (have H2_ := (Option.bind_some _ _).symm.trans H; rw [hy227]; with_reducible exact H2_) | (have H2_ := (Option.bind_some _ _).symm.trans H; with_reducible exact H2_) | with_reducible exact H | (rw [hy227]; exact H) | exact H
            have Ny227 := Aside0.mk hy227
            clear hy227
            have H' := Aside0.mk H
            clear H
            go_wp2_with (first | ((with_reducible refine gate_dst (N := 17) rfl ?_); refine Kd.R_make (Kd.int .i64) _ 3 rfl (N := 17) rfl 33 _ _ rfl 12 rfl rfl Try.underlying33 (.int .i64 0) 8 info3 rfl (by decide) (by omega) 0 (ok := fun _ => True) (okp := fun _ => True) rfl (fun _ hk => hk) trivial (by omega) (by omega) (Below.refl _ _) (Nat.le_refl _) ?_; intro v225 w13 ho14 hb hg_ hnew_; clear hg_ hnew_; (first | rw [← Ny224.out] at ho14 | (simp only [Int.reduceToNat] at ho14; rw [← Ny224.out] at ho14)); have n0_ := Aside0.mk (Kd.R_lower ho14 (below_size (by repeat (first | (with_reducible first | exact HB.out | apply below_alloc | apply pw_below_drewN | apply below_drew1) | exact HB.out)))); have n1_ := Aside0.mk (below_step (by repeat (first | (with_reducible first | exact HB.out | apply below_alloc | apply pw_below_drewN | apply below_drew1) | exact HB.out)) hb); clear HB; have HO226 := n0_; have HB := n1_; clear n0_ n1_; clear hb ho14; have p12 : 0 ≤ (0 : Int) := (by omega); have q12 : (0 : Int) < ((y224.length : Int) : Int) := of_decide_eq_true (by first | (with_reducible assumption) | assumption); have qi12 : (0 < y224.length) = True := eq_true (by omega); obtain ⟨go12, co12, eo12, gb12, gl12, cl12, HG12⟩ := Kd.R_form HO226.out (by omega); (first | cases eo12 | (injection eo12 with ea_ en_ ec_; (first | subst ea_ | (injection ea_ with ea_; subst ea_)); subst ec_; clear en_)); have GB12 := Aside0.mk gb12; have GG12 := Aside0.mk HG12; clear gb12 gl12 HG12; obtain ⟨hx12_0, hf12_0⟩ := Kd.R_celln 0 HO226.out (0 : Int) p12 q12; (try rw [show ((0 : Int)).toNat = 0 from rfl] at hx12_0); (try simp only [Nat.reduceMul, Nat.zero_mul, Nat.zero_add, Nat.reduceAdd] at hx12_0); (try rw [show ((0 : Int)).toNat = 0 from rfl] at hf12_0); (try simp only [Nat.reduceMul, Nat.zero_mul, Nat.zero_add, Nat.reduceAdd] at hf12_0); replace p12 := eq_true p12; replace q12 := eq_true q12; obtain ⟨hy15_, hz15_⟩ := Kd.R_celln 0 HO226.out (0 : Int) (by omega) (of_decide_eq_true (by first | (with_reducible assumption) | assumption)); (try simp only [Int.reduceToNat, Int.toNat_zero, Int.toNat_ofNat, Nat.reduceMul, Nat.zero_mul, Nat.zero_add] at hy15_ hz15_); (try rw [show ((0 : Int)).toNat = 0 from rfl] at hy15_); (try rw [show ((0 : Int)).toNat = 0 from rfl] at hz15_); have HP15 := Kd.R_putg HO226.out (0 : Int) a0) | ((with_reducible refine gate_store (t := 3) (p := 20) rfl ?_); refine store_event (t := 3) (p := 20) (v := ?vo_w16) (w1 := (w13.setCell ⟨go12, (0 : Int).toNat, none⟩ (.int .i64 a0))) ?hg ?ho ?hn ?hr ?_; (case ho => rfl); (case hg => rfl); (case hn => rfl); (case hr => first | (go_simp; done) | (go_simp; rfl)); intro w16 hw; have hg : w13.grownBy w16 (some go12) := (by rw [hw]; exact HP15.2); have hp_ : Kd.R (Kd.int .i64) 3 w16 w.heap.size (fun _ => True) (.slice (some ⟨go12, 0, none⟩) y224.length co12) y227 := (by rw [hw, Ny227.out]; exact HP15.1); clear HP15; have n0_ := Aside0.mk (hp_); have n1_ := Aside0.mk ((by rw [hw]; exact below_set (HB.out) GB12.out : Below w.heap.size w w16)); clear HO226; clear HB; have HO226 := n0_; have HB := n1_; clear n0_ n1_; clear hg hw hp_))
            go_loopg [23] kj2 (fun kq v23 w' => ∃ (x6_2 : List Int) (x23_2 : Int), v23 = .int .i64 x23_2 ∧ Aside0 (impl_RunPlan.l0 kq x6_2 l1 (l1.length : Int) x23_2 = some (r1, r2)) ∧ Aside0 (kq ≤ kj2) ∧ Aside0 (Kd.R (Kd.int .i64) 3 w' w.heap.size (fun _ => True) (.slice (some ⟨go12, 0, none⟩) y224.length co12) x6_2) ∧ Aside0 (Below w.heap.size w w'))
            case atStart => exact ⟨(y227), (0), (by first | rfl | (simp; done) | (simp [*]; done)), H', ⟨Nat.le_refl _⟩, ⟨by (with_reducible repeat (first | apply Kd.R_alloc | apply Kd.R_drewN | apply Kd.R_drew)); exact HO226.out⟩, ⟨by repeat (first | (with_reducible first | exact HB.out | apply below_alloc | apply pw_below_drewN | apply below_drew1) | exact HB.out)⟩⟩
            case round =>
              clear H'
              try clear c1
              try clear p1
              try clear q1
              try clear hx1
              try clear qi1
              try clear c2
              try clear p2
              try clear c5
              try clear c9
              try clear c10
              try clear c10b0
              try clear c10b1
              try clear c11
              try clear c11b0
              try clear c11b1
              try clear p12
              try clear q12
              try clear hx12
              try clear qi12
              try clear hf12
              try clear hx12_0
              try clear p12
              try clear p2
              try clear q12
              obtain ⟨x6_2, x23_2, rfl, HA, HK2, HO_6, HB⟩ := hrel
              have hl6_2 := (Kd.R_reads' HO_6.out).1
              rw [hl6_2] at HO_6
              (try simp only [hl6_2])
              cases gk with
              | zero => exact absurd HA.out (by simp [impl_RunPlan.l0])
              | succ k2 =>
                have H := HA.out
                clear HA
                simp only [impl_RunPlan.l0] at H
                by_cases c17 : x23_2 < (l1.length : Int)
                · rw [if_pos c17] at H
                  have c17b0 : decide (x23_2 < (l1.length : Int)) = true := decide_eq_true c17
                  clear c17
                  by_cases c18 : 0 ≤ x23_2
                  · rw [if_pos c18] at H
                    have c18b0 : decide (0 ≤ x23_2) = true := decide_eq_true c18
                    clear c18
                    by_cases c19 : x23_2 < (l1.length : Int)
                    · rw [if_pos c19] at H
                      have c19b0 : decide (x23_2 < (l1.length : Int)) = true := decide_eq_true c19
                      clear c19
                      by_cases c20 : 0 ≤ ((rd_T32 l1 x23_2).f0)
                      · rw [if_pos c20] at H
                        have c20b0 : decide (0 ≤ ((rd_T32 l1 x23_2).f0)) = true := decide_eq_true c20
                        clear c20
                        by_cases c21 : ((rd_T32 l1 x23_2).f0) < (x6_2.length : Int)
                        · rw [if_pos c21] at H
                          have c21b0 : decide (((rd_T32 l1 x23_2).f0) < (x6_2.length : Int)) = true := decide_eq_true c21
                          clear c21
                          replace H := Option.bind_eq_some_iff.mp H
                          obtain ⟨t231, A220, H⟩ := H
                          replace H : (if 0 ≤ ((rd_T32 l1 x23_2).f1) then (if ((rd_T32 l1 x23_2).f1) < (x6_2.length : Int) then (if t231 = 0 then (some (([] : List Int), false)) else (impl_RunPlan.l0 k2 (x6_2.set (((rd_T32 l1 x23_2).f1) : Int).toNat t231) l1 (l1.length : Int) (wrap64 (x23_2 + 1)))) else (none)) else (none)) = some (r1, r2) := H
                          have A22 := Aside0.mk A220
                          clear A220
                          by_cases c23 : 0 ≤ ((rd_T32 l1 x23_2).f1)
                          · rw [if_pos c23] at H
                            have c23b0 : decide (0 ≤ ((rd_T32 l1 x23_2).f1)) = true := decide_eq_true c23
                            clear c23
                            by_cases c24 : ((rd_T32 l1 x23_2).f1) < (x6_2.length : Int)
                            · rw [if_pos c24] at H
                              have c24b0 : decide (((rd_T32 l1 x23_2).f1) < (x6_2.length : Int)) = true := decide_eq_true c24
                              clear c24
                              obtain ⟨y232, hy232⟩ : ∃ y_ : List Int, y_ = (x6_2.set (((rd_T32 l1 x23_2).f1) : Int).toNat t231) := ⟨_, rfl⟩
                              replace H : (if t231 = 0 then (some (([] : List Int), false)) else (impl_RunPlan.l0 k2 y232 l1 (l1.length : Int) (wrap64 (x23_2 + 1)))) = some (r1, r2) := by first | (rw [hy232]; with_reducible exact H) | (have H2_ := (Option.bind_some _ _).symm.trans H; rw [hy232]; with_reducible exact H2_) | (have H2_ := (Option.bind_some _ _).symm.trans H; with_reducible exact H2_) | with_reducible exact H | (rw [hy232]; exact H) | exact H
                              have Ny232 := Aside0.mk hy232
                              clear hy232
                              by_cases c27 : t231 = 0
                              · rw [if_pos c27] at H
                                have c27b0 : (t231 == 0) = true := beq_iff_eq.mpr c27
                                have c27b1 : (t231 != 0) = false := bne_eq_false_iff_eq.mpr c27
                                clear c27
                                simp only [Option.some.injEq, Prod.mk.injEq] at H
                                obtain ⟨rfl, rfl⟩ := H
                                have p228 : 0 ≤ (x23_2 : Int) := of_decide_eq_true (by first | (with_reducible assumption) | assumption)
                                have q228 : x23_2 < (l1.length : Int) := of_decide_eq_true (by first | (with_reducible assumption) | assumption)
                                obtain ⟨ad228, e228, hx228_0, hx228_1, hx228_2, hx228_3⟩ := at_T32 HR1.out x23_2 p228 q228
                                cases e228
                                replace hx228_0 := (HB.out.cell (World.block_lt_of_cell? w _ hx228_0)).trans hx228_0
                                replace hx228_1 := (HB.out.cell (World.block_lt_of_cell? w _ hx228_1)).trans hx228_1
                                replace hx228_2 := (HB.out.cell (World.block_lt_of_cell? w _ hx228_2)).trans hx228_2
                                replace hx228_3 := (HB.out.cell (World.block_lt_of_cell? w _ hx228_3)).trans hx228_3
                                replace p228 := eq_true p228
                                replace q228 := eq_true q228
                                try go_wp2_with (first | ((with_reducible refine gate_dst (N := 8) rfl ?_); refine box_event ?hg (N := 8) ?hd (cs := #[.int .i64 0, .int .i64 0, .int .i64 0, .int .i64 0]) (t := 32) ?hr ?_; (case hd => rfl); (case hg => rfl); (case hr => first | (go_simp; done) | (go_simp; rfl)); intro gb229 hg w28 hbox hb; have n0_ := Aside0.mk (Kd.R_below (by (with_reducible repeat (first | apply Kd.R_alloc | apply Kd.R_drewN | apply Kd.R_drew)); exact HO_6.out) hb); have n1_ := Aside0.mk (below_step (by repeat (first | (with_reducible first | exact HB.out | apply below_alloc | apply pw_below_drewN | apply below_drew1) | exact HB.out)) hb); have n2_ := Aside0.mk (hbox); have n3_ := Aside0.mk ((by rw [hg]; exact (below_size (by repeat (first | (with_reducible first | exact HB.out | apply below_alloc | apply pw_below_drewN | apply below_drew1) | exact HB.out))) : w.heap.size ≤ gb229)); have n4_ := Aside0.mk ((by rw [hg]; exact (below_size (by repeat (first | (with_reducible first | exact HB.out | apply below_alloc | apply pw_below_drewN | apply below_drew1) | exact HB.out))) : w.heap.size ≤ gb229)); clear HO_6; clear HB; have HO_6 := n0_; have HB := n1_; have BK229 := n2_; have GW229 := n3_; have GE229 := n4_; clear n0_ n1_ n2_ n3_ n4_; clear hb hbox hg; have hcz29_0 : w28.cell? ⟨gb229, 0, none⟩ = some (.int .i64 0) := (blk_cell BK229.out 0).trans rfl; have hcz29_1 : w28.cell? ⟨gb229, 1, none⟩ = some (.int .i64 0) := (blk_cell BK229.out 1).trans rfl; have hcz29_2 : w28.cell? ⟨gb229, 2, none⟩ = some (.int .i64 0) := (blk_cell BK229.out 2).trans rfl; have hcz29_3 : w28.cell? ⟨gb229, 3, none⟩ = some (.int .i64 0) := (blk_cell BK229.out 3).trans rfl; have hfz29_0 := blk_frozen BK229.out 0; have hfz29_1 := blk_frozen BK229.out 1; have hfz29_2 := blk_frozen BK229.out 2; have hfz29_3 := blk_frozen BK229.out 3))
                                have n0_ : Aside0 (Kd.R (Kd.int .i64) 3 ((((w28.setCell ⟨gb229, 0, none⟩ (.int .i64 ((rd_T32 l1 x23_2).f0))).setCell ⟨gb229, 1, none⟩ (.int .i64 ((rd_T32 l1 x23_2).f1))).setCell ⟨gb229, 2, none⟩ (.int .i64 ((rd_T32 l1 x23_2).f2))).setCell ⟨gb229, 3, none⟩ (.int .i64 ((rd_T32 l1 x23_2).f3))) w.heap.size (fun _ => True) (.slice (some ⟨go12, 0, none⟩) x6_2.length co12) x6_2) := ⟨by (with_reducible repeat (first | apply Kd.R_alloc | apply Kd.R_drewN | apply Kd.R_drew)); exact Kd.R_mono (Kd.R_far (p := ⟨gb229, 3, none⟩) (Kd.R_far (p := ⟨gb229, 2, none⟩) (Kd.R_far (p := ⟨gb229, 1, none⟩) (Kd.R_far (p := ⟨gb229, 0, none⟩) (Kd.R_types HO_6.out BK229.out (by decide)) (fun _ hk => hk.2) (.int .i64 ((rd_T32 l1 x23_2).f0))) (fun _ hk => hk.2) (.int .i64 ((rd_T32 l1 x23_2).f1))) (fun _ hk => hk.2) (.int .i64 ((rd_T32 l1 x23_2).f2))) (fun _ hk => hk.2) (.int .i64 ((rd_T32 l1 x23_2).f3))) (fun _ hk => trivial)⟩
                                have n1_ : Aside0 (((((w28.setCell ⟨gb229, 0, none⟩ (.int .i64 ((rd_T32 l1 x23_2).f0))).setCell ⟨gb229, 1, none⟩ (.int .i64 ((rd_T32 l1 x23_2).f1))).setCell ⟨gb229, 2, none⟩ (.int .i64 ((rd_T32 l1 x23_2).f2))).setCell ⟨gb229, 3, none⟩ (.int .i64 ((rd_T32 l1 x23_2).f3))).heap[gb229]? = some (.cells #[.int .i64 ((rd_T32 l1 x23_2).f0), .int .i64 ((rd_T32 l1 x23_2).f1), .int .i64 ((rd_T32 l1 x23_2).f2), .int .i64 ((rd_T32 l1 x23_2).f3)] 32 (0, 0))) := ⟨by (with_reducible repeat (first | refine blk_drewN ?_ _ | refine blk_drew ?_ | refine blk_alloc ?_ _)); refine blk_put (cs := #[.int .i64 ((rd_T32 l1 x23_2).f0), .int .i64 ((rd_T32 l1 x23_2).f1), .int .i64 ((rd_T32 l1 x23_2).f2), .int .i64 0]) ?_ 3 _ rfl; (with_reducible repeat (first | refine blk_drewN ?_ _ | refine blk_drew ?_ | refine blk_alloc ?_ _)); refine blk_put (cs := #[.int .i64 ((rd_T32 l1 x23_2).f0), .int .i64 ((rd_T32 l1 x23_2).f1), .int .i64 0, .int .i64 0]) ?_ 2 _ rfl; (with_reducible repeat (first | refine blk_drewN ?_ _ | refine blk_drew ?_ | refine blk_alloc ?_ _)); refine blk_put (cs := #[.int .i64 ((rd_T32 l1 x23_2).f0), .int .i64 0, .int .i64 0, .int .i64 0]) ?_ 1 _ rfl; (with_reducible repeat (first | refine blk_drewN ?_ _ | refine blk_drew ?_ | refine blk_alloc ?_ _)); refine blk_put (cs := #[.int .i64 0, .int .i64 0, .int .i64 0, .int .i64 0]) ?_ 0 _ rfl; (with_reducible repeat (first | refine blk_drewN ?_ _ | refine blk_drew ?_ | refine blk_alloc ?_ _)); exact BK229.out⟩
                                have n2_ : Aside0 (Below w.heap.size w ((((w28.setCell ⟨gb229, 0, none⟩ (.int .i64 ((rd_T32 l1 x23_2).f0))).setCell ⟨gb229, 1, none⟩ (.int .i64 ((rd_T32 l1 x23_2).f1))).setCell ⟨gb229, 2, none⟩ (.int .i64 ((rd_T32 l1 x23_2).f2))).setCell ⟨gb229, 3, none⟩ (.int .i64 ((rd_T32 l1 x23_2).f3)))) := ⟨by repeat (first | (with_reducible first | exact HB.out | apply below_alloc | apply pw_below_drewN | apply below_drew1 | refine below_set ?_ GE229.out) | exact HB.out)⟩
                                (try clear HO_6)
                                (try clear BK229)
                                (try clear HB)
                                generalize ((((w28.setCell ⟨gb229, 0, none⟩ (.int .i64 ((rd_T32 l1 x23_2).f0))).setCell ⟨gb229, 1, none⟩ (.int .i64 ((rd_T32 l1 x23_2).f1))).setCell ⟨gb229, 2, none⟩ (.int .i64 ((rd_T32 l1 x23_2).f2))).setCell ⟨gb229, 3, none⟩ (.int .i64 ((rd_T32 l1 x23_2).f3))) = w30 at n0_ n1_ n2_ ⊢
                                have HO_6 := n0_
                                have BK229 := n1_
                                have HB := n2_
                                clear n0_ n1_ n2_
                                have n0_ := Aside0.mk (Kd.R_drew HO_6.out)
                                have n1_ := Aside0.mk (blk_drew BK229.out)
                                have n2_ := Aside0.mk (below_drew1 HB.out)
                                clear HO_6
                                clear BK229
                                clear HB
                                have HO_6 := n0_
                                have BK229 := n1_
                                have HB := n2_
                                clear n0_ n1_ n2_
                                have p230 : 0 ≤ (((rd_T32 l1 x23_2).f0) : Int) := of_decide_eq_true (by first | (with_reducible assumption) | assumption)
                                have q230 : ((rd_T32 l1 x23_2).f0) < (x6_2.length : Int) := of_decide_eq_true (by first | (with_reducible assumption) | assumption)
                                obtain ⟨ad230, e230, hx230_0⟩ := Kd.at_int (Kd.R_reads' HO_6.out).2.2 ((rd_T32 l1 x23_2).f0) p230 q230
                                obtain rfl : (⟨go12, 0, none⟩ : Addr) = ad230 := (by injection e230)
                                (first | simp only [add_plain] at hx230_0 | simp only [add_at] at hx230_0 | simp only [Addr.add, Nat.zero_add] at hx230_0 | skip)
                                replace p230 := eq_true p230
                                replace q230 := eq_true q230
                                refine start_ (n := 15) (S := fun w' => w'.cell? ⟨gb229, 0, none⟩ = some (.int .i64 ((rd_T32 l1 x23_2).f0)) ∧ w'.cell? ⟨gb229, 1, none⟩ = some (.int .i64 ((rd_T32 l1 x23_2).f1)) ∧ w'.cell? ⟨gb229, 2, none⟩ = some (.int .i64 ((rd_T32 l1 x23_2).f2)) ∧ w'.cell? ⟨gb229, 3, none⟩ = some (.int .i64 ((rd_T32 l1 x23_2).f3)) ∧ w'.cell? ⟨go12, (((rd_T32 l1 x23_2).f0)).toNat, none⟩ = some (.int .i64 (rd x6_2 ((rd_T32 l1 x23_2).f0)))) (ds := [14]) #[false, false, false, false, false, false, false, false, false, false, false, false, false, false, false] (by kernel_rfl) rfl rfl ⟨(blk_cell BK229.out 0).trans rfl, (blk_cell BK229.out 1).trans rfl, (blk_cell BK229.out 2).trans rfl, (blk_cell BK229.out 3).trans rfl, hx230_0⟩ (fun hHeld => ?_); refine with_tabW impl_RunPlan.tab8 impl_RunPlan.bits8 (fun HT_ HW_ => ?_)
                                generalize w30.drew = w31 at HO_6 BK229 HB hx230_0 hHeld ⊢
                                refine pure_ (i := 0) (N := some 27) (v := ?_) (a' := ?_) #[true, false, false, false, false, false, false, false, false, false, false, false, false, false, false] rfl rfl (any_of HT_.out (by kernel_rfl)) (fun _ _ _ h => h) (Or.inl ⟨by rfl, ?_⟩) ?_ ?_
                                rotate_left
                                · intro w'
                                  go_simp
                                  first | (with_reducible rfl) | (simp only [Instr.field, go_sem, *]; rfl)
                                rotate_left
                                · simp only [Act.put, List.setIfInBounds_toArray, List.set_cons_zero, List.set_cons_succ, i64_w, i32_w]
                                  rfl
                                refine pure_ (i := 1) (N := some 28) (v := ?_) (a' := ?_) #[true, true, false, false, false, false, false, false, false, false, false, false, false, false, false] rfl rfl (any_of HT_.out (by kernel_rfl)) (fun _ _ _ h => h) (Or.inl ⟨by rfl, ?_⟩) ?_ ?_
                                rotate_left
                                · intro w'
                                  go_simp
                                  first | (with_reducible rfl) | (simp only [Instr.field, go_sem, *]; rfl)
                                rotate_left
                                · simp only [Act.put, List.setIfInBounds_toArray, List.set_cons_zero, List.set_cons_succ, i64_w, i32_w]
                                  rfl
                                refine pure_ (i := 3) (N := some 30) (v := ?_) (a' := ?_) #[true, true, false, true, false, false, false, false, false, false, false, false, false, false, false] rfl rfl (any_of HT_.out (by kernel_rfl)) (fun _ _ _ h => h) (Or.inl ⟨by rfl, ?_⟩) ?_ ?_
                                rotate_left
                                · intro w'
                                  go_simp
                                  first | (with_reducible rfl) | (simp only [Instr.field, go_sem, *]; rfl)
                                rotate_left
                                · simp only [Act.put, List.setIfInBounds_toArray, List.set_cons_zero, List.set_cons_succ, i64_w, i32_w]
                                  rfl
                                refine pure_ (i := 4) (N := some 31) (v := ?_) (a' := ?_) #[true, true, false, true, true, false, false, false, false, false, false, false, false, false, false] rfl rfl (any_of HT_.out (by kernel_rfl)) (fun _ _ _ h => h) (Or.inl ⟨by rfl, ?_⟩) ?_ ?_
                                rotate_left
                                · intro w'
                                  go_simp
                                  first | (with_reducible rfl) | (simp only [Instr.field, go_sem, *]; rfl)
                                rotate_left
                                · simp only [Act.put, List.setIfInBounds_toArray, List.set_cons_zero, List.set_cons_succ, i64_w, i32_w]
                                  rfl
                                refine pure_ (i := 8) (N := some 35) (v := ?_) (a' := ?_) #[true, true, false, true, true, false, false, false, true, false, false, false, false, false, false] rfl rfl (any_of HT_.out (by kernel_rfl)) (fun _ _ _ h => h) (Or.inl ⟨by rfl, ?_⟩) ?_ ?_
                                rotate_left
                                · intro w'
                                  go_simp
                                  first | (with_reducible rfl) | (simp only [Instr.field, go_sem, *]; rfl)
                                rotate_left
                                · simp only [Act.put, List.setIfInBounds_toArray, List.set_cons_zero, List.set_cons_succ, i64_w, i32_w]
                                  rfl
                                refine pure_ (i := 10) (N := some 37) (v := ?_) (a' := ?_) #[true, true, false, true, true, false, false, false, true, false, true, false, false, false, false] rfl rfl (any_of HT_.out (by kernel_rfl)) (fun _ _ _ h => h) (Or.inl ⟨by rfl, ?_⟩) ?_ ?_
                                rotate_left
                                · intro w'
                                  go_simp
                                  first | (with_reducible rfl) | (simp only [Instr.field, go_sem, *]; rfl)
                                rotate_left
                                · simp only [Act.put, List.setIfInBounds_toArray, List.set_cons_zero, List.set_cons_succ, i64_w, i32_w]
                                  rfl
                                refine take_ (i := 2) (N := some 29) (v := ?_) (a' := ?_) #[true, true, true, true, true, false, false, false, true, false, true, false, false, false, false] rfl rfl (take_ofW HT_.out HW_.out (by kernel_rfl)) (fun _ _ _ h => h) (Or.inl ⟨by rfl, ?_⟩) hHeld ?_ ?_
                                rotate_left
                                · rintro w' ⟨s0, s1, s2, s3, s4⟩
                                  go_simp
                                  first | (with_reducible rfl) | (simp only [Instr.field, go_sem, *]; rfl)
                                rotate_left
                                · simp only [Act.put, List.setIfInBounds_toArray, List.set_cons_zero, List.set_cons_succ, i64_w, i32_w]
                                  rfl
                                refine take_ (i := 5) (N := some 32) (v := ?_) (a' := ?_) #[true, true, true, true, true, true, false, false, true, false, true, false, false, false, false] rfl rfl (take_ofW HT_.out HW_.out (by kernel_rfl)) (fun _ _ _ h => h) (Or.inl ⟨by rfl, ?_⟩) hHeld ?_ ?_
                                rotate_left
                                · rintro w' ⟨s0, s1, s2, s3, s4⟩
                                  go_simp
                                  first | (with_reducible rfl) | (simp only [Instr.field, go_sem, *]; rfl)
                                rotate_left
                                · simp only [Act.put, List.setIfInBounds_toArray, List.set_cons_zero, List.set_cons_succ, i64_w, i32_w]
                                  rfl
                                refine pure_ (i := 6) (N := some 33) (v := ?_) (a' := ?_) #[true, true, true, true, true, true, true, false, true, false, true, false, false, false, false] rfl rfl (any_of HT_.out (by kernel_rfl)) (fun _ _ _ h => h) (Or.inl ⟨by rfl, ?_⟩) ?_ ?_
                                rotate_left
                                · intro w'
                                  go_simp
                                  first | (with_reducible rfl) | (simp only [Instr.field, go_sem, *]; rfl)
                                rotate_left
                                · simp only [Act.put, List.setIfInBounds_toArray, List.set_cons_zero, List.set_cons_succ, i64_w, i32_w]
                                  rfl
                                refine take_ (i := 7) (N := some 34) (v := ?_) (a' := ?_) #[true, true, true, true, true, true, true, true, true, false, true, false, false, false, false] rfl rfl (take_ofW HT_.out HW_.out (by kernel_rfl)) (fun _ _ _ h => h) (Or.inl ⟨by rfl, ?_⟩) hHeld ?_ ?_
                                rotate_left
                                · rintro w' ⟨s0, s1, s2, s3, s4⟩
                                  go_simp
                                  first | (with_reducible rfl) | (simp only [Instr.field, go_sem, *]; rfl)
                                rotate_left
                                · simp only [Act.put, List.setIfInBounds_toArray, List.set_cons_zero, List.set_cons_succ, i64_w, i32_w]
                                  rfl
                                refine take_ (i := 9) (N := some 36) (v := ?_) (a' := ?_) #[true, true, true, true, true, true, true, true, true, true, true, false, false, false, false] rfl rfl (take_ofW HT_.out HW_.out (by kernel_rfl)) (fun _ _ _ h => h) (Or.inl ⟨by rfl, ?_⟩) hHeld ?_ ?_
                                rotate_left
                                · rintro w' ⟨s0, s1, s2, s3, s4⟩
                                  go_simp
                                  first | (with_reducible rfl) | (simp only [Instr.field, go_sem, *]; rfl)
                                rotate_left
                                · simp only [Act.put, List.setIfInBounds_toArray, List.set_cons_zero, List.set_cons_succ, i64_w, i32_w]
                                  rfl
                                refine take_ (i := 11) (N := some 38) (v := ?_) (a' := ?_) #[true, true, true, true, true, true, true, true, true, true, true, true, false, false, false] rfl rfl (take_ofW HT_.out HW_.out (by kernel_rfl)) (fun _ _ _ h => h) (Or.inl ⟨by rfl, ?_⟩) hHeld ?_ ?_
                                rotate_left
                                · rintro w' ⟨s0, s1, s2, s3, s4⟩
                                  go_simp
                                  first | (with_reducible rfl) | (simp only [Instr.field, go_sem, *]; rfl)
                                rotate_left
                                · simp only [Act.put, List.setIfInBounds_toArray, List.set_cons_zero, List.set_cons_succ, i64_w, i32_w]
                                  rfl
                                refine one_ (i := 12) (N := some 39) #[true, true, true, true, true, true, true, true, true, true, true, true, true, false, false] rfl rfl (one_of HT_.out (by kernel_rfl)) (by decide) (fun K hK => ?_)
                                refine goes_ Try.func53 (by kernel_rfl) rfl #[.int .i64 (rd x6_2 ((rd_T32 l1 x23_2).f0)), .int .i64 ((rd_T32 l1 x23_2).f2), .int .i64 ((rd_T32 l1 x23_2).f3)] (by rfl) rfl rfl (by (try simp only [List.map_toArray, List.map_cons, List.map_nil]); first | done | rfl | (simp only [List.length_drop, List.length_take]; rfl)) ?_
                                with_reducible refine (impl_TunedPitch.calls k2 (rd x6_2 ((rd_T32 l1 x23_2).f0)) ((rd_T32 l1 x23_2).f2) ((rd_T32 l1 x23_2).f3) t231 _ A22.out).mono ?_
                                rintro e w32 ⟨rfl, hb⟩
                                have HS4_ := (hb.cell (World.block_lt_of_cell? _ _ (hHeld.2.2.2.2))).trans (hHeld.2.2.2.2)
                                refine ⟨_, rfl, ?_⟩
                                have n0_ := Aside0.mk (Kd.R_below (by (with_reducible repeat (first | apply Kd.R_alloc | apply Kd.R_drewN | apply Kd.R_drew)); exact HO_6.out) hb)
                                have n1_ := Aside0.mk (blk_below (g := gb229) (o := .cells #[.int .i64 ((rd_T32 l1 x23_2).f0), .int .i64 ((rd_T32 l1 x23_2).f1), .int .i64 ((rd_T32 l1 x23_2).f2), .int .i64 ((rd_T32 l1 x23_2).f3)] 32 (0, 0)) (by (with_reducible repeat (first | refine blk_drewN ?_ _ | refine blk_drew ?_ | refine blk_alloc ?_ _)); exact BK229.out) hb)
                                have n2_ := Aside0.mk (below_step (by repeat (first | (with_reducible first | exact HB.out | apply below_alloc | apply pw_below_drewN | apply below_drew1 | refine below_set ?_ GE229.out) | exact HB.out)) hb)
                                clear HO_6
                                clear BK229
                                clear HB
                                have HO_6 := n0_
                                have BK229 := n1_
                                have HB := n2_
                                clear n0_ n1_ n2_
                                (try clear hb)
                                (try clear hb2)
                                (try clear hk)
                                (try clear hi)
                                have p25 : 0 ≤ (((rd_T32 l1 x23_2).f1) : Int) := of_decide_eq_true (by first | (with_reducible assumption) | assumption)
                                have q25 : (((rd_T32 l1 x23_2).f1) : Int) < ((x6_2.length : Int) : Int) := of_decide_eq_true (by first | (with_reducible assumption) | assumption)
                                obtain ⟨hx25_0, hf25_0⟩ := Kd.R_celln 0 HO_6.out (((rd_T32 l1 x23_2).f1) : Int) p25 q25
                                replace p25 := eq_true p25
                                replace q25 := eq_true q25
                                have HP33 := Kd.R_putn HO_6.out (((rd_T32 l1 x23_2).f1) : Int) t231
                                rw [← Ny232.out] at HP33
                                have HQ33 := Aside0.mk HP33
                                clear HP33
                                refine hK.out _ _ ⟨(blk_cell BK229.out 0).trans rfl, (blk_cell BK229.out 1).trans rfl, (blk_cell BK229.out 2).trans rfl, (blk_cell BK229.out 3).trans rfl, HS4_⟩ (fun hHeld => ?_)
                                clear hK K
                                refine norm_ (a' := ?_) ?_ ?_
                                rotate_left
                                · show Act.put _ (some 39) _ = _
                                  simp only [Act.put, List.setIfInBounds_toArray, List.set_cons_zero, List.set_cons_succ, i64_w, i32_w]
                                  rfl
                                refine pure_ (i := 13) (N := some 40) (v := ?_) (a' := ?_) #[true, true, true, true, true, true, true, true, true, true, true, true, true, true, false] rfl rfl (any_of HT_.out (by kernel_rfl)) (fun _ _ _ h => h) (Or.inl ⟨by rfl, ?_⟩) ?_ ?_
                                rotate_left
                                · intro w'
                                  go_simp
                                  first | (with_reducible rfl) | (simp only [Instr.field, go_sem, *]; rfl)
                                rotate_left
                                · simp only [Act.put, List.setIfInBounds_toArray, List.set_cons_zero, List.set_cons_succ, i64_w, i32_w]
                                  rfl
                                refine last_ (i := 14) (N := none) #[true, true, true, true, true, true, true, true, true, true, true, true, true, true, true] rfl rfl (one_of HT_.out (by kernel_rfl)) (by decide) (fun K hK => ?_)
                                refine skip_ (w1 := ?_) (by rfl) rfl ?_ ?_
                                rotate_left
                                · go_simp
                                  rfl
                                refine hK.out _ _ ?_
                                clear hK K
                                refine done_ (done_of HT_.out (by kernel_rfl)) ?_
                                have hcz34_0 : w32.cell? ⟨gb229, 0, none⟩ = some (.int .i64 ((rd_T32 l1 x23_2).f0)) := (blk_cell BK229.out 0).trans rfl
                                have hcz34_1 : w32.cell? ⟨gb229, 1, none⟩ = some (.int .i64 ((rd_T32 l1 x23_2).f1)) := (blk_cell BK229.out 1).trans rfl
                                have hcz34_2 : w32.cell? ⟨gb229, 2, none⟩ = some (.int .i64 ((rd_T32 l1 x23_2).f2)) := (blk_cell BK229.out 2).trans rfl
                                have hcz34_3 : w32.cell? ⟨gb229, 3, none⟩ = some (.int .i64 ((rd_T32 l1 x23_2).f3)) := (blk_cell BK229.out 3).trans rfl
                                have hfz34_0 := blk_frozen BK229.out 0
                                have hfz34_1 := blk_frozen BK229.out 1
                                have hfz34_2 := blk_frozen BK229.out 2
                                have hfz34_3 := blk_frozen BK229.out 3
                                have hne_ := ((Kd.R_types HO_6.out BK229.out (by decide)).1 _ rfl).2
                                have hxa_ := (cell_far (p := ⟨_, ((((rd_T32 l1 x23_2).f1) : Int)).toNat, none⟩) (a := ⟨gb229, 1, none⟩) (Ne.symm hne_) (.int .i64 t231)).trans hcz34_1
                                have hxb_ := World.cell?_setCell_same w32 _ (.int .i64 t231) hx25_0
                                have p26 : 0 ≤ (((rd_T32 l1 x23_2).f1) : Int) := of_decide_eq_true (by first | (with_reducible assumption) | assumption)
                                have q26 : (((rd_T32 l1 x23_2).f1) : Int) < ((x6_2.length : Int) : Int) := of_decide_eq_true (by first | (with_reducible assumption) | assumption)
                                replace p26 := eq_true p26
                                replace q26 := eq_true q26
                                try go_wp2
                                go_ret2
                                exact ⟨_, by first | rfl | (simp [errW_none, errW_some] <;> rfl) | (simp [*, errW_none, errW_some] <;> rfl), by first | exact Kd.R_nil _ _ _ _ _ | exact Kd.N_nil _ _ _ _ _ | exact Kd.V_nil _ _ _ _ _ | exact Kd.Q_nil _ _ _ _ _ | exact Kd.S_nil _ _ _ _ _, by repeat (first | (with_reducible first | exact HB.out | apply below_alloc | apply pw_below_drewN | apply below_drew1 | refine below_set ?_ GB12.out | refine below_set ?_ GE229.out) | exact HB.out)⟩
                              · rw [if_neg c27] at H
                                have c27b0 : (t231 == 0) = false := beq_eq_false_iff_ne.mpr c27
                                have c27b1 : (t231 != 0) = true := bne_iff_ne.mpr c27
                                have H' := Aside0.mk H
                                clear H
                                have p228 : 0 ≤ (x23_2 : Int) := of_decide_eq_true (by first | (with_reducible assumption) | assumption)
                                have q228 : x23_2 < (l1.length : Int) := of_decide_eq_true (by first | (with_reducible assumption) | assumption)
                                obtain ⟨ad228, e228, hx228_0, hx228_1, hx228_2, hx228_3⟩ := at_T32 HR1.out x23_2 p228 q228
                                cases e228
                                replace hx228_0 := (HB.out.cell (World.block_lt_of_cell? w _ hx228_0)).trans hx228_0
                                replace hx228_1 := (HB.out.cell (World.block_lt_of_cell? w _ hx228_1)).trans hx228_1
                                replace hx228_2 := (HB.out.cell (World.block_lt_of_cell? w _ hx228_2)).trans hx228_2
                                replace hx228_3 := (HB.out.cell (World.block_lt_of_cell? w _ hx228_3)).trans hx228_3
                                replace p228 := eq_true p228
                                replace q228 := eq_true q228
                                try go_wp2_with (first | ((with_reducible refine gate_dst (N := 8) rfl ?_); refine box_event ?hg (N := 8) ?hd (cs := #[.int .i64 0, .int .i64 0, .int .i64 0, .int .i64 0]) (t := 32) ?hr ?_; (case hd => rfl); (case hg => rfl); (case hr => first | (go_simp; done) | (go_simp; rfl)); intro gb229 hg w35 hbox hb; have n0_ := Aside0.mk (Kd.R_below (by (with_reducible repeat (first | apply Kd.R_alloc | apply Kd.R_drewN | apply Kd.R_drew)); exact HO_6.out) hb); have n1_ := Aside0.mk (below_step (by repeat (first | (with_reducible first | exact HB.out | apply below_alloc | apply pw_below_drewN | apply below_drew1) | exact HB.out)) hb); have n2_ := Aside0.mk (hbox); have n3_ := Aside0.mk ((by rw [hg]; exact (below_size (by repeat (first | (with_reducible first | exact HB.out | apply below_alloc | apply pw_below_drewN | apply below_drew1) | exact HB.out))) : w.heap.size ≤ gb229)); have n4_ := Aside0.mk ((by rw [hg]; exact (below_size (by repeat (first | (with_reducible first | exact HB.out | apply below_alloc | apply pw_below_drewN | apply below_drew1) | exact HB.out))) : w.heap.size ≤ gb229)); clear HO_6; clear HB; have HO_6 := n0_; have HB := n1_; have BK229 := n2_; have GW229 := n3_; have GE229 := n4_; clear n0_ n1_ n2_ n3_ n4_; clear hb hbox hg; have hcz36_0 : w35.cell? ⟨gb229, 0, none⟩ = some (.int .i64 0) := (blk_cell BK229.out 0).trans rfl; have hcz36_1 : w35.cell? ⟨gb229, 1, none⟩ = some (.int .i64 0) := (blk_cell BK229.out 1).trans rfl; have hcz36_2 : w35.cell? ⟨gb229, 2, none⟩ = some (.int .i64 0) := (blk_cell BK229.out 2).trans rfl; have hcz36_3 : w35.cell? ⟨gb229, 3, none⟩ = some (.int .i64 0) := (blk_cell BK229.out 3).trans rfl; have hfz36_0 := blk_frozen BK229.out 0; have hfz36_1 := blk_frozen BK229.out 1; have hfz36_2 := blk_frozen BK229.out 2; have hfz36_3 := blk_frozen BK229.out 3))
                                have n0_ : Aside0 (Kd.R (Kd.int .i64) 3 ((((w35.setCell ⟨gb229, 0, none⟩ (.int .i64 ((rd_T32 l1 x23_2).f0))).setCell ⟨gb229, 1, none⟩ (.int .i64 ((rd_T32 l1 x23_2).f1))).setCell ⟨gb229, 2, none⟩ (.int .i64 ((rd_T32 l1 x23_2).f2))).setCell ⟨gb229, 3, none⟩ (.int .i64 ((rd_T32 l1 x23_2).f3))) w.heap.size (fun _ => True) (.slice (some ⟨go12, 0, none⟩) x6_2.length co12) x6_2) := ⟨by (with_reducible repeat (first | apply Kd.R_alloc | apply Kd.R_drewN | apply Kd.R_drew)); exact Kd.R_mono (Kd.R_far (p := ⟨gb229, 3, none⟩) (Kd.R_far (p := ⟨gb229, 2, none⟩) (Kd.R_far (p := ⟨gb229, 1, none⟩) (Kd.R_far (p := ⟨gb229, 0, none⟩) (Kd.R_types HO_6.out BK229.out (by decide)) (fun _ hk => hk.2) (.int .i64 ((rd_T32 l1 x23_2).f0))) (fun _ hk => hk.2) (.int .i64 ((rd_T32 l1 x23_2).f1))) (fun _ hk => hk.2) (.int .i64 ((rd_T32 l1 x23_2).f2))) (fun _ hk => hk.2) (.int .i64 ((rd_T32 l1 x23_2).f3))) (fun _ hk => trivial)⟩
                                have n1_ : Aside0 (((((w35.setCell ⟨gb229, 0, none⟩ (.int .i64 ((rd_T32 l1 x23_2).f0))).setCell ⟨gb229, 1, none⟩ (.int .i64 ((rd_T32 l1 x23_2).f1))).setCell ⟨gb229, 2, none⟩ (.int .i64 ((rd_T32 l1 x23_2).f2))).setCell ⟨gb229, 3, none⟩ (.int .i64 ((rd_T32 l1 x23_2).f3))).heap[gb229]? = some (.cells #[.int .i64 ((rd_T32 l1 x23_2).f0), .int .i64 ((rd_T32 l1 x23_2).f1), .int .i64 ((rd_T32 l1 x23_2).f2), .int .i64 ((rd_T32 l1 x23_2).f3)] 32 (0, 0))) := ⟨by (with_reducible repeat (first | refine blk_drewN ?_ _ | refine blk_drew ?_ | refine blk_alloc ?_ _)); refine blk_put (cs := #[.int .i64 ((rd_T32 l1 x23_2).f0), .int .i64 ((rd_T32 l1 x23_2).f1), .int .i64 ((rd_T32 l1 x23_2).f2), .int .i64 0]) ?_ 3 _ rfl; (with_reducible repeat (first | refine blk_drewN ?_ _ | refine blk_drew ?_ | refine blk_alloc ?_ _)); refine blk_put (cs := #[.int .i64 ((rd_T32 l1 x23_2).f0), .int .i64 ((rd_T32 l1 x23_2).f1), .int .i64 0, .int .i64 0]) ?_ 2 _ rfl; (with_reducible repeat (first | refine blk_drewN ?_ _ | refine blk_drew ?_ | refine blk_alloc ?_ _)); refine blk_put (cs := #[.int .i64 ((rd_T32 l1 x23_2).f0), .int .i64 0, .int .i64 0, .int .i64 0]) ?_ 1 _ rfl; (with_reducible repeat (first | refine blk_drewN ?_ _ | refine blk_drew ?_ | refine blk_alloc ?_ _)); refine blk_put (cs := #[.int .i64 0, .int .i64 0, .int .i64 0, .int .i64 0]) ?_ 0 _ rfl; (with_reducible repeat (first | refine blk_drewN ?_ _ | refine blk_drew ?_ | refine blk_alloc ?_ _)); exact BK229.out⟩
                                have n2_ : Aside0 (Below w.heap.size w ((((w35.setCell ⟨gb229, 0, none⟩ (.int .i64 ((rd_T32 l1 x23_2).f0))).setCell ⟨gb229, 1, none⟩ (.int .i64 ((rd_T32 l1 x23_2).f1))).setCell ⟨gb229, 2, none⟩ (.int .i64 ((rd_T32 l1 x23_2).f2))).setCell ⟨gb229, 3, none⟩ (.int .i64 ((rd_T32 l1 x23_2).f3)))) := ⟨by repeat (first | (with_reducible first | exact HB.out | apply below_alloc | apply pw_below_drewN | apply below_drew1 | refine below_set ?_ GE229.out) | exact HB.out)⟩
                                (try clear HO_6)
                                (try clear BK229)
                                (try clear HB)
                                generalize ((((w35.setCell ⟨gb229, 0, none⟩ (.int .i64 ((rd_T32 l1 x23_2).f0))).setCell ⟨gb229, 1, none⟩ (.int .i64 ((rd_T32 l1 x23_2).f1))).setCell ⟨gb229, 2, none⟩ (.int .i64 ((rd_T32 l1 x23_2).f2))).setCell ⟨gb229, 3, none⟩ (.int .i64 ((rd_T32 l1 x23_2).f3))) = w37 at n0_ n1_ n2_ ⊢
                                have HO_6 := n0_
                                have BK229 := n1_
                                have HB := n2_
                                clear n0_ n1_ n2_
                                have n0_ := Aside0.mk (Kd.R_drew HO_6.out)
                                have n1_ := Aside0.mk (blk_drew BK229.out)
                                have n2_ := Aside0.mk (below_drew1 HB.out)
                                clear HO_6
                                clear BK229
                                clear HB
                                have HO_6 := n0_
                                have BK229 := n1_
                                have HB := n2_
                                clear n0_ n1_ n2_
                                have p230 : 0 ≤ (((rd_T32 l1 x23_2).f0) : Int) := of_decide_eq_true (by first | (with_reducible assumption) | assumption)
                                have q230 : ((rd_T32 l1 x23_2).f0) < (x6_2.length : Int) := of_decide_eq_true (by first | (with_reducible assumption) | assumption)
                                obtain ⟨ad230, e230, hx230_0⟩ := Kd.at_int (Kd.R_reads' HO_6.out).2.2 ((rd_T32 l1 x23_2).f0) p230 q230
                                obtain rfl : (⟨go12, 0, none⟩ : Addr) = ad230 := (by injection e230)
                                (first | simp only [add_plain] at hx230_0 | simp only [add_at] at hx230_0 | simp only [Addr.add, Nat.zero_add] at hx230_0 | skip)
                                replace p230 := eq_true p230
                                replace q230 := eq_true q230
                                refine start_ (n := 15) (S := fun w' => w'.cell? ⟨gb229, 0, none⟩ = some (.int .i64 ((rd_T32 l1 x23_2).f0)) ∧ w'.cell? ⟨gb229, 1, none⟩ = some (.int .i64 ((rd_T32 l1 x23_2).f1)) ∧ w'.cell? ⟨gb229, 2, none⟩ = some (.int .i64 ((rd_T32 l1 x23_2).f2)) ∧ w'.cell? ⟨gb229, 3, none⟩ = some (.int .i64 ((rd_T32 l1 x23_2).f3)) ∧ w'.cell? ⟨go12, (((rd_T32 l1 x23_2).f0)).toNat, none⟩ = some (.int .i64 (rd x6_2 ((rd_T32 l1 x23_2).f0)))) (ds := [14]) #[false, false, false, false, false, false, false, false, false, false, false, false, false, false, false] (by kernel_rfl) rfl rfl ⟨(blk_cell BK229.out 0).trans rfl, (blk_cell BK229.out 1).trans rfl, (blk_cell BK229.out 2).trans rfl, (blk_cell BK229.out 3).trans rfl, hx230_0⟩ (fun hHeld => ?_); refine with_tabW impl_RunPlan.tab8 impl_RunPlan.bits8 (fun HT_ HW_ => ?_)
                                generalize w37.drew = w38 at HO_6 BK229 HB hx230_0 hHeld ⊢
                                refine pure_ (i := 0) (N := some 27) (v := ?_) (a' := ?_) #[true, false, false, false, false, false, false, false, false, false, false, false, false, false, false] rfl rfl (any_of HT_.out (by kernel_rfl)) (fun _ _ _ h => h) (Or.inl ⟨by rfl, ?_⟩) ?_ ?_
                                rotate_left
                                · intro w'
                                  go_simp
                                  first | (with_reducible rfl) | (simp only [Instr.field, go_sem, *]; rfl)
                                rotate_left
                                · simp only [Act.put, List.setIfInBounds_toArray, List.set_cons_zero, List.set_cons_succ, i64_w, i32_w]
                                  rfl
                                refine pure_ (i := 1) (N := some 28) (v := ?_) (a' := ?_) #[true, true, false, false, false, false, false, false, false, false, false, false, false, false, false] rfl rfl (any_of HT_.out (by kernel_rfl)) (fun _ _ _ h => h) (Or.inl ⟨by rfl, ?_⟩) ?_ ?_
                                rotate_left
                                · intro w'
                                  go_simp
                                  first | (with_reducible rfl) | (simp only [Instr.field, go_sem, *]; rfl)
                                rotate_left
                                · simp only [Act.put, List.setIfInBounds_toArray, List.set_cons_zero, List.set_cons_succ, i64_w, i32_w]
                                  rfl
                                refine pure_ (i := 3) (N := some 30) (v := ?_) (a' := ?_) #[true, true, false, true, false, false, false, false, false, false, false, false, false, false, false] rfl rfl (any_of HT_.out (by kernel_rfl)) (fun _ _ _ h => h) (Or.inl ⟨by rfl, ?_⟩) ?_ ?_
                                rotate_left
                                · intro w'
                                  go_simp
                                  first | (with_reducible rfl) | (simp only [Instr.field, go_sem, *]; rfl)
                                rotate_left
                                · simp only [Act.put, List.setIfInBounds_toArray, List.set_cons_zero, List.set_cons_succ, i64_w, i32_w]
                                  rfl
                                refine pure_ (i := 4) (N := some 31) (v := ?_) (a' := ?_) #[true, true, false, true, true, false, false, false, false, false, false, false, false, false, false] rfl rfl (any_of HT_.out (by kernel_rfl)) (fun _ _ _ h => h) (Or.inl ⟨by rfl, ?_⟩) ?_ ?_
                                rotate_left
                                · intro w'
                                  go_simp
                                  first | (with_reducible rfl) | (simp only [Instr.field, go_sem, *]; rfl)
                                rotate_left
                                · simp only [Act.put, List.setIfInBounds_toArray, List.set_cons_zero, List.set_cons_succ, i64_w, i32_w]
                                  rfl
                                refine pure_ (i := 8) (N := some 35) (v := ?_) (a' := ?_) #[true, true, false, true, true, false, false, false, true, false, false, false, false, false, false] rfl rfl (any_of HT_.out (by kernel_rfl)) (fun _ _ _ h => h) (Or.inl ⟨by rfl, ?_⟩) ?_ ?_
                                rotate_left
                                · intro w'
                                  go_simp
                                  first | (with_reducible rfl) | (simp only [Instr.field, go_sem, *]; rfl)
                                rotate_left
                                · simp only [Act.put, List.setIfInBounds_toArray, List.set_cons_zero, List.set_cons_succ, i64_w, i32_w]
                                  rfl
                                refine pure_ (i := 10) (N := some 37) (v := ?_) (a' := ?_) #[true, true, false, true, true, false, false, false, true, false, true, false, false, false, false] rfl rfl (any_of HT_.out (by kernel_rfl)) (fun _ _ _ h => h) (Or.inl ⟨by rfl, ?_⟩) ?_ ?_
                                rotate_left
                                · intro w'
                                  go_simp
                                  first | (with_reducible rfl) | (simp only [Instr.field, go_sem, *]; rfl)
                                rotate_left
                                · simp only [Act.put, List.setIfInBounds_toArray, List.set_cons_zero, List.set_cons_succ, i64_w, i32_w]
                                  rfl
                                refine take_ (i := 2) (N := some 29) (v := ?_) (a' := ?_) #[true, true, true, true, true, false, false, false, true, false, true, false, false, false, false] rfl rfl (take_ofW HT_.out HW_.out (by kernel_rfl)) (fun _ _ _ h => h) (Or.inl ⟨by rfl, ?_⟩) hHeld ?_ ?_
                                rotate_left
                                · rintro w' ⟨s0, s1, s2, s3, s4⟩
                                  go_simp
                                  first | (with_reducible rfl) | (simp only [Instr.field, go_sem, *]; rfl)
                                rotate_left
                                · simp only [Act.put, List.setIfInBounds_toArray, List.set_cons_zero, List.set_cons_succ, i64_w, i32_w]
                                  rfl
                                refine take_ (i := 5) (N := some 32) (v := ?_) (a' := ?_) #[true, true, true, true, true, true, false, false, true, false, true, false, false, false, false] rfl rfl (take_ofW HT_.out HW_.out (by kernel_rfl)) (fun _ _ _ h => h) (Or.inl ⟨by rfl, ?_⟩) hHeld ?_ ?_
                                rotate_left
                                · rintro w' ⟨s0, s1, s2, s3, s4⟩
                                  go_simp
                                  first | (with_reducible rfl) | (simp only [Instr.field, go_sem, *]; rfl)
                                rotate_left
                                · simp only [Act.put, List.setIfInBounds_toArray, List.set_cons_zero, List.set_cons_succ, i64_w, i32_w]
                                  rfl
                                refine pure_ (i := 6) (N := some 33) (v := ?_) (a' := ?_) #[true, true, true, true, true, true, true, false, true, false, true, false, false, false, false] rfl rfl (any_of HT_.out (by kernel_rfl)) (fun _ _ _ h => h) (Or.inl ⟨by rfl, ?_⟩) ?_ ?_
                                rotate_left
                                · intro w'
                                  go_simp
                                  first | (with_reducible rfl) | (simp only [Instr.field, go_sem, *]; rfl)
                                rotate_left
                                · simp only [Act.put, List.setIfInBounds_toArray, List.set_cons_zero, List.set_cons_succ, i64_w, i32_w]
                                  rfl
                                refine take_ (i := 7) (N := some 34) (v := ?_) (a' := ?_) #[true, true, true, true, true, true, true, true, true, false, true, false, false, false, false] rfl rfl (take_ofW HT_.out HW_.out (by kernel_rfl)) (fun _ _ _ h => h) (Or.inl ⟨by rfl, ?_⟩) hHeld ?_ ?_
                                rotate_left
                                · rintro w' ⟨s0, s1, s2, s3, s4⟩
                                  go_simp
                                  first | (with_reducible rfl) | (simp only [Instr.field, go_sem, *]; rfl)
                                rotate_left
                                · simp only [Act.put, List.setIfInBounds_toArray, List.set_cons_zero, List.set_cons_succ, i64_w, i32_w]
                                  rfl
                                refine take_ (i := 9) (N := some 36) (v := ?_) (a' := ?_) #[true, true, true, true, true, true, true, true, true, true, true, false, false, false, false] rfl rfl (take_ofW HT_.out HW_.out (by kernel_rfl)) (fun _ _ _ h => h) (Or.inl ⟨by rfl, ?_⟩) hHeld ?_ ?_
                                rotate_left
                                · rintro w' ⟨s0, s1, s2, s3, s4⟩
                                  go_simp
                                  first | (with_reducible rfl) | (simp only [Instr.field, go_sem, *]; rfl)
                                rotate_left
                                · simp only [Act.put, List.setIfInBounds_toArray, List.set_cons_zero, List.set_cons_succ, i64_w, i32_w]
                                  rfl
                                refine take_ (i := 11) (N := some 38) (v := ?_) (a' := ?_) #[true, true, true, true, true, true, true, true, true, true, true, true, false, false, false] rfl rfl (take_ofW HT_.out HW_.out (by kernel_rfl)) (fun _ _ _ h => h) (Or.inl ⟨by rfl, ?_⟩) hHeld ?_ ?_
                                rotate_left
                                · rintro w' ⟨s0, s1, s2, s3, s4⟩
                                  go_simp
                                  first | (with_reducible rfl) | (simp only [Instr.field, go_sem, *]; rfl)
                                rotate_left
                                · simp only [Act.put, List.setIfInBounds_toArray, List.set_cons_zero, List.set_cons_succ, i64_w, i32_w]
                                  rfl
                                refine one_ (i := 12) (N := some 39) #[true, true, true, true, true, true, true, true, true, true, true, true, true, false, false] rfl rfl (one_of HT_.out (by kernel_rfl)) (by decide) (fun K hK => ?_)
                                refine goes_ Try.func53 (by kernel_rfl) rfl #[.int .i64 (rd x6_2 ((rd_T32 l1 x23_2).f0)), .int .i64 ((rd_T32 l1 x23_2).f2), .int .i64 ((rd_T32 l1 x23_2).f3)] (by rfl) rfl rfl (by (try simp only [List.map_toArray, List.map_cons, List.map_nil]); first | done | rfl | (simp only [List.length_drop, List.length_take]; rfl)) ?_
                                with_reducible refine (impl_TunedPitch.calls k2 (rd x6_2 ((rd_T32 l1 x23_2).f0)) ((rd_T32 l1 x23_2).f2) ((rd_T32 l1 x23_2).f3) t231 _ A22.out).mono ?_
                                rintro e w39 ⟨rfl, hb⟩
                                have HS4_ := (hb.cell (World.block_lt_of_cell? _ _ (hHeld.2.2.2.2))).trans (hHeld.2.2.2.2)
                                refine ⟨_, rfl, ?_⟩
                                have n0_ := Aside0.mk (Kd.R_below (by (with_reducible repeat (first | apply Kd.R_alloc | apply Kd.R_drewN | apply Kd.R_drew)); exact HO_6.out) hb)
                                have n1_ := Aside0.mk (blk_below (g := gb229) (o := .cells #[.int .i64 ((rd_T32 l1 x23_2).f0), .int .i64 ((rd_T32 l1 x23_2).f1), .int .i64 ((rd_T32 l1 x23_2).f2), .int .i64 ((rd_T32 l1 x23_2).f3)] 32 (0, 0)) (by (with_reducible repeat (first | refine blk_drewN ?_ _ | refine blk_drew ?_ | refine blk_alloc ?_ _)); exact BK229.out) hb)
                                have n2_ := Aside0.mk (below_step (by repeat (first | (with_reducible first | exact HB.out | apply below_alloc | apply pw_below_drewN | apply below_drew1 | refine below_set ?_ GE229.out) | exact HB.out)) hb)
                                clear HO_6
                                clear BK229
                                clear HB
                                have HO_6 := n0_
                                have BK229 := n1_
                                have HB := n2_
                                clear n0_ n1_ n2_
                                (try clear hb)
                                (try clear hb2)
                                (try clear hk)
                                (try clear hi)
                                have p25 : 0 ≤ (((rd_T32 l1 x23_2).f1) : Int) := of_decide_eq_true (by first | (with_reducible assumption) | assumption)
                                have q25 : (((rd_T32 l1 x23_2).f1) : Int) < ((x6_2.length : Int) : Int) := of_decide_eq_true (by first | (with_reducible assumption) | assumption)
                                obtain ⟨hx25_0, hf25_0⟩ := Kd.R_celln 0 HO_6.out (((rd_T32 l1 x23_2).f1) : Int) p25 q25
                                replace p25 := eq_true p25
                                replace q25 := eq_true q25
                                have HP40 := Kd.R_putn HO_6.out (((rd_T32 l1 x23_2).f1) : Int) t231
                                rw [← Ny232.out] at HP40
                                have HQ40 := Aside0.mk HP40
                                clear HP40
                                refine hK.out _ _ ⟨(blk_cell BK229.out 0).trans rfl, (blk_cell BK229.out 1).trans rfl, (blk_cell BK229.out 2).trans rfl, (blk_cell BK229.out 3).trans rfl, HS4_⟩ (fun hHeld => ?_)
                                clear hK K
                                refine norm_ (a' := ?_) ?_ ?_
                                rotate_left
                                · show Act.put _ (some 39) _ = _
                                  simp only [Act.put, List.setIfInBounds_toArray, List.set_cons_zero, List.set_cons_succ, i64_w, i32_w]
                                  rfl
                                refine pure_ (i := 13) (N := some 40) (v := ?_) (a' := ?_) #[true, true, true, true, true, true, true, true, true, true, true, true, true, true, false] rfl rfl (any_of HT_.out (by kernel_rfl)) (fun _ _ _ h => h) (Or.inl ⟨by rfl, ?_⟩) ?_ ?_
                                rotate_left
                                · intro w'
                                  go_simp
                                  first | (with_reducible rfl) | (simp only [Instr.field, go_sem, *]; rfl)
                                rotate_left
                                · simp only [Act.put, List.setIfInBounds_toArray, List.set_cons_zero, List.set_cons_succ, i64_w, i32_w]
                                  rfl
                                refine last_ (i := 14) (N := none) #[true, true, true, true, true, true, true, true, true, true, true, true, true, true, true] rfl rfl (one_of HT_.out (by kernel_rfl)) (by decide) (fun K hK => ?_)
                                refine skip_ (w1 := ?_) (by rfl) rfl ?_ ?_
                                rotate_left
                                · go_simp
                                  rfl
                                refine hK.out _ _ ?_
                                clear hK K
                                refine done_ (done_of HT_.out (by kernel_rfl)) ?_
                                have hcz41_0 : w39.cell? ⟨gb229, 0, none⟩ = some (.int .i64 ((rd_T32 l1 x23_2).f0)) := (blk_cell BK229.out 0).trans rfl
                                have hcz41_1 : w39.cell? ⟨gb229, 1, none⟩ = some (.int .i64 ((rd_T32 l1 x23_2).f1)) := (blk_cell BK229.out 1).trans rfl
                                have hcz41_2 : w39.cell? ⟨gb229, 2, none⟩ = some (.int .i64 ((rd_T32 l1 x23_2).f2)) := (blk_cell BK229.out 2).trans rfl
                                have hcz41_3 : w39.cell? ⟨gb229, 3, none⟩ = some (.int .i64 ((rd_T32 l1 x23_2).f3)) := (blk_cell BK229.out 3).trans rfl
                                have hfz41_0 := blk_frozen BK229.out 0
                                have hfz41_1 := blk_frozen BK229.out 1
                                have hfz41_2 := blk_frozen BK229.out 2
                                have hfz41_3 := blk_frozen BK229.out 3
                                have hne_ := ((Kd.R_types HO_6.out BK229.out (by decide)).1 _ rfl).2
                                have hxa_ := (cell_far (p := ⟨_, ((((rd_T32 l1 x23_2).f1) : Int)).toNat, none⟩) (a := ⟨gb229, 1, none⟩) (Ne.symm hne_) (.int .i64 t231)).trans hcz41_1
                                have hxb_ := World.cell?_setCell_same w39 _ (.int .i64 t231) hx25_0
                                have p26 : 0 ≤ (((rd_T32 l1 x23_2).f1) : Int) := of_decide_eq_true (by first | (with_reducible assumption) | assumption)
                                have q26 : (((rd_T32 l1 x23_2).f1) : Int) < ((x6_2.length : Int) : Int) := of_decide_eq_true (by first | (with_reducible assumption) | assumption)
                                replace p26 := eq_true p26
                                replace q26 := eq_true q26
                                try go_wp2
                                (try simp only [← hl6_2])
                                go_roundg k2
                                case measure => have := HJ2.out; have := HK2.out; omega
                                case rel => exact ⟨(y232), (wrap64 (x23_2 + 1)), (by first | rfl | (simp; done) | (simp [*]; done)), H', ⟨by have := HJ2.out; have := HK2.out; omega⟩, ⟨by (try simp only [hl6_2]); (with_reducible repeat (first | apply Kd.R_alloc | apply Kd.R_drewN | apply Kd.R_drew)); exact HQ40.out⟩, ⟨by repeat (first | (with_reducible first | exact HB.out | apply below_alloc | apply pw_below_drewN | apply below_drew1 | refine below_set ?_ GB12.out | refine below_set ?_ GE229.out) | exact HB.out)⟩⟩
                            · rw [if_neg c24] at H
                              exact absurd H (by simp)
                          · rw [if_neg c23] at H
                            exact absurd H (by simp)
                        · rw [if_neg c21] at H
                          exact absurd H (by simp)
                      · rw [if_neg c20] at H
                        exact absurd H (by simp)
                    · rw [if_neg c19] at H
                      exact absurd H (by simp)
                  · rw [if_neg c18] at H
                    exact absurd H (by simp)
                · rw [if_neg c17] at H
                  have c17b0 : decide (x23_2 < (l1.length : Int)) = false := decide_eq_false c17
                  clear c17
                  simp only [Option.some.injEq, Prod.mk.injEq] at H
                  obtain ⟨rfl, rfl⟩ := H
                  go_wp2
                  go_ret2
                  exact ⟨_, by first | rfl | (simp [errW_none, errW_some] <;> rfl) | (simp [*, errW_none, errW_some] <;> rfl), by (with_reducible repeat (first | apply Kd.R_alloc | apply Kd.R_drewN | apply Kd.R_drew)); exact HO_6.out, by repeat (first | (with_reducible first | exact HB.out | apply below_alloc | apply pw_below_drewN | apply below_drew1) | exact HB.out)⟩
          · rw [if_neg c11] at H
            exact absurd H (by simp)
        · rw [if_neg c10] at H
          exact absurd H (by simp)

end Go.Proofs.Ythhcpfaabnanoaa.PFnSpread
