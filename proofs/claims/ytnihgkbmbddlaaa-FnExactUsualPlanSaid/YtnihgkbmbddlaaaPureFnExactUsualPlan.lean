/- UsualPlan of the program and of the reference answer alike, for every whole number, and the answer is new memory. No condition. -/
import Derived.Test.YtnihgkbmbddlaaaPFnExactUsualPlanx1
import Derived.Test.YtnihgkbmbddlaaaPFnExactUsualPlanx2
import Derived.OpenShut
namespace Go.Proofs.Ytnihgkbmbddlaaa.Pure
open Go.RowKit Go.Proofs.Ytnihgkbmbddlaaa.PFnExactUsualPlan Go.Proofs.YtnihgkbmbddlaaaW.PrintWords Go.Proofs.YtnihgkbmbddlaaaW.PrintLast Go.Proofs.YtnihgkbmbddlaaaW.PrintMore
set_option linter.unusedVariables false
set_option linter.unusedSimpArgs false
theorem w64 {x : Int} (h : -9223372036854775808 ≤ x) (h' : x ≤ 9223372036854775807) : wrap64 x = x := by unfold wrap64; omega
theorem wf64 {x : Int} (h : (Lit.int .i64 x).wf = true) : -9223372036854775808 ≤ x ∧ x ≤ 9223372036854775807 := by
  simp only [Lit.wf, IntKind.min, IntKind.max, IntKind.signed, IntKind.bits, Bool.and_eq_true, decide_eq_true_eq, if_true] at h
  omega
theorem wfu8 {x : Int} (h : (Lit.int .u8 x).wf = true) : 0 ≤ x ∧ x ≤ 255 := by
  simp [Lit.wf, IntKind.min, IntKind.max, IntKind.signed, IntKind.bits] at h
  omega
theorem mx_def (a b : Int) : mx a b = max a b := by unfold mx; omega
theorem mn_def (a b : Int) : mn a b = min a b := by unfold mn; omega
theorem fuel {n k : Nat} (h : n < k) : ∃ m, k = m + 1 ∧ n ≤ m := ⟨k - 1, by omega, by omega⟩
theorem gcd_tmod (a b : Int) : Int.gcd b (Int.tmod a b) = Int.gcd a b := by
  unfold Int.gcd
  rw [Int.natAbs_tmod, Nat.gcd_comm, ← Nat.gcd_rec, Nat.gcd_comm]
theorem tmod_lt (a : Int) {b : Int} (h : b ≠ 0) : (Int.tmod a b).natAbs < b.natAbs := by
  rw [Int.natAbs_tmod]
  exact Nat.mod_lt _ (by omega)
theorem drop_rd {l : List Int} {i : Nat} (h : i < l.length) : l.drop i = rd l (i : Int) :: l.drop (i + 1) := by
  rw [List.drop_eq_getElem_cons h]
  simp [rd, List.getD, List.getElem?_eq_getElem h]
theorem rd_get {l : List Int} {i : Nat} (h : i < l.length) : rd l (i : Int) = l[i] := by simp [rd, List.getD, List.getElem?_eq_getElem h]
theorem up_one {i n : Nat} (h : i < n) (hn : n ≤ 9223372036854775807) : wrap64 ((i : Int) + 1) = ((i + 1 : Nat) : Int) := by rw [w64 (by omega) (by omega)]; omega
theorem rd_mem {l : List Int} {i : Nat} (h : i < l.length) : rd l (i : Int) ∈ l := by rw [rd_get h]; exact List.getElem_mem h
theorem maxLen_le {n : Nat} (h : n ≤ maxLen) : (n : Int) ≤ 9223372036854775807 := by unfold maxLen at h; omega

abbrev St := S53
theorem rdT_nat {x : List St} {i : Nat} (h : i < x.length) : rd_T53 x (i : Int) = x[i] := by simp [rd_T53, List.getD, List.getElem?_eq_getElem h]
theorem rdT_set {x : List St} {i : Nat} (h : i < x.length) (v : St) : rd_T53 (x.set i v) (i : Int) = v := by
  rw [rdT_nat (by simpa using h)]
  simp
theorem st_eta (s : St) : (⟨s.f0, s.f1, s.f2, s.f3⟩ : St) = s := rfl
theorem st_ext {s t : St} (h0 : s.f0 = t.f0) (h1 : s.f1 = t.f1) (h2 : s.f2 = t.f2) (h3 : s.f3 = t.f3) : s = t := by
  cases s; cases t; simp at h0 h1 h2 h3; subst h0 h1 h2 h3; rfl
def stB (s t : St) : Bool := decide (s.f0 = t.f0 ∧ s.f1 = t.f1 ∧ s.f2 = t.f2 ∧ s.f3 = t.f3)
theorem stB_iff (s t : St) : stB s t = true ↔ s = t := by
  unfold stB
  rw [decide_eq_true_eq]
  exact ⟨fun ⟨a, b, c, d⟩ => st_ext a b c d, fun h => by rw [h]; simp⟩
instance : DecidableEq St := fun s t => decidable_of_iff (stB s t = true) (stB_iff s t)
theorem drop_rdT {x : List St} {i : Nat} (h : i < x.length) : x.drop i = rd_T53 x (i : Int) :: x.drop (i + 1) := by
  rw [List.drop_eq_getElem_cons h, rdT_nat h]

def usualL (b : Int) : List St := [⟨0, 1, 1, b⟩, ⟨1, 2, 2, b⟩, ⟨2, 3, 1, b⟩, ⟨3, 4, 2, b⟩, ⟨4, 5, 1, b⟩, ⟨5, 6, 2, b⟩, ⟨6, 7, 2, b⟩, ⟨7, 8, 1, b⟩, ⟨8, 9, 2, b⟩, ⟨9, 10, 1, b⟩, ⟨10, 11, 2, b⟩]
/-- The usual plan. -/
def usualF (b : Int) : List St := if 0 ≤ b ∧ b ≤ 5000 then usualL b else []
theorem usualF_len (b : Int) : (usualF b).length ≤ 11 := by unfold usualF usualL; split <;> simp

theorem spec_l01In_eq (a b c : Int) : spec_l01In.f a b c = some (decide (b ≤ a ∧ a ≤ c)) := by
  unfold spec_l01In.f; by_cases h : a ≥ b <;> by_cases h2 : a ≤ c <;> simp [h, h2]; all_goals omega

theorem spec_UsualPlan_eq {k : Nat} (b : Int) (hk : 12 ≤ k) : spec_UsualPlan.f k b = some (usualF b) := by
  obtain ⟨k, rfl⟩ : ∃ m, k = m + 12 := ⟨k - 12, by omega⟩
  unfold spec_UsualPlan.f usualF
  by_cases h : 0 ≤ b ∧ b ≤ 5000
  · rw [if_pos h]
    simp [spec_UsualPlan.l0, spec_l01In_eq, h, wrap64, usualL, rd]
  · rw [if_neg h]
    simp [spec_UsualPlan.l0, spec_l01In_eq, h]

theorem impl_within_eq (a b c : Int) : impl_within.f a b c = some (decide (b ≤ a ∧ a ≤ c)) := by
  unfold impl_within.f; by_cases h : b ≤ a <;> by_cases h2 : a ≤ c <;> simp [h, h2]

theorem impl_UsualPlan_eq {k : Nat} (b : Int) (hk : 12 ≤ k) : impl_UsualPlan.f k b = some (usualF b) := by
  obtain ⟨k, rfl⟩ : ∃ m, k = m + 12 := ⟨k - 12, by omega⟩
  unfold impl_UsualPlan.f usualF
  rw [impl_within_eq]
  simp only [Option.bind_some, decide_eq_true_eq]
  by_cases h : 0 ≤ b ∧ b ≤ 5000
  · rw [if_pos h, if_pos h]
    simp [impl_UsualPlan.l0, wrap64, usualL]
  · rw [if_neg h, if_neg h]

theorem laws_eqStep_eq (s t : St) : laws_eqStep.f s.f0 s.f1 s.f2 s.f3 t.f0 t.f1 t.f2 t.f3 = some (decide (s = t)) := by
  unfold laws_eqStep.f
  by_cases h : s = t
  · subst h; simp
  · by_cases h0 : s.f0 = t.f0
    · by_cases h1 : s.f1 = t.f1
      · by_cases h2 : s.f2 = t.f2
        · by_cases h3 : s.f3 = t.f3
          · exact absurd (st_ext h0 h1 h2 h3) h
          · simp [h0, h1, h2, h3, h]
        · simp [h0, h1, h2, h]
      · simp [h0, h1, h]
    · simp [h0, h]
theorem laws_eqStepS_l0 (d : Nat) : ∀ (k : Nat) (l x : List St) (i : Nat), i + d = l.length → d < k → l.length ≤ 1048576 → x.length = l.length →
    laws_eqStepS.l0 k l x (i : Int) = some (decide (l.drop i = x.drop i)) := by
  induction d with
  | zero =>
    intro k l x i hi hk hn hx
    obtain ⟨k, rfl⟩ : ∃ m, k = m + 1 := ⟨k - 1, by omega⟩
    simp only [laws_eqStepS.l0]
    rw [if_neg (by omega), List.drop_eq_nil_of_le (by omega), List.drop_eq_nil_of_le (by omega)]
    simp
  | succ d ih =>
    intro k l x i hi hk hn hx
    obtain ⟨k, rfl⟩ : ∃ m, k = m + 1 := ⟨k - 1, by omega⟩
    simp only [laws_eqStepS.l0]
    rw [if_pos (by omega), if_pos (by omega), if_pos (by omega), up_one (n := l.length) (by omega) (by omega), ih k l x (i + 1) (by omega) (by omega) hn hx,
      drop_rdT (x := l) (i := i) (by omega), drop_rdT (x := x) (i := i) (by omega), laws_eqStep_eq]
    simp only [Option.bind_some, decide_eq_true_eq]
    by_cases h : rd_T53 l (i : Int) = rd_T53 x (i : Int)
    · rw [if_pos h]; simp [h]
    · rw [if_neg h]; simp [h]
theorem laws_eqStepS_eq {k : Nat} {l x : List St} (hk : l.length < k) (hn : l.length ≤ 1048576) : laws_eqStepS.f k l x = some (decide (l = x)) := by
  unfold laws_eqStepS.f
  by_cases h : x.length = l.length
  · rw [if_pos (by omega)]
    exact laws_eqStepS_l0 l.length k l x 0 (by omega) hk hn h
  · rw [if_neg (by omega)]
    have : l ≠ x := fun e => h (by rw [e])
    simp [this]

theorem laws_markStepS_l0 (d : Nat) : ∀ (k : Nat) (x : List St) (a : Int) (i : Nat), i + d = x.length → d < k → x.length ≤ 1048576 → 0 ≤ a → a + 4 * d ≤ 9000000000000000000 →
    ∃ y : List St, laws_markStepS.l0 k x a (i : Int) = some (a + 4 * d, y) ∧ y.length = x.length ∧ (∀ j, j < i → y[j]? = x[j]?) ∧ (∀ j, i ≤ j → j < x.length → y[j]? = some ⟨a + 4 * (j - i : Int), a + 4 * (j - i : Int) + 1, a + 4 * (j - i : Int) + 1 + 1, a + 4 * (j - i : Int) + 1 + 1 + 1⟩) := by
  induction d with
  | zero =>
    intro k x a i hi hk hn ha hb
    obtain ⟨k, rfl⟩ : ∃ m, k = m + 1 := ⟨k - 1, by omega⟩
    simp only [laws_markStepS.l0]
    rw [if_neg (by omega)]
    exact ⟨x, by simp, rfl, fun _ _ => rfl, fun j h1 h2 => by omega⟩
  | succ d ih =>
    intro k x a i hi hk hn ha hb
    obtain ⟨k, rfl⟩ : ∃ m, k = m + 1 := ⟨k - 1, by omega⟩
    simp only [laws_markStepS.l0]
    have hi' : i < x.length := by omega
    rw [if_pos (by omega), if_pos (by omega)]
    simp only [Option.bind_some, Int.toNat_natCast]
    rw [w64 (x := a + 1) (by omega) (by omega), w64 (x := a + 1 + 1) (by omega) (by omega), w64 (x := a + 1 + 1 + 1) (by omega) (by omega), w64 (x := a + 1 + 1 + 1 + 1) (by omega) (by omega), up_one (n := x.length) (by omega) (by omega)]
    simp only [rdT_set hi', List.set_set]
    obtain ⟨y, h1, h2, h3, h4⟩ := ih k (x.set i ⟨a, a + 1, a + 1 + 1, a + 1 + 1 + 1⟩) (a + 1 + 1 + 1 + 1) (i + 1) (by simpa using (by omega : i + 1 + d = x.length)) (by omega) (by simpa using hn) (by omega) (by omega)
    refine ⟨y, by rw [h1]; exact congrArg some (Prod.ext (by simp; omega) rfl), by simpa using h2, fun j hj => ?_, fun j hj hj2 => ?_⟩
    · rw [h3 j (by omega), List.getElem?_set, if_neg (by omega)]
    · by_cases e : j = i
      · subst e
        rw [h3 j (by omega), List.getElem?_set, if_pos rfl, if_pos (by omega)]
        simp
      · rw [h4 j (by omega) (by simpa using hj2)]
        have e1 : a + 1 + 1 + 1 + 1 + 4 * ((j : Int) - ((i + 1 : Nat) : Int)) = a + 4 * ((j : Int) - (i : Int)) := by omega
        rw [e1]

theorem laws_heldStepS_l0 (d : Nat) : ∀ (k : Nat) (x : List St) (a : Int) (i : Nat), i + d = x.length → d < k → x.length ≤ 1048576 → 0 ≤ a → a + 4 * d ≤ 9000000000000000000 →
    (∀ j, i ≤ j → j < x.length → x[j]? = some ⟨a + 4 * (j - i : Int), a + 4 * (j - i : Int) + 1, a + 4 * (j - i : Int) + 1 + 1, a + 4 * (j - i : Int) + 1 + 1 + 1⟩) → laws_heldStepS.l0 k x a (i : Int) = some (a + 4 * d) := by
  induction d with
  | zero =>
    intro k x a i hi hk hn ha hb hx
    obtain ⟨k, rfl⟩ : ∃ m, k = m + 1 := ⟨k - 1, by omega⟩
    simp only [laws_heldStepS.l0]
    rw [if_neg (by omega)]
    simp
  | succ d ih =>
    intro k x a i hi hk hn ha hb hx
    obtain ⟨k, rfl⟩ : ∃ m, k = m + 1 := ⟨k - 1, by omega⟩
    simp only [laws_heldStepS.l0]
    have e := hx i (Nat.le_refl _) (by omega)
    have e2 : rd_T53 x (i : Int) = ⟨a, a + 1, a + 1 + 1, a + 1 + 1 + 1⟩ := by
      rw [rdT_nat (by omega)]
      rw [List.getElem?_eq_getElem (by omega)] at e
      have := Option.some.inj e
      rw [this]
      simp
    rw [if_pos (by omega), if_pos (by omega), e2]
    rw [w64 (x := a + 1) (by omega) (by omega), w64 (x := a + 1 + 1) (by omega) (by omega), w64 (x := a + 1 + 1 + 1) (by omega) (by omega), w64 (x := a + 1 + 1 + 1 + 1) (by omega) (by omega), up_one (n := x.length) (by omega) (by omega)]
    simp only [if_true]
    rw [ih k x (a + 1 + 1 + 1 + 1) (i + 1) (by omega) (by omega) hn (by omega) (by omega) (fun j h1 h2 => by
      rw [hx j (by omega) h2]
      have e1 : a + 1 + 1 + 1 + 1 + 4 * ((j : Int) - ((i + 1 : Nat) : Int)) = a + 4 * ((j : Int) - (i : Int)) := by omega
      rw [e1])]
    exact congrArg some (by omega)
/-- What is marked in a plan is held. -/
theorem mark_heldT (l : List St) (hn : l.length ≤ 1048576) : ∃ y : List St, ∀ k, l.length < k → laws_markStepS.f k l 1 = some (1 + 4 * (l.length : Int), y) ∧ laws_heldStepS.f k y 1 = some (1 + 4 * (l.length : Int)) := by
  obtain ⟨y, h1, h2, _, h4⟩ := laws_markStepS_l0 l.length (l.length + 1) l 1 0 (by omega) (by omega) hn (by omega) (by omega)
  refine ⟨y, fun k hk => ⟨at_rounds (laws_markStepS.mono l 1) (Nat.succ_le_of_lt hk) h1, ?_⟩⟩
  have := laws_heldStepS_l0 l.length k y 1 0 (by omega) (by omega) (by omega) (by omega) (by omega) (fun j hj hj2 => h4 j hj (by omega))
  exact this

theorem FnExactUsualPlan : laws_FnExactUsualPlan.Pure := by
  intro b _
  refine ⟨30, ?_⟩
  unfold laws_FnExactUsualPlan.f
  have hl := usualF_len b
  obtain ⟨y, hy⟩ := mark_heldT (usualF b) (by omega)
  obtain ⟨m1, m2⟩ := hy 30 (by omega)
  rw [spec_UsualPlan_eq b (by omega), impl_UsualPlan_eq b (by omega)]
  simp only [Option.bind_some]
  rw [laws_eqStepS_eq (by omega) (by omega)]
  simp only [Option.bind_some, decide_true, if_true]
  rw [m1]
  simp only [Option.bind_some]
  rw [m2]
  simp only [Option.bind_some, if_true]
  rw [if_neg (by omega), if_neg (by omega)]

end Go.Proofs.Ytnihgkbmbddlaaa.Pure
