/- TimesPitch of the program and of the reference answer alike, for every pitch and all whole numbers. No condition. -/
import Derived.Test.YtdipihdbplkdiaaPFnExactTimesPitchx1
import Derived.Test.YtdipihdbplkdiaaPFnExactTimesPitchx2
import Derived.OpenShut
namespace Go.Proofs.Ytdipihdbplkdiaa.Pure
open Go.RowKit Go.Proofs.Ytdipihdbplkdiaa.PFnExactTimesPitch Go.Proofs.YtdipihdbplkdiaaW.PrintWords Go.Proofs.YtdipihdbplkdiaaW.PrintLast Go.Proofs.YtdipihdbplkdiaaW.PrintMore
set_option linter.unusedVariables false
set_option linter.unusedSimpArgs false
theorem w64 {x : Int} (h : -9223372036854775808 ≤ x) (h' : x ≤ 9223372036854775807) : wrap64 x = x := by unfold wrap64; omega
theorem wf64 {x : Int} (h : (Lit.int .i64 x).wf = true) : -9223372036854775808 ≤ x ∧ x ≤ 9223372036854775807 := by
  simp only [Lit.wf, IntKind.min, IntKind.max, IntKind.signed, IntKind.bits, Bool.and_eq_true, decide_eq_true_eq, if_true] at h
  omega
theorem wfu8 {x : Int} (h : (Lit.int .u8 x).wf = true) : 0 ≤ x ∧ x ≤ 255 := by
  simp [Lit.wf, IntKind.min, IntKind.max, IntKind.signed, IntKind.bits] at h
  omega
theorem mx_def (a b : Int) : mx a b = max a b := by unfold mx; omega
theorem mn_def (a b : Int) : mn a b = min a b := by unfold mn; omega
theorem fuel {n k : Nat} (h : n < k) : ∃ m, k = m + 1 ∧ n ≤ m := ⟨k - 1, by omega, by omega⟩
theorem gcd_tmod (a b : Int) : Int.gcd b (Int.tmod a b) = Int.gcd a b := by
  unfold Int.gcd
  rw [Int.natAbs_tmod, Nat.gcd_comm, ← Nat.gcd_rec, Nat.gcd_comm]
theorem tmod_lt (a : Int) {b : Int} (h : b ≠ 0) : (Int.tmod a b).natAbs < b.natAbs := by
  rw [Int.natAbs_tmod]
  exact Nat.mod_lt _ (by omega)
theorem drop_rd {l : List Int} {i : Nat} (h : i < l.length) : l.drop i = rd l (i : Int) :: l.drop (i + 1) := by
  rw [List.drop_eq_getElem_cons h]
  simp [rd, List.getD, List.getElem?_eq_getElem h]
theorem rd_get {l : List Int} {i : Nat} (h : i < l.length) : rd l (i : Int) = l[i] := by simp [rd, List.getD, List.getElem?_eq_getElem h]
theorem up_one {i n : Nat} (h : i < n) (hn : n ≤ 9223372036854775807) : wrap64 ((i : Int) + 1) = ((i + 1 : Nat) : Int) := by rw [w64 (by omega) (by omega)]; omega
theorem rd_mem {l : List Int} {i : Nat} (h : i < l.length) : rd l (i : Int) ∈ l := by rw [rd_get h]; exact List.getElem_mem h

def pitchB (n d : Int) : Prop := 1 ≤ n ∧ n ≤ 1000000000 ∧ 1 ≤ d ∧ d ≤ 1000000000 ∧ Int.gcd n d = 1
instance (n d : Int) : Decidable (pitchB n d) := by unfold pitchB; infer_instance
def bigB (n : Int) : Prop := 1 ≤ n ∧ n ≤ 1000000000000000000
instance (n : Int) : Decidable (bigB n) := by unfold bigB; infer_instance
/-- The pitch of a fraction. -/
def makeF (n d : Int) : Int × Int × Bool :=
  if bigB n ∧ bigB d ∧ pitchB (n / (Int.gcd n d : Int)) (d / (Int.gcd n d : Int)) then (n / (Int.gcd n d : Int), d / (Int.gcd n d : Int), true) else (0, 0, false)
theorem gcd_pos_of {n : Int} (d : Int) (h : 1 ≤ n) : 1 ≤ (Int.gcd n d : Int) := by
  have : 0 < Int.gcd n d := Int.gcd_pos_of_ne_zero_left d (by omega)
  omega
theorem div_rng {n g : Int} (h : 1 ≤ g) (h0 : 0 ≤ n) : 0 ≤ n / g ∧ n / g ≤ n := ⟨Int.ediv_nonneg h0 (by omega), Int.ediv_le_self _ h0⟩
def timesF (a b n d : Int) : Int × Int × Bool := if pitchB a b ∧ (1 ≤ n ∧ n ≤ 1000) ∧ (1 ≤ d ∧ d ≤ 1000) then makeF (a * n) (b * d) else (0, 0, false)

theorem laws_eqPitch_refl (a b : Int) : laws_eqPitch.f a b a b = some true := by unfold laws_eqPitch.f; simp

theorem spec_l01In_eq (a b c : Int) : spec_l01In.f a b c = some (decide (b ≤ a ∧ a ≤ c)) := by
  unfold spec_l01In.f; by_cases h : a ≥ b <;> by_cases h2 : a ≤ c <;> simp [h, h2]; all_goals omega

theorem spec_l03Gcd_l0 (n : Nat) : ∀ (k : Nat) (a b : Int), b.natAbs ≤ n → n < k → 0 ≤ a → 0 ≤ b →
    spec_l03Gcd.l0 k a b = some (Int.gcd a b : Int) := by
  induction n with
  | zero =>
    intro k a b hb hk h1 h2
    obtain ⟨k, rfl⟩ : ∃ m, k = m + 1 := ⟨k - 1, by omega⟩
    have hb0 : b = 0 := by omega
    subst hb0
    simp only [spec_l03Gcd.l0, Int.gcd_zero_right]
    rw [if_neg (by omega)]
    exact congrArg some (by omega)
  | succ n ih =>
    intro k a b hb hk h1 h2
    by_cases hb0 : b = 0
    · exact ih k a b (by subst hb0; simp) (by omega) h1 h2
    · obtain ⟨k, rfl⟩ : ∃ m, k = m + 1 := ⟨k - 1, by omega⟩
      simp only [spec_l03Gcd.l0]
      have hm : (Int.tmod a b).natAbs < b.natAbs := by rw [Int.natAbs_tmod]; exact Nat.mod_lt _ (by omega)
      rw [if_pos (by omega), if_neg hb0, ih k b (Int.tmod a b) (by omega) (by omega) h2 (Int.tmod_nonneg _ h1), gcd_tmod]
theorem spec_l03Gcd_eq {k : Nat} {a b : Int} (hk : b.natAbs < k) (h1 : -9223372036854775808 < a) (h2 : a ≤ 9223372036854775807) (h3 : -9223372036854775808 < b) (h4 : b ≤ 9223372036854775807) :
    spec_l03Gcd.f k a b = some (Int.gcd a b : Int) := by
  unfold spec_l03Gcd.f
  rw [w64 (x := -a) (by omega) (by omega), w64 (x := -b) (by omega) (by omega), mx_def, mx_def]
  have ea : max a (-a) = (a.natAbs : Int) := by omega
  have eb : max b (-b) = (b.natAbs : Int) := by omega
  rw [ea, eb, spec_l03Gcd_l0 b.natAbs k _ _ (by omega) hk (by omega) (by omega)]
  simp [Int.gcd]

theorem spec_PitchOk_eq {k : Nat} (hk : 1000000000 < k) (n d : Int) : spec_PitchOk.f k n d = some (decide (pitchB n d)) := by
  unfold spec_PitchOk.f pitchB
  simp only [spec_l01In_eq, Option.bind_some]
  by_cases h : 1 ≤ n ∧ n ≤ 1000000000
  · by_cases h2 : 1 ≤ d ∧ d ≤ 1000000000
    · rw [spec_l03Gcd_eq (by omega) (by omega) (by omega) (by omega) (by omega)]
      simp only [h, h2, and_self, decide_true, if_true, Option.bind_some, true_and, Option.some.injEq]
      rw [Bool.eq_iff_iff]; simp; omega
    · have : ¬ (1 ≤ d ∧ d ≤ 1000000000 ∧ Int.gcd n d = 1) := fun x => h2 ⟨x.1, x.2.1⟩
      simp [h, h2, this]
  · have : ¬ (1 ≤ n ∧ n ≤ 1000000000 ∧ 1 ≤ d ∧ d ≤ 1000000000 ∧ Int.gcd n d = 1) := fun x => h ⟨x.1, x.2.1⟩
    simp [h, this]

theorem spec_MakePitch_eq {k : Nat} (hk : 1000000000000000001 < k) (n d : Int) : spec_MakePitch.f k n d = some (makeF n d) := by
  obtain ⟨k, rfl⟩ : ∃ m, k = m + 1 := ⟨k - 1, by omega⟩
  unfold spec_MakePitch.f makeF
  simp only [spec_l01In_eq, Option.bind_some, spec_MakePitch.j0]
  by_cases h : bigB n
  · have h' : 1 ≤ n ∧ n ≤ 1000000000000000000 := h
    by_cases h2 : bigB d
    · have h2' : 1 ≤ d ∧ d ≤ 1000000000000000000 := h2
      have hg := gcd_pos_of d h'.1
      have r1 := div_rng hg (show 0 ≤ n by omega)
      have r2 := div_rng hg (show 0 ≤ d by omega)
      simp only [h', h2', and_self, decide_true, if_true, Bool.not_true, Bool.false_eq_true, if_false, h, h2, true_and]
      rw [spec_l03Gcd_eq (by omega) (by omega) (by omega) (by omega) (by omega)]
      simp only [Option.bind_some]
      rw [if_neg (by omega), Int.tdiv_eq_ediv_of_nonneg (by omega), Int.tdiv_eq_ediv_of_nonneg (by omega), w64 (x := n / _) (by omega) (by omega), w64 (x := d / _) (by omega) (by omega), spec_PitchOk_eq (by omega)]
      simp only [Option.bind_some, decide_eq_true_eq]
      split <;> rfl
    · have h2' : ¬ (1 ≤ d ∧ d ≤ 1000000000000000000) := h2
      simp [h', h2', h2]
  · have h' : ¬ (1 ≤ n ∧ n ≤ 1000000000000000000) := h
    simp [h', h]

theorem spec_TimesPitch_eq {k : Nat} (hk : 1000000000000000001 < k) (a b n d : Int) : spec_TimesPitch.f k a b n d = some (timesF a b n d) := by
  unfold spec_TimesPitch.f timesF
  rw [spec_PitchOk_eq (by omega)]
  simp only [Option.bind_some, decide_eq_true_eq, spec_l01In_eq]
  by_cases h1 : pitchB a b
  · by_cases h2 : 1 ≤ n ∧ n ≤ 1000
    · by_cases h3 : 1 ≤ d ∧ d ≤ 1000
      · have e1 : wrap64 (a * n) = a * n := by
          unfold pitchB at h1
          have r1 : 0 ≤ a * n := Int.mul_nonneg (by omega) (by omega)
          have r2 : a * n ≤ 1000000000 * 1000 := Int.mul_le_mul (by omega) (by omega) (by omega) (by omega)
          exact w64 (by omega) (by omega)
        have e2 : wrap64 (b * d) = b * d := by
          unfold pitchB at h1
          have r1 : 0 ≤ b * d := Int.mul_nonneg (by omega) (by omega)
          have r2 : b * d ≤ 1000000000 * 1000 := Int.mul_le_mul (by omega) (by omega) (by omega) (by omega)
          exact w64 (by omega) (by omega)
        rw [e1, e2, spec_MakePitch_eq hk]
        simp [h1, h2, h3]
      · simp [h1, h2, h3]
    · simp [h1, h2]
  · simp [h1]

theorem impl_within_eq (a b c : Int) : impl_within.f a b c = some (decide (b ≤ a ∧ a ≤ c)) := by
  unfold impl_within.f; by_cases h : b ≤ a <;> by_cases h2 : a ≤ c <;> simp [h, h2]

theorem impl_divisor_l0 (n : Nat) : ∀ (k : Nat) (a b : Int), b.natAbs ≤ n → n < k → -9223372036854775808 < a → a ≤ 9223372036854775807 → -9223372036854775808 < b → b ≤ 9223372036854775807 →
    impl_divisor.l0 k a b = some (Int.gcd a b : Int) := by
  induction n with
  | zero =>
    intro k a b hb hk h1 h2 h3 h4
    obtain ⟨k, rfl⟩ : ∃ m, k = m + 1 := ⟨k - 1, by omega⟩
    have hb0 : b = 0 := by omega
    subst hb0
    simp only [impl_divisor.l0, if_true, Int.gcd_zero_right]
    by_cases ha : a < 0
    · rw [if_pos ha, w64 (by omega) (by omega)]
      exact congrArg some (by omega)
    · rw [if_neg ha]
      exact congrArg some (by omega)
  | succ n ih =>
    intro k a b hb hk h1 h2 h3 h4
    by_cases hb0 : b = 0
    · exact ih k a b (by subst hb0; simp) (by omega) h1 h2 h3 h4
    · obtain ⟨k, rfl⟩ : ∃ m, k = m + 1 := ⟨k - 1, by omega⟩
      simp only [impl_divisor.l0]
      have hm := tmod_lt a hb0
      rw [if_neg hb0, ih k b (Int.tmod a b) (by omega) (by omega) h3 h4 (by omega) (by omega), gcd_tmod]
theorem impl_divisor_eq {k : Nat} {a b : Int} (hk : b.natAbs < k) (h1 : -9223372036854775808 < a) (h2 : a ≤ 9223372036854775807) (h3 : -9223372036854775808 < b) (h4 : b ≤ 9223372036854775807) :
    impl_divisor.f k a b = some (Int.gcd a b : Int) := impl_divisor_l0 b.natAbs k a b (Nat.le_refl _) hk h1 h2 h3 h4

theorem impl_PitchOk_eq {k : Nat} (hk : 1000000000 < k) (n d : Int) : impl_PitchOk.f k n d = some (decide (pitchB n d)) := by
  unfold impl_PitchOk.f pitchB
  simp only [impl_within_eq, Option.bind_some]
  by_cases h : 1 ≤ n ∧ n ≤ 1000000000
  · by_cases h2 : 1 ≤ d ∧ d ≤ 1000000000
    · rw [impl_divisor_eq (by omega) (by omega) (by omega) (by omega) (by omega)]
      simp only [h, h2, and_self, decide_true, if_true, Option.bind_some, true_and, Option.some.injEq]
      rw [Bool.eq_iff_iff]; simp; omega
    · have : ¬ (1 ≤ d ∧ d ≤ 1000000000 ∧ Int.gcd n d = 1) := fun x => h2 ⟨x.1, x.2.1⟩
      simp [h, h2, this]
  · have : ¬ (1 ≤ n ∧ n ≤ 1000000000 ∧ 1 ≤ d ∧ d ≤ 1000000000 ∧ Int.gcd n d = 1) := fun x => h ⟨x.1, x.2.1⟩
    simp [h, this]

theorem impl_MakePitch_eq {k : Nat} (hk : 1000000000000000001 < k) (n d : Int) : impl_MakePitch.f k n d = some (makeF n d) := by
  obtain ⟨k, rfl⟩ : ∃ m, k = m + 1 := ⟨k - 1, by omega⟩
  unfold impl_MakePitch.f makeF
  simp only [impl_within_eq, Option.bind_some, impl_MakePitch.j0]
  by_cases h : bigB n
  · have h' : 1 ≤ n ∧ n ≤ 1000000000000000000 := h
    by_cases h2 : bigB d
    · have h2' : 1 ≤ d ∧ d ≤ 1000000000000000000 := h2
      have hg := gcd_pos_of d h'.1
      have r1 := div_rng hg (show 0 ≤ n by omega)
      have r2 := div_rng hg (show 0 ≤ d by omega)
      simp only [h', h2', and_self, decide_true, if_true, Bool.not_true, Bool.false_eq_true, if_false, h, h2, true_and]
      rw [impl_divisor_eq (by omega) (by omega) (by omega) (by omega) (by omega)]
      simp only [Option.bind_some]
      rw [if_neg (by omega), Int.tdiv_eq_ediv_of_nonneg (by omega), Int.tdiv_eq_ediv_of_nonneg (by omega), w64 (x := n / _) (by omega) (by omega), w64 (x := d / _) (by omega) (by omega), impl_PitchOk_eq (by omega)]
      simp only [Option.bind_some, decide_eq_true_eq]
      split <;> rfl
    · have h2' : ¬ (1 ≤ d ∧ d ≤ 1000000000000000000) := h2
      simp [h', h2', h2]
  · have h' : ¬ (1 ≤ n ∧ n ≤ 1000000000000000000) := h
    simp [h', h]

theorem impl_TimesPitch_eq {k : Nat} (hk : 1000000000000000001 < k) (a b n d : Int) : impl_TimesPitch.f k a b n d = some (timesF a b n d) := by
  unfold impl_TimesPitch.f timesF
  rw [impl_PitchOk_eq (by omega)]
  simp only [Option.bind_some, decide_eq_true_eq, impl_within_eq]
  by_cases h1 : pitchB a b
  · by_cases h2 : 1 ≤ n ∧ n ≤ 1000
    · by_cases h3 : 1 ≤ d ∧ d ≤ 1000
      · have e1 : wrap64 (a * n) = a * n := by
          unfold pitchB at h1
          have r1 : 0 ≤ a * n := Int.mul_nonneg (by omega) (by omega)
          have r2 : a * n ≤ 1000000000 * 1000 := Int.mul_le_mul (by omega) (by omega) (by omega) (by omega)
          exact w64 (by omega) (by omega)
        have e2 : wrap64 (b * d) = b * d := by
          unfold pitchB at h1
          have r1 : 0 ≤ b * d := Int.mul_nonneg (by omega) (by omega)
          have r2 : b * d ≤ 1000000000 * 1000 := Int.mul_le_mul (by omega) (by omega) (by omega) (by omega)
          exact w64 (by omega) (by omega)
        rw [e1, e2, impl_MakePitch_eq hk]
        simp [h1, h2, h3]
      · simp [h1, h2, h3]
    · simp [h1, h2]
  · simp [h1]

/-- The law, over numbers and lists. -/
def laws_FnExactTimesPitch.Pure : Prop := ∀ (a0_0 : Int) (a0_1 : Int) (a1 : Int) (a2 : Int), (Lit.int .i64 a0_0).wf = true → (Lit.int .i64 a0_1).wf = true → (Lit.int .i64 a1).wf = true → (Lit.int .i64 a2).wf = true → ∃ k, laws_FnExactTimesPitch.f k a0_0 a0_1 a1 a2 = some true
theorem FnExactTimesPitch : laws_FnExactTimesPitch.Pure := by
  intro a b n d _ _ _ _
  refine ⟨1000000000000000002, ?_⟩
  unfold laws_FnExactTimesPitch.f laws_toPitch.f
  simp only [Option.bind_some]
  rw [spec_TimesPitch_eq (Nat.lt_succ_self _), impl_TimesPitch_eq (Nat.lt_succ_self _)]
  simp only [Option.bind_some, laws_eqPitch_refl]
  simp

end Go.Proofs.Ytdipihdbplkdiaa.Pure
