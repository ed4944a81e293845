/- Beats are the same both ways, and a pure fifth has none: for every code the law returns true. No condition. -/
import Derived.Test.YtdipihdbplkdiaaPFnBeatsx1
import Derived.Test.YtdipihdbplkdiaaPFnBeatsx2
import Derived.Test.YtdipihdbplkdiaaPFnBeatsx3
import Derived.Test.YtdipihdbplkdiaaPFnBeatsx4
import Derived.Test.YtdipihdbplkdiaaPFnBeatsx5
import Derived.Test.YtdipihdbplkdiaaPFnBeatsx6
import Derived.OpenShut
namespace Go.Proofs.Ytdipihdbplkdiaa.Pure
open Go.RowKit Go.Proofs.Ytdipihdbplkdiaa.PFnBeats Go.Proofs.YtdipihdbplkdiaaW.PrintWords Go.Proofs.YtdipihdbplkdiaaW.PrintLast Go.Proofs.YtdipihdbplkdiaaW.PrintMore
set_option linter.unusedVariables false
set_option linter.unusedSimpArgs false
theorem w64 {x : Int} (h : -9223372036854775808 ≤ x) (h' : x ≤ 9223372036854775807) : wrap64 x = x := by unfold wrap64; omega
theorem wf64 {x : Int} (h : (Lit.int .i64 x).wf = true) : -9223372036854775808 ≤ x ∧ x ≤ 9223372036854775807 := by
  simp only [Lit.wf, IntKind.min, IntKind.max, IntKind.signed, IntKind.bits, Bool.and_eq_true, decide_eq_true_eq, if_true] at h
  omega
theorem wfu8 {x : Int} (h : (Lit.int .u8 x).wf = true) : 0 ≤ x ∧ x ≤ 255 := by
  simp [Lit.wf, IntKind.min, IntKind.max, IntKind.signed, IntKind.bits] at h
  omega
theorem mx_def (a b : Int) : mx a b = max a b := by unfold mx; omega
theorem mn_def (a b : Int) : mn a b = min a b := by unfold mn; omega
theorem fuel {n k : Nat} (h : n < k) : ∃ m, k = m + 1 ∧ n ≤ m := ⟨k - 1, by omega, by omega⟩
theorem gcd_tmod (a b : Int) : Int.gcd b (Int.tmod a b) = Int.gcd a b := by
  unfold Int.gcd
  rw [Int.natAbs_tmod, Nat.gcd_comm, ← Nat.gcd_rec, Nat.gcd_comm]
theorem tmod_lt (a : Int) {b : Int} (h : b ≠ 0) : (Int.tmod a b).natAbs < b.natAbs := by
  rw [Int.natAbs_tmod]
  exact Nat.mod_lt _ (by omega)
theorem drop_rd {l : List Int} {i : Nat} (h : i < l.length) : l.drop i = rd l (i : Int) :: l.drop (i + 1) := by
  rw [List.drop_eq_getElem_cons h]
  simp [rd, List.getD, List.getElem?_eq_getElem h]
theorem rd_get {l : List Int} {i : Nat} (h : i < l.length) : rd l (i : Int) = l[i] := by simp [rd, List.getD, List.getElem?_eq_getElem h]
theorem up_one {i n : Nat} (h : i < n) (hn : n ≤ 9223372036854775807) : wrap64 ((i : Int) + 1) = ((i + 1 : Nat) : Int) := by rw [w64 (by omega) (by omega)]; omega
theorem rd_mem {l : List Int} {i : Nat} (h : i < l.length) : rd l (i : Int) ∈ l := by rw [rd_get h]; exact List.getElem_mem h
theorem maxLen_le {n : Nat} (h : n ≤ maxLen) : (n : Int) ≤ 9223372036854775807 := by unfold maxLen at h; omega

def pitchB (n d : Int) : Prop := 1 ≤ n ∧ n ≤ 1000000000 ∧ 1 ≤ d ∧ d ≤ 1000000000 ∧ Int.gcd n d = 1
instance (n d : Int) : Decidable (pitchB n d) := by unfold pitchB; infer_instance
def bigB (n : Int) : Prop := 1 ≤ n ∧ n ≤ 1000000000000000000
instance (n : Int) : Decidable (bigB n) := by unfold bigB; infer_instance
/-- The pitch of a fraction. -/
def makeF (n d : Int) : Int × Int × Bool :=
  if bigB n ∧ bigB d ∧ pitchB (n / (Int.gcd n d : Int)) (d / (Int.gcd n d : Int)) then (n / (Int.gcd n d : Int), d / (Int.gcd n d : Int), true) else (0, 0, false)
theorem gcd_pos_of {n : Int} (d : Int) (h : 1 ≤ n) : 1 ≤ (Int.gcd n d : Int) := by
  have : 0 < Int.gcd n d := Int.gcd_pos_of_ne_zero_left d (by omega)
  omega
theorem div_rng {n g : Int} (h : 1 ≤ g) (h0 : 0 ≤ n) : 0 ≤ n / g ∧ n / g ≤ n := ⟨Int.ediv_nonneg h0 (by omega), Int.ediv_le_self _ h0⟩
def timesF (a b n d : Int) : Int × Int × Bool := if pitchB a b ∧ (1 ≤ n ∧ n ≤ 1000) ∧ (1 ≤ d ∧ d ≤ 1000) then makeF (a * n) (b * d) else (0, 0, false)

/-- The last eight bits of whatever: a byte. -/
theorem and255 (x : Int) : 0 ≤ Go.bits .and .i64 x 255 ∧ Go.bits .and .i64 x 255 ≤ 255 := by
  have e : (BitVec.ofInt IntKind.i64.bits 255).toNat = 255 := by decide
  have h : Go.bits .and .i64 x 255 = IntKind.i64.wrap (((BitVec.ofInt IntKind.i64.bits x).toNat &&& 255 : Nat) : Int) := by
    unfold Go.bits
    simp only [BitVec.toNat_and]
    rw [e]
  have hle : (BitVec.ofInt IntKind.i64.bits x).toNat &&& 255 ≤ 255 := Nat.and_le_right
  rw [h, IntKind.wrap_i64]
  omega
/-- A cursor into the code. -/
def curB (l : List Int) (i : Int) : Prop := 0 ≤ i ∧ i ≤ (l.length : Int)

theorem impl_within_eq (a b c : Int) : impl_within.f a b c = some (decide (b ≤ a ∧ a ≤ c)) := by
  unfold impl_within.f; by_cases h : b ≤ a <;> by_cases h2 : a ≤ c <;> simp [h, h2]

theorem impl_divisor_l0 (n : Nat) : ∀ (k : Nat) (a b : Int), b.natAbs ≤ n → n < k → -9223372036854775808 < a → a ≤ 9223372036854775807 → -9223372036854775808 < b → b ≤ 9223372036854775807 →
    impl_divisor.l0 k a b = some (Int.gcd a b : Int) := by
  induction n with
  | zero =>
    intro k a b hb hk h1 h2 h3 h4
    obtain ⟨k, rfl⟩ : ∃ m, k = m + 1 := ⟨k - 1, by omega⟩
    have hb0 : b = 0 := by omega
    subst hb0
    simp only [impl_divisor.l0, if_true, Int.gcd_zero_right]
    by_cases ha : a < 0
    · rw [if_pos ha, w64 (by omega) (by omega)]
      exact congrArg some (by omega)
    · rw [if_neg ha]
      exact congrArg some (by omega)
  | succ n ih =>
    intro k a b hb hk h1 h2 h3 h4
    by_cases hb0 : b = 0
    · exact ih k a b (by subst hb0; simp) (by omega) h1 h2 h3 h4
    · obtain ⟨k, rfl⟩ : ∃ m, k = m + 1 := ⟨k - 1, by omega⟩
      simp only [impl_divisor.l0]
      have hm := tmod_lt a hb0
      rw [if_neg hb0, ih k b (Int.tmod a b) (by omega) (by omega) h3 h4 (by omega) (by omega), gcd_tmod]
theorem impl_divisor_eq {k : Nat} {a b : Int} (hk : b.natAbs < k) (h1 : -9223372036854775808 < a) (h2 : a ≤ 9223372036854775807) (h3 : -9223372036854775808 < b) (h4 : b ≤ 9223372036854775807) :
    impl_divisor.f k a b = some (Int.gcd a b : Int) := impl_divisor_l0 b.natAbs k a b (Nat.le_refl _) hk h1 h2 h3 h4

theorem impl_PitchOk_eq {k : Nat} (hk : 1000000000 < k) (n d : Int) : impl_PitchOk.f k n d = some (decide (pitchB n d)) := by
  unfold impl_PitchOk.f pitchB
  simp only [impl_within_eq, Option.bind_some]
  by_cases h : 1 ≤ n ∧ n ≤ 1000000000
  · by_cases h2 : 1 ≤ d ∧ d ≤ 1000000000
    · rw [impl_divisor_eq (by omega) (by omega) (by omega) (by omega) (by omega)]
      simp only [h, h2, and_self, decide_true, if_true, Option.bind_some, true_and, Option.some.injEq]
      rw [Bool.eq_iff_iff]; simp; omega
    · have : ¬ (1 ≤ d ∧ d ≤ 1000000000 ∧ Int.gcd n d = 1) := fun x => h2 ⟨x.1, x.2.1⟩
      simp [h, h2, this]
  · have : ¬ (1 ≤ n ∧ n ≤ 1000000000 ∧ 1 ≤ d ∧ d ≤ 1000000000 ∧ Int.gcd n d = 1) := fun x => h ⟨x.1, x.2.1⟩
    simp [h, this]

theorem impl_ComparePitches_eq {k : Nat} (hk : 1000000001 < k) (a b c d : Int) : impl_ComparePitches.f k a b c d = some (if pitchB a b ∧ pitchB c d then (if a * d < c * b then -1 else if a * d > c * b then 1 else 0) else 0) := by
  obtain ⟨k, rfl⟩ : ∃ m, k = m + 1 := ⟨k - 1, by omega⟩
  unfold impl_ComparePitches.f
  rw [impl_PitchOk_eq (by omega), impl_PitchOk_eq (by omega)]
  simp only [Option.bind_some, decide_eq_true_eq, impl_ComparePitches.j0]
  by_cases h1 : pitchB a b
  · by_cases h2 : pitchB c d
    · have e1 : wrap64 (a * d) = a * d := by
        unfold pitchB at h1 h2
        have r1 : 0 ≤ a * d := Int.mul_nonneg (by omega) (by omega)
        have r2 : a * d ≤ 1000000000 * 1000000000 := Int.mul_le_mul (by omega) (by omega) (by omega) (by omega)
        exact w64 (by omega) (by omega)
      have e2 : wrap64 (c * b) = c * b := by
        unfold pitchB at h1 h2
        have r1 : 0 ≤ c * b := Int.mul_nonneg (by omega) (by omega)
        have r2 : c * b ≤ 1000000000 * 1000000000 := Int.mul_le_mul (by omega) (by omega) (by omega) (by omega)
        exact w64 (by omega) (by omega)
      rw [e1, e2]
      simp only [h1, h2, and_self, if_true, decide_true, Bool.not_true, Bool.false_eq_true, if_false]
      by_cases l1 : a * d < c * b
      · simp [l1]
      · by_cases l2 : a * d > c * b <;> simp [l1, l2]
    · simp [h1, h2]
  · simp [h1]

theorem impl_MakePitch_eq {k : Nat} (hk : 1000000000000000001 < k) (n d : Int) : impl_MakePitch.f k n d = some (makeF n d) := by
  obtain ⟨k, rfl⟩ : ∃ m, k = m + 1 := ⟨k - 1, by omega⟩
  unfold impl_MakePitch.f makeF
  simp only [impl_within_eq, Option.bind_some, impl_MakePitch.j0]
  by_cases h : bigB n
  · have h' : 1 ≤ n ∧ n ≤ 1000000000000000000 := h
    by_cases h2 : bigB d
    · have h2' : 1 ≤ d ∧ d ≤ 1000000000000000000 := h2
      have hg := gcd_pos_of d h'.1
      have r1 := div_rng hg (show 0 ≤ n by omega)
      have r2 := div_rng hg (show 0 ≤ d by omega)
      simp only [h', h2', and_self, decide_true, if_true, Bool.not_true, Bool.false_eq_true, if_false, h, h2, true_and]
      rw [impl_divisor_eq (by omega) (by omega) (by omega) (by omega) (by omega)]
      simp only [Option.bind_some]
      rw [if_neg (by omega), Int.tdiv_eq_ediv_of_nonneg (by omega), Int.tdiv_eq_ediv_of_nonneg (by omega), w64 (x := n / _) (by omega) (by omega), w64 (x := d / _) (by omega) (by omega), impl_PitchOk_eq (by omega)]
      simp only [Option.bind_some, decide_eq_true_eq]
      split <;> rfl
    · have h2' : ¬ (1 ≤ d ∧ d ≤ 1000000000000000000) := h2
      simp [h', h2', h2]
  · have h' : ¬ (1 ≤ n ∧ n ≤ 1000000000000000000) := h
    simp [h', h]

theorem impl_TimesPitch_eq {k : Nat} (hk : 1000000000000000001 < k) (a b n d : Int) : impl_TimesPitch.f k a b n d = some (timesF a b n d) := by
  unfold impl_TimesPitch.f timesF
  rw [impl_PitchOk_eq (by omega)]
  simp only [Option.bind_some, decide_eq_true_eq, impl_within_eq]
  by_cases h1 : pitchB a b
  · by_cases h2 : 1 ≤ n ∧ n ≤ 1000
    · by_cases h3 : 1 ≤ d ∧ d ≤ 1000
      · have e1 : wrap64 (a * n) = a * n := by
          unfold pitchB at h1
          have r1 : 0 ≤ a * n := Int.mul_nonneg (by omega) (by omega)
          have r2 : a * n ≤ 1000000000 * 1000 := Int.mul_le_mul (by omega) (by omega) (by omega) (by omega)
          exact w64 (by omega) (by omega)
        have e2 : wrap64 (b * d) = b * d := by
          unfold pitchB at h1
          have r1 : 0 ≤ b * d := Int.mul_nonneg (by omega) (by omega)
          have r2 : b * d ≤ 1000000000 * 1000 := Int.mul_le_mul (by omega) (by omega) (by omega) (by omega)
          exact w64 (by omega) (by omega)
        rw [e1, e2, impl_MakePitch_eq hk]
        simp [h1, h2, h3]
      · simp [h1, h2, h3]
    · simp [h1, h2]
  · simp [h1]

theorem laws_big_eq (l : List Int) : laws_big.f l = some (decide ((l.length : Int) > 1048576)) := rfl

theorem spec_l01New_l0 (d : Nat) : ∀ (k : Nat) (l : List Int) (h : Int) (i : Nat), i + d = l.length → d < k → l.length ≤ 140737488351232 → ∃ h', spec_l01New.l0 k l h (i : Int) = some (l, 0, h') := by
  induction d with
  | zero =>
    intro k l h i hi hk hn
    obtain ⟨k, rfl⟩ : ∃ m, k = m + 1 := ⟨k - 1, by omega⟩
    simp only [spec_l01New.l0]
    rw [if_neg (by omega)]
    exact ⟨h, rfl⟩
  | succ d ih =>
    intro k l h i hi hk hn
    obtain ⟨k, rfl⟩ : ∃ m, k = m + 1 := ⟨k - 1, by omega⟩
    simp only [spec_l01New.l0]
    rw [if_pos (by omega), up_one (n := l.length) (by omega) (by omega)]
    by_cases h4 : (i : Int) < 4000
    · rw [if_pos h4, if_pos (by omega)]
      exact ih k l _ (i + 1) (by omega) (by omega) hn
    · rw [if_neg h4]
      exact ⟨h, rfl⟩
theorem spec_l01New_eq {k : Nat} {l : List Int} (hk : l.length < k) (hn : l.length ≤ 140737488351232) : ∃ h, spec_l01New.f k l = some (l, 0, h) := by
  unfold spec_l01New.f
  exact spec_l01New_l0 l.length k l _ 0 (by omega) hk hn

theorem spec_l01In_eq (a b c : Int) : spec_l01In.f a b c = some (decide (b ≤ a ∧ a ≤ c)) := by
  unfold spec_l01In.f; by_cases h : a ≥ b <;> by_cases h2 : a ≤ c <;> simp [h, h2]; all_goals omega

theorem spec_l03Gcd_l0 (n : Nat) : ∀ (k : Nat) (a b : Int), b.natAbs ≤ n → n < k → 0 ≤ a → 0 ≤ b →
    spec_l03Gcd.l0 k a b = some (Int.gcd a b : Int) := by
  induction n with
  | zero =>
    intro k a b hb hk h1 h2
    obtain ⟨k, rfl⟩ : ∃ m, k = m + 1 := ⟨k - 1, by omega⟩
    have hb0 : b = 0 := by omega
    subst hb0
    simp only [spec_l03Gcd.l0, Int.gcd_zero_right]
    rw [if_neg (by omega)]
    exact congrArg some (by omega)
  | succ n ih =>
    intro k a b hb hk h1 h2
    by_cases hb0 : b = 0
    · exact ih k a b (by subst hb0; simp) (by omega) h1 h2
    · obtain ⟨k, rfl⟩ : ∃ m, k = m + 1 := ⟨k - 1, by omega⟩
      simp only [spec_l03Gcd.l0]
      have hm : (Int.tmod a b).natAbs < b.natAbs := by rw [Int.natAbs_tmod]; exact Nat.mod_lt _ (by omega)
      rw [if_pos (by omega), if_neg hb0, ih k b (Int.tmod a b) (by omega) (by omega) h2 (Int.tmod_nonneg _ h1), gcd_tmod]
theorem spec_l03Gcd_eq {k : Nat} {a b : Int} (hk : b.natAbs < k) (h1 : -9223372036854775808 < a) (h2 : a ≤ 9223372036854775807) (h3 : -9223372036854775808 < b) (h4 : b ≤ 9223372036854775807) :
    spec_l03Gcd.f k a b = some (Int.gcd a b : Int) := by
  unfold spec_l03Gcd.f
  rw [w64 (x := -a) (by omega) (by omega), w64 (x := -b) (by omega) (by omega), mx_def, mx_def]
  have ea : max a (-a) = (a.natAbs : Int) := by omega
  have eb : max b (-b) = (b.natAbs : Int) := by omega
  rw [ea, eb, spec_l03Gcd_l0 b.natAbs k _ _ (by omega) hk (by omega) (by omega)]
  simp [Int.gcd]

theorem spec_PitchOk_eq {k : Nat} (hk : 1000000000 < k) (n d : Int) : spec_PitchOk.f k n d = some (decide (pitchB n d)) := by
  unfold spec_PitchOk.f pitchB
  simp only [spec_l01In_eq, Option.bind_some]
  by_cases h : 1 ≤ n ∧ n ≤ 1000000000
  · by_cases h2 : 1 ≤ d ∧ d ≤ 1000000000
    · rw [spec_l03Gcd_eq (by omega) (by omega) (by omega) (by omega) (by omega)]
      simp only [h, h2, and_self, decide_true, if_true, Option.bind_some, true_and, Option.some.injEq]
      rw [Bool.eq_iff_iff]; simp; omega
    · have : ¬ (1 ≤ d ∧ d ≤ 1000000000 ∧ Int.gcd n d = 1) := fun x => h2 ⟨x.1, x.2.1⟩
      simp [h, h2, this]
  · have : ¬ (1 ≤ n ∧ n ≤ 1000000000 ∧ 1 ≤ d ∧ d ≤ 1000000000 ∧ Int.gcd n d = 1) := fun x => h ⟨x.1, x.2.1⟩
    simp [h, this]

theorem spec_MakePitch_eq {k : Nat} (hk : 1000000000000000001 < k) (n d : Int) : spec_MakePitch.f k n d = some (makeF n d) := by
  obtain ⟨k, rfl⟩ : ∃ m, k = m + 1 := ⟨k - 1, by omega⟩
  unfold spec_MakePitch.f makeF
  simp only [spec_l01In_eq, Option.bind_some, spec_MakePitch.j0]
  by_cases h : bigB n
  · have h' : 1 ≤ n ∧ n ≤ 1000000000000000000 := h
    by_cases h2 : bigB d
    · have h2' : 1 ≤ d ∧ d ≤ 1000000000000000000 := h2
      have hg := gcd_pos_of d h'.1
      have r1 := div_rng hg (show 0 ≤ n by omega)
      have r2 := div_rng hg (show 0 ≤ d by omega)
      simp only [h', h2', and_self, decide_true, if_true, Bool.not_true, Bool.false_eq_true, if_false, h, h2, true_and]
      rw [spec_l03Gcd_eq (by omega) (by omega) (by omega) (by omega) (by omega)]
      simp only [Option.bind_some]
      rw [if_neg (by omega), Int.tdiv_eq_ediv_of_nonneg (by omega), Int.tdiv_eq_ediv_of_nonneg (by omega), w64 (x := n / _) (by omega) (by omega), w64 (x := d / _) (by omega) (by omega), spec_PitchOk_eq (by omega)]
      simp only [Option.bind_some, decide_eq_true_eq]
      split <;> rfl
    · have h2' : ¬ (1 ≤ d ∧ d ≤ 1000000000000000000) := h2
      simp [h', h2', h2]
  · have h' : ¬ (1 ≤ n ∧ n ≤ 1000000000000000000) := h
    simp [h', h]

theorem spec_l01Byte_eq {l : List Int} (hn : l.length ≤ 140737488351232) (i h : Int) (hi : curB l i) : ∃ b i' h', spec_l01Byte.f l i h = some (b, i', h') ∧ 0 ≤ b ∧ b ≤ 255 ∧ curB l i' := by
  unfold curB at *
  unfold spec_l01Byte.f
  by_cases hc : i < (l.length : Int)
  · rw [if_pos hc, if_pos hi.1]
    refine ⟨_, _, _, rfl, (and255 _).1, (and255 _).2, ?_⟩
    rw [w64 (by omega) (by omega)]
    omega
  · rw [if_neg hc]
    exact ⟨_, _, _, rfl, (and255 _).1, (and255 _).2, hi⟩

theorem spec_l01Below_eq {l : List Int} (hn : l.length ≤ 140737488351232) (i h n : Int) (hi : curB l i) (h1 : 1 ≤ n) : ∃ v i' h', spec_l01Below.f l i h n = some (v, i', h') ∧ 0 ≤ v ∧ v < n ∧ curB l i' := by
  unfold spec_l01Below.f
  rw [if_neg (by omega)]
  by_cases h2 : n ≤ 256
  · rw [if_pos h2]
    obtain ⟨b, i', h', e, b0, b1, hi'⟩ := spec_l01Byte_eq hn i h hi
    rw [e]
    simp only [Option.bind_some]
    rw [if_neg (by omega)]
    exact ⟨_, _, _, rfl, Int.tmod_nonneg _ b0, Int.tmod_lt_of_pos _ (by omega), hi'⟩
  · rw [if_neg h2]
    obtain ⟨x, i1, h1', e, x0, x1, hi1⟩ := spec_l01Byte_eq hn i h hi
    rw [e]
    simp only [Option.bind_some]
    obtain ⟨y, i2, h2', e2, y0, y1, hi2⟩ := spec_l01Byte_eq hn i1 h1' hi1
    rw [e2]
    simp only [Option.bind_some]
    obtain ⟨z, i3, h3', e3, z0, z1, hi3⟩ := spec_l01Byte_eq hn i2 h2' hi2
    rw [e3]
    simp only [Option.bind_some]
    obtain ⟨u, i4, h4', e4, u0, u1, hi4⟩ := spec_l01Byte_eq hn i3 h3' hi3
    rw [e4]
    simp only [Option.bind_some]
    rw [if_neg (by omega), w64 (x := x * 16777216) (by omega) (by omega), w64 (x := y * 65536) (by omega) (by omega), w64 (x := z * 256) (by omega) (by omega), w64 (x := x * 16777216 + y * 65536) (by omega) (by omega),
      w64 (x := x * 16777216 + y * 65536 + z * 256) (by omega) (by omega), w64 (x := x * 16777216 + y * 65536 + z * 256 + u) (by omega) (by omega)]
    exact ⟨_, _, _, rfl, Int.tmod_nonneg _ (by omega), Int.tmod_lt_of_pos _ (by omega), hi4⟩

theorem spec_l17Pitch_eq {k : Nat} {l : List Int} (hk : 1000000000000000001 < k) (hn : l.length ≤ 140737488351232) (i h : Int) (hi : curB l i) : ∃ n d i' h', spec_l17Pitch.f k l i h = some (n, d, i', h') ∧ pitchB n d ∧ n ≤ 999 ∧ d ≤ 4 ∧ curB l i' := by
  unfold spec_l17Pitch.f
  obtain ⟨a, i1, h1, e1, a0, a1, c1⟩ := spec_l01Below_eq hn i h 900 hi (by omega)
  rw [e1]
  simp only [Option.bind_some]
  obtain ⟨b, i2, h2, e2, b0, b1, c2⟩ := spec_l01Below_eq hn i1 h1 4 c1 (by omega)
  rw [e2]
  simp only [Option.bind_some]
  rw [spec_MakePitch_eq hk, w64 (x := 100 + a) (by omega) (by omega), w64 (x := 1 + b) (by omega) (by omega)]
  simp only [Option.bind_some]
  by_cases c : (makeF (100 + a) (1 + b)).2.2 = true
  · rw [if_pos c]
    refine ⟨_, _, _, _, rfl, ?_, ?_, ?_, c2⟩ <;> unfold makeF at c ⊢ <;> split at c <;> rename_i hm
    · rw [if_pos hm]; exact hm.2.2
    · exact absurd c (by simp)
    · rw [if_pos hm]
      have := div_rng (gcd_pos_of (1 + b) (show 1 ≤ 100 + a by omega)) (show 0 ≤ 100 + a by omega)
      simp only
      omega
    · exact absurd c (by simp)
    · rw [if_pos hm]
      have := div_rng (gcd_pos_of (1 + b) (show 1 ≤ 100 + a by omega)) (show 0 ≤ 1 + b by omega)
      simp only
      omega
    · exact absurd c (by simp)
  · rw [if_neg c]
    exact ⟨_, _, _, _, rfl, by decide, by omega, by omega, c2⟩

theorem spec_DrawPitches_eq {k : Nat} {l : List Int} (hk : 1000000000000000001 < k) (h0 : l.length < k) (hn : l.length ≤ 140737488351232) : ∃ a b c d, spec_DrawPitches.f k l = some (a, b, c, d) ∧ (pitchB a b ∧ a ≤ 999 ∧ b ≤ 4) ∧ pitchB c d ∧ c ≤ 999 ∧ d ≤ 4 := by
  unfold spec_DrawPitches.f
  obtain ⟨h, e⟩ := spec_l01New_eq h0 hn
  rw [e]
  simp only [Option.bind_some]
  obtain ⟨a, b, i1, h1, e1, p1, a1, b1, c1⟩ := spec_l17Pitch_eq hk hn 0 h ⟨by omega, by omega⟩
  rw [e1]
  simp only [Option.bind_some]
  obtain ⟨c, d, i2, h2, e2, p2, a2, b2, c2⟩ := spec_l17Pitch_eq hk hn i1 h1 c1
  rw [e2]
  simp only [Option.bind_some]
  exact ⟨_, _, _, _, rfl, ⟨p1, a1, b1⟩, p2, a2, b2⟩

theorem laws_at_eq {l : List Int} {a : Int} (hn : l.length ≤ 1048576) (h0 : 0 ≤ a) (h1 : a ≤ 100) (hx : ∀ x ∈ l, (Lit.int .u8 x).wf = true) : ∃ v, laws_at.f l a = some v ∧ 0 ≤ v ∧ v ≤ 255 := by
  unfold laws_at.f
  by_cases c : (l.length : Int) = 0
  · rw [if_pos c]
    exact ⟨0, rfl, by omega, by omega⟩
  · rw [if_neg c, w64 (x := a * 5) (by omega) (by omega), w64 (x := a * 5 + 1) (by omega) (by omega)]
    have p := Int.tmod_nonneg (a := a * 5 + 1) (l.length : Int) (by omega)
    have q : Int.tmod (a * 5 + 1) (l.length : Int) < l.length := by
      have := tmod_lt (a * 5 + 1) (b := (l.length : Int)) c
      omega
    generalize Int.tmod (a * 5 + 1) (l.length : Int) = t at p q ⊢
    rw [if_pos p, if_pos q]
    obtain ⟨n, rfl⟩ : ∃ n : Nat, t = n := ⟨t.toNat, by omega⟩
    have := wfu8 (hx _ (rd_mem (l := l) (i := n) (by omega)))
    rw [w64 (by omega) (by omega)]
    exact ⟨_, rfl, this.1, this.2⟩

theorem mul_rng {x y X Y : Int} (h0 : 0 ≤ x) (h1 : x ≤ X) (h2 : 0 ≤ y) (h3 : y ≤ Y) : 0 ≤ x * y ∧ x * y ≤ X * Y := ⟨Int.mul_nonneg h0 h2, Int.mul_le_mul h1 h3 h2 (by omega)⟩
theorem mul_pos1 {x y : Int} (h0 : 1 ≤ x) (h1 : 1 ≤ y) : 1 ≤ x * y := Int.mul_pos (by omega) (by omega)
/-- The beat of two parts over a denominator. -/
def beatV (x y n : Int) : Int × Int × Bool := if x = y then (0, 0, true) else makeF (max (x - y) (y - x)) n
theorem beatV_comm (x y n : Int) : beatV x y n = beatV y x n := by
  unfold beatV
  by_cases c : x = y
  · rw [if_pos c, if_pos c.symm]
  · rw [if_neg c, if_neg (fun e => c e.symm), Int.max_comm]
def beatG (a b c d p q : Int) : Int × Int × Bool := beatV (p * a * (d / (Int.gcd b d : Int))) (q * c * (b / (Int.gcd b d : Int))) (b / (Int.gcd b d : Int) * d)
theorem beatG_comm (a b c d p q : Int) : beatG a b c d p q = beatG c d a b q p := by
  unfold beatG
  have e : b / (Int.gcd b d : Int) * d = d / (Int.gcd d b : Int) * b := by
    obtain ⟨g, hg⟩ : ∃ g : Int, (Int.gcd b d : Int) = g := ⟨_, rfl⟩
    have h1 : g ∣ b := hg ▸ Int.gcd_dvd_left b d
    have h2 : g ∣ d := hg ▸ Int.gcd_dvd_right b d
    rw [Int.gcd_comm d b, hg]
    have e1 := Int.mul_ediv_cancel' h1
    have e2 := Int.mul_ediv_cancel' h2
    calc b / g * d = b / g * (g * (d / g)) := by rw [e2]
      _ = d / g * (g * (b / g)) := by rw [Int.mul_comm g (d / g), Int.mul_comm g (b / g), ← Int.mul_assoc, ← Int.mul_assoc, Int.mul_comm (b / g) (d / g)]
      _ = d / g * b := by rw [e1]
  rw [beatV_comm, e, Int.gcd_comm d b]
theorem impl_BeatOf_eq {k : Nat} (hk : 1000000000000000005 < k) {a b c d p q : Int} (h1 : pitchB a b) (h2 : pitchB c d) (ha : a ≤ 3000) (hb : b ≤ 8) (hc : c ≤ 3000) (hd : d ≤ 8) (hp : 1 ≤ p) (hp' : p ≤ 6) (hq : 1 ≤ q) (hq' : q ≤ 6) :
    impl_BeatOf.f k a b c d p q = some (beatG a b c d p q) := by
  obtain ⟨k, rfl⟩ : ∃ m, k = m + 2 := ⟨k - 2, by omega⟩
  have h1' := h1
  have h2' := h2
  unfold pitchB at h1' h2'
  unfold impl_BeatOf.f
  rw [impl_PitchOk_eq (by omega), impl_PitchOk_eq (by omega)]
  simp only [Option.bind_some, decide_eq_true_eq, impl_within_eq]
  rw [if_pos h1, if_pos h2, if_pos (by omega), decide_eq_true (show 1 ≤ q ∧ q ≤ 16 by omega)]
  simp only [impl_BeatOf.j0, Bool.not_true, Bool.false_eq_true, if_false]
  have hg := gcd_pos_of (n := b) d (by omega)
  rw [impl_divisor_eq (by omega) (by omega) (by omega) (by omega) (by omega)]
  simp only [Option.bind_some]
  unfold beatG
  generalize (Int.gcd b d : Int) = g at hg ⊢
  have rb := div_rng hg (show 0 ≤ b by omega)
  have rd' := div_rng hg (show 0 ≤ d by omega)
  have x0 := mul_rng (show 0 ≤ p by omega) hp' (show 0 ≤ a by omega) ha
  have y0 := mul_rng (show 0 ≤ q by omega) hq' (show 0 ≤ c by omega) hc
  have x1 := mul_pos1 hp h1'.1
  have y1 := mul_pos1 hq h2'.1
  have q1 : 8 ≤ (1000000000000000000 : Int) / (p * a) := (Int.le_ediv_iff_mul_le (by omega)).mpr (by omega)
  have q2 : 8 ≤ (1000000000000000000 : Int) / (q * c) := (Int.le_ediv_iff_mul_le (by omega)).mpr (by omega)
  have q3 := Int.ediv_le_self (p * a) (show (0 : Int) ≤ 1000000000000000000 by omega)
  have q4 := Int.ediv_le_self (q * c) (show (0 : Int) ≤ 1000000000000000000 by omega)
  have x2 := mul_rng x0.1 x0.2 rd'.1 (show d / g ≤ 8 by omega)
  have y2 := mul_rng y0.1 y0.2 rb.1 (show b / g ≤ 8 by omega)
  have n2 := mul_rng rb.1 (show b / g ≤ 8 by omega) (show 0 ≤ d by omega) hd
  rw [Int.tdiv_eq_ediv_of_nonneg (a := b) (by omega), Int.tdiv_eq_ediv_of_nonneg (a := d) (by omega), w64 (x := p * a) (by omega) (by omega), w64 (x := q * c) (by omega) (by omega), Int.tdiv_eq_ediv_of_nonneg (a := 1000000000000000000) (b := p * a) (by omega), Int.tdiv_eq_ediv_of_nonneg (a := 1000000000000000000) (b := q * c) (by omega), w64 (x := b / g) (by omega) (by omega), w64 (x := d / g) (by omega) (by omega), w64 (x := (1000000000000000000 : Int) / (p * a)) (by omega) (by omega), w64 (x := (1000000000000000000 : Int) / (q * c)) (by omega) (by omega)]
  rw [if_neg (by omega), if_neg (by omega), if_neg (by omega), if_neg (by omega), decide_eq_false (show ¬ b / g > (1000000000000000000 : Int) / (q * c) by omega)]
  simp only [impl_BeatOf.j1, Bool.false_eq_true, if_false]
  rw [if_neg (by omega), Int.tdiv_eq_ediv_of_nonneg (by omega), Int.tdiv_eq_ediv_of_nonneg (by omega), w64 (x := b / g) (by omega) (by omega), w64 (x := d / g) (by omega) (by omega), w64 (x := p * a * (d / g)) (by omega) (by omega), w64 (x := q * c * (b / g)) (by omega) (by omega), w64 (x := b / g * d) (by omega) (by omega), w64 (x := p * a * (d / g) - q * c * (b / g)) (by omega) (by omega), w64 (x := q * c * (b / g) - p * a * (d / g)) (by omega) (by omega), mx_def]
  unfold beatV
  by_cases e : p * a * (d / g) = q * c * (b / g)
  · rw [if_pos e, if_pos e]
  · rw [if_neg e, if_neg e, impl_MakePitch_eq (by omega), Option.bind_some]

theorem makeF_ok {n d : Int} (h1 : 1 ≤ n) (h2 : n ≤ 1000000000) (h3 : 1 ≤ d) (h4 : d ≤ 1000000000) : makeF n d = (n / (Int.gcd n d : Int), d / (Int.gcd n d : Int), true) ∧ pitchB (n / (Int.gcd n d : Int)) (d / (Int.gcd n d : Int)) := by
  have hg := gcd_pos_of d h1
  have hp : pitchB (n / (Int.gcd n d : Int)) (d / (Int.gcd n d : Int)) := by
    have r1 := div_rng hg (show 0 ≤ n by omega)
    have r2 := div_rng hg (show 0 ≤ d by omega)
    have e1 := Int.mul_ediv_cancel' (Int.gcd_dvd_left n d)
    have e2 := Int.mul_ediv_cancel' (Int.gcd_dvd_right n d)
    refine ⟨?_, by omega, ?_, by omega, Int.gcd_ediv_gcd_ediv_gcd (by omega)⟩
    · by_cases c : 1 ≤ n / (Int.gcd n d : Int)
      · exact c
      · rw [show n / (Int.gcd n d : Int) = 0 by omega, Int.mul_zero] at e1
        omega
    · by_cases c : 1 ≤ d / (Int.gcd n d : Int)
      · exact c
      · rw [show d / (Int.gcd n d : Int) = 0 by omega, Int.mul_zero] at e2
        omega
  refine ⟨?_, hp⟩
  unfold makeF
  rw [if_pos ⟨⟨by omega, by omega⟩, ⟨by omega, by omega⟩, hp⟩]
theorem pitch_eq {a b c d : Int} (h1 : pitchB a b) (h2 : pitchB c d) (e : a * d = c * b) : a = c ∧ b = d := by
  obtain ⟨a1, a2, b1, b2, g1⟩ := h1
  obtain ⟨c1, c2, d1, d2, g2⟩ := h2
  obtain ⟨x, rfl⟩ : ∃ x : Nat, a = x := ⟨a.toNat, by omega⟩
  obtain ⟨y, rfl⟩ : ∃ y : Nat, b = y := ⟨b.toNat, by omega⟩
  obtain ⟨u, rfl⟩ : ∃ u : Nat, c = u := ⟨c.toNat, by omega⟩
  obtain ⟨v, rfl⟩ : ∃ v : Nat, d = v := ⟨d.toNat, by omega⟩
  have e' : x * v = u * y := by exact_mod_cast e
  have k1 : Nat.Coprime x y := by simpa [Int.gcd] using g1
  have k2 : Nat.Coprime u v := by simpa [Int.gcd] using g2
  have p1 : x ∣ u := k1.dvd_of_dvd_mul_right (n := y) (m := u) (by rw [← e']; exact Nat.dvd_mul_right x v)
  have p2 : u ∣ x := k2.dvd_of_dvd_mul_right (n := v) (m := x) (by rw [e']; exact Nat.dvd_mul_right u y)
  have p3 : x = u := Nat.dvd_antisymm p1 p2
  subst p3
  refine ⟨rfl, ?_⟩
  have := Nat.eq_of_mul_eq_mul_left (show 0 < x by omega) e'
  omega
/-- A pure fifth over a pitch. -/
theorem fifth_none {a b : Int} (h : pitchB a b) (ha : a ≤ 999) (hb : b ≤ 4) : ∃ n d, makeF (a * 3) (b * 2) = (n, d, true) ∧ pitchB n d ∧ n ≤ 3000 ∧ d ≤ 8 ∧ beatG a b n d 3 2 = (0, 0, true) ∧ a * d < n * b := by
  have h' := h
  unfold pitchB at h'
  obtain ⟨e, hp⟩ := makeF_ok (n := a * 3) (d := b * 2) (by omega) (by omega) (by omega) (by omega)
  have hg := gcd_pos_of (n := a * 3) (b * 2) (by omega)
  have e1 := Int.mul_ediv_cancel' (Int.gcd_dvd_left (a * 3) (b * 2))
  have e2 := Int.mul_ediv_cancel' (Int.gcd_dvd_right (a * 3) (b * 2))
  have r1 := div_rng hg (show 0 ≤ a * 3 by omega)
  have r2 := div_rng hg (show 0 ≤ b * 2 by omega)
  generalize (Int.gcd (a * 3) (b * 2) : Int) = G at e hp hg e1 e2 r1 r2
  generalize a * 3 / G = n at e hp e1 r1
  generalize b * 2 / G = d at e hp e2 r2
  have hp' := hp
  unfold pitchB at hp'
  have key : 3 * (a * d) = 2 * (n * b) := by
    refine Int.eq_of_mul_eq_mul_left (a := G) (by omega) ?_
    calc G * (3 * (a * d)) = 3 * (a * (G * d)) := by rw [Int.mul_left_comm G 3, Int.mul_left_comm G a]
      _ = 3 * (a * (b * 2)) := by rw [e2]
      _ = 2 * ((a * 3) * b) := by rw [Int.mul_comm b 2, Int.mul_left_comm a 2 b, Int.mul_comm a 3, Int.mul_assoc 3 a b, Int.mul_left_comm 3 2]
      _ = 2 * ((G * n) * b) := by rw [e1]
      _ = G * (2 * (n * b)) := by rw [Int.mul_left_comm G 2, Int.mul_assoc]
  have pos : 1 ≤ n * b := mul_pos1 hp'.1 h'.2.2.1
  refine ⟨n, d, e, hp, by omega, by omega, ?_, by omega⟩
  unfold beatG beatV
  rw [if_pos]
  have hq := gcd_pos_of (n := b) d (by omega)
  have f1 := Int.mul_ediv_cancel' (Int.gcd_dvd_left b d)
  have f2 := Int.mul_ediv_cancel' (Int.gcd_dvd_right b d)
  generalize (Int.gcd b d : Int) = q at hq f1 f2
  refine Int.eq_of_mul_eq_mul_left (a := q) (by omega) ?_
  calc q * (3 * a * (d / q)) = 3 * a * (q * (d / q)) := by rw [Int.mul_left_comm]
    _ = 3 * (a * d) := by rw [f2, Int.mul_assoc]
    _ = 2 * (n * b) := key
    _ = 2 * n * (q * (b / q)) := by rw [f1, Int.mul_assoc]
    _ = q * (2 * n * (b / q)) := by rw [Int.mul_left_comm]
theorem tmod6 {u : Int} (h0 : 0 ≤ u) : 1 ≤ wrap64 (1 + Int.tmod u 6) ∧ wrap64 (1 + Int.tmod u 6) ≤ 6 := by
  rw [Int.tmod_eq_emod_of_nonneg h0, w64 (by omega) (by omega)]
  omega
theorem FnBeats : laws_FnBeats.Pure := by
  intro l _ hl hx
  obtain ⟨K, hK⟩ : ∃ K : Nat, l.length + 1000000000000000100 ≤ K := ⟨_, Nat.le_refl _⟩
  refine ⟨K, ?_⟩
  unfold laws_FnBeats.f
  rw [laws_big_eq]
  simp only [Option.bind_some, decide_eq_true_eq]
  by_cases hb : (l.length : Int) > 1048576
  · rw [if_pos hb]
  · rw [if_neg hb]
    obtain ⟨a, b, c, d, e, ⟨p1, a9, b4⟩, p2, c9, d4⟩ := spec_DrawPitches_eq (k := K) (l := l) (by omega) (by omega) (by omega)
    obtain ⟨u0, e0, u00, u01⟩ := laws_at_eq (l := l) (a := 0) (by omega) (by omega) (by omega) hx
    obtain ⟨u1, e1, u10, u11⟩ := laws_at_eq (l := l) (a := 1) (by omega) (by omega) (by omega) hx
    have r0 := tmod6 u00
    have r1 := tmod6 u10
    rw [e, Option.bind_some, e0, Option.bind_some, e1, Option.bind_some]
    simp only
    generalize wrap64 (1 + Int.tmod u0 6) = p at r0 ⊢
    generalize wrap64 (1 + Int.tmod u1 6) = q at r1 ⊢
    obtain ⟨n, m, f1, f2, f3, f4, f5, f6⟩ := fifth_none p1 a9 b4
    have ht : timesF a b 3 2 = (n, m, true) := by
      unfold timesF
      rw [if_pos ⟨p1, by omega, by omega⟩, f1]
    rw [impl_BeatOf_eq (by omega) p1 p2 (by omega) (by omega) (by omega) (by omega) r0.1 r0.2 r1.1 r1.2, Option.bind_some, impl_BeatOf_eq (by omega) p2 p1 (by omega) (by omega) (by omega) (by omega) r1.1 r1.2 r0.1 r0.2, Option.bind_some, ← beatG_comm a b c d p q, impl_TimesPitch_eq (by omega), Option.bind_some, ht]
    simp only
    rw [impl_BeatOf_eq (by omega) p1 f2 (by omega) (by omega) (by omega) (by omega) (by omega) (by omega) (by omega) (by omega), Option.bind_some, f5]
    rw [if_pos (by simp), if_pos (by simp), if_pos rfl, if_pos trivial, if_pos (by simp)]
    rw [impl_ComparePitches_eq (by omega), Option.bind_some, if_pos (show pitchB a b ∧ pitchB n m from ⟨p1, f2⟩), if_pos f6, if_pos rfl]
    rw [impl_ComparePitches_eq (by omega), Option.bind_some, impl_ComparePitches_eq (by omega), Option.bind_some, if_pos (show pitchB a b ∧ pitchB c d from ⟨p1, p2⟩), if_pos (show pitchB c d ∧ pitchB a b from ⟨p2, p1⟩)]
    have hpo : impl_PitchOk.f K n m = some true := by rw [impl_PitchOk_eq (by omega), decide_eq_true f2]
    by_cases l1 : a * d < c * b
    · have ne : ¬ (a = c ∧ b = d) := by
        rintro ⟨rfl, rfl⟩
        omega
      have nb : (a == c && b == d) = false := by
        rw [Bool.and_eq_false_iff, beq_eq_false_iff_ne, beq_eq_false_iff_ne]
        by_cases h : a = c
        · exact .inr fun h2 => ne ⟨h, h2⟩
        · exact .inl h
      rw [if_pos l1, if_neg (show ¬ c * b < a * d by omega), if_pos (show c * b > a * d from l1), if_pos (by rw [w64 (by omega) (by omega)]), Option.bind_some, nb, if_pos (by decide), hpo]
      rfl
    · by_cases l2 : a * d > c * b
      · have ne : ¬ (a = c ∧ b = d) := by
          rintro ⟨rfl, rfl⟩
          omega
        have nb : (a == c && b == d) = false := by
          rw [Bool.and_eq_false_iff, beq_eq_false_iff_ne, beq_eq_false_iff_ne]
          by_cases h : a = c
          · exact .inr fun h2 => ne ⟨h, h2⟩
          · exact .inl h
        rw [if_neg l1, if_pos l2, if_pos (show c * b < a * d from l2), if_pos (by rw [w64 (by omega) (by omega)]; rfl), Option.bind_some, nb, if_pos (by decide), hpo]
        rfl
      · obtain ⟨rfl, rfl⟩ := pitch_eq p1 p2 (by omega)
        rw [if_neg l1, if_neg l2, if_pos (by rw [w64 (by omega) (by omega)]; rfl), Option.bind_some, if_pos (by simp), hpo]
        rfl

end Go.Proofs.Ytdipihdbplkdiaa.Pure
