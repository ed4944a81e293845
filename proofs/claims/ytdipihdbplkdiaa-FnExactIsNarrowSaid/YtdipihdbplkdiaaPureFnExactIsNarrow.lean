/- IsNarrow of the program and of the reference answer alike, for all whole numbers. No condition. -/
import Derived.Test.YtdipihdbplkdiaaPFnExactIsNarrowx1
import Derived.OpenShut
namespace Go.Proofs.Ytdipihdbplkdiaa.Pure
open Go.RowKit Go.Proofs.Ytdipihdbplkdiaa.PFnExactIsNarrow Go.Proofs.YtdipihdbplkdiaaW.PrintWords Go.Proofs.YtdipihdbplkdiaaW.PrintLast Go.Proofs.YtdipihdbplkdiaaW.PrintMore
set_option linter.unusedVariables false
set_option linter.unusedSimpArgs false
theorem w64 {x : Int} (h : -9223372036854775808 ≤ x) (h' : x ≤ 9223372036854775807) : wrap64 x = x := by unfold wrap64; omega
theorem wf64 {x : Int} (h : (Lit.int .i64 x).wf = true) : -9223372036854775808 ≤ x ∧ x ≤ 9223372036854775807 := by
  simp only [Lit.wf, IntKind.min, IntKind.max, IntKind.signed, IntKind.bits, Bool.and_eq_true, decide_eq_true_eq, if_true] at h
  omega
theorem wfu8 {x : Int} (h : (Lit.int .u8 x).wf = true) : 0 ≤ x ∧ x ≤ 255 := by
  simp [Lit.wf, IntKind.min, IntKind.max, IntKind.signed, IntKind.bits] at h
  omega
theorem mx_def (a b : Int) : mx a b = max a b := by unfold mx; omega
theorem mn_def (a b : Int) : mn a b = min a b := by unfold mn; omega
theorem fuel {n k : Nat} (h : n < k) : ∃ m, k = m + 1 ∧ n ≤ m := ⟨k - 1, by omega, by omega⟩
theorem gcd_tmod (a b : Int) : Int.gcd b (Int.tmod a b) = Int.gcd a b := by
  unfold Int.gcd
  rw [Int.natAbs_tmod, Nat.gcd_comm, ← Nat.gcd_rec, Nat.gcd_comm]
theorem tmod_lt (a : Int) {b : Int} (h : b ≠ 0) : (Int.tmod a b).natAbs < b.natAbs := by
  rw [Int.natAbs_tmod]
  exact Nat.mod_lt _ (by omega)
theorem drop_rd {l : List Int} {i : Nat} (h : i < l.length) : l.drop i = rd l (i : Int) :: l.drop (i + 1) := by
  rw [List.drop_eq_getElem_cons h]
  simp [rd, List.getD, List.getElem?_eq_getElem h]
theorem rd_get {l : List Int} {i : Nat} (h : i < l.length) : rd l (i : Int) = l[i] := by simp [rd, List.getD, List.getElem?_eq_getElem h]
theorem up_one {i n : Nat} (h : i < n) (hn : n ≤ 9223372036854775807) : wrap64 ((i : Int) + 1) = ((i + 1 : Nat) : Int) := by rw [w64 (by omega) (by omega)]; omega
theorem rd_mem {l : List Int} {i : Nat} (h : i < l.length) : rd l (i : Int) ∈ l := by rw [rd_get h]; exact List.getElem_mem h

/-- What is heard. -/
def beatsF (f t kind : Int) : Int :=
  if 1 ≤ f ∧ f ≤ 10000000 ∧ 1 ≤ t ∧ t ≤ 10000000 then
    (if kind = 1 then max (3 * f - 2 * t) (2 * t - 3 * f) else if kind = 2 then max (3 * f - 4 * t) (4 * t - 3 * f)
     else if kind = 3 then max (2 * f - t) (t - 2 * f) else if kind = 4 then max (f - 2 * t) (2 * t - f) else -1)
  else -1

theorem spec_l01In_eq (a b c : Int) : spec_l01In.f a b c = some (decide (b ≤ a ∧ a ≤ c)) := by
  unfold spec_l01In.f; by_cases h : a ≥ b <;> by_cases h2 : a ≤ c <;> simp [h, h2]; all_goals omega

theorem spec_l18Pitch_eq (a : Int) : spec_l18Pitch.f a = some (decide (1 ≤ a ∧ a ≤ 10000000)) := by
  unfold spec_l18Pitch.f; rw [spec_l01In_eq]; simp

theorem spec_BeatsHeard_eq (f t kind : Int) : spec_BeatsHeard.f f t kind = some (beatsF f t kind) := by
  unfold spec_BeatsHeard.f beatsF
  simp only [spec_l18Pitch_eq, spec_l01In_eq, Option.bind_some]
  by_cases hf : 1 ≤ f ∧ f ≤ 10000000
  · by_cases ht : 1 ≤ t ∧ t ≤ 10000000
    · have a1 : wrap64 (3 * f) = 3 * f := w64 (by omega) (by omega)
      have a2 : wrap64 (2 * t) = 2 * t := w64 (by omega) (by omega)
      have a3 : wrap64 (4 * t) = 4 * t := w64 (by omega) (by omega)
      have a4 : wrap64 (2 * f) = 2 * f := w64 (by omega) (by omega)
      have a5 : wrap64 (1 * f) = f := by rw [Int.one_mul]; exact w64 (by omega) (by omega)
      have a6 : wrap64 (1 * t) = t := by rw [Int.one_mul]; exact w64 (by omega) (by omega)
      have b1 : wrap64 (3 * f - 2 * t) = 3 * f - 2 * t := w64 (by omega) (by omega)
      have b2 : wrap64 (2 * t - 3 * f) = 2 * t - 3 * f := w64 (by omega) (by omega)
      have b3 : wrap64 (3 * f - 4 * t) = 3 * f - 4 * t := w64 (by omega) (by omega)
      have b4 : wrap64 (4 * t - 3 * f) = 4 * t - 3 * f := w64 (by omega) (by omega)
      have b5 : wrap64 (2 * f - t) = 2 * f - t := w64 (by omega) (by omega)
      have b6 : wrap64 (t - 2 * f) = t - 2 * f := w64 (by omega) (by omega)
      have b7 : wrap64 (f - 2 * t) = f - 2 * t := w64 (by omega) (by omega)
      have b8 : wrap64 (2 * t - f) = 2 * t - f := w64 (by omega) (by omega)
      by_cases hk : 1 ≤ kind ∧ kind ≤ 4
      · have : kind = 1 ∨ kind = 2 ∨ kind = 3 ∨ kind = 4 := by omega
        rcases this with rfl | rfl | rfl | rfl
        · simp only [rd, Int.toNat_one, List.getD_cons_succ, List.getD_cons_zero, a1, a2, b1, b2, mx_def]; simp [hf, ht]
        · simp only [rd, show (2 : Int).toNat = 2 from rfl, List.getD_cons_succ, List.getD_cons_zero, a1, a3, b3, b4, mx_def]; simp [hf, ht]
        · simp only [rd, show (3 : Int).toNat = 3 from rfl, List.getD_cons_succ, List.getD_cons_zero, a4, a6, b5, b6, mx_def]; simp [hf, ht]
        · simp only [rd, show (4 : Int).toNat = 4 from rfl, List.getD_cons_succ, List.getD_cons_zero, a5, a2, b7, b8, mx_def]; simp [hf, ht]
      · have k1 : kind ≠ 1 := by omega
        have k2 : kind ≠ 2 := by omega
        have k3 : kind ≠ 3 := by omega
        have k4 : kind ≠ 4 := by omega
        simp [hf, ht, hk, k1, k2, k3, k4]
    · have : ¬ (1 ≤ f ∧ f ≤ 10000000 ∧ 1 ≤ t ∧ t ≤ 10000000) := by omega
      simp [hf, ht, this]
  · have : ¬ (1 ≤ f ∧ f ≤ 10000000 ∧ 1 ≤ t ∧ t ≤ 10000000) := by omega
    simp [hf, this]

theorem spec_IsNarrow_eq (f t kind : Int) : spec_IsNarrow.f f t kind = some (decide (0 < beatsF f t kind ∧ (kind = 1 ∧ 3 * f > 2 * t ∨ kind = 2 ∧ 3 * f > 4 * t))) := by
  unfold spec_IsNarrow.f
  rw [spec_BeatsHeard_eq, Option.bind_some]
  by_cases hb : beatsF f t kind ≤ 0
  · have : ¬ 0 < beatsF f t kind := by omega
    simp [hb, this]
  · have hp : 0 < beatsF f t kind := by omega
    have hr : 1 ≤ f ∧ f ≤ 10000000 ∧ 1 ≤ t ∧ t ≤ 10000000 := by
      rcases Decidable.em (1 ≤ f ∧ f ≤ 10000000 ∧ 1 ≤ t ∧ t ≤ 10000000) with h | h
      · exact h
      · unfold beatsF at hp; rw [if_neg h] at hp; omega
    have hk : 1 ≤ kind := by
      rcases Decidable.em (1 ≤ kind) with h | h
      · exact h
      · unfold beatsF at hp; rw [if_pos hr, if_neg (by omega), if_neg (by omega), if_neg (by omega), if_neg (by omega)] at hp; omega
    simp only [hp, true_and]
    rw [if_neg hb]
    by_cases h2 : kind > 2
    · have k1 : kind ≠ 1 := by omega
      have k2 : kind ≠ 2 := by omega
      simp [h2, k1, k2]
    · rw [if_neg h2]
      have : kind = 1 ∨ kind = 2 := by omega
      have a1 : wrap64 (3 * f) = 3 * f := w64 (by omega) (by omega)
      rcases this with rfl | rfl
      · rw [a1, show wrap64 (2 * 1) = 2 from w64 (by decide) (by decide), w64 (x := 2 * t) (by omega) (by omega)]; simp
      · rw [a1, show wrap64 (2 * 2) = 4 from w64 (by decide) (by decide), w64 (x := 4 * t) (by omega) (by omega)]; simp

theorem impl_within_eq (a b c : Int) : impl_within.f a b c = some (decide (b ≤ a ∧ a ≤ c)) := by
  unfold impl_within.f; by_cases h : b ≤ a <;> by_cases h2 : a ≤ c <;> simp [h, h2]

theorem impl_isFine_eq (a : Int) : impl_isFine.f a = some (decide (1 ≤ a ∧ a ≤ 10000000)) := by
  unfold impl_isFine.f; rw [impl_within_eq]; simp

theorem impl_apart_eq (a b : Int) : impl_apart.f a b = some (max (wrap64 (a - b)) (wrap64 (b - a))) := by
  unfold impl_apart.f; rw [mx_def]

theorem impl_BeatsHeard_eq {k : Nat} (hk : 0 < k) (f t kind : Int) : impl_BeatsHeard.f k f t kind = some (beatsF f t kind) := by
  obtain ⟨k, rfl⟩ : ∃ m, k = m + 1 := ⟨k - 1, by omega⟩
  unfold impl_BeatsHeard.f beatsF
  simp only [impl_isFine_eq, Option.bind_some, impl_BeatsHeard.j0, impl_apart_eq]
  by_cases hf : 1 ≤ f ∧ f ≤ 10000000
  · by_cases ht : 1 ≤ t ∧ t ≤ 10000000
    · have a1 : wrap64 (3 * f) = 3 * f := w64 (by omega) (by omega)
      have a2 : wrap64 (2 * t) = 2 * t := w64 (by omega) (by omega)
      have a3 : wrap64 (4 * t) = 4 * t := w64 (by omega) (by omega)
      have a4 : wrap64 (2 * f) = 2 * f := w64 (by omega) (by omega)
      have b1 : wrap64 (3 * f - 2 * t) = 3 * f - 2 * t := w64 (by omega) (by omega)
      have b2 : wrap64 (2 * t - 3 * f) = 2 * t - 3 * f := w64 (by omega) (by omega)
      have b3 : wrap64 (3 * f - 4 * t) = 3 * f - 4 * t := w64 (by omega) (by omega)
      have b4 : wrap64 (4 * t - 3 * f) = 4 * t - 3 * f := w64 (by omega) (by omega)
      have b5 : wrap64 (2 * f - t) = 2 * f - t := w64 (by omega) (by omega)
      have b6 : wrap64 (t - 2 * f) = t - 2 * f := w64 (by omega) (by omega)
      have b7 : wrap64 (f - 2 * t) = f - 2 * t := w64 (by omega) (by omega)
      have b8 : wrap64 (2 * t - f) = 2 * t - f := w64 (by omega) (by omega)
      simp only [a1, a2, a3, a4, b1, b2, b3, b4, b5, b6, b7, b8]
      simp only [hf, ht, and_self, decide_true, Bool.not_true, Bool.false_eq_true, if_true, if_false]
      by_cases k1 : kind = 1
      · simp [k1]
      by_cases k2 : kind = 2
      · simp [k2]
      by_cases k3 : kind = 3
      · simp [k3]
      by_cases k4 : kind = 4
      · simp [k4]
      simp [k1, k2, k3, k4]
    · have : ¬ (1 ≤ f ∧ f ≤ 10000000 ∧ 1 ≤ t ∧ t ≤ 10000000) := by omega
      simp [hf, ht, this]
  · have : ¬ (1 ≤ f ∧ f ≤ 10000000 ∧ 1 ≤ t ∧ t ≤ 10000000) := by omega
    simp [hf, this]

theorem impl_IsNarrow_eq {k : Nat} (hk : 0 < k) (f t kind : Int) : impl_IsNarrow.f k f t kind = some (decide (0 < beatsF f t kind ∧ (kind = 1 ∧ 3 * f > 2 * t ∨ kind = 2 ∧ 3 * f > 4 * t))) := by
  unfold impl_IsNarrow.f
  rw [impl_BeatsHeard_eq hk, Option.bind_some]
  by_cases hb : beatsF f t kind ≤ 0
  · have : ¬ 0 < beatsF f t kind := by omega
    simp [hb, this]
  · have hp : 0 < beatsF f t kind := by omega
    have hr : 1 ≤ f ∧ f ≤ 10000000 ∧ 1 ≤ t ∧ t ≤ 10000000 := by
      rcases Decidable.em (1 ≤ f ∧ f ≤ 10000000 ∧ 1 ≤ t ∧ t ≤ 10000000) with h | h
      · exact h
      · unfold beatsF at hp; rw [if_neg h] at hp; omega
    have a1 : wrap64 (3 * f) = 3 * f := w64 (by omega) (by omega)
    have a2 : wrap64 (2 * t) = 2 * t := w64 (by omega) (by omega)
    have a3 : wrap64 (4 * t) = 4 * t := w64 (by omega) (by omega)
    simp only [a1, a2, a3, hp, true_and]
    rw [if_neg hb]
    by_cases k1 : kind = 1
    · subst k1; by_cases h3 : 3 * f > 2 * t <;> simp [h3]
    · by_cases k2 : kind = 2
      · subst k2; simp
      · simp [k1, k2]

theorem FnExactIsNarrow : laws_FnExactIsNarrow.Pure := by
  intro a b c _ _ _
  refine ⟨1, ?_⟩
  unfold laws_FnExactIsNarrow.f
  simp [spec_IsNarrow_eq, impl_IsNarrow_eq]

end Go.Proofs.Ytdipihdbplkdiaa.Pure
