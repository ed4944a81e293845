/- TunedPitch of the program and of the reference answer alike, for all whole numbers. No condition. -/
import Derived.Test.YtdipihdbplkdiaaPFnExactTunedPitchx1
import Derived.Test.YtdipihdbplkdiaaPFnExactTunedPitchx2
import Derived.OpenShut
namespace Go.Proofs.Ytdipihdbplkdiaa.Pure
open Go.RowKit Go.Proofs.Ytdipihdbplkdiaa.PFnExactTunedPitch Go.Proofs.YtdipihdbplkdiaaW.PrintWords Go.Proofs.YtdipihdbplkdiaaW.PrintLast Go.Proofs.YtdipihdbplkdiaaW.PrintMore
set_option linter.unusedVariables false
set_option linter.unusedSimpArgs false
theorem w64 {x : Int} (h : -9223372036854775808 ≤ x) (h' : x ≤ 9223372036854775807) : wrap64 x = x := by unfold wrap64; omega
theorem wf64 {x : Int} (h : (Lit.int .i64 x).wf = true) : -9223372036854775808 ≤ x ∧ x ≤ 9223372036854775807 := by
  simp only [Lit.wf, IntKind.min, IntKind.max, IntKind.signed, IntKind.bits, Bool.and_eq_true, decide_eq_true_eq, if_true] at h
  omega
theorem wfu8 {x : Int} (h : (Lit.int .u8 x).wf = true) : 0 ≤ x ∧ x ≤ 255 := by
  simp [Lit.wf, IntKind.min, IntKind.max, IntKind.signed, IntKind.bits] at h
  omega
theorem mx_def (a b : Int) : mx a b = max a b := by unfold mx; omega
theorem mn_def (a b : Int) : mn a b = min a b := by unfold mn; omega
theorem fuel {n k : Nat} (h : n < k) : ∃ m, k = m + 1 ∧ n ≤ m := ⟨k - 1, by omega, by omega⟩
theorem gcd_tmod (a b : Int) : Int.gcd b (Int.tmod a b) = Int.gcd a b := by
  unfold Int.gcd
  rw [Int.natAbs_tmod, Nat.gcd_comm, ← Nat.gcd_rec, Nat.gcd_comm]
theorem tmod_lt (a : Int) {b : Int} (h : b ≠ 0) : (Int.tmod a b).natAbs < b.natAbs := by
  rw [Int.natAbs_tmod]
  exact Nat.mod_lt _ (by omega)
theorem drop_rd {l : List Int} {i : Nat} (h : i < l.length) : l.drop i = rd l (i : Int) :: l.drop (i + 1) := by
  rw [List.drop_eq_getElem_cons h]
  simp [rd, List.getD, List.getElem?_eq_getElem h]
theorem rd_get {l : List Int} {i : Nat} (h : i < l.length) : rd l (i : Int) = l[i] := by simp [rd, List.getD, List.getElem?_eq_getElem h]
theorem up_one {i n : Nat} (h : i < n) (hn : n ≤ 9223372036854775807) : wrap64 ((i : Int) + 1) = ((i + 1 : Nat) : Int) := by rw [w64 (by omega) (by omega)]; omega
theorem rd_mem {l : List Int} {i : Nat} (h : i < l.length) : rd l (i : Int) ∈ l := by rw [rd_get h]; exact List.getElem_mem h

theorem tdiv_nn {x : Int} (d : Int) (h : 0 ≤ x) : Int.tdiv x d = x / d := Int.tdiv_eq_ediv_of_nonneg h
/-- The pitch that a step comes to, before it is held against the bounds. -/
def tunedN (f kind b : Int) : Int :=
  if kind = 1 then max (3 * f - b) 0 / 2 else if kind = 2 then max (3 * f - b) 0 / 4
  else if kind = 3 ∧ b = 0 then 2 * f else if kind = 4 ∧ b = 0 then f / 2 else 0
def fineB (n : Int) : Prop := 1 ≤ n ∧ n ≤ 10000000
instance (n : Int) : Decidable (fineB n) := by unfold fineB; infer_instance
/-- The pitch that a step comes to. -/
def tunedF (f kind b : Int) : Int :=
  if fineB f ∧ 0 ≤ b ∧ b ≤ 100000 ∧ fineB (tunedN f kind b) then tunedN f kind b else 0
theorem tunedN_rng {f b : Int} (kind : Int) (hf : fineB f) (hb : 0 ≤ b ∧ b ≤ 100000) : 0 ≤ tunedN f kind b ∧ tunedN f kind b ≤ 20000000 := by
  unfold fineB at hf
  unfold tunedN
  (repeat' split) <;> omega
theorem pay3 {f b : Int} (hf : fineB f) (hb : 0 ≤ b ∧ b ≤ 100000) : wrap64 (wrap64 (3 * f) - b) = 3 * f - b := by
  unfold fineB at hf
  rw [w64 (x := 3 * f) (by omega) (by omega), w64 (by omega) (by omega)]
theorem pay3l {f b : Int} (hf : fineB f) (hb : 0 ≤ b ∧ b ≤ 100000) (d : Int) (hd : d = 2 ∨ d = 4) : wrap64 (Int.tdiv (mx 0 (wrap64 (wrap64 (3 * f) - b))) d) = max (3 * f - b) 0 / d := by
  rw [pay3 hf hb, mx_def, Int.max_comm, tdiv_nn d (by omega)]
  unfold fineB at hf
  rcases hd with rfl | rfl <;> exact w64 (by omega) (by omega)
theorem pay3r {f b : Int} (hf : fineB f) (hb : 0 ≤ b ∧ b ≤ 100000) (d : Int) (hd : d = 2 ∨ d = 4) : wrap64 (Int.tdiv (mx (wrap64 (wrap64 (3 * f) - b)) 0) d) = max (3 * f - b) 0 / d := by
  rw [pay3 hf hb, mx_def, tdiv_nn d (by omega)]
  unfold fineB at hf
  rcases hd with rfl | rfl <;> exact w64 (by omega) (by omega)
theorem payh {f : Int} (hf : fineB f) : wrap64 (Int.tdiv f 2) = f / 2 := by
  unfold fineB at hf
  rw [tdiv_nn 2 (by omega)]
  exact w64 (by omega) (by omega)
theorem payd {f : Int} (hf : fineB f) : wrap64 (2 * f) = 2 * f := by
  unfold fineB at hf
  exact w64 (by omega) (by omega)

theorem spec_l01In_eq (a b c : Int) : spec_l01In.f a b c = some (decide (b ≤ a ∧ a ≤ c)) := by
  unfold spec_l01In.f; by_cases h : a ≥ b <;> by_cases h2 : a ≤ c <;> simp [h, h2]; all_goals omega

theorem spec_l18Pitch_eq (a : Int) : spec_l18Pitch.f a = some (decide (1 ≤ a ∧ a ≤ 10000000)) := by
  unfold spec_l18Pitch.f; rw [spec_l01In_eq]; simp

theorem spec_TunedPitch_eq {k : Nat} (hk : 3 ≤ k) (f kind b : Int) : spec_TunedPitch.f k f kind b = some (tunedF f kind b) := by
  obtain ⟨k, rfl⟩ : ∃ m, k = m + 3 := ⟨k - 3, by omega⟩
  unfold spec_TunedPitch.f tunedF
  simp only [spec_l18Pitch_eq, spec_l01In_eq, Option.bind_some, spec_TunedPitch.j0, spec_TunedPitch.j1, spec_TunedPitch.j2]
  by_cases hf : fineB f
  · have hf' : 1 ≤ f ∧ f ≤ 10000000 := hf
    by_cases hb : 0 ≤ b ∧ b ≤ 100000
    · rw [pay3l hf hb 2 (.inl rfl), pay3l hf hb 4 (.inr rfl), payh hf, payd hf]
      simp only [hf', hb, and_self, decide_true, if_true, hf, true_and]
      by_cases k1 : kind = 1
      · subst k1
        have e : tunedN f 1 b = max (3 * f - b) 0 / 2 := by simp [tunedN]
        rw [e]
        by_cases b0 : b = 0 <;> by_cases hn : fineB (max (3 * f - b) 0 / 2) <;> (unfold fineB at hn; simp_all [fineB]) <;> (split <;> rename_i hh <;> simp [hh])
      by_cases k2 : kind = 2
      · subst k2
        have e : tunedN f 2 b = max (3 * f - b) 0 / 4 := by simp [tunedN]
        rw [e]
        by_cases b0 : b = 0 <;> by_cases hn : fineB (max (3 * f - b) 0 / 4) <;> (unfold fineB at hn; simp_all [fineB]) <;> (split <;> rename_i hh <;> simp [hh])
      by_cases k3 : kind = 3
      · subst k3
        by_cases b0 : b = 0
        · have e : tunedN f 3 b = 2 * f := by simp [tunedN, b0]
          rw [e]
          by_cases hn : fineB (2 * f) <;> (unfold fineB at hn; simp_all [fineB]) <;> (split <;> rename_i hh <;> simp [hh])
        · have e : tunedN f 3 b = 0 := by simp [tunedN, b0]
          rw [e]; simp [b0]
      by_cases k4 : kind = 4
      · subst k4
        by_cases b0 : b = 0
        · have e : tunedN f 4 b = f / 2 := by simp [tunedN, b0]
          rw [e]
          by_cases hn : fineB (f / 2) <;> (unfold fineB at hn; simp_all [fineB]) <;> (split <;> rename_i hh <;> simp [hh])
        · have e : tunedN f 4 b = 0 := by simp [tunedN, b0]
          rw [e]; simp [b0]
      have e : tunedN f kind b = 0 := by simp [tunedN, k1, k2, k3, k4]
      rw [e]
      by_cases b0 : b = 0 <;> simp [b0, k1, k2, k3, k4]
    · have hn : ¬ (0 ≤ b ∧ b ≤ 100000 ∧ fineB (tunedN f kind b)) := fun h => hb ⟨h.1, h.2.1⟩
      simp [hf', hb, hn]
  · have hf' : ¬ (1 ≤ f ∧ f ≤ 10000000) := hf
    simp [hf, hf']

theorem impl_within_eq (a b c : Int) : impl_within.f a b c = some (decide (b ≤ a ∧ a ≤ c)) := by
  unfold impl_within.f; by_cases h : b ≤ a <;> by_cases h2 : a ≤ c <;> simp [h, h2]

theorem impl_isFine_eq (a : Int) : impl_isFine.f a = some (decide (1 ≤ a ∧ a ≤ 10000000)) := by
  unfold impl_isFine.f; rw [impl_within_eq]; simp

theorem impl_TunedPitch_eq {k : Nat} (hk : 0 < k) (f kind b : Int) : impl_TunedPitch.f k f kind b = some (tunedF f kind b) := by
  obtain ⟨k, rfl⟩ : ∃ m, k = m + 1 := ⟨k - 1, by omega⟩
  unfold impl_TunedPitch.f tunedF
  simp only [impl_isFine_eq, impl_within_eq, Option.bind_some, impl_TunedPitch.j0]
  by_cases hf : fineB f
  · have hf' : 1 ≤ f ∧ f ≤ 10000000 := hf
    by_cases hb : 0 ≤ b ∧ b ≤ 100000
    · rw [pay3r hf hb 2 (.inl rfl), pay3r hf hb 4 (.inr rfl), payh hf, payd hf]
      simp only [hf', hb, and_self, decide_true, if_true, hf, true_and]
      by_cases k1 : kind = 1
      · subst k1
        have e : tunedN f 1 b = max (3 * f - b) 0 / 2 := by simp [tunedN]
        rw [e]
        by_cases b0 : b = 0 <;> by_cases hn : fineB (max (3 * f - b) 0 / 2) <;> (unfold fineB at hn; simp_all [fineB]) <;> (split <;> rename_i hh <;> simp [hh])
      by_cases k2 : kind = 2
      · subst k2
        have e : tunedN f 2 b = max (3 * f - b) 0 / 4 := by simp [tunedN]
        rw [e]
        by_cases b0 : b = 0 <;> by_cases hn : fineB (max (3 * f - b) 0 / 4) <;> (unfold fineB at hn; simp_all [fineB]) <;> (split <;> rename_i hh <;> simp [hh])
      by_cases k3 : kind = 3
      · subst k3
        by_cases b0 : b = 0
        · have e : tunedN f 3 b = 2 * f := by simp [tunedN, b0]
          rw [e]
          by_cases hn : fineB (2 * f) <;> (unfold fineB at hn; simp_all [fineB]) <;> (split <;> rename_i hh <;> simp [hh])
        · have e : tunedN f 3 b = 0 := by simp [tunedN, b0]
          rw [e]; simp [b0]
      by_cases k4 : kind = 4
      · subst k4
        by_cases b0 : b = 0
        · have e : tunedN f 4 b = f / 2 := by simp [tunedN, b0]
          rw [e]
          by_cases hn : fineB (f / 2) <;> (unfold fineB at hn; simp_all [fineB]) <;> (split <;> rename_i hh <;> simp [hh])
        · have e : tunedN f 4 b = 0 := by simp [tunedN, b0]
          rw [e]; simp [b0]
      have e : tunedN f kind b = 0 := by simp [tunedN, k1, k2, k3, k4]
      rw [e]
      by_cases b0 : b = 0 <;> simp [b0, k1, k2, k3, k4]
    · have hn : ¬ (0 ≤ b ∧ b ≤ 100000 ∧ fineB (tunedN f kind b)) := fun h => hb ⟨h.1, h.2.1⟩
      simp [hf', hb, hn]
  · have hf' : ¬ (1 ≤ f ∧ f ≤ 10000000) := hf
    simp [hf, hf']

theorem FnExactTunedPitch : laws_FnExactTunedPitch.Pure := by
  intro a b c _ _ _
  refine ⟨3, ?_⟩
  unfold laws_FnExactTunedPitch.f
  simp [spec_TunedPitch_eq, impl_TunedPitch_eq]

end Go.Proofs.Ytdipihdbplkdiaa.Pure
