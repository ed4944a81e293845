/- Beats that were tuned are heard: for every code the law returns true. No condition. -/
import Derived.Test.YtdipihdbplkdiaaPFnTunedx1
import Derived.Test.YtdipihdbplkdiaaPFnTunedx2
import Derived.OpenShut
namespace Go.Proofs.Ytdipihdbplkdiaa.Pure
open Go.RowKit Go.Proofs.Ytdipihdbplkdiaa.PFnTuned Go.Proofs.YtdipihdbplkdiaaW.PrintWords Go.Proofs.YtdipihdbplkdiaaW.PrintLast Go.Proofs.YtdipihdbplkdiaaW.PrintMore
set_option linter.unusedVariables false
set_option linter.unusedSimpArgs false
theorem w64 {x : Int} (h : -9223372036854775808 ≤ x) (h' : x ≤ 9223372036854775807) : wrap64 x = x := by unfold wrap64; omega
theorem wf64 {x : Int} (h : (Lit.int .i64 x).wf = true) : -9223372036854775808 ≤ x ∧ x ≤ 9223372036854775807 := by
  simp only [Lit.wf, IntKind.min, IntKind.max, IntKind.signed, IntKind.bits, Bool.and_eq_true, decide_eq_true_eq, if_true] at h
  omega
theorem wfu8 {x : Int} (h : (Lit.int .u8 x).wf = true) : 0 ≤ x ∧ x ≤ 255 := by
  simp [Lit.wf, IntKind.min, IntKind.max, IntKind.signed, IntKind.bits] at h
  omega
theorem mx_def (a b : Int) : mx a b = max a b := by unfold mx; omega
theorem mn_def (a b : Int) : mn a b = min a b := by unfold mn; omega
theorem fuel {n k : Nat} (h : n < k) : ∃ m, k = m + 1 ∧ n ≤ m := ⟨k - 1, by omega, by omega⟩
theorem gcd_tmod (a b : Int) : Int.gcd b (Int.tmod a b) = Int.gcd a b := by
  unfold Int.gcd
  rw [Int.natAbs_tmod, Nat.gcd_comm, ← Nat.gcd_rec, Nat.gcd_comm]
theorem tmod_lt (a : Int) {b : Int} (h : b ≠ 0) : (Int.tmod a b).natAbs < b.natAbs := by
  rw [Int.natAbs_tmod]
  exact Nat.mod_lt _ (by omega)
theorem drop_rd {l : List Int} {i : Nat} (h : i < l.length) : l.drop i = rd l (i : Int) :: l.drop (i + 1) := by
  rw [List.drop_eq_getElem_cons h]
  simp [rd, List.getD, List.getElem?_eq_getElem h]
theorem rd_get {l : List Int} {i : Nat} (h : i < l.length) : rd l (i : Int) = l[i] := by simp [rd, List.getD, List.getElem?_eq_getElem h]
theorem up_one {i n : Nat} (h : i < n) (hn : n ≤ 9223372036854775807) : wrap64 ((i : Int) + 1) = ((i + 1 : Nat) : Int) := by rw [w64 (by omega) (by omega)]; omega
theorem rd_mem {l : List Int} {i : Nat} (h : i < l.length) : rd l (i : Int) ∈ l := by rw [rd_get h]; exact List.getElem_mem h

/-- What is heard. -/
def beatsF (f t kind : Int) : Int :=
  if 1 ≤ f ∧ f ≤ 10000000 ∧ 1 ≤ t ∧ t ≤ 10000000 then
    (if kind = 1 then max (3 * f - 2 * t) (2 * t - 3 * f) else if kind = 2 then max (3 * f - 4 * t) (4 * t - 3 * f)
     else if kind = 3 then max (2 * f - t) (t - 2 * f) else if kind = 4 then max (f - 2 * t) (2 * t - f) else -1)
  else -1

theorem tdiv_nn {x : Int} (d : Int) (h : 0 ≤ x) : Int.tdiv x d = x / d := Int.tdiv_eq_ediv_of_nonneg h
/-- The pitch that a step comes to, before it is held against the bounds. -/
def tunedN (f kind b : Int) : Int :=
  if kind = 1 then max (3 * f - b) 0 / 2 else if kind = 2 then max (3 * f - b) 0 / 4
  else if kind = 3 ∧ b = 0 then 2 * f else if kind = 4 ∧ b = 0 then f / 2 else 0
def fineB (n : Int) : Prop := 1 ≤ n ∧ n ≤ 10000000
instance (n : Int) : Decidable (fineB n) := by unfold fineB; infer_instance
/-- The pitch that a step comes to. -/
def tunedF (f kind b : Int) : Int :=
  if fineB f ∧ 0 ≤ b ∧ b ≤ 100000 ∧ fineB (tunedN f kind b) then tunedN f kind b else 0
theorem tunedN_rng {f b : Int} (kind : Int) (hf : fineB f) (hb : 0 ≤ b ∧ b ≤ 100000) : 0 ≤ tunedN f kind b ∧ tunedN f kind b ≤ 20000000 := by
  unfold fineB at hf
  unfold tunedN
  (repeat' split) <;> omega
theorem pay3 {f b : Int} (hf : fineB f) (hb : 0 ≤ b ∧ b ≤ 100000) : wrap64 (wrap64 (3 * f) - b) = 3 * f - b := by
  unfold fineB at hf
  rw [w64 (x := 3 * f) (by omega) (by omega), w64 (by omega) (by omega)]
theorem pay3l {f b : Int} (hf : fineB f) (hb : 0 ≤ b ∧ b ≤ 100000) (d : Int) (hd : d = 2 ∨ d = 4) : wrap64 (Int.tdiv (mx 0 (wrap64 (wrap64 (3 * f) - b))) d) = max (3 * f - b) 0 / d := by
  rw [pay3 hf hb, mx_def, Int.max_comm, tdiv_nn d (by omega)]
  unfold fineB at hf
  rcases hd with rfl | rfl <;> exact w64 (by omega) (by omega)
theorem pay3r {f b : Int} (hf : fineB f) (hb : 0 ≤ b ∧ b ≤ 100000) (d : Int) (hd : d = 2 ∨ d = 4) : wrap64 (Int.tdiv (mx (wrap64 (wrap64 (3 * f) - b)) 0) d) = max (3 * f - b) 0 / d := by
  rw [pay3 hf hb, mx_def, tdiv_nn d (by omega)]
  unfold fineB at hf
  rcases hd with rfl | rfl <;> exact w64 (by omega) (by omega)
theorem payh {f : Int} (hf : fineB f) : wrap64 (Int.tdiv f 2) = f / 2 := by
  unfold fineB at hf
  rw [tdiv_nn 2 (by omega)]
  exact w64 (by omega) (by omega)
theorem payd {f : Int} (hf : fineB f) : wrap64 (2 * f) = 2 * f := by
  unfold fineB at hf
  exact w64 (by omega) (by omega)

/-- The last eight bits of whatever: a byte. -/
theorem and255 (x : Int) : 0 ≤ Go.bits .and .i64 x 255 ∧ Go.bits .and .i64 x 255 ≤ 255 := by
  have e : (BitVec.ofInt IntKind.i64.bits 255).toNat = 255 := by decide
  have h : Go.bits .and .i64 x 255 = IntKind.i64.wrap (((BitVec.ofInt IntKind.i64.bits x).toNat &&& 255 : Nat) : Int) := by
    unfold Go.bits
    simp only [BitVec.toNat_and]
    rw [e]
  have hle : (BitVec.ofInt IntKind.i64.bits x).toNat &&& 255 ≤ 255 := Nat.and_le_right
  rw [h, IntKind.wrap_i64]
  omega
/-- A cursor into the code. -/
def curB (l : List Int) (i : Int) : Prop := 0 ≤ i ∧ i ≤ (l.length : Int)

theorem impl_within_eq (a b c : Int) : impl_within.f a b c = some (decide (b ≤ a ∧ a ≤ c)) := by
  unfold impl_within.f; by_cases h : b ≤ a <;> by_cases h2 : a ≤ c <;> simp [h, h2]

theorem impl_isFine_eq (a : Int) : impl_isFine.f a = some (decide (1 ≤ a ∧ a ≤ 10000000)) := by
  unfold impl_isFine.f; rw [impl_within_eq]; simp

theorem impl_apart_eq (a b : Int) : impl_apart.f a b = some (max (wrap64 (a - b)) (wrap64 (b - a))) := by
  unfold impl_apart.f; rw [mx_def]

theorem impl_BeatsHeard_eq {k : Nat} (hk : 0 < k) (f t kind : Int) : impl_BeatsHeard.f k f t kind = some (beatsF f t kind) := by
  obtain ⟨k, rfl⟩ : ∃ m, k = m + 1 := ⟨k - 1, by omega⟩
  unfold impl_BeatsHeard.f beatsF
  simp only [impl_isFine_eq, Option.bind_some, impl_BeatsHeard.j0, impl_apart_eq]
  by_cases hf : 1 ≤ f ∧ f ≤ 10000000
  · by_cases ht : 1 ≤ t ∧ t ≤ 10000000
    · have a1 : wrap64 (3 * f) = 3 * f := w64 (by omega) (by omega)
      have a2 : wrap64 (2 * t) = 2 * t := w64 (by omega) (by omega)
      have a3 : wrap64 (4 * t) = 4 * t := w64 (by omega) (by omega)
      have a4 : wrap64 (2 * f) = 2 * f := w64 (by omega) (by omega)
      have b1 : wrap64 (3 * f - 2 * t) = 3 * f - 2 * t := w64 (by omega) (by omega)
      have b2 : wrap64 (2 * t - 3 * f) = 2 * t - 3 * f := w64 (by omega) (by omega)
      have b3 : wrap64 (3 * f - 4 * t) = 3 * f - 4 * t := w64 (by omega) (by omega)
      have b4 : wrap64 (4 * t - 3 * f) = 4 * t - 3 * f := w64 (by omega) (by omega)
      have b5 : wrap64 (2 * f - t) = 2 * f - t := w64 (by omega) (by omega)
      have b6 : wrap64 (t - 2 * f) = t - 2 * f := w64 (by omega) (by omega)
      have b7 : wrap64 (f - 2 * t) = f - 2 * t := w64 (by omega) (by omega)
      have b8 : wrap64 (2 * t - f) = 2 * t - f := w64 (by omega) (by omega)
      simp only [a1, a2, a3, a4, b1, b2, b3, b4, b5, b6, b7, b8]
      simp only [hf, ht, and_self, decide_true, Bool.not_true, Bool.false_eq_true, if_true, if_false]
      by_cases k1 : kind = 1
      · simp [k1]
      by_cases k2 : kind = 2
      · simp [k2]
      by_cases k3 : kind = 3
      · simp [k3]
      by_cases k4 : kind = 4
      · simp [k4]
      simp [k1, k2, k3, k4]
    · have : ¬ (1 ≤ f ∧ f ≤ 10000000 ∧ 1 ≤ t ∧ t ≤ 10000000) := by omega
      simp [hf, ht, this]
  · have : ¬ (1 ≤ f ∧ f ≤ 10000000 ∧ 1 ≤ t ∧ t ≤ 10000000) := by omega
    simp [hf, this]

theorem impl_IsNarrow_eq {k : Nat} (hk : 0 < k) (f t kind : Int) : impl_IsNarrow.f k f t kind = some (decide (0 < beatsF f t kind ∧ (kind = 1 ∧ 3 * f > 2 * t ∨ kind = 2 ∧ 3 * f > 4 * t))) := by
  unfold impl_IsNarrow.f
  rw [impl_BeatsHeard_eq hk, Option.bind_some]
  by_cases hb : beatsF f t kind ≤ 0
  · have : ¬ 0 < beatsF f t kind := by omega
    simp [hb, this]
  · have hp : 0 < beatsF f t kind := by omega
    have hr : 1 ≤ f ∧ f ≤ 10000000 ∧ 1 ≤ t ∧ t ≤ 10000000 := by
      rcases Decidable.em (1 ≤ f ∧ f ≤ 10000000 ∧ 1 ≤ t ∧ t ≤ 10000000) with h | h
      · exact h
      · unfold beatsF at hp; rw [if_neg h] at hp; omega
    have a1 : wrap64 (3 * f) = 3 * f := w64 (by omega) (by omega)
    have a2 : wrap64 (2 * t) = 2 * t := w64 (by omega) (by omega)
    have a3 : wrap64 (4 * t) = 4 * t := w64 (by omega) (by omega)
    simp only [a1, a2, a3, hp, true_and]
    rw [if_neg hb]
    by_cases k1 : kind = 1
    · subst k1; by_cases h3 : 3 * f > 2 * t <;> simp [h3]
    · by_cases k2 : kind = 2
      · subst k2; simp
      · simp [k1, k2]

theorem impl_TunedPitch_eq {k : Nat} (hk : 0 < k) (f kind b : Int) : impl_TunedPitch.f k f kind b = some (tunedF f kind b) := by
  obtain ⟨k, rfl⟩ : ∃ m, k = m + 1 := ⟨k - 1, by omega⟩
  unfold impl_TunedPitch.f tunedF
  simp only [impl_isFine_eq, impl_within_eq, Option.bind_some, impl_TunedPitch.j0]
  by_cases hf : fineB f
  · have hf' : 1 ≤ f ∧ f ≤ 10000000 := hf
    by_cases hb : 0 ≤ b ∧ b ≤ 100000
    · rw [pay3r hf hb 2 (.inl rfl), pay3r hf hb 4 (.inr rfl), payh hf, payd hf]
      simp only [hf', hb, and_self, decide_true, if_true, hf, true_and]
      by_cases k1 : kind = 1
      · subst k1
        have e : tunedN f 1 b = max (3 * f - b) 0 / 2 := by simp [tunedN]
        rw [e]
        by_cases b0 : b = 0 <;> by_cases hn : fineB (max (3 * f - b) 0 / 2) <;> (unfold fineB at hn; simp_all [fineB]) <;> (split <;> rename_i hh <;> simp [hh])
      by_cases k2 : kind = 2
      · subst k2
        have e : tunedN f 2 b = max (3 * f - b) 0 / 4 := by simp [tunedN]
        rw [e]
        by_cases b0 : b = 0 <;> by_cases hn : fineB (max (3 * f - b) 0 / 4) <;> (unfold fineB at hn; simp_all [fineB]) <;> (split <;> rename_i hh <;> simp [hh])
      by_cases k3 : kind = 3
      · subst k3
        by_cases b0 : b = 0
        · have e : tunedN f 3 b = 2 * f := by simp [tunedN, b0]
          rw [e]
          by_cases hn : fineB (2 * f) <;> (unfold fineB at hn; simp_all [fineB]) <;> (split <;> rename_i hh <;> simp [hh])
        · have e : tunedN f 3 b = 0 := by simp [tunedN, b0]
          rw [e]; simp [b0]
      by_cases k4 : kind = 4
      · subst k4
        by_cases b0 : b = 0
        · have e : tunedN f 4 b = f / 2 := by simp [tunedN, b0]
          rw [e]
          by_cases hn : fineB (f / 2) <;> (unfold fineB at hn; simp_all [fineB]) <;> (split <;> rename_i hh <;> simp [hh])
        · have e : tunedN f 4 b = 0 := by simp [tunedN, b0]
          rw [e]; simp [b0]
      have e : tunedN f kind b = 0 := by simp [tunedN, k1, k2, k3, k4]
      rw [e]
      by_cases b0 : b = 0 <;> simp [b0, k1, k2, k3, k4]
    · have hn : ¬ (0 ≤ b ∧ b ≤ 100000 ∧ fineB (tunedN f kind b)) := fun h => hb ⟨h.1, h.2.1⟩
      simp [hf', hb, hn]
  · have hf' : ¬ (1 ≤ f ∧ f ≤ 10000000) := hf
    simp [hf, hf']

theorem laws_big_eq (l : List Int) : laws_big.f l = some (decide ((l.length : Int) > 1048576)) := rfl

theorem spec_l01New_l0 (d : Nat) : ∀ (k : Nat) (l : List Int) (h : Int) (i : Nat), i + d = l.length → d < k → l.length ≤ 140737488351232 → ∃ h', spec_l01New.l0 k l h (i : Int) = some (l, 0, h') := by
  induction d with
  | zero =>
    intro k l h i hi hk hn
    obtain ⟨k, rfl⟩ : ∃ m, k = m + 1 := ⟨k - 1, by omega⟩
    simp only [spec_l01New.l0]
    rw [if_neg (by omega)]
    exact ⟨h, rfl⟩
  | succ d ih =>
    intro k l h i hi hk hn
    obtain ⟨k, rfl⟩ : ∃ m, k = m + 1 := ⟨k - 1, by omega⟩
    simp only [spec_l01New.l0]
    rw [if_pos (by omega), up_one (n := l.length) (by omega) (by omega)]
    by_cases h4 : (i : Int) < 4000
    · rw [if_pos h4, if_pos (by omega)]
      exact ih k l _ (i + 1) (by omega) (by omega) hn
    · rw [if_neg h4]
      exact ⟨h, rfl⟩
theorem spec_l01New_eq {k : Nat} {l : List Int} (hk : l.length < k) (hn : l.length ≤ 140737488351232) : ∃ h, spec_l01New.f k l = some (l, 0, h) := by
  unfold spec_l01New.f
  exact spec_l01New_l0 l.length k l _ 0 (by omega) hk hn

theorem spec_l01Byte_eq {l : List Int} (hn : l.length ≤ 140737488351232) (i h : Int) (hi : curB l i) : ∃ b i' h', spec_l01Byte.f l i h = some (b, i', h') ∧ 0 ≤ b ∧ b ≤ 255 ∧ curB l i' := by
  unfold curB at *
  unfold spec_l01Byte.f
  by_cases hc : i < (l.length : Int)
  · rw [if_pos hc, if_pos hi.1]
    refine ⟨_, _, _, rfl, (and255 _).1, (and255 _).2, ?_⟩
    rw [w64 (by omega) (by omega)]
    omega
  · rw [if_neg hc]
    exact ⟨_, _, _, rfl, (and255 _).1, (and255 _).2, hi⟩

theorem spec_l01Below_eq {l : List Int} (hn : l.length ≤ 140737488351232) (i h n : Int) (hi : curB l i) (h1 : 1 ≤ n) : ∃ v i' h', spec_l01Below.f l i h n = some (v, i', h') ∧ 0 ≤ v ∧ v < n ∧ curB l i' := by
  unfold spec_l01Below.f
  rw [if_neg (by omega)]
  by_cases h2 : n ≤ 256
  · rw [if_pos h2]
    obtain ⟨b, i', h', e, b0, b1, hi'⟩ := spec_l01Byte_eq hn i h hi
    rw [e]
    simp only [Option.bind_some]
    rw [if_neg (by omega)]
    exact ⟨_, _, _, rfl, Int.tmod_nonneg _ b0, Int.tmod_lt_of_pos _ (by omega), hi'⟩
  · rw [if_neg h2]
    obtain ⟨x, i1, h1', e, x0, x1, hi1⟩ := spec_l01Byte_eq hn i h hi
    rw [e]
    simp only [Option.bind_some]
    obtain ⟨y, i2, h2', e2, y0, y1, hi2⟩ := spec_l01Byte_eq hn i1 h1' hi1
    rw [e2]
    simp only [Option.bind_some]
    obtain ⟨z, i3, h3', e3, z0, z1, hi3⟩ := spec_l01Byte_eq hn i2 h2' hi2
    rw [e3]
    simp only [Option.bind_some]
    obtain ⟨u, i4, h4', e4, u0, u1, hi4⟩ := spec_l01Byte_eq hn i3 h3' hi3
    rw [e4]
    simp only [Option.bind_some]
    rw [if_neg (by omega), w64 (x := x * 16777216) (by omega) (by omega), w64 (x := y * 65536) (by omega) (by omega), w64 (x := z * 256) (by omega) (by omega), w64 (x := x * 16777216 + y * 65536) (by omega) (by omega),
      w64 (x := x * 16777216 + y * 65536 + z * 256) (by omega) (by omega), w64 (x := x * 16777216 + y * 65536 + z * 256 + u) (by omega) (by omega)]
    exact ⟨_, _, _, rfl, Int.tmod_nonneg _ (by omega), Int.tmod_lt_of_pos _ (by omega), hi4⟩

theorem spec_DrawTuning_eq {k : Nat} {l : List Int} (hk : l.length < k) (hn : l.length ≤ 140737488351232) : ∃ f c b, spec_DrawTuning.f k l = some (f, c, b) ∧ 100000 ≤ f ∧ f < 600000 ∧ (c = 1 ∨ c = 2) ∧ 0 ≤ b ∧ b < 3000 := by
  unfold spec_DrawTuning.f
  obtain ⟨h, e⟩ := spec_l01New_eq hk hn
  rw [e]
  simp only [Option.bind_some]
  obtain ⟨a, i1, h1, e1, a0, a1, c1⟩ := spec_l01Below_eq hn 0 h 500000 ⟨by omega, by omega⟩ (by omega)
  rw [e1]
  simp only [Option.bind_some]
  obtain ⟨b, i2, h2, e2, b0, b1, c2⟩ := spec_l01Below_eq hn i1 h1 2 c1 (by omega)
  rw [e2]
  simp only [Option.bind_some]
  obtain ⟨c, i3, h3, e3, d0, d1, c3⟩ := spec_l01Below_eq hn i2 h2 3000 c2 (by omega)
  rw [e3]
  simp only [Option.bind_some]
  refine ⟨_, _, _, rfl, ?_⟩
  rw [w64 (by omega) (by omega), w64 (by omega) (by omega)]
  omega

theorem FnTuned : laws_FnTuned.Pure := by
  intro l _ hl _
  refine ⟨l.length + 3, ?_⟩
  unfold laws_FnTuned.f
  rw [laws_big_eq]
  simp only [Option.bind_some, decide_eq_true_eq]
  by_cases hb : (l.length : Int) > 1048576
  · rw [if_pos hb]
  · rw [if_neg hb]
    obtain ⟨f, c, b, e, f0, f1, hc, b0, b1⟩ := spec_DrawTuning_eq (k := l.length + 3) (l := l) (by omega) (by omega)
    rw [e]
    simp only [Option.bind_some]
    rw [impl_TunedPitch_eq (by omega), impl_TunedPitch_eq (by omega)]
    simp only [Option.bind_some]
    rw [impl_BeatsHeard_eq (by omega)]
    simp only [Option.bind_some]
    rw [impl_BeatsHeard_eq (by omega), impl_TunedPitch_eq (by omega), impl_IsNarrow_eq (by omega)]
    simp only [Option.bind_some]
    have e3 : tunedF f 3 0 = 2 * f := by
      unfold tunedF
      have : tunedN f 3 0 = 2 * f := by simp [tunedN]
      rw [this, if_pos (by unfold fineB; omega)]
    have e4 : tunedF (2 * f) 4 0 = f := by
      unfold tunedF
      have : tunedN (2 * f) 4 0 = f := by simp [tunedN]
      rw [this, if_pos (by unfold fineB; omega)]
    have h3 : beatsF f (2 * f) 3 = 0 := by
      unfold beatsF
      rw [if_pos (by omega)]
      simp
    rw [e3, e4, h3]
    rw [show wrap64 (b + wrap64 (2 * c)) = b + 2 * c by rw [w64 (x := 2 * c) (by omega) (by omega), w64 (by omega) (by omega)]]
    rcases hc with rfl | rfl
    · have ht : tunedF f 1 b = (3 * f - b) / 2 := by
        unfold tunedF
        have : tunedN f 1 b = (3 * f - b) / 2 := by simp [tunedN]; omega
        rw [this, if_pos (by unfold fineB; omega)]
      have hh : beatsF f (tunedF f 1 b) 1 = 3 * f - 2 * ((3 * f - b) / 2) := by
        rw [ht]
        unfold beatsF
        rw [if_pos (by omega)]
        simp
        omega
      rw [hh, ht, if_pos (by omega), if_pos (by omega), if_pos (by omega)]
      by_cases h0 : 3 * f - 2 * ((3 * f - b) / 2) = 0
      · simp [h0]
      · rw [if_neg h0]
        have hn : 0 < 3 * f - 2 * ((3 * f - b) / 2) := by omega
        simp only [ht]
        simp
        omega
    · have ht : tunedF f 2 b = (3 * f - b) / 4 := by
        unfold tunedF
        have : tunedN f 2 b = (3 * f - b) / 4 := by simp [tunedN]; omega
        rw [this, if_pos (by unfold fineB; omega)]
      have hh : beatsF f (tunedF f 2 b) 2 = 3 * f - 4 * ((3 * f - b) / 4) := by
        rw [ht]
        unfold beatsF
        rw [if_pos (by omega)]
        simp
        omega
      rw [hh, ht, if_pos (by omega), if_pos (by omega), if_pos (by omega)]
      by_cases h0 : 3 * f - 4 * ((3 * f - b) / 4) = 0
      · simp [h0]
      · rw [if_neg h0]
        have hn : 0 < 3 * f - 4 * ((3 * f - b) / 4) := by omega
        simp only [ht]
        simp
        omega

end Go.Proofs.Ytdipihdbplkdiaa.Pure
