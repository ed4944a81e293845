/- RunPlan of the program and of the reference answer alike, for every start and every plan; the plan stands as it was, and the answer is new memory. No condition. -/
import Derived.Test.YthhcpfaabnanoaaPFnExactRunPlanx1
import Derived.Test.YthhcpfaabnanoaaPFnExactRunPlanx2
import Derived.Test.YthhcpfaabnanoaaPFnExactRunPlanx3
import Derived.Test.YthhcpfaabnanoaaPFnExactRunPlanx4
import Derived.Test.YthhcpfaabnanoaaPFnExactRunPlanx5
import Derived.Test.YthhcpfaabnanoaaPFnExactRunPlanx6
import Derived.Test.YthhcpfaabnanoaaPFnExactRunPlanx7
import Derived.OpenShut
namespace Go.Proofs.Ythhcpfaabnanoaa.Pure
open Go.RowKit Go.Proofs.Ythhcpfaabnanoaa.PFnExactRunPlan Go.Proofs.YthhcpfaabnanoaaW.PrintWords Go.Proofs.YthhcpfaabnanoaaW.PrintLast Go.Proofs.YthhcpfaabnanoaaW.PrintMore
set_option linter.unusedVariables false
set_option linter.unusedSimpArgs false
theorem w64 {x : Int} (h : -9223372036854775808 ≤ x) (h' : x ≤ 9223372036854775807) : wrap64 x = x := by unfold wrap64; omega
theorem wf64 {x : Int} (h : (Lit.int .i64 x).wf = true) : -9223372036854775808 ≤ x ∧ x ≤ 9223372036854775807 := by
  simp only [Lit.wf, IntKind.min, IntKind.max, IntKind.signed, IntKind.bits, Bool.and_eq_true, decide_eq_true_eq, if_true] at h
  omega
theorem wfu8 {x : Int} (h : (Lit.int .u8 x).wf = true) : 0 ≤ x ∧ x ≤ 255 := by
  simp [Lit.wf, IntKind.min, IntKind.max, IntKind.signed, IntKind.bits] at h
  omega
theorem mx_def (a b : Int) : mx a b = max a b := by unfold mx; omega
theorem mn_def (a b : Int) : mn a b = min a b := by unfold mn; omega
theorem fuel {n k : Nat} (h : n < k) : ∃ m, k = m + 1 ∧ n ≤ m := ⟨k - 1, by omega, by omega⟩
theorem gcd_tmod (a b : Int) : Int.gcd b (Int.tmod a b) = Int.gcd a b := by
  unfold Int.gcd
  rw [Int.natAbs_tmod, Nat.gcd_comm, ← Nat.gcd_rec, Nat.gcd_comm]
theorem tmod_lt (a : Int) {b : Int} (h : b ≠ 0) : (Int.tmod a b).natAbs < b.natAbs := by
  rw [Int.natAbs_tmod]
  exact Nat.mod_lt _ (by omega)
theorem drop_rd {l : List Int} {i : Nat} (h : i < l.length) : l.drop i = rd l (i : Int) :: l.drop (i + 1) := by
  rw [List.drop_eq_getElem_cons h]
  simp [rd, List.getD, List.getElem?_eq_getElem h]
theorem rd_get {l : List Int} {i : Nat} (h : i < l.length) : rd l (i : Int) = l[i] := by simp [rd, List.getD, List.getElem?_eq_getElem h]
theorem up_one {i n : Nat} (h : i < n) (hn : n ≤ 9223372036854775807) : wrap64 ((i : Int) + 1) = ((i + 1 : Nat) : Int) := by rw [w64 (by omega) (by omega)]; omega
theorem rd_mem {l : List Int} {i : Nat} (h : i < l.length) : rd l (i : Int) ∈ l := by rw [rd_get h]; exact List.getElem_mem h
theorem maxLen_le {n : Nat} (h : n ≤ maxLen) : (n : Int) ≤ 9223372036854775807 := by unfold maxLen at h; omega

abbrev St := S32
theorem rdT_nat {x : List St} {i : Nat} (h : i < x.length) : rd_T32 x (i : Int) = x[i] := by simp [rd_T32, List.getD, List.getElem?_eq_getElem h]
theorem rdT_set {x : List St} {i : Nat} (h : i < x.length) (v : St) : rd_T32 (x.set i v) (i : Int) = v := by
  rw [rdT_nat (by simpa using h)]
  simp
theorem st_eta (s : St) : (⟨s.f0, s.f1, s.f2, s.f3⟩ : St) = s := rfl
theorem st_ext {s t : St} (h0 : s.f0 = t.f0) (h1 : s.f1 = t.f1) (h2 : s.f2 = t.f2) (h3 : s.f3 = t.f3) : s = t := by
  cases s; cases t; simp at h0 h1 h2 h3; subst h0 h1 h2 h3; rfl
def stB (s t : St) : Bool := decide (s.f0 = t.f0 ∧ s.f1 = t.f1 ∧ s.f2 = t.f2 ∧ s.f3 = t.f3)
theorem stB_iff (s t : St) : stB s t = true ↔ s = t := by
  unfold stB
  rw [decide_eq_true_eq]
  exact ⟨fun ⟨a, b, c, d⟩ => st_ext a b c d, fun h => by rw [h]; simp⟩
instance : DecidableEq St := fun s t => decidable_of_iff (stB s t = true) (stB_iff s t)
theorem drop_rdT {x : List St} {i : Nat} (h : i < x.length) : x.drop i = rd_T32 x (i : Int) :: x.drop (i + 1) := by
  rw [List.drop_eq_getElem_cons h, rdT_nat h]

abbrev LSt := S66
/-- A step of the law's own kind, as the program's. -/
def stepOf (s : LSt) : St := ⟨s.f0, s.f1, s.f2, s.f3⟩
def planOf (l : List LSt) : List St := l.map stepOf
theorem planOf_len (l : List LSt) : (planOf l).length = l.length := by simp [planOf]
theorem rdL_nat {x : List LSt} {i : Nat} (h : i < x.length) : rd_T66 x (i : Int) = x[i] := by simp [rd_T66, List.getD, List.getElem?_eq_getElem h]

/-- Step number i of a plan that runs key after key from key 0. -/
def stepOk (s : St) (i : Nat) : Bool := decide ((s.f2 = 1 ∨ s.f2 = 2) ∧ (0 ≤ s.f3 ∧ s.f3 ≤ 5000) ∧ s.f0 = i ∧ s.f1 = i + 1 ∧ i ≤ 10)
def planAt : List St → Nat → Bool
  | [], _ => true
  | s :: l, i => stepOk s i && planAt l (i + 1)
/-- A plan that holds. -/
def planB (l : List St) : Bool := planAt l 0
theorem planAt_len : ∀ (l : List St) (i : Nat), i ≤ 11 → planAt l i = true → i + l.length ≤ 11
  | [], i, hi, _ => by simpa using hi
  | s :: l, i, hi, h => by
    simp only [planAt, stepOk, Bool.and_eq_true, decide_eq_true_eq] at h
    have := planAt_len l (i + 1) (by omega) h.2
    simp only [List.length_cons]
    omega
theorem planAt_get : ∀ (l : List St) (i : Nat), planAt l i = true → ∀ (j : Nat) (h : j < l.length), stepOk l[j] (i + j) = true
  | [], _, _, j, h => absurd h (by simp)
  | s :: l, i, hp, j, h => by
    simp only [planAt, Bool.and_eq_true] at hp
    cases j with
    | zero => simpa using hp.1
    | succ j =>
      have := planAt_get l (i + 1) hp.2 j (by simpa using h)
      rw [show i + (j + 1) = i + 1 + j by omega]
      simpa using this
theorem planB_len {l : List St} (h : planB l = true) : l.length ≤ 11 := by have := planAt_len l 0 (by omega) h; omega
theorem planB_at {l : List St} (h : planB l = true) {j : Nat} (hj : j < l.length) :
    ((rd_T32 l (j : Int)).f2 = 1 ∨ (rd_T32 l (j : Int)).f2 = 2) ∧ (0 ≤ (rd_T32 l (j : Int)).f3 ∧ (rd_T32 l (j : Int)).f3 ≤ 5000) ∧ (rd_T32 l (j : Int)).f0 = j ∧ (rd_T32 l (j : Int)).f1 = (j : Int) + 1 := by
  have := planAt_get l 0 h j hj
  rw [rdT_nat hj]
  simp only [stepOk, decide_eq_true_eq, Nat.zero_add] at this
  exact ⟨this.1, this.2.1, this.2.2.1, this.2.2.2.1⟩
/-- Keys 0 to i are tuned. -/
def tuD (i : Nat) : List Bool := (List.range 12).map fun j => decide (j ≤ i)
theorem tuD_len (i : Nat) : (tuD i).length = 12 := by simp [tuD]
theorem tuD_at (i : Nat) {x : Int} (h0 : 0 ≤ x) (h1 : x ≤ 11) : rdOf false (tuD i) x = decide (x ≤ i) := by
  obtain ⟨n, rfl⟩ : ∃ n : Nat, x = n := ⟨x.toNat, by omega⟩
  unfold rdOf tuD
  simp [List.getD, List.getElem?_map, List.getElem?_range (show n < 12 by omega)]
theorem tuD_set : ∀ i, i < 11 → (tuD i).set (i + 1) true = tuD (i + 1) := by decide
theorem okD (s : St) {i : Nat} (hi : i ≤ 11) : decide ((s.f2 = 1 ∨ s.f2 = 2) ∧ (0 ≤ s.f3 ∧ s.f3 ≤ 5000) ∧ (0 ≤ s.f0 ∧ s.f0 ≤ 11) ∧ (0 ≤ s.f1 ∧ s.f1 ≤ 11) ∧ s.f1 = (s.f0 + 1) % 12 ∧ rdOf false (tuD i) s.f0 = true ∧ rdOf false (tuD i) s.f1 = false) = stepOk s i := by
  unfold stepOk
  by_cases h : (0 ≤ s.f0 ∧ s.f0 ≤ 11) ∧ (0 ≤ s.f1 ∧ s.f1 ≤ 11)
  · rw [tuD_at i h.1.1 h.1.2, tuD_at i h.2.1 h.2.2]
    refine decide_eq_decide.mpr ⟨fun ⟨a, b, _, _, e, f, g⟩ => ?_, fun ⟨a, b, c, d, e⟩ => ?_⟩
    · simp only [decide_eq_true_eq, decide_eq_false_iff_not] at f g
      refine ⟨a, b, ?_, ?_, ?_⟩ <;> omega
    · simp only [decide_eq_true_eq, decide_eq_false_iff_not]
      refine ⟨a, b, h.1, h.2, ?_, ?_, ?_⟩ <;> omega
  · refine decide_eq_decide.mpr ⟨fun ⟨a, b, c, d, _⟩ => absurd ⟨c, d⟩ h, fun ⟨a, b, c, d, e⟩ => absurd ⟨⟨?_, ?_⟩, ?_, ?_⟩ h⟩ <;> omega

theorem tdiv_nn {x : Int} (d : Int) (h : 0 ≤ x) : Int.tdiv x d = x / d := Int.tdiv_eq_ediv_of_nonneg h
/-- The pitch that a step comes to, before it is held against the bounds. -/
def tunedN (f kind b : Int) : Int :=
  if kind = 1 then max (3 * f - b) 0 / 2 else if kind = 2 then max (3 * f - b) 0 / 4
  else if kind = 3 ∧ b = 0 then 2 * f else if kind = 4 ∧ b = 0 then f / 2 else 0
def fineB (n : Int) : Prop := 1 ≤ n ∧ n ≤ 10000000
instance (n : Int) : Decidable (fineB n) := by unfold fineB; infer_instance
/-- The pitch that a step comes to. -/
def tunedF (f kind b : Int) : Int :=
  if fineB f ∧ 0 ≤ b ∧ b ≤ 100000 ∧ fineB (tunedN f kind b) then tunedN f kind b else 0
theorem tunedN_rng {f b : Int} (kind : Int) (hf : fineB f) (hb : 0 ≤ b ∧ b ≤ 100000) : 0 ≤ tunedN f kind b ∧ tunedN f kind b ≤ 20000000 := by
  unfold fineB at hf
  unfold tunedN
  (repeat' split) <;> omega
theorem pay3 {f b : Int} (hf : fineB f) (hb : 0 ≤ b ∧ b ≤ 100000) : wrap64 (wrap64 (3 * f) - b) = 3 * f - b := by
  unfold fineB at hf
  rw [w64 (x := 3 * f) (by omega) (by omega), w64 (by omega) (by omega)]
theorem pay3l {f b : Int} (hf : fineB f) (hb : 0 ≤ b ∧ b ≤ 100000) (d : Int) (hd : d = 2 ∨ d = 4) : wrap64 (Int.tdiv (mx 0 (wrap64 (wrap64 (3 * f) - b))) d) = max (3 * f - b) 0 / d := by
  rw [pay3 hf hb, mx_def, Int.max_comm, tdiv_nn d (by omega)]
  unfold fineB at hf
  rcases hd with rfl | rfl <;> exact w64 (by omega) (by omega)
theorem pay3r {f b : Int} (hf : fineB f) (hb : 0 ≤ b ∧ b ≤ 100000) (d : Int) (hd : d = 2 ∨ d = 4) : wrap64 (Int.tdiv (mx (wrap64 (wrap64 (3 * f) - b)) 0) d) = max (3 * f - b) 0 / d := by
  rw [pay3 hf hb, mx_def, tdiv_nn d (by omega)]
  unfold fineB at hf
  rcases hd with rfl | rfl <;> exact w64 (by omega) (by omega)
theorem payh {f : Int} (hf : fineB f) : wrap64 (Int.tdiv f 2) = f / 2 := by
  unfold fineB at hf
  rw [tdiv_nn 2 (by omega)]
  exact w64 (by omega) (by omega)
theorem payd {f : Int} (hf : fineB f) : wrap64 (2 * f) = 2 * f := by
  unfold fineB at hf
  exact w64 (by omega) (by omega)

/-- The pitches that a plan comes to, step by step; none where a step comes to no pitch. -/
def runL : List St → List Int → Option (List Int)
  | [], p => some p
  | s :: l, p => if tunedF (rd p s.f0) s.f2 s.f3 = 0 then none else runL l (p.set s.f1.toNat (tunedF (rd p s.f0) s.f2 s.f3))
def runF (start : Int) (l : List St) : List Int × Bool :=
  if planB l = true ∧ (1 ≤ start ∧ start ≤ 10000000) then (match runL l (start :: List.replicate 11 0) with | some p => (p, true) | none => ([], false)) else ([], false)
theorem runL_len : ∀ (l : List St) (p q : List Int), runL l p = some q → q.length = p.length
  | [], p, q, h => by simp [runL] at h; rw [h]
  | s :: l, p, q, h => by
    simp only [runL] at h
    split at h
    · simp at h
    · have := runL_len l _ q h
      simpa using this
theorem runF_len (start : Int) (l : List St) : (runF start l).1.length = 0 ∨ (runF start l).1.length = 12 := by
  unfold runF
  split
  · cases h : runL l (start :: List.replicate 11 0) with
    | none => simp
    | some p => right; have := runL_len l _ p h; simpa using this
  · simp
theorem runF_true {start : Int} {l : List St} (h : (runF start l).2 = true) : (runF start l).1.length = 12 := by
  unfold runF at h ⊢
  split
  · rename_i c
    rw [if_pos c] at h
    cases e : runL l (start :: List.replicate 11 0) with
    | none => rw [e] at h; simp at h
    | some p => have := runL_len l _ p e; simpa using this
  · rename_i c
    rw [if_neg c] at h
    simp at h

theorem impl_within_eq (a b c : Int) : impl_within.f a b c = some (decide (b ≤ a ∧ a ≤ c)) := by
  unfold impl_within.f; by_cases h : b ≤ a <;> by_cases h2 : a ≤ c <;> simp [h, h2]

theorem impl_PlanOk_l0 (d : Nat) : ∀ (k : Nat) (l : List St) (i : Nat), i + d = l.length → d < k → i ≤ 11 → impl_PlanOk.l0 k l (tuD i) (i : Int) = some (planAt (l.drop i) i) := by
  induction d with
  | zero =>
    intro k l i hi hk h11
    obtain ⟨k, rfl⟩ : ∃ m, k = m + 1 := ⟨k - 1, by omega⟩
    simp only [impl_PlanOk.l0]
    rw [if_neg (by omega), List.drop_eq_nil_of_le (by omega)]
    have : (l.length : Int) ≤ 11 := by omega
    simp [planAt, this]
  | succ d ih =>
    intro k l i hi hk h11
    obtain ⟨k, rfl⟩ : ∃ m, k = m + 1 := ⟨k - 1, by omega⟩
    simp only [impl_PlanOk.l0]
    rw [if_pos (by omega), if_pos (by omega), drop_rdT (by omega)]
    simp only [planAt]
    have e : impl_PlanOk.ok (rd_T32 l (i : Int)) (tuD i) = stepOk (rd_T32 l (i : Int)) i := okD _ h11
    rw [e]
    cases c : stepOk (rd_T32 l (i : Int)) i with
    | false => simp
    | true =>
      have c' := c
      simp only [stepOk, decide_eq_true_eq] at c'
      rw [if_pos rfl, show ((rd_T32 l (i : Int)).f1).toNat = i + 1 by omega, tuD_set i (by omega), show wrap64 ((i : Int) + 1) = ((i + 1 : Nat) : Int) by rw [w64 (by omega) (by omega)]; omega, ih k l (i + 1) (by omega) (by omega) (by omega)]
      simp
theorem impl_PlanOk_eq {k : Nat} {l : List St} (hk : l.length < k) : impl_PlanOk.f k l = some (planB l) := by
  unfold impl_PlanOk.f
  by_cases c : (l.length : Int) > 11
  · rw [if_pos c]
    cases h : planB l with
    | false => rfl
    | true => exact absurd (planB_len h) (by omega)
  · rw [if_neg c]
    exact impl_PlanOk_l0 l.length k l 0 (by omega) hk (by omega)

theorem impl_isFine_eq (a : Int) : impl_isFine.f a = some (decide (1 ≤ a ∧ a ≤ 10000000)) := by
  unfold impl_isFine.f; rw [impl_within_eq]; simp

theorem impl_TunedPitch_eq {k : Nat} (hk : 0 < k) (f kind b : Int) : impl_TunedPitch.f k f kind b = some (tunedF f kind b) := by
  obtain ⟨k, rfl⟩ : ∃ m, k = m + 1 := ⟨k - 1, by omega⟩
  unfold impl_TunedPitch.f tunedF
  simp only [impl_isFine_eq, impl_within_eq, Option.bind_some, impl_TunedPitch.j0]
  by_cases hf : fineB f
  · have hf' : 1 ≤ f ∧ f ≤ 10000000 := hf
    by_cases hb : 0 ≤ b ∧ b ≤ 100000
    · rw [pay3r hf hb 2 (.inl rfl), pay3r hf hb 4 (.inr rfl), payh hf, payd hf]
      simp only [hf', hb, and_self, decide_true, if_true, hf, true_and]
      by_cases k1 : kind = 1
      · subst k1
        have e : tunedN f 1 b = max (3 * f - b) 0 / 2 := by simp [tunedN]
        rw [e]
        by_cases b0 : b = 0 <;> by_cases hn : fineB (max (3 * f - b) 0 / 2) <;> (unfold fineB at hn; simp_all [fineB]) <;> (split <;> rename_i hh <;> simp [hh])
      by_cases k2 : kind = 2
      · subst k2
        have e : tunedN f 2 b = max (3 * f - b) 0 / 4 := by simp [tunedN]
        rw [e]
        by_cases b0 : b = 0 <;> by_cases hn : fineB (max (3 * f - b) 0 / 4) <;> (unfold fineB at hn; simp_all [fineB]) <;> (split <;> rename_i hh <;> simp [hh])
      by_cases k3 : kind = 3
      · subst k3
        by_cases b0 : b = 0
        · have e : tunedN f 3 b = 2 * f := by simp [tunedN, b0]
          rw [e]
          by_cases hn : fineB (2 * f) <;> (unfold fineB at hn; simp_all [fineB]) <;> (split <;> rename_i hh <;> simp [hh])
        · have e : tunedN f 3 b = 0 := by simp [tunedN, b0]
          rw [e]; simp [b0]
      by_cases k4 : kind = 4
      · subst k4
        by_cases b0 : b = 0
        · have e : tunedN f 4 b = f / 2 := by simp [tunedN, b0]
          rw [e]
          by_cases hn : fineB (f / 2) <;> (unfold fineB at hn; simp_all [fineB]) <;> (split <;> rename_i hh <;> simp [hh])
        · have e : tunedN f 4 b = 0 := by simp [tunedN, b0]
          rw [e]; simp [b0]
      have e : tunedN f kind b = 0 := by simp [tunedN, k1, k2, k3, k4]
      rw [e]
      by_cases b0 : b = 0 <;> simp [b0, k1, k2, k3, k4]
    · have hn : ¬ (0 ≤ b ∧ b ≤ 100000 ∧ fineB (tunedN f kind b)) := fun h => hb ⟨h.1, h.2.1⟩
      simp [hf', hb, hn]
  · have hf' : ¬ (1 ≤ f ∧ f ≤ 10000000) := hf
    simp [hf, hf']

theorem impl_RunPlan_l0 (d : Nat) : ∀ (k : Nat) (l : List St) (p : List Int) (i : Nat), planB l = true → p.length = 12 → i + d = l.length → d < k →
    impl_RunPlan.l0 k p l (l.length : Int) (i : Int) = some (match runL (l.drop i) p with | some q => (q, true) | none => ([], false)) := by
  induction d with
  | zero =>
    intro k l p i hp hl hi hk
    obtain ⟨k, rfl⟩ : ∃ m, k = m + 1 := ⟨k - 1, by omega⟩
    simp only [impl_RunPlan.l0]
    rw [if_neg (by omega), List.drop_eq_nil_of_le (by omega)]
    simp [runL]
  | succ d ih =>
    intro k l p i hp hl hi hk
    obtain ⟨k, rfl⟩ : ∃ m, k = m + 1 := ⟨k - 1, by omega⟩
    have hs := planB_at hp (show i < l.length by omega)
    have h11 := planB_len hp
    simp only [impl_RunPlan.l0]
    rw [if_pos (by omega), if_pos (by omega), if_pos (by omega), if_pos (by omega), if_pos (by omega)]
    rw [drop_rdT (by omega)]
    simp only [runL]
    by_cases hk0 : 0 < k
    · rw [impl_TunedPitch_eq hk0]
      simp only [Option.bind_some]
      rw [if_pos (by omega), if_pos (by omega)]
      by_cases c : tunedF (rd p (rd_T32 l (i : Int)).f0) (rd_T32 l (i : Int)).f2 (rd_T32 l (i : Int)).f3 = 0
      · rw [if_pos c, if_pos c]
      · rw [if_neg c, if_neg c, show wrap64 ((i : Int) + 1) = ((i + 1 : Nat) : Int) by rw [w64 (by omega) (by omega)]; omega, ih k l _ (i + 1) hp (by simpa using hl) (by omega) (by omega)]
    · omega
theorem impl_RunPlan_eq {k : Nat} {l : List St} (a : Int) (hk : l.length + 3 < k) : impl_RunPlan.f k a l = some (runF a l) := by
  obtain ⟨k, rfl⟩ : ∃ m, k = m + 1 := ⟨k - 1, by omega⟩
  unfold impl_RunPlan.f runF
  rw [impl_PlanOk_eq (by omega)]
  simp only [Option.bind_some, impl_isFine_eq, impl_RunPlan.j0]
  by_cases hp : planB l = true
  · rw [if_pos hp]
    by_cases hs : 1 ≤ a ∧ a ≤ 10000000
    · rw [if_pos (c := planB l = true ∧ (1 ≤ a ∧ a ≤ 10000000)) ⟨hp, hs⟩, decide_eq_true hs]
      have := impl_RunPlan_l0 l.length k l (a :: List.replicate 11 0) 0 hp (by simp) (by omega) (by omega)
      simp only [Bool.not_true, Bool.false_eq_true, if_false]
      rw [if_pos (by omega), if_pos (by simp)]
      exact this
    · rw [if_neg (c := planB l = true ∧ (1 ≤ a ∧ a ≤ 10000000)) (fun h => hs h.2), decide_eq_false hs]
      simp
  · rw [if_neg (c := planB l = true ∧ (1 ≤ a ∧ a ≤ 10000000)) (fun h => hp h.1), if_neg hp]
    simp

theorem laws_szStepS_eq {l : List LSt} (h : l.length ≤ maxLen) : laws_szStepS.f l 1048576 = some (if 1048576 < l.length then -1 else 1048576 - (l.length : Int)) := by
  have h2 := maxLen_le h
  unfold laws_szStepS.f
  rw [w64 (by omega) (by omega)]
  by_cases c : 1048576 < l.length
  · rw [if_pos c, if_pos (by omega)]
  · rw [if_neg c, if_neg (by omega)]

theorem laws_toStepS_l0 (d : Nat) : ∀ (k : Nat) (l : List LSt) (x : List St) (i : Nat), i + d = l.length → d < k → l.length ≤ 8796093022208 → x.length = l.length → (∀ j, j < i → x[j]? = (planOf l)[j]?) →
    laws_toStepS.l0 k l x (i : Int) = some (planOf l) := by
  induction d with
  | zero =>
    intro k l x i hi hk hn hx he
    obtain ⟨k, rfl⟩ : ∃ m, k = m + 1 := ⟨k - 1, by omega⟩
    have := planOf_len l
    simp only [laws_toStepS.l0]
    rw [if_neg (by omega)]
    refine congrArg some (List.ext_getElem? fun j => ?_)
    by_cases hj : j < i
    · exact he j hj
    · rw [List.getElem?_eq_none (by omega), List.getElem?_eq_none (by omega)]
  | succ d ih =>
    intro k l x i hi hk hn hx he
    obtain ⟨k, rfl⟩ : ∃ m, k = m + 1 := ⟨k - 1, by omega⟩
    have := planOf_len l
    simp only [laws_toStepS.l0, laws_toStep.f, Option.bind_some]
    rw [if_pos (by omega), if_pos (by omega), if_pos (by omega), up_one (n := l.length) (by omega) (by omega)]
    refine ih k l _ (i + 1) (by omega) (by omega) hn (by simpa using hx) fun j hj => ?_
    rw [Int.toNat_natCast, List.getElem?_set]
    by_cases hji : i = j
    · subst hji
      rw [if_pos rfl, if_pos (by omega), rdL_nat (by omega)]
      simp [planOf, stepOf, List.getElem?_eq_getElem (show i < l.length by omega)]
    · rw [if_neg hji]
      exact he j (by omega)
theorem laws_toStepS_eq {k : Nat} {l : List LSt} (hk : l.length < k) (hn : l.length ≤ 8796093022208) : laws_toStepS.f k l = some (planOf l) := by
  unfold laws_toStepS.f
  rw [if_pos (by omega), if_pos (by simpa using hn)]
  exact laws_toStepS_l0 l.length k l _ 0 (by omega) hk hn (by simp) (fun j hj => absurd hj (by omega))

theorem laws_eqStep_eq (s t : St) : laws_eqStep.f s.f0 s.f1 s.f2 s.f3 t.f0 t.f1 t.f2 t.f3 = some (decide (s = t)) := by
  unfold laws_eqStep.f
  by_cases h : s = t
  · subst h; simp
  · by_cases h0 : s.f0 = t.f0
    · by_cases h1 : s.f1 = t.f1
      · by_cases h2 : s.f2 = t.f2
        · by_cases h3 : s.f3 = t.f3
          · exact absurd (st_ext h0 h1 h2 h3) h
          · simp [h0, h1, h2, h3, h]
        · simp [h0, h1, h2, h]
      · simp [h0, h1, h]
    · simp [h0, h]
theorem laws_eqStepS_l0 (d : Nat) : ∀ (k : Nat) (l x : List St) (i : Nat), i + d = l.length → d < k → l.length ≤ 1048576 → x.length = l.length →
    laws_eqStepS.l0 k l x (i : Int) = some (decide (l.drop i = x.drop i)) := by
  induction d with
  | zero =>
    intro k l x i hi hk hn hx
    obtain ⟨k, rfl⟩ : ∃ m, k = m + 1 := ⟨k - 1, by omega⟩
    simp only [laws_eqStepS.l0]
    rw [if_neg (by omega), List.drop_eq_nil_of_le (by omega), List.drop_eq_nil_of_le (by omega)]
    simp
  | succ d ih =>
    intro k l x i hi hk hn hx
    obtain ⟨k, rfl⟩ : ∃ m, k = m + 1 := ⟨k - 1, by omega⟩
    simp only [laws_eqStepS.l0]
    rw [if_pos (by omega), if_pos (by omega), if_pos (by omega), up_one (n := l.length) (by omega) (by omega), ih k l x (i + 1) (by omega) (by omega) hn hx,
      drop_rdT (x := l) (i := i) (by omega), drop_rdT (x := x) (i := i) (by omega), laws_eqStep_eq]
    simp only [Option.bind_some, decide_eq_true_eq]
    by_cases h : rd_T32 l (i : Int) = rd_T32 x (i : Int)
    · rw [if_pos h]; simp [h]
    · rw [if_neg h]; simp [h]
theorem laws_eqStepS_eq {k : Nat} {l x : List St} (hk : l.length < k) (hn : l.length ≤ 1048576) : laws_eqStepS.f k l x = some (decide (l = x)) := by
  unfold laws_eqStepS.f
  by_cases h : x.length = l.length
  · rw [if_pos (by omega)]
    exact laws_eqStepS_l0 l.length k l x 0 (by omega) hk hn h
  · rw [if_neg (by omega)]
    have : l ≠ x := fun e => h (by rw [e])
    simp [this]

theorem laws_markStepS_l0 (d : Nat) : ∀ (k : Nat) (x : List St) (a : Int) (i : Nat), i + d = x.length → d < k → x.length ≤ 1048576 → 0 ≤ a → a + 4 * d ≤ 9000000000000000000 →
    ∃ y : List St, laws_markStepS.l0 k x a (i : Int) = some (a + 4 * d, y) ∧ y.length = x.length ∧ (∀ j, j < i → y[j]? = x[j]?) ∧ (∀ j, i ≤ j → j < x.length → y[j]? = some ⟨a + 4 * (j - i : Int), a + 4 * (j - i : Int) + 1, a + 4 * (j - i : Int) + 1 + 1, a + 4 * (j - i : Int) + 1 + 1 + 1⟩) := by
  induction d with
  | zero =>
    intro k x a i hi hk hn ha hb
    obtain ⟨k, rfl⟩ : ∃ m, k = m + 1 := ⟨k - 1, by omega⟩
    simp only [laws_markStepS.l0]
    rw [if_neg (by omega)]
    exact ⟨x, by simp, rfl, fun _ _ => rfl, fun j h1 h2 => by omega⟩
  | succ d ih =>
    intro k x a i hi hk hn ha hb
    obtain ⟨k, rfl⟩ : ∃ m, k = m + 1 := ⟨k - 1, by omega⟩
    simp only [laws_markStepS.l0]
    have hi' : i < x.length := by omega
    rw [if_pos (by omega), if_pos (by omega)]
    simp only [Option.bind_some, Int.toNat_natCast]
    rw [w64 (x := a + 1) (by omega) (by omega), w64 (x := a + 1 + 1) (by omega) (by omega), w64 (x := a + 1 + 1 + 1) (by omega) (by omega), w64 (x := a + 1 + 1 + 1 + 1) (by omega) (by omega), up_one (n := x.length) (by omega) (by omega)]
    simp only [rdT_set hi', List.set_set]
    obtain ⟨y, h1, h2, h3, h4⟩ := ih k (x.set i ⟨a, a + 1, a + 1 + 1, a + 1 + 1 + 1⟩) (a + 1 + 1 + 1 + 1) (i + 1) (by simpa using (by omega : i + 1 + d = x.length)) (by omega) (by simpa using hn) (by omega) (by omega)
    refine ⟨y, by rw [h1]; exact congrArg some (Prod.ext (by simp; omega) rfl), by simpa using h2, fun j hj => ?_, fun j hj hj2 => ?_⟩
    · rw [h3 j (by omega), List.getElem?_set, if_neg (by omega)]
    · by_cases e : j = i
      · subst e
        rw [h3 j (by omega), List.getElem?_set, if_pos rfl, if_pos (by omega)]
        simp
      · rw [h4 j (by omega) (by simpa using hj2)]
        have e1 : a + 1 + 1 + 1 + 1 + 4 * ((j : Int) - ((i + 1 : Nat) : Int)) = a + 4 * ((j : Int) - (i : Int)) := by omega
        rw [e1]
theorem markT (l : List St) (hn : l.length ≤ 1048576) : ∃ y : List St, ∀ k, l.length < k → laws_markStepS.f k l 1 = some (1 + 4 * (l.length : Int), y) := by
  obtain ⟨y, h1, _⟩ := laws_markStepS_l0 l.length (l.length + 1) l 1 0 (by omega) (by omega) hn (by omega) (by omega)
  exact ⟨y, fun k hk => at_rounds (laws_markStepS.mono l 1) (Nat.succ_le_of_lt hk) h1⟩

theorem spec_l01In_eq (a b c : Int) : spec_l01In.f a b c = some (decide (b ≤ a ∧ a ≤ c)) := by
  unfold spec_l01In.f; by_cases h : a ≥ b <;> by_cases h2 : a ≤ c <;> simp [h, h2]; all_goals omega

theorem spec_PlanOk_l0 (d : Nat) : ∀ (k : Nat) (l : List St) (i : Nat), i + d = l.length → d < k → i ≤ 11 → spec_PlanOk.l0 k l (tuD i) (i : Int) = some (planAt (l.drop i) i) := by
  induction d with
  | zero =>
    intro k l i hi hk h11
    obtain ⟨k, rfl⟩ : ∃ m, k = m + 1 := ⟨k - 1, by omega⟩
    simp only [spec_PlanOk.l0]
    rw [if_neg (by omega), List.drop_eq_nil_of_le (by omega)]
    have : (l.length : Int) ≤ 11 := by omega
    simp [planAt, this]
  | succ d ih =>
    intro k l i hi hk h11
    obtain ⟨k, rfl⟩ : ∃ m, k = m + 1 := ⟨k - 1, by omega⟩
    simp only [spec_PlanOk.l0]
    rw [if_pos (by omega), if_pos (by omega), drop_rdT (by omega)]
    simp only [planAt]
    have e : spec_PlanOk.ok (rd_T32 l (i : Int)) (tuD i) = stepOk (rd_T32 l (i : Int)) i := okD _ h11
    rw [e]
    cases c : stepOk (rd_T32 l (i : Int)) i with
    | false => simp
    | true =>
      have c' := c
      simp only [stepOk, decide_eq_true_eq] at c'
      rw [if_pos rfl, show ((rd_T32 l (i : Int)).f1).toNat = i + 1 by omega, tuD_set i (by omega), show wrap64 ((i : Int) + 1) = ((i + 1 : Nat) : Int) by rw [w64 (by omega) (by omega)]; omega, ih k l (i + 1) (by omega) (by omega) (by omega)]
      simp
theorem spec_PlanOk_eq {k : Nat} {l : List St} (hk : l.length < k) : spec_PlanOk.f k l = some (planB l) := by
  unfold spec_PlanOk.f
  rw [if_pos (by omega)]
  simp only [Option.bind_some]
  rw [if_pos (by simp)]
  exact spec_PlanOk_l0 l.length k l 0 (by omega) hk (by omega)

theorem spec_l18Pitch_eq (a : Int) : spec_l18Pitch.f a = some (decide (1 ≤ a ∧ a ≤ 10000000)) := by
  unfold spec_l18Pitch.f; rw [spec_l01In_eq]; simp

theorem spec_TunedPitch_eq {k : Nat} (hk : 3 ≤ k) (f kind b : Int) : spec_TunedPitch.f k f kind b = some (tunedF f kind b) := by
  obtain ⟨k, rfl⟩ : ∃ m, k = m + 3 := ⟨k - 3, by omega⟩
  unfold spec_TunedPitch.f tunedF
  simp only [spec_l18Pitch_eq, spec_l01In_eq, Option.bind_some, spec_TunedPitch.j0, spec_TunedPitch.j1, spec_TunedPitch.j2]
  by_cases hf : fineB f
  · have hf' : 1 ≤ f ∧ f ≤ 10000000 := hf
    by_cases hb : 0 ≤ b ∧ b ≤ 100000
    · rw [pay3l hf hb 2 (.inl rfl), pay3l hf hb 4 (.inr rfl), payh hf, payd hf]
      simp only [hf', hb, and_self, decide_true, if_true, hf, true_and]
      by_cases k1 : kind = 1
      · subst k1
        have e : tunedN f 1 b = max (3 * f - b) 0 / 2 := by simp [tunedN]
        rw [e]
        by_cases b0 : b = 0 <;> by_cases hn : fineB (max (3 * f - b) 0 / 2) <;> (unfold fineB at hn; simp_all [fineB]) <;> (split <;> rename_i hh <;> simp [hh])
      by_cases k2 : kind = 2
      · subst k2
        have e : tunedN f 2 b = max (3 * f - b) 0 / 4 := by simp [tunedN]
        rw [e]
        by_cases b0 : b = 0 <;> by_cases hn : fineB (max (3 * f - b) 0 / 4) <;> (unfold fineB at hn; simp_all [fineB]) <;> (split <;> rename_i hh <;> simp [hh])
      by_cases k3 : kind = 3
      · subst k3
        by_cases b0 : b = 0
        · have e : tunedN f 3 b = 2 * f := by simp [tunedN, b0]
          rw [e]
          by_cases hn : fineB (2 * f) <;> (unfold fineB at hn; simp_all [fineB]) <;> (split <;> rename_i hh <;> simp [hh])
        · have e : tunedN f 3 b = 0 := by simp [tunedN, b0]
          rw [e]; simp [b0]
      by_cases k4 : kind = 4
      · subst k4
        by_cases b0 : b = 0
        · have e : tunedN f 4 b = f / 2 := by simp [tunedN, b0]
          rw [e]
          by_cases hn : fineB (f / 2) <;> (unfold fineB at hn; simp_all [fineB]) <;> (split <;> rename_i hh <;> simp [hh])
        · have e : tunedN f 4 b = 0 := by simp [tunedN, b0]
          rw [e]; simp [b0]
      have e : tunedN f kind b = 0 := by simp [tunedN, k1, k2, k3, k4]
      rw [e]
      by_cases b0 : b = 0 <;> simp [b0, k1, k2, k3, k4]
    · have hn : ¬ (0 ≤ b ∧ b ≤ 100000 ∧ fineB (tunedN f kind b)) := fun h => hb ⟨h.1, h.2.1⟩
      simp [hf', hb, hn]
  · have hf' : ¬ (1 ≤ f ∧ f ≤ 10000000) := hf
    simp [hf, hf']

theorem spec_RunPlan_l0 (d : Nat) : ∀ (k : Nat) (l : List St) (p : List Int) (i : Nat), planB l = true → p.length = 12 → i + d = l.length → d + 3 < k →
    spec_RunPlan.l0 k l p (i : Int) = some (match runL (l.drop i) p with | some q => (q, true) | none => ([], false)) := by
  induction d with
  | zero =>
    intro k l p i hp hl hi hk
    obtain ⟨k, rfl⟩ : ∃ m, k = m + 1 := ⟨k - 1, by omega⟩
    simp only [spec_RunPlan.l0]
    rw [if_neg (by omega), List.drop_eq_nil_of_le (by omega)]
    simp [runL]
  | succ d ih =>
    intro k l p i hp hl hi hk
    obtain ⟨k, rfl⟩ : ∃ m, k = m + 1 := ⟨k - 1, by omega⟩
    have hs := planB_at hp (show i < l.length by omega)
    have h11 := planB_len hp
    simp only [spec_RunPlan.l0]
    rw [if_pos (by omega), if_pos (by omega), if_pos (by omega), if_pos (by omega)]
    rw [drop_rdT (by omega)]
    simp only [runL]
    rw [spec_TunedPitch_eq (by omega)]
    simp only [Option.bind_some]
    by_cases c : tunedF (rd p (rd_T32 l (i : Int)).f0) (rd_T32 l (i : Int)).f2 (rd_T32 l (i : Int)).f3 = 0
    · rw [if_pos c, if_pos c]
    · rw [if_neg c, if_neg c, if_pos (by omega), if_pos (by omega), show wrap64 ((i : Int) + 1) = ((i + 1 : Nat) : Int) by rw [w64 (by omega) (by omega)]; omega, ih k l _ (i + 1) hp (by simpa using hl) (by omega) (by omega)]
theorem spec_RunPlan_eq {k : Nat} {l : List St} (a : Int) (hk : l.length + 5 < k) : spec_RunPlan.f k a l = some (runF a l) := by
  obtain ⟨k, rfl⟩ : ∃ m, k = m + 1 := ⟨k - 1, by omega⟩
  unfold spec_RunPlan.f runF
  rw [spec_PlanOk_eq (by omega)]
  simp only [Option.bind_some, spec_l18Pitch_eq, spec_RunPlan.j0]
  by_cases hp : planB l = true
  · rw [if_pos hp]
    by_cases hs : 1 ≤ a ∧ a ≤ 10000000
    · rw [if_pos (c := planB l = true ∧ (1 ≤ a ∧ a ≤ 10000000)) ⟨hp, hs⟩, decide_eq_true hs]
      have := spec_RunPlan_l0 l.length k l (a :: List.replicate 11 0) 0 hp (by simp) (by omega) (by omega)
      simp only [Bool.not_true, Bool.false_eq_true, if_false]
      rw [if_pos (by omega), if_pos (by simp)]
      exact this
    · rw [if_neg (c := planB l = true ∧ (1 ≤ a ∧ a ≤ 10000000)) (fun h => hs h.2), decide_eq_false hs]
      simp
  · rw [if_neg (c := planB l = true ∧ (1 ≤ a ∧ a ≤ 10000000)) (fun h => hp h.1), if_neg hp]
    simp

theorem laws_eqIntS_l0 (d : Nat) : ∀ (k : Nat) (l x : List Int) (i : Nat), i + d = l.length → d < k → l.length ≤ 35184372088832 → x.length = l.length →
    laws_eqIntS.l0 k l x (i : Int) = some (decide (l.drop i = x.drop i)) := by
  induction d with
  | zero =>
    intro k l x i hi hk hn hx
    obtain ⟨k, rfl⟩ : ∃ m, k = m + 1 := ⟨k - 1, by omega⟩
    simp only [laws_eqIntS.l0]
    rw [if_neg (by omega), List.drop_eq_nil_of_le (by omega), List.drop_eq_nil_of_le (by omega)]
    simp
  | succ d ih =>
    intro k l x i hi hk hn hx
    obtain ⟨k, rfl⟩ : ∃ m, k = m + 1 := ⟨k - 1, by omega⟩
    simp only [laws_eqIntS.l0]
    rw [if_pos (by omega), if_pos (by omega), if_pos (by omega), up_one (n := l.length) (by omega) (by omega), ih k l x (i + 1) (by omega) (by omega) hn hx,
      drop_rd (l := l) (i := i) (by omega), drop_rd (l := x) (i := i) (by omega)]
    by_cases h : rd l (i : Int) = rd x (i : Int)
    · rw [if_pos h]; simp [h]
    · rw [if_neg h]; simp [h]
theorem laws_eqIntS_eq {k : Nat} {l x : List Int} (hk : l.length < k) (hn : l.length ≤ 35184372088832) : laws_eqIntS.f k l x = some (decide (l = x)) := by
  unfold laws_eqIntS.f
  by_cases h : x.length = l.length
  · rw [if_pos (by omega)]
    exact laws_eqIntS_l0 l.length k l x 0 (by omega) hk hn h
  · rw [if_neg (by omega)]
    have : l ≠ x := fun e => h (by rw [e])
    simp [this]

theorem laws_markIntS_l0 (d : Nat) : ∀ (k : Nat) (x : List Int) (a : Int) (i : Nat), i + d = x.length → d < k → x.length ≤ 35184372088832 → 0 ≤ a → a + d ≤ 9000000000000000000 →
    ∃ y : List Int, laws_markIntS.l0 k x a (i : Int) = some (a + d, y) ∧ y.length = x.length ∧ (∀ j, j < i → y[j]? = x[j]?) ∧ (∀ j, i ≤ j → j < x.length → y[j]? = some (a + (j - i : Int))) := by
  induction d with
  | zero =>
    intro k x a i hi hk hn ha hb
    obtain ⟨k, rfl⟩ : ∃ m, k = m + 1 := ⟨k - 1, by omega⟩
    simp only [laws_markIntS.l0]
    rw [if_neg (by omega)]
    exact ⟨x, by simp, rfl, fun _ _ => rfl, fun j h1 h2 => by omega⟩
  | succ d ih =>
    intro k x a i hi hk hn ha hb
    obtain ⟨k, rfl⟩ : ∃ m, k = m + 1 := ⟨k - 1, by omega⟩
    simp only [laws_markIntS.l0]
    rw [if_pos (by omega), if_pos (by omega), up_one (n := x.length) (by omega) (by omega), w64 (x := a + 1) (by omega) (by omega)]
    obtain ⟨y, h1, h2, h3, h4⟩ := ih k (x.set (i : Int).toNat a) (a + 1) (i + 1) (by simpa using (by omega : i + 1 + d = x.length)) (by omega) (by simpa using hn) (by omega) (by omega)
    refine ⟨y, by rw [h1]; exact congrArg some (Prod.ext (by simp; omega) rfl), by simpa using h2, fun j hj => ?_, fun j hj hj2 => ?_⟩
    · rw [h3 j (by omega), Int.toNat_natCast, List.getElem?_set, if_neg (by omega)]
    · by_cases e : j = i
      · subst e
        rw [h3 j (by omega), Int.toNat_natCast, List.getElem?_set, if_pos rfl, if_pos (by omega)]
        exact congrArg some (by omega)
      · rw [h4 j (by omega) (by simpa using hj2)]
        exact congrArg some (by omega)

theorem laws_heldIntS_l0 (d : Nat) : ∀ (k : Nat) (x : List Int) (a : Int) (i : Nat), i + d = x.length → d < k → x.length ≤ 35184372088832 → 0 ≤ a → a + d ≤ 9000000000000000000 →
    (∀ j, i ≤ j → j < x.length → x[j]? = some (a + (j - i : Int))) → laws_heldIntS.l0 k x a (i : Int) = some (a + d) := by
  induction d with
  | zero =>
    intro k x a i hi hk hn ha hb hx
    obtain ⟨k, rfl⟩ : ∃ m, k = m + 1 := ⟨k - 1, by omega⟩
    simp only [laws_heldIntS.l0]
    rw [if_neg (by omega)]
    simp
  | succ d ih =>
    intro k x a i hi hk hn ha hb hx
    obtain ⟨k, rfl⟩ : ∃ m, k = m + 1 := ⟨k - 1, by omega⟩
    simp only [laws_heldIntS.l0]
    have e := hx i (Nat.le_refl _) (by omega)
    have e2 : rd x (i : Int) = a := by
      rw [rd_get (by omega)]
      rw [List.getElem?_eq_getElem (by omega)] at e
      have := Option.some.inj e
      omega
    rw [if_pos (by omega), if_pos (by omega), if_pos e2, up_one (n := x.length) (by omega) (by omega), w64 (x := a + 1) (by omega) (by omega),
      ih k x (a + 1) (i + 1) (by omega) (by omega) hn (by omega) (by omega) (fun j h1 h2 => by rw [hx j (by omega) h2]; exact congrArg some (by omega))]
    exact congrArg some (by omega)
/-- What is marked is held. -/
theorem mark_held (l : List Int) (hn : l.length ≤ 35184372088832) : ∃ y : List Int, ∀ k, l.length < k → laws_markIntS.f k l 1 = some (1 + (l.length : Int), y) ∧ laws_heldIntS.f k y 1 = some (1 + (l.length : Int)) := by
  obtain ⟨y, h1, h2, _, h4⟩ := laws_markIntS_l0 l.length (l.length + 1) l 1 0 (by omega) (by omega) hn (by omega) (by omega)
  refine ⟨y, fun k hk => ⟨at_rounds (laws_markIntS.mono l 1) (Nat.succ_le_of_lt hk) h1, ?_⟩⟩
  have := laws_heldIntS_l0 l.length k y 1 0 (by omega) hk (by omega) (by omega) (by omega) (fun j hj hj2 => h4 j hj (by omega))
  exact this

/-- The law, over numbers and lists. -/
def laws_FnExactRunPlan.Pure : Prop := ∀ (a0 : Int) (l1 : List S66), (Lit.int .i64 a0).wf = true → l1.length ≤ maxLen → (∀ x ∈ l1, (Lit.int .i64 x.f0).wf = true ∧ (Lit.int .i64 x.f1).wf = true ∧ (Lit.int .i64 x.f2).wf = true ∧ (Lit.int .i64 x.f3).wf = true) → ∃ k, laws_FnExactRunPlan.f k a0 l1 = some true
theorem FnExactRunPlan : laws_FnExactRunPlan.Pure := by
  intro a l _ hm _
  refine ⟨l.length + 60, ?_⟩
  have hl := planOf_len l
  unfold laws_FnExactRunPlan.f
  rw [laws_szStepS_eq hm]
  simp only [Option.bind_some]
  by_cases d : 1048576 < l.length
  · rw [if_pos d, if_pos (by omega)]
  · rw [if_neg d, if_neg (by omega), laws_toStepS_eq (by omega) (by omega)]
    simp only [Option.bind_some]
    rw [spec_RunPlan_eq _ (by omega), impl_RunPlan_eq _ (by omega)]
    simp only [Option.bind_some]
    have hq := runF_len a (planOf l)
    obtain ⟨q, he⟩ : ∃ q, runF a (planOf l) = q := ⟨_, rfl⟩
    rw [he] at hq ⊢
    rw [laws_eqIntS_eq (by omega) (by omega)]
    simp only [Option.bind_some, decide_true, if_true, bne_self_eq_false]
    obtain ⟨y, hy⟩ := markT (planOf l) (by omega)
    obtain ⟨z, hz⟩ := mark_held q.1 (by omega)
    simp only [laws_FnExactRunPlan.j0, laws_FnExactRunPlan.j1, laws_FnExactRunPlan.j2, Bool.false_eq_true, if_false]
    rw [laws_toStepS_eq (by omega) (by omega)]
    simp only [Option.bind_some]
    rw [laws_eqStepS_eq (by omega) (by omega)]
    simp only [Option.bind_some, decide_true, if_true]
    rw [hy _ (by omega)]
    simp only [Option.bind_some]
    rw [if_neg (by omega), laws_eqIntS_eq (by omega) (by omega)]
    simp only [Option.bind_some, decide_true, if_true, bne_self_eq_false, Bool.false_eq_true, if_false]
    rw [(hz _ (by omega)).1]
    simp only [Option.bind_some]
    rw [(hz _ (by omega)).2]
    simp only [Option.bind_some]
    rw [if_neg (by omega)]
    simp only [if_true]
    rw [laws_toStepS_eq (by omega) (by omega)]
    simp only [Option.bind_some]
    rw [impl_RunPlan_eq _ (by omega)]
    simp only [Option.bind_some]
    rw [he, laws_eqIntS_eq (by omega) (by omega)]
    simp only [Option.bind_some, decide_true, if_true, bne_self_eq_false, Bool.false_eq_true, if_false]
    rw [(hz _ (by omega)).2]
    simp only [Option.bind_some]
    rw [if_neg (by omega)]
    simp

end Go.Proofs.Ythhcpfaabnanoaa.Pure
