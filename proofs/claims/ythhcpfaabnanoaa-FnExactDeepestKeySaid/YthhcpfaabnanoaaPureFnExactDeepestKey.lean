/- DeepestKey of the program and of the reference answer alike, for every plan. No condition. -/
import Derived.Test.YthhcpfaabnanoaaPFnExactDeepestKeyx1
import Derived.Test.YthhcpfaabnanoaaPFnExactDeepestKeyx2
import Derived.Test.YthhcpfaabnanoaaPFnExactDeepestKeyx3
import Derived.OpenShut
namespace Go.Proofs.Ythhcpfaabnanoaa.Pure
open Go.RowKit Go.Proofs.Ythhcpfaabnanoaa.PFnExactDeepestKey Go.Proofs.YthhcpfaabnanoaaW.PrintWords Go.Proofs.YthhcpfaabnanoaaW.PrintLast Go.Proofs.YthhcpfaabnanoaaW.PrintMore
set_option linter.unusedVariables false
set_option linter.unusedSimpArgs false
theorem w64 {x : Int} (h : -9223372036854775808 ≤ x) (h' : x ≤ 9223372036854775807) : wrap64 x = x := by unfold wrap64; omega
theorem wf64 {x : Int} (h : (Lit.int .i64 x).wf = true) : -9223372036854775808 ≤ x ∧ x ≤ 9223372036854775807 := by
  simp only [Lit.wf, IntKind.min, IntKind.max, IntKind.signed, IntKind.bits, Bool.and_eq_true, decide_eq_true_eq, if_true] at h
  omega
theorem wfu8 {x : Int} (h : (Lit.int .u8 x).wf = true) : 0 ≤ x ∧ x ≤ 255 := by
  simp [Lit.wf, IntKind.min, IntKind.max, IntKind.signed, IntKind.bits] at h
  omega
theorem mx_def (a b : Int) : mx a b = max a b := by unfold mx; omega
theorem mn_def (a b : Int) : mn a b = min a b := by unfold mn; omega
theorem fuel {n k : Nat} (h : n < k) : ∃ m, k = m + 1 ∧ n ≤ m := ⟨k - 1, by omega, by omega⟩
theorem gcd_tmod (a b : Int) : Int.gcd b (Int.tmod a b) = Int.gcd a b := by
  unfold Int.gcd
  rw [Int.natAbs_tmod, Nat.gcd_comm, ← Nat.gcd_rec, Nat.gcd_comm]
theorem tmod_lt (a : Int) {b : Int} (h : b ≠ 0) : (Int.tmod a b).natAbs < b.natAbs := by
  rw [Int.natAbs_tmod]
  exact Nat.mod_lt _ (by omega)
theorem drop_rd {l : List Int} {i : Nat} (h : i < l.length) : l.drop i = rd l (i : Int) :: l.drop (i + 1) := by
  rw [List.drop_eq_getElem_cons h]
  simp [rd, List.getD, List.getElem?_eq_getElem h]
theorem rd_get {l : List Int} {i : Nat} (h : i < l.length) : rd l (i : Int) = l[i] := by simp [rd, List.getD, List.getElem?_eq_getElem h]
theorem up_one {i n : Nat} (h : i < n) (hn : n ≤ 9223372036854775807) : wrap64 ((i : Int) + 1) = ((i + 1 : Nat) : Int) := by rw [w64 (by omega) (by omega)]; omega
theorem rd_mem {l : List Int} {i : Nat} (h : i < l.length) : rd l (i : Int) ∈ l := by rw [rd_get h]; exact List.getElem_mem h
theorem maxLen_le {n : Nat} (h : n ≤ maxLen) : (n : Int) ≤ 9223372036854775807 := by unfold maxLen at h; omega

abbrev St := S32
theorem rdT_nat {x : List St} {i : Nat} (h : i < x.length) : rd_T32 x (i : Int) = x[i] := by simp [rd_T32, List.getD, List.getElem?_eq_getElem h]
theorem rdT_set {x : List St} {i : Nat} (h : i < x.length) (v : St) : rd_T32 (x.set i v) (i : Int) = v := by
  rw [rdT_nat (by simpa using h)]
  simp
theorem st_eta (s : St) : (⟨s.f0, s.f1, s.f2, s.f3⟩ : St) = s := rfl
theorem st_ext {s t : St} (h0 : s.f0 = t.f0) (h1 : s.f1 = t.f1) (h2 : s.f2 = t.f2) (h3 : s.f3 = t.f3) : s = t := by
  cases s; cases t; simp at h0 h1 h2 h3; subst h0 h1 h2 h3; rfl
def stB (s t : St) : Bool := decide (s.f0 = t.f0 ∧ s.f1 = t.f1 ∧ s.f2 = t.f2 ∧ s.f3 = t.f3)
theorem stB_iff (s t : St) : stB s t = true ↔ s = t := by
  unfold stB
  rw [decide_eq_true_eq]
  exact ⟨fun ⟨a, b, c, d⟩ => st_ext a b c d, fun h => by rw [h]; simp⟩
instance : DecidableEq St := fun s t => decidable_of_iff (stB s t = true) (stB_iff s t)
theorem drop_rdT {x : List St} {i : Nat} (h : i < x.length) : x.drop i = rd_T32 x (i : Int) :: x.drop (i + 1) := by
  rw [List.drop_eq_getElem_cons h, rdT_nat h]

abbrev LSt := S66
/-- A step of the law's own kind, as the program's. -/
def stepOf (s : LSt) : St := ⟨s.f0, s.f1, s.f2, s.f3⟩
def planOf (l : List LSt) : List St := l.map stepOf
theorem planOf_len (l : List LSt) : (planOf l).length = l.length := by simp [planOf]
theorem rdL_nat {x : List LSt} {i : Nat} (h : i < x.length) : rd_T66 x (i : Int) = x[i] := by simp [rd_T66, List.getD, List.getElem?_eq_getElem h]

/-- Step number i of a plan that runs key after key from key 0. -/
def stepOk (s : St) (i : Nat) : Bool := decide ((s.f2 = 1 ∨ s.f2 = 2) ∧ (0 ≤ s.f3 ∧ s.f3 ≤ 5000) ∧ s.f0 = i ∧ s.f1 = i + 1 ∧ i ≤ 10)
def planAt : List St → Nat → Bool
  | [], _ => true
  | s :: l, i => stepOk s i && planAt l (i + 1)
/-- A plan that holds. -/
def planB (l : List St) : Bool := planAt l 0
theorem planAt_len : ∀ (l : List St) (i : Nat), i ≤ 11 → planAt l i = true → i + l.length ≤ 11
  | [], i, hi, _ => by simpa using hi
  | s :: l, i, hi, h => by
    simp only [planAt, stepOk, Bool.and_eq_true, decide_eq_true_eq] at h
    have := planAt_len l (i + 1) (by omega) h.2
    simp only [List.length_cons]
    omega
theorem planAt_get : ∀ (l : List St) (i : Nat), planAt l i = true → ∀ (j : Nat) (h : j < l.length), stepOk l[j] (i + j) = true
  | [], _, _, j, h => absurd h (by simp)
  | s :: l, i, hp, j, h => by
    simp only [planAt, Bool.and_eq_true] at hp
    cases j with
    | zero => simpa using hp.1
    | succ j =>
      have := planAt_get l (i + 1) hp.2 j (by simpa using h)
      rw [show i + (j + 1) = i + 1 + j by omega]
      simpa using this
theorem planB_len {l : List St} (h : planB l = true) : l.length ≤ 11 := by have := planAt_len l 0 (by omega) h; omega
theorem planB_at {l : List St} (h : planB l = true) {j : Nat} (hj : j < l.length) :
    ((rd_T32 l (j : Int)).f2 = 1 ∨ (rd_T32 l (j : Int)).f2 = 2) ∧ (0 ≤ (rd_T32 l (j : Int)).f3 ∧ (rd_T32 l (j : Int)).f3 ≤ 5000) ∧ (rd_T32 l (j : Int)).f0 = j ∧ (rd_T32 l (j : Int)).f1 = (j : Int) + 1 := by
  have := planAt_get l 0 h j hj
  rw [rdT_nat hj]
  simp only [stepOk, decide_eq_true_eq, Nat.zero_add] at this
  exact ⟨this.1, this.2.1, this.2.2.1, this.2.2.2.1⟩
/-- Keys 0 to i are tuned. -/
def tuD (i : Nat) : List Bool := (List.range 12).map fun j => decide (j ≤ i)
theorem tuD_len (i : Nat) : (tuD i).length = 12 := by simp [tuD]
theorem tuD_at (i : Nat) {x : Int} (h0 : 0 ≤ x) (h1 : x ≤ 11) : rdOf false (tuD i) x = decide (x ≤ i) := by
  obtain ⟨n, rfl⟩ : ∃ n : Nat, x = n := ⟨x.toNat, by omega⟩
  unfold rdOf tuD
  simp [List.getD, List.getElem?_map, List.getElem?_range (show n < 12 by omega)]
theorem tuD_set : ∀ i, i < 11 → (tuD i).set (i + 1) true = tuD (i + 1) := by decide
theorem okD (s : St) {i : Nat} (hi : i ≤ 11) : decide ((s.f2 = 1 ∨ s.f2 = 2) ∧ (0 ≤ s.f3 ∧ s.f3 ≤ 5000) ∧ (0 ≤ s.f0 ∧ s.f0 ≤ 11) ∧ (0 ≤ s.f1 ∧ s.f1 ≤ 11) ∧ s.f1 = (s.f0 + 1) % 12 ∧ rdOf false (tuD i) s.f0 = true ∧ rdOf false (tuD i) s.f1 = false) = stepOk s i := by
  unfold stepOk
  by_cases h : (0 ≤ s.f0 ∧ s.f0 ≤ 11) ∧ (0 ≤ s.f1 ∧ s.f1 ≤ 11)
  · rw [tuD_at i h.1.1 h.1.2, tuD_at i h.2.1 h.2.2]
    refine decide_eq_decide.mpr ⟨fun ⟨a, b, _, _, e, f, g⟩ => ?_, fun ⟨a, b, c, d, e⟩ => ?_⟩
    · simp only [decide_eq_true_eq, decide_eq_false_iff_not] at f g
      refine ⟨a, b, ?_, ?_, ?_⟩ <;> omega
    · simp only [decide_eq_true_eq, decide_eq_false_iff_not]
      refine ⟨a, b, h.1, h.2, ?_, ?_, ?_⟩ <;> omega
  · refine decide_eq_decide.mpr ⟨fun ⟨a, b, c, d, _⟩ => absurd ⟨c, d⟩ h, fun ⟨a, b, c, d, e⟩ => absurd ⟨⟨?_, ?_⟩, ?_, ?_⟩ h⟩ <;> omega

/-- How many steps lie under a key. -/
def depthF (l : List St) (a : Int) : Int := if planB l = true then (if 0 ≤ a ∧ a ≤ l.length then a else -1) else -1
theorem depthF_at {l : List St} (hp : planB l = true) {n : Nat} (h : n ≤ l.length) : depthF l (n : Int) = n := by
  unfold depthF
  rw [if_pos hp, if_pos (by omega)]
theorem depthF_out {l : List St} (hp : planB l = true) {n : Nat} (h : ¬ n ≤ l.length) : depthF l (n : Int) = -1 := by
  unfold depthF
  rw [if_pos hp, if_neg (by omega)]
theorem depthF_no {l : List St} (hp : ¬ planB l = true) (a : Int) : depthF l a = -1 := by
  unfold depthF
  rw [if_neg hp]

/-- The keys 0 to n. -/
def keysL (n : Nat) : List Int := (List.range (n + 1)).map Int.ofNat
theorem keysL_len (n : Nat) : (keysL n).length = n + 1 := by simp [keysL]
theorem keysL_succ (n : Nat) : keysL n ++ [((n : Int) + 1)] = keysL (n + 1) := by
  simp [keysL, List.range_succ]
theorem keysL_sorted (n : Nat) : (keysL n).Pairwise (· ≤ ·) := by
  unfold keysL
  rw [List.pairwise_map]
  exact List.pairwise_lt_range.imp (by intro a b h; simp; omega)
theorem keysL_rd {n i : Nat} (h : i ≤ n) : rd (keysL n) (i : Int) = i := by
  rw [rd_get (by rw [keysL_len]; omega)]
  simp [keysL]
/-- The keys that a plan tunes, in order. -/
def keysF (l : List St) : List Int := if planB l = true then keysL l.length else []
theorem keysF_len (l : List St) : (keysF l).length ≤ 12 := by
  unfold keysF
  split
  · rename_i h; have := planB_len h; rw [keysL_len]; omega
  · simp
/-- The keys from i on, of e, that are no more than n. -/
def tailK (n : Nat) : Nat → Nat → List Int
  | _, 0 => []
  | i, e + 1 => if i ≤ n then (i : Int) :: tailK n (i + 1) e else tailK n (i + 1) e
theorem tailK_all : ∀ n, n < 12 → tailK n 0 12 = keysL n := by decide
theorem tailK_len (n : Nat) : ∀ e i, (tailK n i e).length ≤ e
  | 0, _ => by simp [tailK]
  | e + 1, i => by
    have := tailK_len n e (i + 1)
    simp only [tailK]
    split <;> simp <;> omega

/-- The deepest key. -/
def deepF (l : List St) : Int := if planB l = true then (l.length : Int) else -1

theorem impl_within_eq (a b c : Int) : impl_within.f a b c = some (decide (b ≤ a ∧ a ≤ c)) := by
  unfold impl_within.f; by_cases h : b ≤ a <;> by_cases h2 : a ≤ c <;> simp [h, h2]

theorem impl_PlanOk_l0 (d : Nat) : ∀ (k : Nat) (l : List St) (i : Nat), i + d = l.length → d < k → i ≤ 11 → impl_PlanOk.l0 k l (tuD i) (i : Int) = some (planAt (l.drop i) i) := by
  induction d with
  | zero =>
    intro k l i hi hk h11
    obtain ⟨k, rfl⟩ : ∃ m, k = m + 1 := ⟨k - 1, by omega⟩
    simp only [impl_PlanOk.l0]
    rw [if_neg (by omega), List.drop_eq_nil_of_le (by omega)]
    have : (l.length : Int) ≤ 11 := by omega
    simp [planAt, this]
  | succ d ih =>
    intro k l i hi hk h11
    obtain ⟨k, rfl⟩ : ∃ m, k = m + 1 := ⟨k - 1, by omega⟩
    simp only [impl_PlanOk.l0]
    rw [if_pos (by omega), if_pos (by omega), drop_rdT (by omega)]
    simp only [planAt]
    have e : impl_PlanOk.ok (rd_T32 l (i : Int)) (tuD i) = stepOk (rd_T32 l (i : Int)) i := okD _ h11
    rw [e]
    cases c : stepOk (rd_T32 l (i : Int)) i with
    | false => simp
    | true =>
      have c' := c
      simp only [stepOk, decide_eq_true_eq] at c'
      rw [if_pos rfl, show ((rd_T32 l (i : Int)).f1).toNat = i + 1 by omega, tuD_set i (by omega), show wrap64 ((i : Int) + 1) = ((i + 1 : Nat) : Int) by rw [w64 (by omega) (by omega)]; omega, ih k l (i + 1) (by omega) (by omega) (by omega)]
      simp
theorem impl_PlanOk_eq {k : Nat} {l : List St} (hk : l.length < k) : impl_PlanOk.f k l = some (planB l) := by
  unfold impl_PlanOk.f
  by_cases c : (l.length : Int) > 11
  · rw [if_pos c]
    cases h : planB l with
    | false => rfl
    | true => exact absurd (planB_len h) (by omega)
  · rw [if_neg c]
    exact impl_PlanOk_l0 l.length k l 0 (by omega) hk (by omega)

theorem sort_Ints_eq {l : List Int} (h0 : 0 < l.length) (h1 : l.length ≤ 1048576) : sort_Ints.f l = some (l.mergeSort fun x y => decide (x ≤ y)) := by
  unfold sort_Ints.f
  rw [if_pos h0, if_pos (by omega)]
theorem sort_sorted {l : List Int} (h : l.Pairwise (· ≤ ·)) : (l.mergeSort fun x y => decide (x ≤ y)) = l :=
  List.mergeSort_of_pairwise (h.imp (by simp))

theorem impl_KeysTuned_l0 (d : Nat) : ∀ (k : Nat) (l : List St) (i : Nat), planB l = true → i + d = l.length → d < k →
    impl_KeysTuned.l0 k (keysL i) l (l.length : Int) (i : Int) = some (keysL l.length) := by
  induction d with
  | zero =>
    intro k l i hp hi hk
    obtain ⟨k, rfl⟩ : ∃ m, k = m + 1 := ⟨k - 1, by omega⟩
    have h11 := planB_len hp
    have hl := keysL_len i
    simp only [impl_KeysTuned.l0]
    rw [if_neg (by omega), sort_Ints_eq (by omega) (by omega), sort_sorted (keysL_sorted i)]
    simp only [Option.bind_some]
    rw [show i = l.length by omega]
  | succ d ih =>
    intro k l i hp hi hk
    obtain ⟨k, rfl⟩ : ∃ m, k = m + 1 := ⟨k - 1, by omega⟩
    have h11 := planB_len hp
    have hl := keysL_len i
    simp only [impl_KeysTuned.l0]
    rw [if_pos (by omega), if_pos (by omega), if_pos (by omega), if_pos (by omega), (planB_at hp (show i < l.length by omega)).2.2.2, keysL_succ, up_one (n := l.length) (by omega) (by omega), ih k l (i + 1) hp (by omega) (by omega)]
theorem impl_KeysTuned_eq {k : Nat} {l : List St} (hk : l.length < k) : impl_KeysTuned.f k l = some (keysF l) := by
  unfold impl_KeysTuned.f keysF
  rw [impl_PlanOk_eq hk]
  simp only [Option.bind_some]
  by_cases hp : planB l = true
  · rw [if_pos hp, if_pos hp]
    exact impl_KeysTuned_l0 l.length k l 0 hp (by omega) hk
  · rw [if_neg hp, if_neg hp]

theorem impl_stepTo_l0 (d : Nat) : ∀ (k : Nat) (l : List St) (a : Int) (i : Nat), planB l = true → i + d = l.length → d < k →
    impl_stepTo.l0 k a l (l.length : Int) (i : Int) = some (if (i : Int) + 1 ≤ a ∧ a ≤ l.length then a - 1 else -1) := by
  induction d with
  | zero =>
    intro k l a i hp hi hk
    obtain ⟨k, rfl⟩ : ∃ m, k = m + 1 := ⟨k - 1, by omega⟩
    simp only [impl_stepTo.l0]
    rw [if_neg (by omega), if_neg (by omega)]
  | succ d ih =>
    intro k l a i hp hi hk
    obtain ⟨k, rfl⟩ : ∃ m, k = m + 1 := ⟨k - 1, by omega⟩
    have hl := planB_len hp
    simp only [impl_stepTo.l0]
    rw [if_pos (by omega), if_pos (by omega), if_pos (by omega), (planB_at hp (show i < l.length by omega)).2.2.2]
    by_cases c : (i : Int) + 1 = a
    · rw [if_pos c, if_pos (by omega)]
      exact congrArg some (by omega)
    · rw [if_neg c, up_one (n := l.length) (by omega) (by omega), ih k l a (i + 1) hp (by omega) (by omega)]
      by_cases c2 : ((i + 1 : Nat) : Int) + 1 ≤ a ∧ a ≤ l.length
      · rw [if_pos c2, if_pos (by omega)]
      · rw [if_neg c2, if_neg (by omega)]
theorem impl_stepTo_eq {k : Nat} {l : List St} (a : Int) (hp : planB l = true) (hk : l.length < k) : impl_stepTo.f k l a = some (if 1 ≤ a ∧ a ≤ l.length then a - 1 else -1) := by
  have := impl_stepTo_l0 l.length k l a 0 hp (by omega) hk
  unfold impl_stepTo.f
  simpa using this

theorem impl_DepthOf_nat (l : List St) (hp : planB l = true) : ∀ (n k : Nat) (c : Int), n ≤ l.length → l.length + n + 1 < k → 0 ≤ c → c + n ≤ 100 → impl_DepthOf.l0 k l (n : Int) c = some (c + n) := by
  have hl := planB_len hp
  intro n
  induction n with
  | zero =>
    intro k c hn hk hc hc2
    obtain ⟨k, rfl⟩ : ∃ m, k = m + 1 := ⟨k - 1, by omega⟩
    simp only [impl_DepthOf.l0]
    simp
  | succ n ih =>
    intro k c hn hk hc hc2
    obtain ⟨k, rfl⟩ : ∃ m, k = m + 1 := ⟨k - 1, by omega⟩
    simp only [impl_DepthOf.l0]
    rw [if_neg (by omega), impl_stepTo_eq _ hp (by omega), if_pos (by omega)]
    simp only [Option.bind_some]
    rw [if_neg (by omega), if_pos (by omega), if_pos (by omega), show (((n + 1 : Nat) : Int) - 1) = (n : Int) by omega, (planB_at hp (show n < l.length by omega)).2.2.1, w64 (by omega) (by omega), ih k (c + 1) (by omega) (by omega) (by omega) (by omega)]
    exact congrArg some (by omega)
theorem impl_DepthOf_eq {k : Nat} {l : List St} (a : Int) (hk : l.length + 13 < k) : impl_DepthOf.f k l a = some (depthF l a) := by
  unfold depthF impl_DepthOf.f
  rw [impl_PlanOk_eq (by omega)]
  simp only [Option.bind_some]
  by_cases hp : planB l = true
  · have hl := planB_len hp
    rw [if_pos hp, if_pos hp]
    by_cases c : 0 ≤ a ∧ a ≤ l.length
    · rw [if_pos c]
      obtain ⟨n, rfl⟩ : ∃ n : Nat, a = n := ⟨a.toNat, by omega⟩
      rw [impl_DepthOf_nat l hp n k 0 (by omega) (by omega) (by omega) (by omega)]
      simp
    · rw [if_neg c]
      obtain ⟨k, rfl⟩ : ∃ m, k = m + 1 := ⟨k - 1, by omega⟩
      simp only [impl_DepthOf.l0]
      rw [if_neg (by omega), impl_stepTo_eq _ hp (by omega), if_neg (by omega)]
      simp
  · rw [if_neg hp, if_neg hp]

theorem impl_DeepestKey_l0 (d : Nat) : ∀ (k : Nat) (l : List St) (i : Nat), planB l = true → i + d = l.length + 1 → l.length + d + 20 < k →
    impl_DeepestKey.l0 k l (((i - 1 : Nat) : Int)) (keysL l.length) ((keysL l.length).length : Int) (i : Int) = some (l.length : Int) := by
  induction d with
  | zero =>
    intro k l i hp hi hk
    obtain ⟨k, rfl⟩ : ∃ m, k = m + 1 := ⟨k - 1, by omega⟩
    have hl := keysL_len l.length
    simp only [impl_DeepestKey.l0]
    rw [if_neg (by omega)]
    exact congrArg some (by omega)
  | succ d ih =>
    intro k l i hp hi hk
    obtain ⟨k, rfl⟩ : ∃ m, k = m + 1 := ⟨k - 1, by omega⟩
    have h11 := planB_len hp
    have hl := keysL_len l.length
    simp only [impl_DeepestKey.l0]
    rw [if_pos (by omega), if_pos (by omega), if_pos (by omega), keysL_rd (by omega), impl_DepthOf_eq _ (by omega)]
    simp only [Option.bind_some]
    rw [impl_DepthOf_eq _ (by omega)]
    simp only [Option.bind_some]
    rw [depthF_at hp (by omega), depthF_at hp (by omega), up_one (n := 20) (by omega) (by omega)]
    have := ih k l (i + 1) hp (by omega) (by omega)
    rw [show i + 1 - 1 = i by omega] at this
    by_cases c : i = 0
    · subst c
      rw [if_neg (by omega)]
      exact this
    · rw [if_pos (by omega), this]
theorem impl_DeepestKey_eq {k : Nat} {l : List St} (hk : 2 * l.length + 30 < k) : impl_DeepestKey.f k l = some (deepF l) := by
  unfold impl_DeepestKey.f deepF
  rw [impl_PlanOk_eq (by omega)]
  simp only [Option.bind_some]
  by_cases hp : planB l = true
  · rw [if_pos hp, if_pos hp, impl_KeysTuned_eq (by omega), keysF, if_pos hp]
    exact impl_DeepestKey_l0 (l.length + 1) k l 0 hp (by omega) (by omega)
  · rw [if_neg hp, if_neg hp]

theorem laws_szStepS_eq {l : List LSt} (h : l.length ≤ maxLen) : laws_szStepS.f l 1048576 = some (if 1048576 < l.length then -1 else 1048576 - (l.length : Int)) := by
  have h2 := maxLen_le h
  unfold laws_szStepS.f
  rw [w64 (by omega) (by omega)]
  by_cases c : 1048576 < l.length
  · rw [if_pos c, if_pos (by omega)]
  · rw [if_neg c, if_neg (by omega)]

theorem laws_toStepS_l0 (d : Nat) : ∀ (k : Nat) (l : List LSt) (x : List St) (i : Nat), i + d = l.length → d < k → l.length ≤ 8796093022208 → x.length = l.length → (∀ j, j < i → x[j]? = (planOf l)[j]?) →
    laws_toStepS.l0 k l x (i : Int) = some (planOf l) := by
  induction d with
  | zero =>
    intro k l x i hi hk hn hx he
    obtain ⟨k, rfl⟩ : ∃ m, k = m + 1 := ⟨k - 1, by omega⟩
    have := planOf_len l
    simp only [laws_toStepS.l0]
    rw [if_neg (by omega)]
    refine congrArg some (List.ext_getElem? fun j => ?_)
    by_cases hj : j < i
    · exact he j hj
    · rw [List.getElem?_eq_none (by omega), List.getElem?_eq_none (by omega)]
  | succ d ih =>
    intro k l x i hi hk hn hx he
    obtain ⟨k, rfl⟩ : ∃ m, k = m + 1 := ⟨k - 1, by omega⟩
    have := planOf_len l
    simp only [laws_toStepS.l0, laws_toStep.f, Option.bind_some]
    rw [if_pos (by omega), if_pos (by omega), if_pos (by omega), up_one (n := l.length) (by omega) (by omega)]
    refine ih k l _ (i + 1) (by omega) (by omega) hn (by simpa using hx) fun j hj => ?_
    rw [Int.toNat_natCast, List.getElem?_set]
    by_cases hji : i = j
    · subst hji
      rw [if_pos rfl, if_pos (by omega), rdL_nat (by omega)]
      simp [planOf, stepOf, List.getElem?_eq_getElem (show i < l.length by omega)]
    · rw [if_neg hji]
      exact he j (by omega)
theorem laws_toStepS_eq {k : Nat} {l : List LSt} (hk : l.length < k) (hn : l.length ≤ 8796093022208) : laws_toStepS.f k l = some (planOf l) := by
  unfold laws_toStepS.f
  rw [if_pos (by omega), if_pos (by simpa using hn)]
  exact laws_toStepS_l0 l.length k l _ 0 (by omega) hk hn (by simp) (fun j hj => absurd hj (by omega))

theorem laws_eqStep_eq (s t : St) : laws_eqStep.f s.f0 s.f1 s.f2 s.f3 t.f0 t.f1 t.f2 t.f3 = some (decide (s = t)) := by
  unfold laws_eqStep.f
  by_cases h : s = t
  · subst h; simp
  · by_cases h0 : s.f0 = t.f0
    · by_cases h1 : s.f1 = t.f1
      · by_cases h2 : s.f2 = t.f2
        · by_cases h3 : s.f3 = t.f3
          · exact absurd (st_ext h0 h1 h2 h3) h
          · simp [h0, h1, h2, h3, h]
        · simp [h0, h1, h2, h]
      · simp [h0, h1, h]
    · simp [h0, h]
theorem laws_eqStepS_l0 (d : Nat) : ∀ (k : Nat) (l x : List St) (i : Nat), i + d = l.length → d < k → l.length ≤ 1048576 → x.length = l.length →
    laws_eqStepS.l0 k l x (i : Int) = some (decide (l.drop i = x.drop i)) := by
  induction d with
  | zero =>
    intro k l x i hi hk hn hx
    obtain ⟨k, rfl⟩ : ∃ m, k = m + 1 := ⟨k - 1, by omega⟩
    simp only [laws_eqStepS.l0]
    rw [if_neg (by omega), List.drop_eq_nil_of_le (by omega), List.drop_eq_nil_of_le (by omega)]
    simp
  | succ d ih =>
    intro k l x i hi hk hn hx
    obtain ⟨k, rfl⟩ : ∃ m, k = m + 1 := ⟨k - 1, by omega⟩
    simp only [laws_eqStepS.l0]
    rw [if_pos (by omega), if_pos (by omega), if_pos (by omega), up_one (n := l.length) (by omega) (by omega), ih k l x (i + 1) (by omega) (by omega) hn hx,
      drop_rdT (x := l) (i := i) (by omega), drop_rdT (x := x) (i := i) (by omega), laws_eqStep_eq]
    simp only [Option.bind_some, decide_eq_true_eq]
    by_cases h : rd_T32 l (i : Int) = rd_T32 x (i : Int)
    · rw [if_pos h]; simp [h]
    · rw [if_neg h]; simp [h]
theorem laws_eqStepS_eq {k : Nat} {l x : List St} (hk : l.length < k) (hn : l.length ≤ 1048576) : laws_eqStepS.f k l x = some (decide (l = x)) := by
  unfold laws_eqStepS.f
  by_cases h : x.length = l.length
  · rw [if_pos (by omega)]
    exact laws_eqStepS_l0 l.length k l x 0 (by omega) hk hn h
  · rw [if_neg (by omega)]
    have : l ≠ x := fun e => h (by rw [e])
    simp [this]

theorem spec_l01In_eq (a b c : Int) : spec_l01In.f a b c = some (decide (b ≤ a ∧ a ≤ c)) := by
  unfold spec_l01In.f; by_cases h : a ≥ b <;> by_cases h2 : a ≤ c <;> simp [h, h2]; all_goals omega

theorem spec_PlanOk_l0 (d : Nat) : ∀ (k : Nat) (l : List St) (i : Nat), i + d = l.length → d < k → i ≤ 11 → spec_PlanOk.l0 k l (tuD i) (i : Int) = some (planAt (l.drop i) i) := by
  induction d with
  | zero =>
    intro k l i hi hk h11
    obtain ⟨k, rfl⟩ : ∃ m, k = m + 1 := ⟨k - 1, by omega⟩
    simp only [spec_PlanOk.l0]
    rw [if_neg (by omega), List.drop_eq_nil_of_le (by omega)]
    have : (l.length : Int) ≤ 11 := by omega
    simp [planAt, this]
  | succ d ih =>
    intro k l i hi hk h11
    obtain ⟨k, rfl⟩ : ∃ m, k = m + 1 := ⟨k - 1, by omega⟩
    simp only [spec_PlanOk.l0]
    rw [if_pos (by omega), if_pos (by omega), drop_rdT (by omega)]
    simp only [planAt]
    have e : spec_PlanOk.ok (rd_T32 l (i : Int)) (tuD i) = stepOk (rd_T32 l (i : Int)) i := okD _ h11
    rw [e]
    cases c : stepOk (rd_T32 l (i : Int)) i with
    | false => simp
    | true =>
      have c' := c
      simp only [stepOk, decide_eq_true_eq] at c'
      rw [if_pos rfl, show ((rd_T32 l (i : Int)).f1).toNat = i + 1 by omega, tuD_set i (by omega), show wrap64 ((i : Int) + 1) = ((i + 1 : Nat) : Int) by rw [w64 (by omega) (by omega)]; omega, ih k l (i + 1) (by omega) (by omega) (by omega)]
      simp
theorem spec_PlanOk_eq {k : Nat} {l : List St} (hk : l.length < k) : spec_PlanOk.f k l = some (planB l) := by
  unfold spec_PlanOk.f
  rw [if_pos (by omega)]
  simp only [Option.bind_some]
  rw [if_pos (by simp)]
  exact spec_PlanOk_l0 l.length k l 0 (by omega) hk (by omega)

theorem spec_l20Step_l0 (d : Nat) : ∀ (k : Nat) (l : List St) (a : Int) (i : Nat), planB l = true → i + d = l.length → d < k →
    spec_l20Step.l0 k l a (i : Int) = some (if (i : Int) + 1 ≤ a ∧ a ≤ l.length then a - 1 else -1) := by
  induction d with
  | zero =>
    intro k l a i hp hi hk
    obtain ⟨k, rfl⟩ : ∃ m, k = m + 1 := ⟨k - 1, by omega⟩
    simp only [spec_l20Step.l0]
    rw [if_neg (by omega), if_neg (by omega)]
  | succ d ih =>
    intro k l a i hp hi hk
    obtain ⟨k, rfl⟩ : ∃ m, k = m + 1 := ⟨k - 1, by omega⟩
    have hl := planB_len hp
    simp only [spec_l20Step.l0]
    rw [if_pos (by omega), if_pos (by omega), (planB_at hp (show i < l.length by omega)).2.2.2]
    by_cases c : (i : Int) + 1 = a
    · rw [if_pos c, if_pos (by omega)]
      exact congrArg some (by omega)
    · rw [if_neg c, up_one (n := l.length) (by omega) (by omega), ih k l a (i + 1) hp (by omega) (by omega)]
      by_cases c2 : ((i + 1 : Nat) : Int) + 1 ≤ a ∧ a ≤ l.length
      · rw [if_pos c2, if_pos (by omega)]
      · rw [if_neg c2, if_neg (by omega)]
theorem spec_l20Step_eq {k : Nat} {l : List St} (a : Int) (hp : planB l = true) (hk : l.length < k) : spec_l20Step.f k l a = some (if 1 ≤ a ∧ a ≤ l.length then a - 1 else -1) := by
  have := spec_l20Step_l0 l.length k l a 0 hp (by omega) hk
  unfold spec_l20Step.f
  simpa using this

theorem spec_DepthOf_nat (l : List St) (hp : planB l = true) : ∀ (n k : Nat), n ≤ l.length → l.length + n + 1 < k → spec_DepthOf.f k l (n : Int) = some (n : Int) := by
  have hl := planB_len hp
  intro n
  induction n with
  | zero =>
    intro k hn hk
    obtain ⟨k, rfl⟩ : ∃ m, k = m + 1 := ⟨k - 1, by omega⟩
    unfold spec_DepthOf.f
    rw [spec_PlanOk_eq (by omega), hp]
    simp
  | succ n ih =>
    intro k hn hk
    obtain ⟨k, rfl⟩ : ∃ m, k = m + 1 := ⟨k - 1, by omega⟩
    unfold spec_DepthOf.f
    rw [spec_PlanOk_eq (by omega), hp]
    simp only [Option.bind_some, if_true]
    rw [if_neg (by omega), spec_l20Step_eq _ hp (by omega), if_pos (by omega)]
    simp only [Option.bind_some]
    rw [if_neg (by omega), if_pos (by omega), if_pos (by omega), show (((n + 1 : Nat) : Int) - 1) = (n : Int) by omega, (planB_at hp (show n < l.length by omega)).2.2.1, ih k (by omega) (by omega)]
    simp only [Option.bind_some]
    rw [w64 (by omega) (by omega)]
    exact congrArg some (by omega)
theorem spec_DepthOf_eq {k : Nat} {l : List St} (a : Int) (hk : l.length + 13 < k) : spec_DepthOf.f k l a = some (depthF l a) := by
  unfold depthF
  by_cases hp : planB l = true
  · have hl := planB_len hp
    rw [if_pos hp]
    by_cases c : 0 ≤ a ∧ a ≤ l.length
    · rw [if_pos c]
      obtain ⟨n, rfl⟩ : ∃ n : Nat, a = n := ⟨a.toNat, by omega⟩
      exact spec_DepthOf_nat l hp n k (by omega) (by omega)
    · rw [if_neg c]
      obtain ⟨k, rfl⟩ : ∃ m, k = m + 1 := ⟨k - 1, by omega⟩
      unfold spec_DepthOf.f
      rw [spec_PlanOk_eq (by omega), hp]
      simp only [Option.bind_some, if_true]
      rw [if_neg (by omega), spec_l20Step_eq _ hp (by omega), if_neg (by omega)]
      simp
  · rw [if_neg hp]
    obtain ⟨k, rfl⟩ : ∃ m, k = m + 1 := ⟨k - 1, by omega⟩
    unfold spec_DepthOf.f
    rw [spec_PlanOk_eq (by omega)]
    simp only [Option.bind_some]
    rw [if_neg hp]

theorem spec_DeepestKey_l0 (e : Nat) : ∀ (k : Nat) (l : List St) (i : Nat), planB l = true → i + e = 12 → l.length + e + 20 < k →
    spec_DeepestKey.l0 k l (if i = 0 then -1 else ((min (i - 1) l.length : Nat) : Int)) (i : Int) = some (l.length : Int) := by
  induction e with
  | zero =>
    intro k l i hp hi hk
    obtain ⟨k, rfl⟩ : ∃ m, k = m + 1 := ⟨k - 1, by omega⟩
    have h11 := planB_len hp
    simp only [spec_DeepestKey.l0]
    rw [if_neg (by omega), if_neg (by omega)]
    exact congrArg some (by omega)
  | succ e ih =>
    intro k l i hp hi hk
    obtain ⟨k, rfl⟩ : ∃ m, k = m + 1 := ⟨k - 1, by omega⟩
    have h11 := planB_len hp
    simp only [spec_DeepestKey.l0]
    rw [if_pos (by omega), spec_DepthOf_eq _ (by omega)]
    simp only [Option.bind_some]
    rw [up_one (n := 20) (by omega) (by omega)]
    have := ih k l (i + 1) hp (by omega) (by omega)
    rw [if_neg (by omega), show i + 1 - 1 = i by omega] at this
    by_cases c0 : i = 0
    · subst c0
      simp only [if_true]
      rw [depthF_at hp (by omega), if_pos (by omega), if_pos (by omega)]
      rw [show ((min 0 l.length : Nat) : Int) = 0 by omega] at this
      exact this
    · rw [if_neg c0]
      by_cases c : i ≤ l.length
      · rw [depthF_at hp c, if_pos (by omega), if_neg (by omega), spec_DepthOf_eq _ (by omega)]
        simp only [Option.bind_some]
        rw [depthF_at hp (by omega), if_pos (by omega)]
        rw [show (min i l.length : Nat) = i by omega] at this
        exact this
      · rw [depthF_out hp c, if_neg (by omega), show (min (i - 1) l.length : Nat) = min i l.length by omega]
        exact this
theorem spec_DeepestKey_eq {k : Nat} {l : List St} (hk : l.length + 40 < k) : spec_DeepestKey.f k l = some (deepF l) := by
  unfold spec_DeepestKey.f deepF
  by_cases hp : planB l = true
  · rw [if_pos hp]
    exact spec_DeepestKey_l0 12 k l 0 hp (by omega) (by omega)
  · rw [if_neg hp]
    have : ∀ (e k i : Nat), i + e = 12 → l.length + e + 20 < k → spec_DeepestKey.l0 k l (-1) (i : Int) = some (-1) := by
      intro e
      induction e with
      | zero =>
        intro k i hi hk
        obtain ⟨k, rfl⟩ : ∃ m, k = m + 1 := ⟨k - 1, by omega⟩
        simp only [spec_DeepestKey.l0]
        rw [if_neg (by omega)]
      | succ e ih =>
        intro k i hi hk
        obtain ⟨k, rfl⟩ : ∃ m, k = m + 1 := ⟨k - 1, by omega⟩
        simp only [spec_DeepestKey.l0]
        rw [if_pos (by omega), spec_DepthOf_eq _ (by omega)]
        simp only [Option.bind_some]
        rw [depthF_no hp, if_neg (by omega), up_one (n := 20) (by omega) (by omega), ih k (i + 1) (by omega) (by omega)]
    exact this 12 k 0 (by omega) (by omega)

/-- The law, over numbers and lists. -/
def laws_FnExactDeepestKey.Pure : Prop := ∀ (l0 : List S66), l0.length ≤ maxLen → (∀ x ∈ l0, (Lit.int .i64 x.f0).wf = true ∧ (Lit.int .i64 x.f1).wf = true ∧ (Lit.int .i64 x.f2).wf = true ∧ (Lit.int .i64 x.f3).wf = true) → ∃ k, laws_FnExactDeepestKey.f k l0 = some true
theorem FnExactDeepestKey : laws_FnExactDeepestKey.Pure := by
  intro l hm _
  refine ⟨2 * l.length + 70, ?_⟩
  have hl := planOf_len l
  unfold laws_FnExactDeepestKey.f
  rw [laws_szStepS_eq hm]
  simp only [Option.bind_some]
  by_cases c : 1048576 < l.length
  · rw [if_pos c, if_pos (by omega)]
  · rw [if_neg c, if_neg (by omega), laws_toStepS_eq (by omega) (by omega)]
    simp only [Option.bind_some]
    rw [spec_DeepestKey_eq (by omega), impl_DeepestKey_eq (by omega)]
    simp only [Option.bind_some]
    rw [laws_eqStepS_eq (by omega) (by omega)]
    simp

end Go.Proofs.Ythhcpfaabnanoaa.Pure
