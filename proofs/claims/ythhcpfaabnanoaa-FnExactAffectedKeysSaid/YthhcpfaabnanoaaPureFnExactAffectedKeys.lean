/- AffectedKeys of the program and of the reference answer alike, for every plan; the plan stands as it was, and the answer is new memory. No condition. -/
import Derived.Test.YthhcpfaabnanoaaPFnExactAffectedKeysx1
import Derived.Test.YthhcpfaabnanoaaPFnExactAffectedKeysx2
import Derived.Test.YthhcpfaabnanoaaPFnExactAffectedKeysx3
import Derived.Test.YthhcpfaabnanoaaPFnExactAffectedKeysx4
import Derived.Test.YthhcpfaabnanoaaPFnExactAffectedKeysx5
import Derived.OpenShut
namespace Go.Proofs.Ythhcpfaabnanoaa.Pure
open Go.RowKit Go.Proofs.Ythhcpfaabnanoaa.PFnExactAffectedKeys Go.Proofs.YthhcpfaabnanoaaW.PrintWords Go.Proofs.YthhcpfaabnanoaaW.PrintLast Go.Proofs.YthhcpfaabnanoaaW.PrintMore
set_option linter.unusedVariables false
set_option linter.unusedSimpArgs false
theorem w64 {x : Int} (h : -9223372036854775808 ≤ x) (h' : x ≤ 9223372036854775807) : wrap64 x = x := by unfold wrap64; omega
theorem wf64 {x : Int} (h : (Lit.int .i64 x).wf = true) : -9223372036854775808 ≤ x ∧ x ≤ 9223372036854775807 := by
  simp only [Lit.wf, IntKind.min, IntKind.max, IntKind.signed, IntKind.bits, Bool.and_eq_true, decide_eq_true_eq, if_true] at h
  omega
theorem wfu8 {x : Int} (h : (Lit.int .u8 x).wf = true) : 0 ≤ x ∧ x ≤ 255 := by
  simp [Lit.wf, IntKind.min, IntKind.max, IntKind.signed, IntKind.bits] at h
  omega
theorem mx_def (a b : Int) : mx a b = max a b := by unfold mx; omega
theorem mn_def (a b : Int) : mn a b = min a b := by unfold mn; omega
theorem fuel {n k : Nat} (h : n < k) : ∃ m, k = m + 1 ∧ n ≤ m := ⟨k - 1, by omega, by omega⟩
theorem gcd_tmod (a b : Int) : Int.gcd b (Int.tmod a b) = Int.gcd a b := by
  unfold Int.gcd
  rw [Int.natAbs_tmod, Nat.gcd_comm, ← Nat.gcd_rec, Nat.gcd_comm]
theorem tmod_lt (a : Int) {b : Int} (h : b ≠ 0) : (Int.tmod a b).natAbs < b.natAbs := by
  rw [Int.natAbs_tmod]
  exact Nat.mod_lt _ (by omega)
theorem drop_rd {l : List Int} {i : Nat} (h : i < l.length) : l.drop i = rd l (i : Int) :: l.drop (i + 1) := by
  rw [List.drop_eq_getElem_cons h]
  simp [rd, List.getD, List.getElem?_eq_getElem h]
theorem rd_get {l : List Int} {i : Nat} (h : i < l.length) : rd l (i : Int) = l[i] := by simp [rd, List.getD, List.getElem?_eq_getElem h]
theorem up_one {i n : Nat} (h : i < n) (hn : n ≤ 9223372036854775807) : wrap64 ((i : Int) + 1) = ((i + 1 : Nat) : Int) := by rw [w64 (by omega) (by omega)]; omega
theorem rd_mem {l : List Int} {i : Nat} (h : i < l.length) : rd l (i : Int) ∈ l := by rw [rd_get h]; exact List.getElem_mem h
theorem maxLen_le {n : Nat} (h : n ≤ maxLen) : (n : Int) ≤ 9223372036854775807 := by unfold maxLen at h; omega

abbrev St := S32
theorem rdT_nat {x : List St} {i : Nat} (h : i < x.length) : rd_T32 x (i : Int) = x[i] := by simp [rd_T32, List.getD, List.getElem?_eq_getElem h]
theorem rdT_set {x : List St} {i : Nat} (h : i < x.length) (v : St) : rd_T32 (x.set i v) (i : Int) = v := by
  rw [rdT_nat (by simpa using h)]
  simp
theorem st_eta (s : St) : (⟨s.f0, s.f1, s.f2, s.f3⟩ : St) = s := rfl
theorem st_ext {s t : St} (h0 : s.f0 = t.f0) (h1 : s.f1 = t.f1) (h2 : s.f2 = t.f2) (h3 : s.f3 = t.f3) : s = t := by
  cases s; cases t; simp at h0 h1 h2 h3; subst h0 h1 h2 h3; rfl
def stB (s t : St) : Bool := decide (s.f0 = t.f0 ∧ s.f1 = t.f1 ∧ s.f2 = t.f2 ∧ s.f3 = t.f3)
theorem stB_iff (s t : St) : stB s t = true ↔ s = t := by
  unfold stB
  rw [decide_eq_true_eq]
  exact ⟨fun ⟨a, b, c, d⟩ => st_ext a b c d, fun h => by rw [h]; simp⟩
instance : DecidableEq St := fun s t => decidable_of_iff (stB s t = true) (stB_iff s t)
theorem drop_rdT {x : List St} {i : Nat} (h : i < x.length) : x.drop i = rd_T32 x (i : Int) :: x.drop (i + 1) := by
  rw [List.drop_eq_getElem_cons h, rdT_nat h]

abbrev LSt := S66
/-- A step of the law's own kind, as the program's. -/
def stepOf (s : LSt) : St := ⟨s.f0, s.f1, s.f2, s.f3⟩
def planOf (l : List LSt) : List St := l.map stepOf
theorem planOf_len (l : List LSt) : (planOf l).length = l.length := by simp [planOf]
theorem rdL_nat {x : List LSt} {i : Nat} (h : i < x.length) : rd_T66 x (i : Int) = x[i] := by simp [rd_T66, List.getD, List.getElem?_eq_getElem h]

/-- Step number i of a plan that runs key after key from key 0. -/
def stepOk (s : St) (i : Nat) : Bool := decide ((s.f2 = 1 ∨ s.f2 = 2) ∧ (0 ≤ s.f3 ∧ s.f3 ≤ 5000) ∧ s.f0 = i ∧ s.f1 = i + 1 ∧ i ≤ 10)
def planAt : List St → Nat → Bool
  | [], _ => true
  | s :: l, i => stepOk s i && planAt l (i + 1)
/-- A plan that holds. -/
def planB (l : List St) : Bool := planAt l 0
theorem planAt_len : ∀ (l : List St) (i : Nat), i ≤ 11 → planAt l i = true → i + l.length ≤ 11
  | [], i, hi, _ => by simpa using hi
  | s :: l, i, hi, h => by
    simp only [planAt, stepOk, Bool.and_eq_true, decide_eq_true_eq] at h
    have := planAt_len l (i + 1) (by omega) h.2
    simp only [List.length_cons]
    omega
theorem planAt_get : ∀ (l : List St) (i : Nat), planAt l i = true → ∀ (j : Nat) (h : j < l.length), stepOk l[j] (i + j) = true
  | [], _, _, j, h => absurd h (by simp)
  | s :: l, i, hp, j, h => by
    simp only [planAt, Bool.and_eq_true] at hp
    cases j with
    | zero => simpa using hp.1
    | succ j =>
      have := planAt_get l (i + 1) hp.2 j (by simpa using h)
      rw [show i + (j + 1) = i + 1 + j by omega]
      simpa using this
theorem planB_len {l : List St} (h : planB l = true) : l.length ≤ 11 := by have := planAt_len l 0 (by omega) h; omega
theorem planB_at {l : List St} (h : planB l = true) {j : Nat} (hj : j < l.length) :
    ((rd_T32 l (j : Int)).f2 = 1 ∨ (rd_T32 l (j : Int)).f2 = 2) ∧ (0 ≤ (rd_T32 l (j : Int)).f3 ∧ (rd_T32 l (j : Int)).f3 ≤ 5000) ∧ (rd_T32 l (j : Int)).f0 = j ∧ (rd_T32 l (j : Int)).f1 = (j : Int) + 1 := by
  have := planAt_get l 0 h j hj
  rw [rdT_nat hj]
  simp only [stepOk, decide_eq_true_eq, Nat.zero_add] at this
  exact ⟨this.1, this.2.1, this.2.2.1, this.2.2.2.1⟩
/-- Keys 0 to i are tuned. -/
def tuD (i : Nat) : List Bool := (List.range 12).map fun j => decide (j ≤ i)
theorem tuD_len (i : Nat) : (tuD i).length = 12 := by simp [tuD]
theorem tuD_at (i : Nat) {x : Int} (h0 : 0 ≤ x) (h1 : x ≤ 11) : rdOf false (tuD i) x = decide (x ≤ i) := by
  obtain ⟨n, rfl⟩ : ∃ n : Nat, x = n := ⟨x.toNat, by omega⟩
  unfold rdOf tuD
  simp [List.getD, List.getElem?_map, List.getElem?_range (show n < 12 by omega)]
theorem tuD_set : ∀ i, i < 11 → (tuD i).set (i + 1) true = tuD (i + 1) := by decide
theorem okD (s : St) {i : Nat} (hi : i ≤ 11) : decide ((s.f2 = 1 ∨ s.f2 = 2) ∧ (0 ≤ s.f3 ∧ s.f3 ≤ 5000) ∧ (0 ≤ s.f0 ∧ s.f0 ≤ 11) ∧ (0 ≤ s.f1 ∧ s.f1 ≤ 11) ∧ s.f1 = (s.f0 + 1) % 12 ∧ rdOf false (tuD i) s.f0 = true ∧ rdOf false (tuD i) s.f1 = false) = stepOk s i := by
  unfold stepOk
  by_cases h : (0 ≤ s.f0 ∧ s.f0 ≤ 11) ∧ (0 ≤ s.f1 ∧ s.f1 ≤ 11)
  · rw [tuD_at i h.1.1 h.1.2, tuD_at i h.2.1 h.2.2]
    refine decide_eq_decide.mpr ⟨fun ⟨a, b, _, _, e, f, g⟩ => ?_, fun ⟨a, b, c, d, e⟩ => ?_⟩
    · simp only [decide_eq_true_eq, decide_eq_false_iff_not] at f g
      refine ⟨a, b, ?_, ?_, ?_⟩ <;> omega
    · simp only [decide_eq_true_eq, decide_eq_false_iff_not]
      refine ⟨a, b, h.1, h.2, ?_, ?_, ?_⟩ <;> omega
  · refine decide_eq_decide.mpr ⟨fun ⟨a, b, c, d, _⟩ => absurd ⟨c, d⟩ h, fun ⟨a, b, c, d, e⟩ => absurd ⟨⟨?_, ?_⟩, ?_, ?_⟩ h⟩ <;> omega

/-- Keys i to j are hit. -/
def hitD (a n : Nat) : List Bool := (List.range 12).map fun j => decide (a ≤ j ∧ j ≤ n)
theorem hitD_len (a n : Nat) : (hitD a n).length = 12 := by simp [hitD]
theorem hitD_at (a n : Nat) {x : Nat} (h : x ≤ 11) : rdOf false (hitD a n) (x : Int) = decide (a ≤ x ∧ x ≤ n) := by
  unfold rdOf hitD
  simp [List.getD, List.getElem?_map, List.getElem?_range (show x < 12 by omega)]
theorem hitD_start : ∀ a, a < 12 → (List.replicate 12 false).set a true = hitD a a := by decide
theorem hitD_set : ∀ a, a < 12 → ∀ n, n < 11 → a ≤ n + 1 → (hitD a n).set (n + 1) true = hitD a (n + 1) := by decide
/-- a key that is hit already. -/
theorem hitD_again : ∀ a, a < 12 → ∀ x, x < 12 → (hitD a a).set a true = hitD a a := by decide
/-- Which keys are hit behind i steps, when step at hits key at + 1. -/
def hitAt (at_ i : Nat) : List Bool := hitD (at_ + 1) (max i (at_ + 1))
theorem hitAt_len (a i : Nat) : (hitAt a i).length = 12 := hitD_len _ _
theorem hit_step : ∀ a, a < 11 → ∀ i, i < 11 → (if rdOf false (hitAt a i) (i : Int) = true then (hitAt a i).set (i + 1) true else hitAt a i) = hitAt a (i + 1) := by decide
theorem hit_stepS : ∀ a, a < 11 → ∀ i, i < 11 → (if rdOf false (hitAt a i) ((i + 1 : Nat) : Int) = true then (hitAt a i).set (i + 1) true else (hitAt a i).set (i + 1) (rdOf false (hitAt a i) (i : Int))) = hitAt a (i + 1) := by decide
theorem hit_start : ∀ a, a < 11 → (List.replicate 12 false).set (a + 1) true = hitAt a 0 := by decide
/-- The keys from i on, of e, that are hit. -/
def hitK (tu : List Bool) : Nat → Nat → List Int
  | _, 0 => []
  | i, e + 1 => if rdOf false tu (i : Int) = true then (i : Int) :: hitK tu (i + 1) e else hitK tu (i + 1) e
theorem hitK_len (tu : List Bool) : ∀ e i, (hitK tu i e).length ≤ e
  | 0, _ => by simp [hitK]
  | e + 1, i => by
    have := hitK_len tu e (i + 1)
    simp only [hitK]
    split <;> simp <;> omega
theorem hitK_ge (tu : List Bool) : ∀ e i, ∀ x ∈ hitK tu i e, (i : Int) ≤ x
  | 0, _, x, h => by simp [hitK] at h
  | e + 1, i, x, h => by
    have ih := hitK_ge tu e (i + 1)
    simp only [hitK] at h
    split at h
    · rcases List.mem_cons.mp h with h | h
      · omega
      · have := ih x h; omega
    · have := ih x h; omega
theorem hitK_sorted (tu : List Bool) : ∀ e i, (hitK tu i e).Pairwise (· ≤ ·)
  | 0, _ => by simp [hitK]
  | e + 1, i => by
    have ih := hitK_sorted tu e (i + 1)
    simp only [hitK]
    split
    · rw [List.pairwise_cons]
      refine ⟨fun x h => ?_, ih⟩
      have := hitK_ge tu e (i + 1) x h
      omega
    · exact ih
/-- The keys that a wrong step reaches. -/
def affF (l : List St) (a : Int) : List Int := if planB l = true ∧ (0 ≤ a ∧ a ≤ (l.length : Int) - 1) then hitK (hitAt a.toNat l.length) 0 12 else []
theorem affF_len (l : List St) (a : Int) : (affF l a).length ≤ 12 := by
  unfold affF
  split
  · exact hitK_len _ _ _
  · simp
theorem hit_pos : ∀ a, a < 11 → ∀ n, n < 12 → 0 < (hitK (hitAt a n) 0 12).length := by decide

theorem impl_within_eq (a b c : Int) : impl_within.f a b c = some (decide (b ≤ a ∧ a ≤ c)) := by
  unfold impl_within.f; by_cases h : b ≤ a <;> by_cases h2 : a ≤ c <;> simp [h, h2]

theorem impl_PlanOk_l0 (d : Nat) : ∀ (k : Nat) (l : List St) (i : Nat), i + d = l.length → d < k → i ≤ 11 → impl_PlanOk.l0 k l (tuD i) (i : Int) = some (planAt (l.drop i) i) := by
  induction d with
  | zero =>
    intro k l i hi hk h11
    obtain ⟨k, rfl⟩ : ∃ m, k = m + 1 := ⟨k - 1, by omega⟩
    simp only [impl_PlanOk.l0]
    rw [if_neg (by omega), List.drop_eq_nil_of_le (by omega)]
    have : (l.length : Int) ≤ 11 := by omega
    simp [planAt, this]
  | succ d ih =>
    intro k l i hi hk h11
    obtain ⟨k, rfl⟩ : ∃ m, k = m + 1 := ⟨k - 1, by omega⟩
    simp only [impl_PlanOk.l0]
    rw [if_pos (by omega), if_pos (by omega), drop_rdT (by omega)]
    simp only [planAt]
    have e : impl_PlanOk.ok (rd_T32 l (i : Int)) (tuD i) = stepOk (rd_T32 l (i : Int)) i := okD _ h11
    rw [e]
    cases c : stepOk (rd_T32 l (i : Int)) i with
    | false => simp
    | true =>
      have c' := c
      simp only [stepOk, decide_eq_true_eq] at c'
      rw [if_pos rfl, show ((rd_T32 l (i : Int)).f1).toNat = i + 1 by omega, tuD_set i (by omega), show wrap64 ((i : Int) + 1) = ((i + 1 : Nat) : Int) by rw [w64 (by omega) (by omega)]; omega, ih k l (i + 1) (by omega) (by omega) (by omega)]
      simp
theorem impl_PlanOk_eq {k : Nat} {l : List St} (hk : l.length < k) : impl_PlanOk.f k l = some (planB l) := by
  unfold impl_PlanOk.f
  by_cases c : (l.length : Int) > 11
  · rw [if_pos c]
    cases h : planB l with
    | false => rfl
    | true => exact absurd (planB_len h) (by omega)
  · rw [if_neg c]
    exact impl_PlanOk_l0 l.length k l 0 (by omega) hk (by omega)

theorem sort_Ints_eq {l : List Int} (h0 : 0 < l.length) (h1 : l.length ≤ 1048576) : sort_Ints.f l = some (l.mergeSort fun x y => decide (x ≤ y)) := by
  unfold sort_Ints.f
  rw [if_pos h0, if_pos (by omega)]
theorem sort_sorted {l : List Int} (h : l.Pairwise (· ≤ ·)) : (l.mergeSort fun x y => decide (x ≤ y)) = l :=
  List.mergeSort_of_pairwise (h.imp (by simp))

theorem impl_AffectedKeys_l1 (tu : List Bool) (e : Nat) : ∀ (k : Nat) (p : List Int) (i : Nat), i + e = 12 → e < k → p.length ≤ i → impl_AffectedKeys.l1 k p (i : Int) tu = sort_Ints.f (p ++ hitK tu i e) := by
  induction e with
  | zero =>
    intro k p i hi hk hl
    obtain ⟨k, rfl⟩ : ∃ m, k = m + 1 := ⟨k - 1, by omega⟩
    simp only [impl_AffectedKeys.l1, hitK]
    rw [if_neg (by omega), List.append_nil]
    cases sort_Ints.f p <;> rfl
  | succ e ih =>
    intro k p i hi hk hl
    obtain ⟨k, rfl⟩ : ∃ m, k = m + 1 := ⟨k - 1, by omega⟩
    simp only [impl_AffectedKeys.l1, hitK]
    rw [if_pos (by omega), if_pos (by omega), up_one (n := 20) (by omega) (by omega)]
    by_cases c : rdOf false tu (i : Int) = true
    · rw [if_pos c, if_pos c, if_pos (by omega), ih k _ (i + 1) (by omega) (by omega) (by simp; omega)]
      simp
    · rw [if_neg c, if_neg c, ih k _ (i + 1) (by omega) (by omega) (by omega)]
theorem impl_AffectedKeys_l0 (a : Nat) (ha : a < 11) (d : Nat) : ∀ (k : Nat) (l : List St) (i : Nat), planB l = true → i + d = l.length → d + 20 < k →
    impl_AffectedKeys.l0 k l (l.length : Int) (i : Int) (hitAt a i) = sort_Ints.f (hitK (hitAt a l.length) 0 12) := by
  induction d with
  | zero =>
    intro k l i hp hi hk
    obtain ⟨k, rfl⟩ : ∃ m, k = m + 1 := ⟨k - 1, by omega⟩
    simp only [impl_AffectedKeys.l0]
    rw [if_neg (by omega), show i = l.length by omega]
    have := impl_AffectedKeys_l1 (hitAt a l.length) 12 k [] 0 (by omega) (by omega) (by simp)
    simpa using this
  | succ d ih =>
    intro k l i hp hi hk
    obtain ⟨k, rfl⟩ : ∃ m, k = m + 1 := ⟨k - 1, by omega⟩
    have h11 := planB_len hp
    have hs := planB_at hp (show i < l.length by omega)
    simp only [impl_AffectedKeys.l0]
    rw [if_pos (by omega), if_pos (by omega), if_pos (by omega), hs.2.2.1, hs.2.2.2, if_pos (by omega), if_pos (by omega), if_pos (by omega), if_pos (by omega), up_one (n := 20) (by omega) (by omega), show ((i : Int) + 1).toNat = i + 1 by omega]
    have st := hit_step a ha i (by omega)
    by_cases c : rdOf false (hitAt a i) (i : Int) = true
    · rw [if_pos c] at st ⊢
      rw [st]
      exact ih k l (i + 1) hp (by omega) (by omega)
    · rw [if_neg c] at st ⊢
      rw [st]
      exact ih k l (i + 1) hp (by omega) (by omega)
theorem impl_AffectedKeys_eq {k : Nat} {l : List St} (a : Int) (hk : l.length + 40 < k) (hn : l.length ≤ 1048576) : impl_AffectedKeys.f k l a = some (affF l a) := by
  obtain ⟨k, rfl⟩ : ∃ m, k = m + 1 := ⟨k - 1, by omega⟩
  unfold impl_AffectedKeys.f affF
  rw [impl_PlanOk_eq (by omega)]
  simp only [Option.bind_some, impl_within_eq, impl_AffectedKeys.j0]
  rw [w64 (x := (l.length : Int) - 1) (by omega) (by omega)]
  by_cases hp : planB l = true
  · rw [if_pos hp]
    by_cases hi : 0 ≤ a ∧ a ≤ (l.length : Int) - 1
    · have h11 := planB_len hp
      rw [decide_eq_true hi, if_pos (c := planB l = true ∧ (0 ≤ a ∧ a ≤ (l.length : Int) - 1)) ⟨hp, hi⟩]
      simp only [Bool.not_true, Bool.false_eq_true, if_false]
      obtain ⟨n, rfl⟩ : ∃ n : Nat, a = n := ⟨a.toNat, by omega⟩
      have hs := planB_at hp (show n < l.length by omega)
      have e := impl_AffectedKeys_l0 n (by omega) l.length k l 0 hp (by omega) (by omega)
      have hl := hitK_len (hitAt n l.length) 12 0
      rw [if_pos (by omega), if_pos (by omega), hs.2.2.2, if_pos (by omega), if_pos (by omega), show ((n : Int) + 1).toNat = n + 1 by omega, hit_start n (by omega), Int.toNat_natCast]
      refine e.trans ?_
      rw [sort_Ints_eq (hit_pos n (by omega) l.length (by omega)) (by omega), sort_sorted (hitK_sorted _ _ _)]
    · rw [decide_eq_false hi, if_neg (c := planB l = true ∧ (0 ≤ a ∧ a ≤ (l.length : Int) - 1)) (fun h => hi h.2)]
      simp
  · rw [if_neg hp, if_neg (c := planB l = true ∧ (0 ≤ a ∧ a ≤ (l.length : Int) - 1)) (fun h => hp h.1)]
    simp

theorem laws_szStepS_eq {l : List LSt} (h : l.length ≤ maxLen) : laws_szStepS.f l 1048576 = some (if 1048576 < l.length then -1 else 1048576 - (l.length : Int)) := by
  have h2 := maxLen_le h
  unfold laws_szStepS.f
  rw [w64 (by omega) (by omega)]
  by_cases c : 1048576 < l.length
  · rw [if_pos c, if_pos (by omega)]
  · rw [if_neg c, if_neg (by omega)]

theorem laws_toStepS_l0 (d : Nat) : ∀ (k : Nat) (l : List LSt) (x : List St) (i : Nat), i + d = l.length → d < k → l.length ≤ 8796093022208 → x.length = l.length → (∀ j, j < i → x[j]? = (planOf l)[j]?) →
    laws_toStepS.l0 k l x (i : Int) = some (planOf l) := by
  induction d with
  | zero =>
    intro k l x i hi hk hn hx he
    obtain ⟨k, rfl⟩ : ∃ m, k = m + 1 := ⟨k - 1, by omega⟩
    have := planOf_len l
    simp only [laws_toStepS.l0]
    rw [if_neg (by omega)]
    refine congrArg some (List.ext_getElem? fun j => ?_)
    by_cases hj : j < i
    · exact he j hj
    · rw [List.getElem?_eq_none (by omega), List.getElem?_eq_none (by omega)]
  | succ d ih =>
    intro k l x i hi hk hn hx he
    obtain ⟨k, rfl⟩ : ∃ m, k = m + 1 := ⟨k - 1, by omega⟩
    have := planOf_len l
    simp only [laws_toStepS.l0, laws_toStep.f, Option.bind_some]
    rw [if_pos (by omega), if_pos (by omega), if_pos (by omega), up_one (n := l.length) (by omega) (by omega)]
    refine ih k l _ (i + 1) (by omega) (by omega) hn (by simpa using hx) fun j hj => ?_
    rw [Int.toNat_natCast, List.getElem?_set]
    by_cases hji : i = j
    · subst hji
      rw [if_pos rfl, if_pos (by omega), rdL_nat (by omega)]
      simp [planOf, stepOf, List.getElem?_eq_getElem (show i < l.length by omega)]
    · rw [if_neg hji]
      exact he j (by omega)
theorem laws_toStepS_eq {k : Nat} {l : List LSt} (hk : l.length < k) (hn : l.length ≤ 8796093022208) : laws_toStepS.f k l = some (planOf l) := by
  unfold laws_toStepS.f
  rw [if_pos (by omega), if_pos (by simpa using hn)]
  exact laws_toStepS_l0 l.length k l _ 0 (by omega) hk hn (by simp) (fun j hj => absurd hj (by omega))

theorem laws_eqStep_eq (s t : St) : laws_eqStep.f s.f0 s.f1 s.f2 s.f3 t.f0 t.f1 t.f2 t.f3 = some (decide (s = t)) := by
  unfold laws_eqStep.f
  by_cases h : s = t
  · subst h; simp
  · by_cases h0 : s.f0 = t.f0
    · by_cases h1 : s.f1 = t.f1
      · by_cases h2 : s.f2 = t.f2
        · by_cases h3 : s.f3 = t.f3
          · exact absurd (st_ext h0 h1 h2 h3) h
          · simp [h0, h1, h2, h3, h]
        · simp [h0, h1, h2, h]
      · simp [h0, h1, h]
    · simp [h0, h]
theorem laws_eqStepS_l0 (d : Nat) : ∀ (k : Nat) (l x : List St) (i : Nat), i + d = l.length → d < k → l.length ≤ 1048576 → x.length = l.length →
    laws_eqStepS.l0 k l x (i : Int) = some (decide (l.drop i = x.drop i)) := by
  induction d with
  | zero =>
    intro k l x i hi hk hn hx
    obtain ⟨k, rfl⟩ : ∃ m, k = m + 1 := ⟨k - 1, by omega⟩
    simp only [laws_eqStepS.l0]
    rw [if_neg (by omega), List.drop_eq_nil_of_le (by omega), List.drop_eq_nil_of_le (by omega)]
    simp
  | succ d ih =>
    intro k l x i hi hk hn hx
    obtain ⟨k, rfl⟩ : ∃ m, k = m + 1 := ⟨k - 1, by omega⟩
    simp only [laws_eqStepS.l0]
    rw [if_pos (by omega), if_pos (by omega), if_pos (by omega), up_one (n := l.length) (by omega) (by omega), ih k l x (i + 1) (by omega) (by omega) hn hx,
      drop_rdT (x := l) (i := i) (by omega), drop_rdT (x := x) (i := i) (by omega), laws_eqStep_eq]
    simp only [Option.bind_some, decide_eq_true_eq]
    by_cases h : rd_T32 l (i : Int) = rd_T32 x (i : Int)
    · rw [if_pos h]; simp [h]
    · rw [if_neg h]; simp [h]
theorem laws_eqStepS_eq {k : Nat} {l x : List St} (hk : l.length < k) (hn : l.length ≤ 1048576) : laws_eqStepS.f k l x = some (decide (l = x)) := by
  unfold laws_eqStepS.f
  by_cases h : x.length = l.length
  · rw [if_pos (by omega)]
    exact laws_eqStepS_l0 l.length k l x 0 (by omega) hk hn h
  · rw [if_neg (by omega)]
    have : l ≠ x := fun e => h (by rw [e])
    simp [this]

theorem laws_markStepS_l0 (d : Nat) : ∀ (k : Nat) (x : List St) (a : Int) (i : Nat), i + d = x.length → d < k → x.length ≤ 1048576 → 0 ≤ a → a + 4 * d ≤ 9000000000000000000 →
    ∃ y : List St, laws_markStepS.l0 k x a (i : Int) = some (a + 4 * d, y) ∧ y.length = x.length ∧ (∀ j, j < i → y[j]? = x[j]?) ∧ (∀ j, i ≤ j → j < x.length → y[j]? = some ⟨a + 4 * (j - i : Int), a + 4 * (j - i : Int) + 1, a + 4 * (j - i : Int) + 1 + 1, a + 4 * (j - i : Int) + 1 + 1 + 1⟩) := by
  induction d with
  | zero =>
    intro k x a i hi hk hn ha hb
    obtain ⟨k, rfl⟩ : ∃ m, k = m + 1 := ⟨k - 1, by omega⟩
    simp only [laws_markStepS.l0]
    rw [if_neg (by omega)]
    exact ⟨x, by simp, rfl, fun _ _ => rfl, fun j h1 h2 => by omega⟩
  | succ d ih =>
    intro k x a i hi hk hn ha hb
    obtain ⟨k, rfl⟩ : ∃ m, k = m + 1 := ⟨k - 1, by omega⟩
    simp only [laws_markStepS.l0]
    have hi' : i < x.length := by omega
    rw [if_pos (by omega), if_pos (by omega)]
    simp only [Option.bind_some, Int.toNat_natCast]
    rw [w64 (x := a + 1) (by omega) (by omega), w64 (x := a + 1 + 1) (by omega) (by omega), w64 (x := a + 1 + 1 + 1) (by omega) (by omega), w64 (x := a + 1 + 1 + 1 + 1) (by omega) (by omega), up_one (n := x.length) (by omega) (by omega)]
    simp only [rdT_set hi', List.set_set]
    obtain ⟨y, h1, h2, h3, h4⟩ := ih k (x.set i ⟨a, a + 1, a + 1 + 1, a + 1 + 1 + 1⟩) (a + 1 + 1 + 1 + 1) (i + 1) (by simpa using (by omega : i + 1 + d = x.length)) (by omega) (by simpa using hn) (by omega) (by omega)
    refine ⟨y, by rw [h1]; exact congrArg some (Prod.ext (by simp; omega) rfl), by simpa using h2, fun j hj => ?_, fun j hj hj2 => ?_⟩
    · rw [h3 j (by omega), List.getElem?_set, if_neg (by omega)]
    · by_cases e : j = i
      · subst e
        rw [h3 j (by omega), List.getElem?_set, if_pos rfl, if_pos (by omega)]
        simp
      · rw [h4 j (by omega) (by simpa using hj2)]
        have e1 : a + 1 + 1 + 1 + 1 + 4 * ((j : Int) - ((i + 1 : Nat) : Int)) = a + 4 * ((j : Int) - (i : Int)) := by omega
        rw [e1]
theorem markT (l : List St) (hn : l.length ≤ 1048576) : ∃ y : List St, ∀ k, l.length < k → laws_markStepS.f k l 1 = some (1 + 4 * (l.length : Int), y) := by
  obtain ⟨y, h1, _⟩ := laws_markStepS_l0 l.length (l.length + 1) l 1 0 (by omega) (by omega) hn (by omega) (by omega)
  exact ⟨y, fun k hk => at_rounds (laws_markStepS.mono l 1) (Nat.succ_le_of_lt hk) h1⟩

theorem laws_eqIntS_l0 (d : Nat) : ∀ (k : Nat) (l x : List Int) (i : Nat), i + d = l.length → d < k → l.length ≤ 35184372088832 → x.length = l.length →
    laws_eqIntS.l0 k l x (i : Int) = some (decide (l.drop i = x.drop i)) := by
  induction d with
  | zero =>
    intro k l x i hi hk hn hx
    obtain ⟨k, rfl⟩ : ∃ m, k = m + 1 := ⟨k - 1, by omega⟩
    simp only [laws_eqIntS.l0]
    rw [if_neg (by omega), List.drop_eq_nil_of_le (by omega), List.drop_eq_nil_of_le (by omega)]
    simp
  | succ d ih =>
    intro k l x i hi hk hn hx
    obtain ⟨k, rfl⟩ : ∃ m, k = m + 1 := ⟨k - 1, by omega⟩
    simp only [laws_eqIntS.l0]
    rw [if_pos (by omega), if_pos (by omega), if_pos (by omega), up_one (n := l.length) (by omega) (by omega), ih k l x (i + 1) (by omega) (by omega) hn hx,
      drop_rd (l := l) (i := i) (by omega), drop_rd (l := x) (i := i) (by omega)]
    by_cases h : rd l (i : Int) = rd x (i : Int)
    · rw [if_pos h]; simp [h]
    · rw [if_neg h]; simp [h]
theorem laws_eqIntS_eq {k : Nat} {l x : List Int} (hk : l.length < k) (hn : l.length ≤ 35184372088832) : laws_eqIntS.f k l x = some (decide (l = x)) := by
  unfold laws_eqIntS.f
  by_cases h : x.length = l.length
  · rw [if_pos (by omega)]
    exact laws_eqIntS_l0 l.length k l x 0 (by omega) hk hn h
  · rw [if_neg (by omega)]
    have : l ≠ x := fun e => h (by rw [e])
    simp [this]

theorem laws_markIntS_l0 (d : Nat) : ∀ (k : Nat) (x : List Int) (a : Int) (i : Nat), i + d = x.length → d < k → x.length ≤ 35184372088832 → 0 ≤ a → a + d ≤ 9000000000000000000 →
    ∃ y : List Int, laws_markIntS.l0 k x a (i : Int) = some (a + d, y) ∧ y.length = x.length ∧ (∀ j, j < i → y[j]? = x[j]?) ∧ (∀ j, i ≤ j → j < x.length → y[j]? = some (a + (j - i : Int))) := by
  induction d with
  | zero =>
    intro k x a i hi hk hn ha hb
    obtain ⟨k, rfl⟩ : ∃ m, k = m + 1 := ⟨k - 1, by omega⟩
    simp only [laws_markIntS.l0]
    rw [if_neg (by omega)]
    exact ⟨x, by simp, rfl, fun _ _ => rfl, fun j h1 h2 => by omega⟩
  | succ d ih =>
    intro k x a i hi hk hn ha hb
    obtain ⟨k, rfl⟩ : ∃ m, k = m + 1 := ⟨k - 1, by omega⟩
    simp only [laws_markIntS.l0]
    rw [if_pos (by omega), if_pos (by omega), up_one (n := x.length) (by omega) (by omega), w64 (x := a + 1) (by omega) (by omega)]
    obtain ⟨y, h1, h2, h3, h4⟩ := ih k (x.set (i : Int).toNat a) (a + 1) (i + 1) (by simpa using (by omega : i + 1 + d = x.length)) (by omega) (by simpa using hn) (by omega) (by omega)
    refine ⟨y, by rw [h1]; exact congrArg some (Prod.ext (by simp; omega) rfl), by simpa using h2, fun j hj => ?_, fun j hj hj2 => ?_⟩
    · rw [h3 j (by omega), Int.toNat_natCast, List.getElem?_set, if_neg (by omega)]
    · by_cases e : j = i
      · subst e
        rw [h3 j (by omega), Int.toNat_natCast, List.getElem?_set, if_pos rfl, if_pos (by omega)]
        exact congrArg some (by omega)
      · rw [h4 j (by omega) (by simpa using hj2)]
        exact congrArg some (by omega)

theorem laws_heldIntS_l0 (d : Nat) : ∀ (k : Nat) (x : List Int) (a : Int) (i : Nat), i + d = x.length → d < k → x.length ≤ 35184372088832 → 0 ≤ a → a + d ≤ 9000000000000000000 →
    (∀ j, i ≤ j → j < x.length → x[j]? = some (a + (j - i : Int))) → laws_heldIntS.l0 k x a (i : Int) = some (a + d) := by
  induction d with
  | zero =>
    intro k x a i hi hk hn ha hb hx
    obtain ⟨k, rfl⟩ : ∃ m, k = m + 1 := ⟨k - 1, by omega⟩
    simp only [laws_heldIntS.l0]
    rw [if_neg (by omega)]
    simp
  | succ d ih =>
    intro k x a i hi hk hn ha hb hx
    obtain ⟨k, rfl⟩ : ∃ m, k = m + 1 := ⟨k - 1, by omega⟩
    simp only [laws_heldIntS.l0]
    have e := hx i (Nat.le_refl _) (by omega)
    have e2 : rd x (i : Int) = a := by
      rw [rd_get (by omega)]
      rw [List.getElem?_eq_getElem (by omega)] at e
      have := Option.some.inj e
      omega
    rw [if_pos (by omega), if_pos (by omega), if_pos e2, up_one (n := x.length) (by omega) (by omega), w64 (x := a + 1) (by omega) (by omega),
      ih k x (a + 1) (i + 1) (by omega) (by omega) hn (by omega) (by omega) (fun j h1 h2 => by rw [hx j (by omega) h2]; exact congrArg some (by omega))]
    exact congrArg some (by omega)
/-- What is marked is held. -/
theorem mark_held (l : List Int) (hn : l.length ≤ 35184372088832) : ∃ y : List Int, ∀ k, l.length < k → laws_markIntS.f k l 1 = some (1 + (l.length : Int), y) ∧ laws_heldIntS.f k y 1 = some (1 + (l.length : Int)) := by
  obtain ⟨y, h1, h2, _, h4⟩ := laws_markIntS_l0 l.length (l.length + 1) l 1 0 (by omega) (by omega) hn (by omega) (by omega)
  refine ⟨y, fun k hk => ⟨at_rounds (laws_markIntS.mono l 1) (Nat.succ_le_of_lt hk) h1, ?_⟩⟩
  have := laws_heldIntS_l0 l.length k y 1 0 (by omega) hk (by omega) (by omega) (by omega) (fun j hj hj2 => h4 j hj (by omega))
  exact this

theorem spec_l01In_eq (a b c : Int) : spec_l01In.f a b c = some (decide (b ≤ a ∧ a ≤ c)) := by
  unfold spec_l01In.f; by_cases h : a ≥ b <;> by_cases h2 : a ≤ c <;> simp [h, h2]; all_goals omega

theorem spec_PlanOk_l0 (d : Nat) : ∀ (k : Nat) (l : List St) (i : Nat), i + d = l.length → d < k → i ≤ 11 → spec_PlanOk.l0 k l (tuD i) (i : Int) = some (planAt (l.drop i) i) := by
  induction d with
  | zero =>
    intro k l i hi hk h11
    obtain ⟨k, rfl⟩ : ∃ m, k = m + 1 := ⟨k - 1, by omega⟩
    simp only [spec_PlanOk.l0]
    rw [if_neg (by omega), List.drop_eq_nil_of_le (by omega)]
    have : (l.length : Int) ≤ 11 := by omega
    simp [planAt, this]
  | succ d ih =>
    intro k l i hi hk h11
    obtain ⟨k, rfl⟩ : ∃ m, k = m + 1 := ⟨k - 1, by omega⟩
    simp only [spec_PlanOk.l0]
    rw [if_pos (by omega), if_pos (by omega), drop_rdT (by omega)]
    simp only [planAt]
    have e : spec_PlanOk.ok (rd_T32 l (i : Int)) (tuD i) = stepOk (rd_T32 l (i : Int)) i := okD _ h11
    rw [e]
    cases c : stepOk (rd_T32 l (i : Int)) i with
    | false => simp
    | true =>
      have c' := c
      simp only [stepOk, decide_eq_true_eq] at c'
      rw [if_pos rfl, show ((rd_T32 l (i : Int)).f1).toNat = i + 1 by omega, tuD_set i (by omega), show wrap64 ((i : Int) + 1) = ((i + 1 : Nat) : Int) by rw [w64 (by omega) (by omega)]; omega, ih k l (i + 1) (by omega) (by omega) (by omega)]
      simp
theorem spec_PlanOk_eq {k : Nat} {l : List St} (hk : l.length < k) : spec_PlanOk.f k l = some (planB l) := by
  unfold spec_PlanOk.f
  rw [if_pos (by omega)]
  simp only [Option.bind_some]
  rw [if_pos (by simp)]
  exact spec_PlanOk_l0 l.length k l 0 (by omega) hk (by omega)

theorem spec_AffectedKeys_l1 (tu : List Bool) (ht : tu.length = 12) (e : Nat) : ∀ (k : Nat) (p : List Int) (i : Nat), i + e = 12 → e < k → p.length ≤ i → spec_AffectedKeys.l1 k p tu (i : Int) = some (p ++ hitK tu i e) := by
  induction e with
  | zero =>
    intro k p i hi hk hl
    obtain ⟨k, rfl⟩ : ∃ m, k = m + 1 := ⟨k - 1, by omega⟩
    simp only [spec_AffectedKeys.l1, hitK]
    rw [if_neg (by omega), List.append_nil]
  | succ e ih =>
    intro k p i hi hk hl
    obtain ⟨k, rfl⟩ : ∃ m, k = m + 1 := ⟨k - 1, by omega⟩
    simp only [spec_AffectedKeys.l1, hitK]
    rw [if_pos (by omega), if_pos (by omega), if_pos (by omega), up_one (n := 20) (by omega) (by omega)]
    by_cases c : rdOf false tu (i : Int) = true
    · rw [if_pos c, if_pos c, if_pos (by omega), ih k _ (i + 1) (by omega) (by omega) (by simp; omega)]
      simp
    · rw [if_neg c, if_neg c, ih k _ (i + 1) (by omega) (by omega) (by omega)]
theorem spec_AffectedKeys_l0 (a : Nat) (ha : a < 11) (d : Nat) : ∀ (k : Nat) (l : List St) (i : Nat), planB l = true → i + d = l.length → d + 20 < k →
    spec_AffectedKeys.l0 k l [] (hitAt a i) (i : Int) = some (hitK (hitAt a l.length) 0 12) := by
  induction d with
  | zero =>
    intro k l i hp hi hk
    obtain ⟨k, rfl⟩ : ∃ m, k = m + 1 := ⟨k - 1, by omega⟩
    simp only [spec_AffectedKeys.l0]
    rw [if_neg (by omega), show i = l.length by omega]
    have := spec_AffectedKeys_l1 (hitAt a l.length) (hitAt_len _ _) 12 k [] 0 (by omega) (by omega) (by simp)
    simpa using this
  | succ d ih =>
    intro k l i hp hi hk
    obtain ⟨k, rfl⟩ : ∃ m, k = m + 1 := ⟨k - 1, by omega⟩
    have h11 := planB_len hp
    have hs := planB_at hp (show i < l.length by omega)
    have hl := hitAt_len a i
    simp only [spec_AffectedKeys.l0]
    rw [if_pos (by omega), if_pos (by omega), hs.2.2.1, hs.2.2.2, if_pos (by omega), if_pos (by omega), up_one (n := 20) (by omega) (by omega), show ((i : Int) + 1).toNat = i + 1 by omega]
    have st := hit_stepS a ha i (by omega)
    rw [show ((i + 1 : Nat) : Int) = (i : Int) + 1 by omega] at st
    by_cases c : rdOf false (hitAt a i) ((i : Int) + 1) = true
    · rw [if_pos c] at st ⊢
      rw [st]
      exact ih k l (i + 1) hp (by omega) (by omega)
    · rw [if_neg c] at st ⊢
      rw [if_pos (by omega), if_pos (by omega), st]
      exact ih k l (i + 1) hp (by omega) (by omega)
theorem spec_AffectedKeys_eq {k : Nat} {l : List St} (a : Int) (hk : l.length + 40 < k) (hn : l.length ≤ 1048576) : spec_AffectedKeys.f k l a = some (affF l a) := by
  obtain ⟨k, rfl⟩ : ∃ m, k = m + 1 := ⟨k - 1, by omega⟩
  unfold spec_AffectedKeys.f affF
  rw [spec_PlanOk_eq (by omega)]
  simp only [Option.bind_some, spec_l01In_eq, spec_AffectedKeys.j0]
  rw [w64 (x := (l.length : Int) - 1) (by omega) (by omega)]
  by_cases hp : planB l = true
  · rw [if_pos hp]
    by_cases hi : 0 ≤ a ∧ a ≤ (l.length : Int) - 1
    · have h11 := planB_len hp
      rw [decide_eq_true hi, if_pos (c := planB l = true ∧ (0 ≤ a ∧ a ≤ (l.length : Int) - 1)) ⟨hp, hi⟩]
      simp only [Bool.not_true, Bool.false_eq_true, if_false]
      obtain ⟨n, rfl⟩ : ∃ n : Nat, a = n := ⟨a.toNat, by omega⟩
      have hs := planB_at hp (show n < l.length by omega)
      rw [if_pos (by omega), if_pos (by omega), if_pos (by omega), hs.2.2.2, if_pos (by omega), if_pos (by simp; omega), show ((n : Int) + 1).toNat = n + 1 by omega, hit_start n (by omega), Int.toNat_natCast]
      exact spec_AffectedKeys_l0 n (by omega) l.length k l 0 hp (by omega) (by omega)
    · rw [decide_eq_false hi, if_neg (c := planB l = true ∧ (0 ≤ a ∧ a ≤ (l.length : Int) - 1)) (fun h => hi h.2)]
      simp
  · rw [if_neg hp, if_neg (c := planB l = true ∧ (0 ≤ a ∧ a ≤ (l.length : Int) - 1)) (fun h => hp h.1)]
    simp

/-- The law, over numbers and lists. -/
def laws_FnExactAffectedKeys.Pure : Prop := ∀ (l0 : List S66) (a1 : Int), l0.length ≤ maxLen → (∀ x ∈ l0, (Lit.int .i64 x.f0).wf = true ∧ (Lit.int .i64 x.f1).wf = true ∧ (Lit.int .i64 x.f2).wf = true ∧ (Lit.int .i64 x.f3).wf = true) → (Lit.int .i64 a1).wf = true → ∃ k, laws_FnExactAffectedKeys.f k l0 a1 = some true
theorem FnExactAffectedKeys : laws_FnExactAffectedKeys.Pure := by
  intro l a hm _ _
  refine ⟨l.length + 400, ?_⟩
  have hl := planOf_len l
  unfold laws_FnExactAffectedKeys.f
  rw [laws_szStepS_eq hm]
  simp only [Option.bind_some]
  by_cases d : 1048576 < l.length
  · rw [if_pos d, if_pos (by omega)]
  · rw [if_neg d, if_neg (by omega), laws_toStepS_eq (by omega) (by omega)]
    simp only [Option.bind_some]
    rw [spec_AffectedKeys_eq _ (by omega) (by omega), impl_AffectedKeys_eq _ (by omega) (by omega)]
    simp only [Option.bind_some]
    have hq := affF_len (planOf l) a
    obtain ⟨q, he⟩ : ∃ q, affF (planOf l) a = q := ⟨_, rfl⟩
    rw [he] at hq ⊢
    rw [laws_eqIntS_eq (by omega) (by omega)]
    simp only [Option.bind_some, decide_true, if_true]
    obtain ⟨y, hy⟩ := markT (planOf l) (by omega)
    obtain ⟨z, hz⟩ := mark_held q (by omega)
    rw [laws_eqStepS_eq (by omega) (by omega)]
    simp only [Option.bind_some, decide_true, if_true]
    rw [hy _ (by omega)]
    simp only [Option.bind_some, laws_FnExactAffectedKeys.j0, Bool.not_true, Bool.false_eq_true, if_false]
    rw [if_neg (by omega), (hz _ (by omega)).1]
    simp only [Option.bind_some]
    rw [(hz _ (by omega)).2]
    simp only [Option.bind_some]
    rw [if_neg (by omega)]
    simp only [if_true]
    rw [laws_toStepS_eq (by omega) (by omega)]
    simp only [Option.bind_some]
    rw [impl_AffectedKeys_eq _ (by omega) (by omega)]
    simp only [Option.bind_some]
    rw [he, laws_eqIntS_eq (by omega) (by omega)]
    simp only [Option.bind_some, decide_true, if_true]
    rw [if_neg (by omega)]

end Go.Proofs.Ythhcpfaabnanoaa.Pure
