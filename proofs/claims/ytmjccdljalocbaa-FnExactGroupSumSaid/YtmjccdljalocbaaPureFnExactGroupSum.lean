/- GroupSum of the program and of the reference answer alike, for every circle and every whole number. No condition. -/
import Derived.Test.YtmjccdljalocbaaPFnExactGroupSumx1
import Derived.Test.YtmjccdljalocbaaPFnExactGroupSumx2
import Derived.Test.YtmjccdljalocbaaPFnExactGroupSumx3
import Derived.Test.YtmjccdljalocbaaPFnExactGroupSumx4
import Derived.Test.YtmjccdljalocbaaPFnExactGroupSumx5
import Derived.Test.YtmjccdljalocbaaPFnExactGroupSumx6
import Derived.Test.YtmjccdljalocbaaPFnExactGroupSumx7
import Derived.OpenShut
namespace Go.Proofs.Ytmjccdljalocbaa.Pure
open Go.RowKit Go.Proofs.Ytmjccdljalocbaa.PFnExactGroupSum Go.Proofs.YtmjccdljalocbaaW.PrintWords Go.Proofs.YtmjccdljalocbaaW.PrintLast Go.Proofs.YtmjccdljalocbaaW.PrintMore
set_option linter.unusedVariables false
set_option linter.unusedSimpArgs false
theorem w64 {x : Int} (h : -9223372036854775808 ≤ x) (h' : x ≤ 9223372036854775807) : wrap64 x = x := by unfold wrap64; omega
theorem wf64 {x : Int} (h : (Lit.int .i64 x).wf = true) : -9223372036854775808 ≤ x ∧ x ≤ 9223372036854775807 := by
  simp only [Lit.wf, IntKind.min, IntKind.max, IntKind.signed, IntKind.bits, Bool.and_eq_true, decide_eq_true_eq, if_true] at h
  omega
theorem wfu8 {x : Int} (h : (Lit.int .u8 x).wf = true) : 0 ≤ x ∧ x ≤ 255 := by
  simp [Lit.wf, IntKind.min, IntKind.max, IntKind.signed, IntKind.bits] at h
  omega
theorem mx_def (a b : Int) : mx a b = max a b := by unfold mx; omega
theorem mn_def (a b : Int) : mn a b = min a b := by unfold mn; omega
theorem fuel {n k : Nat} (h : n < k) : ∃ m, k = m + 1 ∧ n ≤ m := ⟨k - 1, by omega, by omega⟩
theorem gcd_tmod (a b : Int) : Int.gcd b (Int.tmod a b) = Int.gcd a b := by
  unfold Int.gcd
  rw [Int.natAbs_tmod, Nat.gcd_comm, ← Nat.gcd_rec, Nat.gcd_comm]
theorem tmod_lt (a : Int) {b : Int} (h : b ≠ 0) : (Int.tmod a b).natAbs < b.natAbs := by
  rw [Int.natAbs_tmod]
  exact Nat.mod_lt _ (by omega)
theorem drop_rd {l : List Int} {i : Nat} (h : i < l.length) : l.drop i = rd l (i : Int) :: l.drop (i + 1) := by
  rw [List.drop_eq_getElem_cons h]
  simp [rd, List.getD, List.getElem?_eq_getElem h]
theorem rd_get {l : List Int} {i : Nat} (h : i < l.length) : rd l (i : Int) = l[i] := by simp [rd, List.getD, List.getElem?_eq_getElem h]
theorem up_one {i n : Nat} (h : i < n) (hn : n ≤ 9223372036854775807) : wrap64 ((i : Int) + 1) = ((i + 1 : Nat) : Int) := by rw [w64 (by omega) (by omega)]; omega
theorem rd_mem {l : List Int} {i : Nat} (h : i < l.length) : rd l (i : Int) ∈ l := by rw [rd_get h]; exact List.getElem_mem h
theorem maxLen_le {n : Nat} (h : n ≤ maxLen) : (n : Int) ≤ 9223372036854775807 := by unfold maxLen at h; omega

def circleG (l : List Int) (s : Int) (n : Nat) : Prop := (∀ x ∈ l, 0 ≤ x ∧ x ≤ 12) ∧ (n : Int) = 12 ∧ s + l.sum = 12
theorem circleG_cons (a : Int) (l : List Int) (s : Int) (n : Nat) : circleG (a :: l) s n ↔ (0 ≤ a ∧ a ≤ 12) ∧ circleG l (s + a) n := by
  unfold circleG
  simp only [List.mem_cons, forall_eq_or_imp, List.sum_cons]
  constructor
  · rintro ⟨⟨h1, h2⟩, h3, h4⟩; exact ⟨h1, h2, h3, by omega⟩
  · rintro ⟨h1, h2, h3, h4⟩; exact ⟨⟨h1, h2⟩, h3, by omega⟩
instance (l : List Int) (s : Int) (n : Nat) : Decidable (circleG l s n) := by unfold circleG; infer_instance
/-- A valid circle. -/
def circleB (l : List Int) : Prop := circleG l 0 l.length
instance (l : List Int) : Decidable (circleB l) := by unfold circleB; infer_instance
theorem circleB_len {l : List Int} (h : circleB l) : l.length = 12 := by have := h.2.1; omega
theorem circleB_rd {l : List Int} (h : circleB l) {i : Nat} (hi : i < l.length) : 0 ≤ rd l (i : Int) ∧ rd l (i : Int) ≤ 12 := h.1 _ (rd_mem hi)

/-- The sum of c parts from f on. -/
def partF (l : List Int) (f : Int) : Nat → Int
  | 0 => 0
  | c + 1 => partF l f c + rd l (Int.tmod (f + c) 12)
theorem tmod_nat {f : Int} {n : Nat} (c : Nat) (h : 0 ≤ f) (hn : 1 ≤ n) : Int.tmod (f + c) n = (((f.toNat + c) % n : Nat) : Int) := by
  rw [Int.tmod_eq_emod_of_nonneg (by omega)]
  have : f + (c : Int) = ((f.toNat + c : Nat) : Int) := by omega
  rw [this]
  rfl
theorem partF_rng {l : List Int} (h : circleB l) {f : Int} (hf : 0 ≤ f) (c : Nat) : 0 ≤ partF l f c ∧ partF l f c ≤ 12 * (c : Int) := by
  have hl := circleB_len h
  induction c with
  | zero => simp [partF]
  | succ c ih =>
    simp only [partF]
    have e : Int.tmod (f + (c : Int)) 12 = (((f.toNat + c) % 12 : Nat) : Int) := tmod_nat (f := f) (n := 12) c hf (by omega)
    rw [e]
    have := circleB_rd h (i := (f.toNat + c) % 12) (by have := Nat.mod_lt (f.toNat + c) (show 0 < 12 by omega); omega)
    omega

def g4 (a b c d : Int) : Int := (Int.gcd (Int.gcd a b : Int) (Int.gcd c d : Int) : Int)
/-- An interval in its lowest terms. -/
def simpF (a b c d : Int) : Int × Int × Int × Int := (wrap64 (Int.tdiv a (g4 a b c d)), wrap64 (Int.tdiv b (g4 a b c d)), wrap64 (Int.tdiv c (g4 a b c d)), wrap64 (Int.tdiv d (g4 a b c d)))
def smallI (a : Int) : Prop := -100000 ≤ a ∧ a ≤ 100000
def okI (a b c d : Int) : Prop := (1 ≤ d ∧ d ≤ 12) ∧ (-400 ≤ a ∧ a ≤ 400) ∧ (-400 ≤ b ∧ b ≤ 400) ∧ (-400 ≤ c ∧ c ≤ 400)
instance (a b c d : Int) : Decidable (okI a b c d) := by unfold okI; infer_instance
/-- The sum of two intervals, and whether there is one. -/
def addF (a0 a1 a2 a3 b0 b1 b2 b3 : Int) : Int × Int × Int × Int × Bool :=
  if okI a0 a1 a2 a3 ∧ okI b0 b1 b2 b3 then
    (if okI (simpF (a0 * b3 + b0 * a3) (a1 * b3 + b1 * a3) (a2 * b3 + b2 * a3) (a3 * b3)).1 (simpF (a0 * b3 + b0 * a3) (a1 * b3 + b1 * a3) (a2 * b3 + b2 * a3) (a3 * b3)).2.1 (simpF (a0 * b3 + b0 * a3) (a1 * b3 + b1 * a3) (a2 * b3 + b2 * a3) (a3 * b3)).2.2.1 (simpF (a0 * b3 + b0 * a3) (a1 * b3 + b1 * a3) (a2 * b3 + b2 * a3) (a3 * b3)).2.2.2
      then ((simpF (a0 * b3 + b0 * a3) (a1 * b3 + b1 * a3) (a2 * b3 + b2 * a3) (a3 * b3)).1, (simpF (a0 * b3 + b0 * a3) (a1 * b3 + b1 * a3) (a2 * b3 + b2 * a3) (a3 * b3)).2.1, (simpF (a0 * b3 + b0 * a3) (a1 * b3 + b1 * a3) (a2 * b3 + b2 * a3) (a3 * b3)).2.2.1, (simpF (a0 * b3 + b0 * a3) (a1 * b3 + b1 * a3) (a2 * b3 + b2 * a3) (a3 * b3)).2.2.2, true)
      else (0, 0, 0, 0, false))
  else (0, 0, 0, 0, false)
theorem mul_rng {a b : Int} (h0 : -400 ≤ a) (h1 : a ≤ 400) (h2 : 1 ≤ b) (h3 : b ≤ 12) : -4800 ≤ a * b ∧ a * b ≤ 4800 := by
  have : b = 1 ∨ b = 2 ∨ b = 3 ∨ b = 4 ∨ b = 5 ∨ b = 6 ∨ b = 7 ∨ b = 8 ∨ b = 9 ∨ b = 10 ∨ b = 11 ∨ b = 12 := by omega
  rcases this with rfl | rfl | rfl | rfl | rfl | rfl | rfl | rfl | rfl | rfl | rfl | rfl <;> omega
theorem mul_pos12 {a b : Int} (h0 : 1 ≤ a) (h1 : a ≤ 12) (h2 : 1 ≤ b) (h3 : b ≤ 12) : 1 ≤ a * b ∧ a * b ≤ 144 := by
  have : b = 1 ∨ b = 2 ∨ b = 3 ∨ b = 4 ∨ b = 5 ∨ b = 6 ∨ b = 7 ∨ b = 8 ∨ b = 9 ∨ b = 10 ∨ b = 11 ∨ b = 12 := by omega
  rcases this with rfl | rfl | rfl | rfl | rfl | rfl | rfl | rfl | rfl | rfl | rfl | rfl <;> omega
theorem gcd_small {a b : Int} (ha : smallI a) (hb : smallI b) : 0 ≤ (Int.gcd a b : Int) ∧ (Int.gcd a b : Int) ≤ 100000 := by
  unfold smallI at *
  refine ⟨by omega, ?_⟩
  by_cases h : a = 0
  · subst h
    rw [Int.gcd_zero_left]
    omega
  · have := Nat.le_of_dvd (n := a.natAbs) (by omega) (Nat.gcd_dvd_left a.natAbs b.natAbs)
    unfold Int.gcd
    omega
theorem g4_pos {a b c d : Int} (h : d ≠ 0) : g4 a b c d ≠ 0 := by
  unfold g4
  intro e
  have e1 : Int.gcd (Int.gcd a b : Int) (Int.gcd c d : Int) = 0 := by omega
  rw [Int.gcd_eq_zero_iff] at e1
  have e2 : Int.gcd c d = 0 := by omega
  rw [Int.gcd_eq_zero_iff] at e2
  exact h e2.2
/-- The third from a key. -/
def thirdF (l : List Int) (i : Int) : Int × Int × Int × Int := if circleB l ∧ 0 ≤ i ∧ i ≤ 11 then simpF (19 * partF l i 4 - 72) (48 - 12 * partF l i 4) 0 12 else (0, 0, 0, 0)
def add4 (x y : Int × Int × Int × Int) : Int × Int × Int × Int × Bool := addF x.1 x.2.1 x.2.2.1 x.2.2.2 y.1 y.2.1 y.2.2.1 y.2.2.2
def fore (x : Int × Int × Int × Int × Bool) : Int × Int × Int × Int := (x.1, x.2.1, x.2.2.1, x.2.2.2.1)
/-- The sum of a group's thirds. -/
def gsumF (l : List Int) (i : Int) : Int × Int × Int × Int :=
  if circleB l ∧ 0 ≤ i ∧ i ≤ 3 then
    (if (add4 (thirdF l i) (thirdF l (i + 4))).2.2.2.2 = true then
      (if (add4 (fore (add4 (thirdF l i) (thirdF l (i + 4)))) (thirdF l (i + 8))).2.2.2.2 = true then fore (add4 (fore (add4 (thirdF l i) (thirdF l (i + 4)))) (thirdF l (i + 8))) else (0, 0, 0, 0))
    else (0, 0, 0, 0))
  else (0, 0, 0, 0)

theorem laws_szIntS_eq {l : List Int} (h : l.length ≤ maxLen) : laws_szIntS.f l 1048576 = some (if 1048576 < l.length then -1 else 1048576 - (l.length : Int)) := by
  have h2 := maxLen_le h
  unfold laws_szIntS.f
  rw [w64 (by omega) (by omega)]
  by_cases c : 1048576 < l.length
  · rw [if_pos c, if_pos (by omega)]
  · rw [if_neg c, if_neg (by omega)]

theorem laws_szCircle_eq {l : List Int} (h : l.length ≤ maxLen) : laws_szCircle.f l 1048576 = some (if 1048576 < l.length then -1 else 1048576 - (l.length : Int)) := by
  unfold laws_szCircle.f
  rw [laws_szIntS_eq h]
  simp only [Option.bind_some]
  by_cases c : 1048576 < l.length
  · rw [if_pos c, if_pos (by omega)]
  · rw [if_neg c, if_neg (by omega)]

theorem laws_toIntS_l0 (d : Nat) : ∀ (k : Nat) (l x : List Int) (i : Nat), i + d = l.length → d < k → l.length ≤ 35184372088832 → x.length = l.length → (∀ j, j < i → x[j]? = l[j]?) →
    laws_toIntS.l0 k l x (i : Int) = some l := by
  induction d with
  | zero =>
    intro k l x i hi hk hn hx he
    obtain ⟨k, rfl⟩ : ∃ m, k = m + 1 := ⟨k - 1, by omega⟩
    simp only [laws_toIntS.l0]
    rw [if_neg (by omega)]
    refine congrArg some (List.ext_getElem? fun j => ?_)
    by_cases hj : j < i
    · exact he j hj
    · rw [List.getElem?_eq_none (by omega), List.getElem?_eq_none (by omega)]
  | succ d ih =>
    intro k l x i hi hk hn hx he
    obtain ⟨k, rfl⟩ : ∃ m, k = m + 1 := ⟨k - 1, by omega⟩
    simp only [laws_toIntS.l0]
    rw [if_pos (by omega), if_pos (by omega), if_pos (by omega), up_one (n := l.length) (by omega) (by omega)]
    refine ih k l _ (i + 1) (by omega) (by omega) hn (by simpa using hx) fun j hj => ?_
    rw [Int.toNat_natCast, List.getElem?_set]
    by_cases hji : i = j
    · subst hji
      rw [if_pos rfl, if_pos (by omega), rd_get (by omega), List.getElem?_eq_getElem (by omega)]
    · rw [if_neg hji]
      exact he j (by omega)
theorem laws_toIntS_eq {k : Nat} {l : List Int} (hk : l.length < k) (hn : l.length ≤ 35184372088832) : laws_toIntS.f k l = some l := by
  unfold laws_toIntS.f
  rw [if_pos (by omega), if_pos (by simpa using hn)]
  exact laws_toIntS_l0 l.length k l _ 0 (by omega) hk hn (by simp) (fun j hj => absurd hj (by omega))

theorem laws_toCircle_eq {k : Nat} {l : List Int} (hk : l.length < k) (hn : l.length ≤ 35184372088832) : laws_toCircle.f k l = some l := by
  unfold laws_toCircle.f
  rw [laws_toIntS_eq hk hn]
  rfl

theorem laws_eqIntS_l0 (d : Nat) : ∀ (k : Nat) (l x : List Int) (i : Nat), i + d = l.length → d < k → l.length ≤ 35184372088832 → x.length = l.length →
    laws_eqIntS.l0 k l x (i : Int) = some (decide (l.drop i = x.drop i)) := by
  induction d with
  | zero =>
    intro k l x i hi hk hn hx
    obtain ⟨k, rfl⟩ : ∃ m, k = m + 1 := ⟨k - 1, by omega⟩
    simp only [laws_eqIntS.l0]
    rw [if_neg (by omega), List.drop_eq_nil_of_le (by omega), List.drop_eq_nil_of_le (by omega)]
    simp
  | succ d ih =>
    intro k l x i hi hk hn hx
    obtain ⟨k, rfl⟩ : ∃ m, k = m + 1 := ⟨k - 1, by omega⟩
    simp only [laws_eqIntS.l0]
    rw [if_pos (by omega), if_pos (by omega), if_pos (by omega), up_one (n := l.length) (by omega) (by omega), ih k l x (i + 1) (by omega) (by omega) hn hx,
      drop_rd (l := l) (i := i) (by omega), drop_rd (l := x) (i := i) (by omega)]
    by_cases h : rd l (i : Int) = rd x (i : Int)
    · rw [if_pos h]; simp [h]
    · rw [if_neg h]; simp [h]
theorem laws_eqIntS_eq {k : Nat} {l x : List Int} (hk : l.length < k) (hn : l.length ≤ 35184372088832) : laws_eqIntS.f k l x = some (decide (l = x)) := by
  unfold laws_eqIntS.f
  by_cases h : x.length = l.length
  · rw [if_pos (by omega)]
    exact laws_eqIntS_l0 l.length k l x 0 (by omega) hk hn h
  · rw [if_neg (by omega)]
    have : l ≠ x := fun e => h (by rw [e])
    simp [this]

theorem laws_eqCircle_eq {k : Nat} {l x : List Int} (hk : l.length < k) (hn : l.length ≤ 35184372088832) : laws_eqCircle.f k l x = some (decide (l = x)) := by
  unfold laws_eqCircle.f
  rw [laws_eqIntS_eq hk hn]
  by_cases h : l = x <;> simp [h]

theorem spec_l01In_eq (a b c : Int) : spec_l01In.f a b c = some (decide (b ≤ a ∧ a ≤ c)) := by
  unfold spec_l01In.f; by_cases h : a ≥ b <;> by_cases h2 : a ≤ c <;> simp [h, h2]; all_goals omega

theorem spec_CircleOk_l0 (d : Nat) : ∀ (k : Nat) (l : List Int) (s : Int) (i : Nat), i + d = l.length → d < k → l.length ≤ 1048576 → 0 ≤ s → s ≤ (12 * i : Int) →
    spec_CircleOk.l0 k s (i : Int) l = some (decide (circleG (l.drop i) s l.length)) := by
  induction d with
  | zero =>
    intro k l s i hi hk hn h1 h2
    obtain ⟨k, rfl⟩ : ∃ m, k = m + 1 := ⟨k - 1, by omega⟩
    simp only [spec_CircleOk.l0, spec_l01In_eq]
    rw [if_neg (by omega), List.drop_eq_nil_of_le (by omega)]
    by_cases h : (l.length : Int) = 12
    · simp only [h, if_true, circleG, List.not_mem_nil, false_imp_iff, implies_true, true_and, List.sum_nil, Int.add_zero]
      rw [Bool.eq_iff_iff.2 (by simp : (s == 12) = true ↔ decide (s = 12) = true)]
    · simp only [h, if_false, circleG, false_and, and_false, decide_false]
  | succ d ih =>
    intro k l s i hi hk hn h1 h2
    obtain ⟨k, rfl⟩ : ∃ m, k = m + 1 := ⟨k - 1, by omega⟩
    simp only [spec_CircleOk.l0]
    have hlt : (i : Int) < (l.length : Int) := by omega
    have h0 : (0 : Int) ≤ (i : Int) := by omega
    simp only [hlt, h0, if_true, spec_l01In_eq, up_one (n := l.length) (show i < l.length by omega) (by omega)]
    rw [drop_rd (l := l) (i := i) (by omega)]
    simp only [Option.bind_some, decide_eq_true_eq, circleG_cons]
    by_cases h : 0 ≤ rd l (i : Int) ∧ rd l (i : Int) ≤ 12
    · rw [if_pos h, w64 (by omega) (by omega), ih k l _ (i + 1) (by omega) (by omega) hn (by omega) (by omega)]
      simp [h]
    · rw [if_neg h]; simp [h]
theorem spec_CircleOk_eq {k : Nat} {l : List Int} (hk : l.length < k) (hn : l.length ≤ 1048576) : spec_CircleOk.f k l = some (decide (circleB l)) := by
  unfold spec_CircleOk.f circleB
  exact spec_CircleOk_l0 l.length k l 0 0 (by omega) hk hn (by omega) (by omega)

theorem spec_IntervalOk_eq (a b c d : Int) : spec_IntervalOk.f a b c d = some (decide (okI a b c d)) := by
  unfold spec_IntervalOk.f okI
  simp only [spec_l01In_eq, Option.bind_some, decide_eq_true_eq]
  by_cases h1 : 1 ≤ d ∧ d ≤ 12
  · rw [if_pos h1]
    by_cases h2 : -400 ≤ a ∧ a ≤ 400
    · rw [if_pos h2]
      by_cases h3 : -400 ≤ b ∧ b ≤ 400
      · rw [if_pos h3]
        simp [h1, h2, h3]
      · rw [if_neg h3]
        simp only [h3, false_and, and_false, decide_false]
    · rw [if_neg h2]
      simp only [h2, false_and, and_false, decide_false]
  · rw [if_neg h1]
    simp only [h1, false_and, decide_false]

theorem spec_l03Gcd_l0 (n : Nat) : ∀ (k : Nat) (a b : Int), b.natAbs ≤ n → n < k → 0 ≤ a → 0 ≤ b →
    spec_l03Gcd.l0 k a b = some (Int.gcd a b : Int) := by
  induction n with
  | zero =>
    intro k a b hb hk h1 h2
    obtain ⟨k, rfl⟩ : ∃ m, k = m + 1 := ⟨k - 1, by omega⟩
    have hb0 : b = 0 := by omega
    subst hb0
    simp only [spec_l03Gcd.l0, Int.gcd_zero_right]
    rw [if_neg (by omega)]
    exact congrArg some (by omega)
  | succ n ih =>
    intro k a b hb hk h1 h2
    by_cases hb0 : b = 0
    · exact ih k a b (by subst hb0; simp) (by omega) h1 h2
    · obtain ⟨k, rfl⟩ : ∃ m, k = m + 1 := ⟨k - 1, by omega⟩
      simp only [spec_l03Gcd.l0]
      have hm : (Int.tmod a b).natAbs < b.natAbs := by rw [Int.natAbs_tmod]; exact Nat.mod_lt _ (by omega)
      rw [if_pos (by omega), if_neg hb0, ih k b (Int.tmod a b) (by omega) (by omega) h2 (Int.tmod_nonneg _ h1), gcd_tmod]
theorem spec_l03Gcd_eq {k : Nat} {a b : Int} (hk : b.natAbs < k) (h1 : -9223372036854775808 < a) (h2 : a ≤ 9223372036854775807) (h3 : -9223372036854775808 < b) (h4 : b ≤ 9223372036854775807) :
    spec_l03Gcd.f k a b = some (Int.gcd a b : Int) := by
  unfold spec_l03Gcd.f
  rw [w64 (x := -a) (by omega) (by omega), w64 (x := -b) (by omega) (by omega), mx_def, mx_def]
  have ea : max a (-a) = (a.natAbs : Int) := by omega
  have eb : max b (-b) = (b.natAbs : Int) := by omega
  rw [ea, eb, spec_l03Gcd_l0 b.natAbs k _ _ (by omega) hk (by omega) (by omega)]
  simp [Int.gcd]

theorem spec_l03Simple_eq {k : Nat} {a b c d : Int} (hk : 100000 < k) (ha : smallI a) (hb : smallI b) (hc : smallI c) (hd : smallI d) (h0 : d ≠ 0) : spec_l03Simple.f k a b c d = some (simpF a b c d) := by
  have p := gcd_small ha hb
  have q := gcd_small hc hd
  have g := g4_pos (a := a) (b := b) (c := c) h0
  unfold spec_l03Simple.f
  unfold smallI at *
  rw [spec_l03Gcd_eq (by omega) (by omega) (by omega) (by omega) (by omega), Option.bind_some, spec_l03Gcd_eq (by omega) (by omega) (by omega) (by omega) (by omega), Option.bind_some, spec_l03Gcd_eq (by omega) (by omega) (by omega) (by omega) (by omega), Option.bind_some]
  unfold g4 at g
  rw [if_neg g]
  rfl

theorem spec_l03Checked_eq {k : Nat} {a b c d : Int} (hk : 100000 < k) (ha : smallI a) (hb : smallI b) (hc : smallI c) (hd : smallI d) (h0 : d ≠ 0) : spec_l03Checked.f k a b c d = some (if okI (simpF a b c d).1 (simpF a b c d).2.1 (simpF a b c d).2.2.1 (simpF a b c d).2.2.2 then ((simpF a b c d).1, (simpF a b c d).2.1, (simpF a b c d).2.2.1, (simpF a b c d).2.2.2, true) else (0, 0, 0, 0, false)) := by
  unfold spec_l03Checked.f
  rw [spec_l03Simple_eq hk ha hb hc hd h0, Option.bind_some, spec_IntervalOk_eq, Option.bind_some]
  simp only [decide_eq_true_eq]
  split <;> rfl

theorem spec_AddIntervals_eq {k : Nat} (a0 a1 a2 a3 b0 b1 b2 b3 : Int) (hk : 100000 < k) : spec_AddIntervals.f k a0 a1 a2 a3 b0 b1 b2 b3 = some (addF a0 a1 a2 a3 b0 b1 b2 b3) := by
  unfold spec_AddIntervals.f addF
  rw [spec_IntervalOk_eq, Option.bind_some]
  simp only [decide_eq_true_eq]
  by_cases h1 : okI a0 a1 a2 a3
  · rw [if_pos h1, spec_IntervalOk_eq, Option.bind_some]
    simp only [decide_eq_true_eq]
    by_cases h2 : okI b0 b1 b2 b3
    · rw [if_pos h2, if_pos (c := okI a0 a1 a2 a3 ∧ okI b0 b1 b2 b3) ⟨h1, h2⟩]
      obtain ⟨d1, x0, x1, x2⟩ := h1
      obtain ⟨d2, y0, y1, y2⟩ := h2
      have m0 := mul_rng x0.1 x0.2 d2.1 d2.2
      have m1 := mul_rng x1.1 x1.2 d2.1 d2.2
      have m2 := mul_rng x2.1 x2.2 d2.1 d2.2
      have n0 := mul_rng y0.1 y0.2 d1.1 d1.2
      have n1 := mul_rng y1.1 y1.2 d1.1 d1.2
      have n2 := mul_rng y2.1 y2.2 d1.1 d1.2
      have dd := mul_pos12 d1.1 d1.2 d2.1 d2.2
      rw [w64 (x := a0 * b3) (by omega) (by omega), w64 (x := b0 * a3) (by omega) (by omega), w64 (x := a0 * b3 + b0 * a3) (by omega) (by omega), w64 (x := a1 * b3) (by omega) (by omega), w64 (x := b1 * a3) (by omega) (by omega), w64 (x := a1 * b3 + b1 * a3) (by omega) (by omega), w64 (x := a2 * b3) (by omega) (by omega), w64 (x := b2 * a3) (by omega) (by omega), w64 (x := a2 * b3 + b2 * a3) (by omega) (by omega), w64 (x := a3 * b3) (by omega) (by omega)]
      rw [spec_l03Checked_eq hk (by unfold smallI; omega) (by unfold smallI; omega) (by unfold smallI; omega) (by unfold smallI; omega) (by omega)]
      rfl
    · rw [if_neg h2, if_neg (c := okI a0 a1 a2 a3 ∧ okI b0 b1 b2 b3) (fun h => h2 h.2)]
  · rw [if_neg h1, if_neg (c := okI a0 a1 a2 a3 ∧ okI b0 b1 b2 b3) (fun h => h1 h.1)]

theorem spec_l13Sum_l0 (d : Nat) : ∀ (k : Nat) (l : List Int) (f : Int) (c i : Nat), i + d = c → d < k → circleB l → 0 ≤ f → f ≤ 11 → c ≤ 12 →
    spec_l13Sum.l0 k f (c : Int) (partF l f i) (i : Int) l = some (partF l f c) := by
  induction d with
  | zero =>
    intro k l f c i hi hk hs h0 h1 hc
    obtain ⟨k, rfl⟩ : ∃ m, k = m + 1 := ⟨k - 1, by omega⟩
    simp only [spec_l13Sum.l0]
    obtain rfl : i = c := by omega
    rw [if_neg (by omega)]
  | succ d ih =>
    intro k l f c i hi hk hs h0 h1 hc
    obtain ⟨k, rfl⟩ : ∃ m, k = m + 1 := ⟨k - 1, by omega⟩
    have hl := circleB_len hs
    have e := tmod_nat (f := f) (n := 12) i h0 (by omega)
    have hm : (f.toNat + i) % 12 < 12 := Nat.mod_lt _ (by omega)
    have hr := circleB_rd hs (i := (f.toNat + i) % 12) (by omega)
    have hsp := partF_rng hs h0 i
    have e' : Int.tmod (f + (i : Int)) 12 = (((f.toNat + i) % 12 : Nat) : Int) := e
    simp only [spec_l13Sum.l0]
    rw [if_pos (by omega), w64 (x := f + (i : Int)) (by omega) (by omega), e', if_pos (by omega), if_pos (by omega), up_one (n := 12) (by omega) (by omega), w64 (by omega) (by omega)]
    rw [← ih k l f c (i + 1) (by omega) (by omega) hs h0 h1 hc]
    simp only [partF, e']
theorem spec_l13Sum_eq {k : Nat} {l : List Int} (i : Int) (c : Nat) (hk : 12 < k) (h : circleB l) (h0 : 0 ≤ i) (h1 : i ≤ 11) (hc : c ≤ 12) : spec_l13Sum.f k l i (c : Int) = some (partF l i c) :=
  spec_l13Sum_l0 c k l i c 0 (by omega) (by omega) h h0 h1 hc

theorem spec_l12Has_eq {k : Nat} {l : List Int} (i : Int) (hk : l.length < k) (hn : l.length ≤ 1048576) : spec_l12Has.f k l i = some (decide (circleB l ∧ 0 ≤ i ∧ i ≤ 11)) := by
  unfold spec_l12Has.f
  rw [spec_CircleOk_eq hk hn, Option.bind_some]
  simp only [decide_eq_true_eq]
  by_cases h : circleB l
  · rw [if_pos h, spec_l01In_eq, Option.bind_some]
    simp [h]
  · rw [if_neg h]
    simp [h]

theorem spec_ThirdAt_eq {k : Nat} {l : List Int} (i : Int) (hk : l.length + 100000 < k) (hn : l.length ≤ 1048576) : spec_ThirdAt.f k l i = some (thirdF l i) := by
  unfold spec_ThirdAt.f thirdF
  rw [spec_l12Has_eq i (by omega) hn, Option.bind_some]
  simp only [decide_eq_true_eq]
  by_cases h : circleB l ∧ 0 ≤ i ∧ i ≤ 11
  · have p := partF_rng h.1 h.2.1 4
    have e := spec_l13Sum_eq (k := k) i 4 (by omega) h.1 h.2.1 h.2.2 (by omega)
    rw [show ((4 : Nat) : Int) = 4 from rfl] at e
    rw [if_pos h, if_pos h, e, Option.bind_some, w64 (x := 19 * partF l i 4) (by omega) (by omega), w64 (x := 19 * partF l i 4 - 72) (by omega) (by omega), w64 (x := 12 * partF l i 4) (by omega) (by omega), w64 (x := 48 - 12 * partF l i 4) (by omega) (by omega), spec_l03Simple_eq (by omega) (by unfold smallI; omega) (by unfold smallI; omega) (by unfold smallI; omega) (by unfold smallI; omega) (by omega)]
    rfl
  · rw [if_neg h, if_neg h]

theorem spec_GroupSum_eq {k : Nat} {l : List Int} (i : Int) (hk : l.length + 100002 < k) (hn : l.length ≤ 1048576) : spec_GroupSum.f k l i = some (gsumF l i) := by
  obtain ⟨k, rfl⟩ : ∃ m, k = m + 1 := ⟨k - 1, by omega⟩
  unfold spec_GroupSum.f gsumF
  rw [spec_CircleOk_eq (by omega) hn, Option.bind_some]
  simp only [decide_eq_true_eq]
  by_cases h : circleB l
  · rw [if_pos h, spec_l01In_eq, Option.bind_some]
    by_cases h2 : 0 ≤ i ∧ i ≤ 3
    · rw [decide_eq_true h2, if_pos (c := circleB l ∧ 0 ≤ i ∧ i ≤ 3) ⟨h, h2⟩]
      simp only [spec_GroupSum.j0, Bool.not_true, Bool.false_eq_true, if_false]
      rw [w64 (x := i + 4) (by omega) (by omega), w64 (x := i + 8) (by omega) (by omega), spec_ThirdAt_eq _ (by omega) hn, Option.bind_some, spec_ThirdAt_eq _ (by omega) hn, Option.bind_some, spec_AddIntervals_eq _ _ _ _ _ _ _ _ (by omega), Option.bind_some, spec_ThirdAt_eq _ (by omega) hn, Option.bind_some, spec_AddIntervals_eq _ _ _ _ _ _ _ _ (by omega), Option.bind_some]
      show (if (add4 (thirdF l i) (thirdF l (i + 4))).2.2.2.2 = true then (if (add4 (fore (add4 (thirdF l i) (thirdF l (i + 4)))) (thirdF l (i + 8))).2.2.2.2 = true then some (fore (add4 (fore (add4 (thirdF l i) (thirdF l (i + 4)))) (thirdF l (i + 8)))) else some (0, 0, 0, 0)) else some (0, 0, 0, 0)) = _
      split
      · split <;> rfl
      · rfl
    · rw [decide_eq_false h2, if_neg (c := circleB l ∧ 0 ≤ i ∧ i ≤ 3) (fun h3 => h2 h3.2)]
      simp [spec_GroupSum.j0]
  · rw [if_neg h, if_neg (c := circleB l ∧ 0 ≤ i ∧ i ≤ 3) (fun h3 => h h3.1)]
    simp [spec_GroupSum.j0]

theorem impl_within_eq (a b c : Int) : impl_within.f a b c = some (decide (b ≤ a ∧ a ≤ c)) := by
  unfold impl_within.f; by_cases h : b ≤ a <;> by_cases h2 : a ≤ c <;> simp [h, h2]

theorem impl_CircleOk_l0 (d : Nat) : ∀ (k : Nat) (l : List Int) (s : Int) (i : Nat), i + d = l.length → d < k → l.length ≤ 1048576 → 0 ≤ s → s ≤ (12 * i : Int) →
    impl_CircleOk.l0 k s l (l.length : Int) (i : Int) l = some (decide (circleG (l.drop i) s l.length)) := by
  induction d with
  | zero =>
    intro k l s i hi hk hn h1 h2
    obtain ⟨k, rfl⟩ : ∃ m, k = m + 1 := ⟨k - 1, by omega⟩
    simp only [impl_CircleOk.l0, impl_within_eq]
    rw [if_neg (by omega), List.drop_eq_nil_of_le (by omega)]
    by_cases h : (l.length : Int) = 12
    · simp only [h, if_true, circleG, List.not_mem_nil, false_imp_iff, implies_true, true_and, List.sum_nil, Int.add_zero]
      rw [Bool.eq_iff_iff.2 (by simp : (s == 12) = true ↔ decide (s = 12) = true)]
    · simp only [h, if_false, circleG, false_and, and_false, decide_false]
  | succ d ih =>
    intro k l s i hi hk hn h1 h2
    obtain ⟨k, rfl⟩ : ∃ m, k = m + 1 := ⟨k - 1, by omega⟩
    simp only [impl_CircleOk.l0]
    have hlt : (i : Int) < (l.length : Int) := by omega
    have h0 : (0 : Int) ≤ (i : Int) := by omega
    simp only [hlt, h0, if_true, impl_within_eq, up_one (n := l.length) (show i < l.length by omega) (by omega)]
    rw [drop_rd (l := l) (i := i) (by omega)]
    simp only [Option.bind_some, decide_eq_true_eq, circleG_cons]
    by_cases h : 0 ≤ rd l (i : Int) ∧ rd l (i : Int) ≤ 12
    · rw [if_pos h, w64 (by omega) (by omega), ih k l _ (i + 1) (by omega) (by omega) hn (by omega) (by omega)]
      simp [h]
    · rw [if_neg h]; simp [h]
theorem impl_CircleOk_eq {k : Nat} {l : List Int} (hk : l.length < k) (hn : l.length ≤ 1048576) : impl_CircleOk.f k l = some (decide (circleB l)) := by
  unfold impl_CircleOk.f circleB
  exact impl_CircleOk_l0 l.length k l 0 0 (by omega) hk hn (by omega) (by omega)

theorem impl_IntervalOk_eq (a b c d : Int) : impl_IntervalOk.f a b c d = some (decide (okI a b c d)) := by
  unfold impl_IntervalOk.f okI
  simp only [impl_within_eq, Option.bind_some, decide_eq_true_eq]
  by_cases h1 : 1 ≤ d ∧ d ≤ 12
  · rw [if_pos h1]
    by_cases h2 : -400 ≤ a ∧ a ≤ 400
    · rw [if_pos h2]
      by_cases h3 : -400 ≤ b ∧ b ≤ 400
      · rw [if_pos h3]
        simp [h1, h2, h3]
      · rw [if_neg h3]
        simp only [h3, false_and, and_false, decide_false]
    · rw [if_neg h2]
      simp only [h2, false_and, and_false, decide_false]
  · rw [if_neg h1]
    simp only [h1, false_and, decide_false]

theorem impl_divisor_l0 (n : Nat) : ∀ (k : Nat) (a b : Int), b.natAbs ≤ n → n < k → -9223372036854775808 < a → a ≤ 9223372036854775807 → -9223372036854775808 < b → b ≤ 9223372036854775807 →
    impl_divisor.l0 k a b = some (Int.gcd a b : Int) := by
  induction n with
  | zero =>
    intro k a b hb hk h1 h2 h3 h4
    obtain ⟨k, rfl⟩ : ∃ m, k = m + 1 := ⟨k - 1, by omega⟩
    have hb0 : b = 0 := by omega
    subst hb0
    simp only [impl_divisor.l0, if_true, Int.gcd_zero_right]
    by_cases ha : a < 0
    · rw [if_pos ha, w64 (by omega) (by omega)]
      exact congrArg some (by omega)
    · rw [if_neg ha]
      exact congrArg some (by omega)
  | succ n ih =>
    intro k a b hb hk h1 h2 h3 h4
    by_cases hb0 : b = 0
    · exact ih k a b (by subst hb0; simp) (by omega) h1 h2 h3 h4
    · obtain ⟨k, rfl⟩ : ∃ m, k = m + 1 := ⟨k - 1, by omega⟩
      simp only [impl_divisor.l0]
      have hm := tmod_lt a hb0
      rw [if_neg hb0, ih k b (Int.tmod a b) (by omega) (by omega) h3 h4 (by omega) (by omega), gcd_tmod]
theorem impl_divisor_eq {k : Nat} {a b : Int} (hk : b.natAbs < k) (h1 : -9223372036854775808 < a) (h2 : a ≤ 9223372036854775807) (h3 : -9223372036854775808 < b) (h4 : b ≤ 9223372036854775807) :
    impl_divisor.f k a b = some (Int.gcd a b : Int) := impl_divisor_l0 b.natAbs k a b (Nat.le_refl _) hk h1 h2 h3 h4

theorem impl_simplest_eq {k : Nat} {a b c d : Int} (hk : 100000 < k) (ha : smallI a) (hb : smallI b) (hc : smallI c) (hd : smallI d) (h0 : d ≠ 0) : impl_simplest.f k a b c d = some (simpF a b c d) := by
  have p := gcd_small ha hb
  have q := gcd_small hc hd
  have g := g4_pos (a := a) (b := b) (c := c) h0
  unfold impl_simplest.f
  unfold smallI at *
  rw [impl_divisor_eq (by omega) (by omega) (by omega) (by omega) (by omega), Option.bind_some, impl_divisor_eq (by omega) (by omega) (by omega) (by omega) (by omega), Option.bind_some, impl_divisor_eq (by omega) (by omega) (by omega) (by omega) (by omega), Option.bind_some]
  unfold g4 at g
  rw [if_neg g]
  rfl

theorem impl_okInterval_eq {k : Nat} {a b c d : Int} (hk : 100000 < k) (ha : smallI a) (hb : smallI b) (hc : smallI c) (hd : smallI d) (h0 : d ≠ 0) : impl_okInterval.f k a b c d = some (if okI (simpF a b c d).1 (simpF a b c d).2.1 (simpF a b c d).2.2.1 (simpF a b c d).2.2.2 then ((simpF a b c d).1, (simpF a b c d).2.1, (simpF a b c d).2.2.1, (simpF a b c d).2.2.2, true) else (0, 0, 0, 0, false)) := by
  unfold impl_okInterval.f
  rw [impl_simplest_eq hk ha hb hc hd h0, Option.bind_some, impl_IntervalOk_eq, Option.bind_some]
  simp only [decide_eq_true_eq]
  split <;> rfl

theorem impl_AddIntervals_eq {k : Nat} (a0 a1 a2 a3 b0 b1 b2 b3 : Int) (hk : 100000 < k) : impl_AddIntervals.f k a0 a1 a2 a3 b0 b1 b2 b3 = some (addF a0 a1 a2 a3 b0 b1 b2 b3) := by
  unfold impl_AddIntervals.f addF
  rw [impl_IntervalOk_eq, Option.bind_some]
  simp only [decide_eq_true_eq]
  by_cases h1 : okI a0 a1 a2 a3
  · rw [if_pos h1, impl_IntervalOk_eq, Option.bind_some]
    simp only [decide_eq_true_eq]
    by_cases h2 : okI b0 b1 b2 b3
    · rw [if_pos h2, if_pos (c := okI a0 a1 a2 a3 ∧ okI b0 b1 b2 b3) ⟨h1, h2⟩]
      obtain ⟨d1, x0, x1, x2⟩ := h1
      obtain ⟨d2, y0, y1, y2⟩ := h2
      have m0 := mul_rng x0.1 x0.2 d2.1 d2.2
      have m1 := mul_rng x1.1 x1.2 d2.1 d2.2
      have m2 := mul_rng x2.1 x2.2 d2.1 d2.2
      have n0 := mul_rng y0.1 y0.2 d1.1 d1.2
      have n1 := mul_rng y1.1 y1.2 d1.1 d1.2
      have n2 := mul_rng y2.1 y2.2 d1.1 d1.2
      have dd := mul_pos12 d1.1 d1.2 d2.1 d2.2
      rw [w64 (x := a0 * b3) (by omega) (by omega), w64 (x := b0 * a3) (by omega) (by omega), w64 (x := a0 * b3 + b0 * a3) (by omega) (by omega), w64 (x := a1 * b3) (by omega) (by omega), w64 (x := b1 * a3) (by omega) (by omega), w64 (x := a1 * b3 + b1 * a3) (by omega) (by omega), w64 (x := a2 * b3) (by omega) (by omega), w64 (x := b2 * a3) (by omega) (by omega), w64 (x := a2 * b3 + b2 * a3) (by omega) (by omega), w64 (x := a3 * b3) (by omega) (by omega)]
      rw [impl_okInterval_eq hk (by unfold smallI; omega) (by unfold smallI; omega) (by unfold smallI; omega) (by unfold smallI; omega) (by omega)]
      rfl
    · rw [if_neg h2, if_neg (c := okI a0 a1 a2 a3 ∧ okI b0 b1 b2 b3) (fun h => h2 h.2)]
  · rw [if_neg h1, if_neg (c := okI a0 a1 a2 a3 ∧ okI b0 b1 b2 b3) (fun h => h1 h.1)]

theorem impl_isKey_eq {k : Nat} {l : List Int} (i : Int) (hk : l.length < k) (hn : l.length ≤ 1048576) : impl_isKey.f k l i = some (decide (circleB l ∧ 0 ≤ i ∧ i ≤ 11)) := by
  unfold impl_isKey.f
  rw [impl_CircleOk_eq hk hn, impl_within_eq]
  by_cases h : circleB l <;> simp [h]

theorem impl_partsFrom_l0 (d : Nat) : ∀ (k : Nat) (l : List Int) (f : Int) (c i : Nat), i + d = c → d < k → circleB l → 0 ≤ f → f ≤ 11 → c ≤ 12 →
    impl_partsFrom.l0 k f (c : Int) (partF l f i) (i : Int) l = some (partF l f c) := by
  induction d with
  | zero =>
    intro k l f c i hi hk hs h0 h1 hc
    obtain ⟨k, rfl⟩ : ∃ m, k = m + 1 := ⟨k - 1, by omega⟩
    simp only [impl_partsFrom.l0]
    obtain rfl : i = c := by omega
    rw [if_neg (by omega)]
  | succ d ih =>
    intro k l f c i hi hk hs h0 h1 hc
    obtain ⟨k, rfl⟩ : ∃ m, k = m + 1 := ⟨k - 1, by omega⟩
    have hl := circleB_len hs
    have e := tmod_nat (f := f) (n := 12) i h0 (by omega)
    have hm : (f.toNat + i) % 12 < 12 := Nat.mod_lt _ (by omega)
    have hr := circleB_rd hs (i := (f.toNat + i) % 12) (by omega)
    have hsp := partF_rng hs h0 i
    have e' : Int.tmod (f + (i : Int)) 12 = (((f.toNat + i) % 12 : Nat) : Int) := e
    simp only [impl_partsFrom.l0]
    rw [if_pos (by omega), w64 (x := f + (i : Int)) (by omega) (by omega), e', if_pos (by omega), if_pos (by omega), up_one (n := 12) (by omega) (by omega), w64 (by omega) (by omega)]
    rw [← ih k l f c (i + 1) (by omega) (by omega) hs h0 h1 hc]
    simp only [partF, e']
theorem impl_partsFrom_eq {k : Nat} {l : List Int} (i : Int) (c : Nat) (hk : l.length + 12 < k) (hn : l.length ≤ 1048576) (hc : c ≤ 12) : impl_partsFrom.f k l i (c : Int) = some (if circleB l ∧ 0 ≤ i ∧ i ≤ 11 then partF l i c else 0) := by
  unfold impl_partsFrom.f
  rw [impl_isKey_eq i (by omega) hn]
  simp only [Option.bind_some, decide_eq_true_eq]
  by_cases h : circleB l ∧ 0 ≤ i ∧ i ≤ 11
  · rw [if_pos h, if_pos h]
    exact impl_partsFrom_l0 c k l i c 0 (by omega) (by omega) h.1 h.2.1 h.2.2 hc
  · rw [if_neg h, if_neg h]

theorem impl_ThirdParts_eq {k : Nat} {l : List Int} (i : Int) (hk : l.length + 12 < k) (hn : l.length ≤ 1048576) : impl_ThirdParts.f k l i = some (if circleB l ∧ 0 ≤ i ∧ i ≤ 11 then partF l i 4 else 0) := by
  unfold impl_ThirdParts.f
  have := impl_partsFrom_eq (k := k) (l := l) i 4 hk hn (by omega)
  rw [show ((4 : Nat) : Int) = 4 from rfl] at this
  rw [this]
  rfl

theorem impl_ThirdAt_eq {k : Nat} {l : List Int} (i : Int) (hk : l.length + 100000 < k) (hn : l.length ≤ 1048576) : impl_ThirdAt.f k l i = some (thirdF l i) := by
  unfold impl_ThirdAt.f thirdF
  rw [impl_isKey_eq i (by omega) hn, Option.bind_some]
  simp only [decide_eq_true_eq]
  by_cases h : circleB l ∧ 0 ≤ i ∧ i ≤ 11
  · have p := partF_rng h.1 h.2.1 4
    rw [if_pos h, if_pos h, impl_ThirdParts_eq i (by omega) hn, Option.bind_some, if_pos h, w64 (x := 19 * partF l i 4) (by omega) (by omega), w64 (x := 19 * partF l i 4 - 72) (by omega) (by omega), w64 (x := 12 * partF l i 4) (by omega) (by omega), w64 (x := 48 - 12 * partF l i 4) (by omega) (by omega), impl_simplest_eq (by omega) (by unfold smallI; omega) (by unfold smallI; omega) (by unfold smallI; omega) (by unfold smallI; omega) (by omega)]
    rfl
  · rw [if_neg h, if_neg h]

theorem impl_GroupSum_eq {k : Nat} {l : List Int} (i : Int) (hk : l.length + 100002 < k) (hn : l.length ≤ 1048576) : impl_GroupSum.f k l i = some (gsumF l i) := by
  obtain ⟨k, rfl⟩ : ∃ m, k = m + 1 := ⟨k - 1, by omega⟩
  unfold impl_GroupSum.f gsumF
  rw [impl_CircleOk_eq (by omega) hn, Option.bind_some]
  simp only [decide_eq_true_eq]
  by_cases h : circleB l
  · rw [if_pos h, impl_within_eq, Option.bind_some]
    by_cases h2 : 0 ≤ i ∧ i ≤ 3
    · rw [decide_eq_true h2, if_pos (c := circleB l ∧ 0 ≤ i ∧ i ≤ 3) ⟨h, h2⟩]
      simp only [impl_GroupSum.j0, Bool.not_true, Bool.false_eq_true, if_false]
      rw [w64 (x := i + 4) (by omega) (by omega), w64 (x := i + 8) (by omega) (by omega), impl_ThirdAt_eq _ (by omega) hn, Option.bind_some, impl_ThirdAt_eq _ (by omega) hn, Option.bind_some, impl_AddIntervals_eq _ _ _ _ _ _ _ _ (by omega), Option.bind_some, impl_ThirdAt_eq _ (by omega) hn, Option.bind_some, impl_AddIntervals_eq _ _ _ _ _ _ _ _ (by omega), Option.bind_some]
      show (if (add4 (thirdF l i) (thirdF l (i + 4))).2.2.2.2 = true then (if (add4 (fore (add4 (thirdF l i) (thirdF l (i + 4)))) (thirdF l (i + 8))).2.2.2.2 = true then some (fore (add4 (fore (add4 (thirdF l i) (thirdF l (i + 4)))) (thirdF l (i + 8)))) else some (0, 0, 0, 0)) else some (0, 0, 0, 0)) = _
      split
      · split <;> rfl
      · rfl
    · rw [decide_eq_false h2, if_neg (c := circleB l ∧ 0 ≤ i ∧ i ≤ 3) (fun h3 => h2 h3.2)]
      simp [impl_GroupSum.j0]
  · rw [if_neg h, if_neg (c := circleB l ∧ 0 ≤ i ∧ i ≤ 3) (fun h3 => h h3.1)]
    simp [impl_GroupSum.j0]

/-- The law, over numbers and lists. -/
def laws_FnExactGroupSum.Pure : Prop := ∀ (l0_0 : List Int) (a1 : Int), l0_0.length ≤ maxLen → (∀ x ∈ l0_0, (Lit.int .i64 x).wf = true) → (Lit.int .i64 a1).wf = true → ∃ k, laws_FnExactGroupSum.f k l0_0 a1 = some true
theorem FnExactGroupSum : laws_FnExactGroupSum.Pure := by
  intro l i hm _ _
  obtain ⟨K, hK⟩ : ∃ K : Nat, l.length + 200000 ≤ K := ⟨_, Nat.le_refl _⟩
  refine ⟨K, ?_⟩
  unfold laws_FnExactGroupSum.f
  rw [laws_szCircle_eq hm, Option.bind_some]
  by_cases c : 1048576 < l.length
  · rw [if_pos c, if_pos (by omega)]
  · rw [if_neg c, if_neg (by omega), laws_toCircle_eq (by omega) (by omega), Option.bind_some, spec_GroupSum_eq _ (by omega) (by omega), Option.bind_some, Option.bind_some, impl_GroupSum_eq _ (by omega) (by omega), Option.bind_some]
    have he : ∀ a b c d : Int, laws_eqInterval.f a b c d a b c d = some true := by
      intro a b c d
      simp [laws_eqInterval.f]
    rw [he, Option.bind_some]
    simp only [if_true, Option.bind_some]
    rw [laws_eqCircle_eq (by omega) (by omega)]
    simp

end Go.Proofs.Ytmjccdljalocbaa.Pure
