/- The thirds of a group make an octave, the last part closes the circle, and a circle with a wolf is regular: for every code the law returns true. No condition. -/
import Derived.Test.YtmjccdljalocbaaPFnClosingx1
import Derived.Test.YtmjccdljalocbaaPFnClosingx2
import Derived.Test.YtmjccdljalocbaaPFnClosingx3
import Derived.Test.YtmjccdljalocbaaPFnClosingx4
import Derived.Test.YtmjccdljalocbaaPFnClosingx5
import Derived.Test.YtmjccdljalocbaaPFnClosingx6
import Derived.Test.YtmjccdljalocbaaPFnClosingx7
import Derived.Test.YtmjccdljalocbaaPFnClosingx8
import Derived.OpenShut
namespace Go.Proofs.Ytmjccdljalocbaa.Pure
open Go.RowKit Go.Proofs.Ytmjccdljalocbaa.PFnClosing Go.Proofs.YtmjccdljalocbaaW.PrintWords Go.Proofs.YtmjccdljalocbaaW.PrintLast Go.Proofs.YtmjccdljalocbaaW.PrintMore
set_option linter.unusedVariables false
set_option linter.unusedSimpArgs false
theorem w64 {x : Int} (h : -9223372036854775808 ≤ x) (h' : x ≤ 9223372036854775807) : wrap64 x = x := by unfold wrap64; omega
theorem wf64 {x : Int} (h : (Lit.int .i64 x).wf = true) : -9223372036854775808 ≤ x ∧ x ≤ 9223372036854775807 := by
  simp only [Lit.wf, IntKind.min, IntKind.max, IntKind.signed, IntKind.bits, Bool.and_eq_true, decide_eq_true_eq, if_true] at h
  omega
theorem wfu8 {x : Int} (h : (Lit.int .u8 x).wf = true) : 0 ≤ x ∧ x ≤ 255 := by
  simp [Lit.wf, IntKind.min, IntKind.max, IntKind.signed, IntKind.bits] at h
  omega
theorem mx_def (a b : Int) : mx a b = max a b := by unfold mx; omega
theorem mn_def (a b : Int) : mn a b = min a b := by unfold mn; omega
theorem fuel {n k : Nat} (h : n < k) : ∃ m, k = m + 1 ∧ n ≤ m := ⟨k - 1, by omega, by omega⟩
theorem gcd_tmod (a b : Int) : Int.gcd b (Int.tmod a b) = Int.gcd a b := by
  unfold Int.gcd
  rw [Int.natAbs_tmod, Nat.gcd_comm, ← Nat.gcd_rec, Nat.gcd_comm]
theorem tmod_lt (a : Int) {b : Int} (h : b ≠ 0) : (Int.tmod a b).natAbs < b.natAbs := by
  rw [Int.natAbs_tmod]
  exact Nat.mod_lt _ (by omega)
theorem drop_rd {l : List Int} {i : Nat} (h : i < l.length) : l.drop i = rd l (i : Int) :: l.drop (i + 1) := by
  rw [List.drop_eq_getElem_cons h]
  simp [rd, List.getD, List.getElem?_eq_getElem h]
theorem rd_get {l : List Int} {i : Nat} (h : i < l.length) : rd l (i : Int) = l[i] := by simp [rd, List.getD, List.getElem?_eq_getElem h]
theorem up_one {i n : Nat} (h : i < n) (hn : n ≤ 9223372036854775807) : wrap64 ((i : Int) + 1) = ((i + 1 : Nat) : Int) := by rw [w64 (by omega) (by omega)]; omega
theorem rd_mem {l : List Int} {i : Nat} (h : i < l.length) : rd l (i : Int) ∈ l := by rw [rd_get h]; exact List.getElem_mem h
theorem maxLen_le {n : Nat} (h : n ≤ maxLen) : (n : Int) ≤ 9223372036854775807 := by unfold maxLen at h; omega

def circleG (l : List Int) (s : Int) (n : Nat) : Prop := (∀ x ∈ l, 0 ≤ x ∧ x ≤ 12) ∧ (n : Int) = 12 ∧ s + l.sum = 12
theorem circleG_cons (a : Int) (l : List Int) (s : Int) (n : Nat) : circleG (a :: l) s n ↔ (0 ≤ a ∧ a ≤ 12) ∧ circleG l (s + a) n := by
  unfold circleG
  simp only [List.mem_cons, forall_eq_or_imp, List.sum_cons]
  constructor
  · rintro ⟨⟨h1, h2⟩, h3, h4⟩; exact ⟨h1, h2, h3, by omega⟩
  · rintro ⟨h1, h2, h3, h4⟩; exact ⟨⟨h1, h2⟩, h3, by omega⟩
instance (l : List Int) (s : Int) (n : Nat) : Decidable (circleG l s n) := by unfold circleG; infer_instance
/-- A valid circle. -/
def circleB (l : List Int) : Prop := circleG l 0 l.length
instance (l : List Int) : Decidable (circleB l) := by unfold circleB; infer_instance
theorem circleB_len {l : List Int} (h : circleB l) : l.length = 12 := by have := h.2.1; omega
theorem circleB_rd {l : List Int} (h : circleB l) {i : Nat} (hi : i < l.length) : 0 ≤ rd l (i : Int) ∧ rd l (i : Int) ≤ 12 := h.1 _ (rd_mem hi)

/-- The sum of c parts from f on. -/
def partF (l : List Int) (f : Int) : Nat → Int
  | 0 => 0
  | c + 1 => partF l f c + rd l (Int.tmod (f + c) 12)
theorem tmod_nat {f : Int} {n : Nat} (c : Nat) (h : 0 ≤ f) (hn : 1 ≤ n) : Int.tmod (f + c) n = (((f.toNat + c) % n : Nat) : Int) := by
  rw [Int.tmod_eq_emod_of_nonneg (by omega)]
  have : f + (c : Int) = ((f.toNat + c : Nat) : Int) := by omega
  rw [this]
  rfl
theorem partF_rng {l : List Int} (h : circleB l) {f : Int} (hf : 0 ≤ f) (c : Nat) : 0 ≤ partF l f c ∧ partF l f c ≤ 12 * (c : Int) := by
  have hl := circleB_len h
  induction c with
  | zero => simp [partF]
  | succ c ih =>
    simp only [partF]
    have e : Int.tmod (f + (c : Int)) 12 = (((f.toNat + c) % 12 : Nat) : Int) := tmod_nat (f := f) (n := 12) c hf (by omega)
    rw [e]
    have := circleB_rd h (i := (f.toNat + c) % 12) (by have := Nat.mod_lt (f.toNat + c) (show 0 < 12 by omega); omega)
    omega

def groupF (l : List Int) (i : Int) : Int × Int × Int := if circleB l ∧ 0 ≤ i ∧ i ≤ 3 then (partF l i 4, partF l (i + 4) 4, partF l (i + 8) 4) else (0, 0, 0)

def g4 (a b c d : Int) : Int := (Int.gcd (Int.gcd a b : Int) (Int.gcd c d : Int) : Int)
/-- An interval in its lowest terms. -/
def simpF (a b c d : Int) : Int × Int × Int × Int := (wrap64 (Int.tdiv a (g4 a b c d)), wrap64 (Int.tdiv b (g4 a b c d)), wrap64 (Int.tdiv c (g4 a b c d)), wrap64 (Int.tdiv d (g4 a b c d)))
def smallI (a : Int) : Prop := -100000 ≤ a ∧ a ≤ 100000
def okI (a b c d : Int) : Prop := (1 ≤ d ∧ d ≤ 12) ∧ (-400 ≤ a ∧ a ≤ 400) ∧ (-400 ≤ b ∧ b ≤ 400) ∧ (-400 ≤ c ∧ c ≤ 400)
instance (a b c d : Int) : Decidable (okI a b c d) := by unfold okI; infer_instance
/-- The sum of two intervals, and whether there is one. -/
def addF (a0 a1 a2 a3 b0 b1 b2 b3 : Int) : Int × Int × Int × Int × Bool :=
  if okI a0 a1 a2 a3 ∧ okI b0 b1 b2 b3 then
    (if okI (simpF (a0 * b3 + b0 * a3) (a1 * b3 + b1 * a3) (a2 * b3 + b2 * a3) (a3 * b3)).1 (simpF (a0 * b3 + b0 * a3) (a1 * b3 + b1 * a3) (a2 * b3 + b2 * a3) (a3 * b3)).2.1 (simpF (a0 * b3 + b0 * a3) (a1 * b3 + b1 * a3) (a2 * b3 + b2 * a3) (a3 * b3)).2.2.1 (simpF (a0 * b3 + b0 * a3) (a1 * b3 + b1 * a3) (a2 * b3 + b2 * a3) (a3 * b3)).2.2.2
      then ((simpF (a0 * b3 + b0 * a3) (a1 * b3 + b1 * a3) (a2 * b3 + b2 * a3) (a3 * b3)).1, (simpF (a0 * b3 + b0 * a3) (a1 * b3 + b1 * a3) (a2 * b3 + b2 * a3) (a3 * b3)).2.1, (simpF (a0 * b3 + b0 * a3) (a1 * b3 + b1 * a3) (a2 * b3 + b2 * a3) (a3 * b3)).2.2.1, (simpF (a0 * b3 + b0 * a3) (a1 * b3 + b1 * a3) (a2 * b3 + b2 * a3) (a3 * b3)).2.2.2, true)
      else (0, 0, 0, 0, false))
  else (0, 0, 0, 0, false)
theorem mul_rng {a b : Int} (h0 : -400 ≤ a) (h1 : a ≤ 400) (h2 : 1 ≤ b) (h3 : b ≤ 12) : -4800 ≤ a * b ∧ a * b ≤ 4800 := by
  have : b = 1 ∨ b = 2 ∨ b = 3 ∨ b = 4 ∨ b = 5 ∨ b = 6 ∨ b = 7 ∨ b = 8 ∨ b = 9 ∨ b = 10 ∨ b = 11 ∨ b = 12 := by omega
  rcases this with rfl | rfl | rfl | rfl | rfl | rfl | rfl | rfl | rfl | rfl | rfl | rfl <;> omega
theorem mul_pos12 {a b : Int} (h0 : 1 ≤ a) (h1 : a ≤ 12) (h2 : 1 ≤ b) (h3 : b ≤ 12) : 1 ≤ a * b ∧ a * b ≤ 144 := by
  have : b = 1 ∨ b = 2 ∨ b = 3 ∨ b = 4 ∨ b = 5 ∨ b = 6 ∨ b = 7 ∨ b = 8 ∨ b = 9 ∨ b = 10 ∨ b = 11 ∨ b = 12 := by omega
  rcases this with rfl | rfl | rfl | rfl | rfl | rfl | rfl | rfl | rfl | rfl | rfl | rfl <;> omega
theorem gcd_small {a b : Int} (ha : smallI a) (hb : smallI b) : 0 ≤ (Int.gcd a b : Int) ∧ (Int.gcd a b : Int) ≤ 100000 := by
  unfold smallI at *
  refine ⟨by omega, ?_⟩
  by_cases h : a = 0
  · subst h
    rw [Int.gcd_zero_left]
    omega
  · have := Nat.le_of_dvd (n := a.natAbs) (by omega) (Nat.gcd_dvd_left a.natAbs b.natAbs)
    unfold Int.gcd
    omega
theorem g4_pos {a b c d : Int} (h : d ≠ 0) : g4 a b c d ≠ 0 := by
  unfold g4
  intro e
  have e1 : Int.gcd (Int.gcd a b : Int) (Int.gcd c d : Int) = 0 := by omega
  rw [Int.gcd_eq_zero_iff] at e1
  have e2 : Int.gcd c d = 0 := by omega
  rw [Int.gcd_eq_zero_iff] at e2
  exact h e2.2
/-- The third from a key. -/
def thirdF (l : List Int) (i : Int) : Int × Int × Int × Int := if circleB l ∧ 0 ≤ i ∧ i ≤ 11 then simpF (19 * partF l i 4 - 72) (48 - 12 * partF l i 4) 0 12 else (0, 0, 0, 0)
def add4 (x y : Int × Int × Int × Int) : Int × Int × Int × Int × Bool := addF x.1 x.2.1 x.2.2.1 x.2.2.2 y.1 y.2.1 y.2.2.1 y.2.2.2
def fore (x : Int × Int × Int × Int × Bool) : Int × Int × Int × Int := (x.1, x.2.1, x.2.2.1, x.2.2.2.1)
/-- The sum of a group's thirds. -/
def gsumF (l : List Int) (i : Int) : Int × Int × Int × Int :=
  if circleB l ∧ 0 ≤ i ∧ i ≤ 3 then
    (if (add4 (thirdF l i) (thirdF l (i + 4))).2.2.2.2 = true then
      (if (add4 (fore (add4 (thirdF l i) (thirdF l (i + 4)))) (thirdF l (i + 8))).2.2.2.2 = true then fore (add4 (fore (add4 (thirdF l i) (thirdF l (i + 4)))) (thirdF l (i + 8))) else (0, 0, 0, 0))
    else (0, 0, 0, 0))
  else (0, 0, 0, 0)

/-- All parts but one are the same. -/
def osB (l : List Int) (i : Nat) : Prop := ∀ j, j < 12 → j ≠ i → rd l (j : Int) = rd l (((i + 1) % 12 : Nat) : Int)
instance (l : List Int) (i : Nat) : Decidable (osB l i) := by unfold osB; infer_instance
def wolfB (l : List Int) (i : Nat) : Prop := rd l (i : Int) ≠ rd l (((i + 1) % 12 : Nat) : Int) ∧ osB l i
instance (l : List Int) (i : Nat) : Decidable (wolfB l i) := by unfold wolfB; infer_instance
/-- The first index from i on that is a wolf's. -/
def wolfFrom (l : List Int) : Nat → Nat → Int
  | _, 0 => -1
  | i, d + 1 => if wolfB l i then (i : Int) else wolfFrom l (i + 1) d
def wolfF (l : List Int) : Int := if circleB l then wolfFrom l 0 12 else -1
theorem tmod12 {i : Nat} : Int.tmod ((i : Int) + 1) 12 = (((i + 1) % 12 : Nat) : Int) := by
  rw [Int.tmod_eq_emod_of_nonneg (by omega)]
  omega

def regB (l : List Int) : Prop := circleB l ∧ ∃ i, i < 12 ∧ osB l i
instance (l : List Int) : Decidable (∃ i, i < 12 ∧ osB l i) := inferInstance
instance (l : List Int) : Decidable (regB l) := by unfold regB; infer_instance
theorem wolfFrom_nn (l : List Int) (d : Nat) : ∀ i, wolfFrom l i d ≥ 0 ↔ ∃ j, i ≤ j ∧ j < i + d ∧ wolfB l j := by
  induction d with
  | zero => intro i; simp only [wolfFrom]; constructor
            · intro h; omega
            · rintro ⟨j, h1, h2, _⟩; omega
  | succ d ih =>
    intro i
    simp only [wolfFrom]
    by_cases h : wolfB l i
    · rw [if_pos h]
      exact ⟨fun _ => ⟨i, Nat.le_refl _, by omega, h⟩, fun _ => by omega⟩
    · rw [if_neg h, ih (i + 1)]
      constructor
      · rintro ⟨j, h1, h2, h3⟩; exact ⟨j, by omega, by omega, h3⟩
      · rintro ⟨j, h1, h2, h3⟩
        have : j ≠ i := fun e => h (by rw [← e]; exact h3)
        exact ⟨j, by omega, by omega, h3⟩
def equalL : List Int := [1, 1, 1, 1, 1, 1, 1, 1, 1, 1, 1, 1]
theorem twelve {l : List Int} (hl : l.length = 12) : ∃ a0 a1 a2 a3 a4 a5 a6 a7 a8 a9 b0 b1, l = [a0, a1, a2, a3, a4, a5, a6, a7, a8, a9, b0, b1] := by
  match l, hl with
  | [a0, a1, a2, a3, a4, a5, a6, a7, a8, a9, b0, b1], _ => exact ⟨_, _, _, _, _, _, _, _, _, _, _, _, rfl⟩
theorem same_equal {l : List Int} (h : circleB l) (hs : ∀ j : Nat, j < 12 → rd l (j : Int) = rd l 0) : l = equalL := by
  have hl := circleB_len h
  have hsum := h.2.2
  obtain ⟨a0, a1, a2, a3, a4, a5, a6, a7, a8, a9, b0, b1, rfl⟩ := twelve hl
  have e1 := hs 1 (by omega)
  have e2 := hs 2 (by omega)
  have e3 := hs 3 (by omega)
  have e4 := hs 4 (by omega)
  have e5 := hs 5 (by omega)
  have e6 := hs 6 (by omega)
  have e7 := hs 7 (by omega)
  have e8 := hs 8 (by omega)
  have e9 := hs 9 (by omega)
  have e10 := hs 10 (by omega)
  have e11 := hs 11 (by omega)
  simp [rd] at e1 e2 e3 e4 e5 e6 e7 e8 e9 e10 e11
  simp at hsum
  have z : a0 = 1 := by omega
  rw [e1, e2, e3, e4, e5, e6, e7, e8, e9, e10, e11, z]
  rfl
theorem os_equal : osB equalL 0 := by decide
/-- A circle is regular just if it has a wolf or is the equal one. -/
theorem reg_iff {l : List Int} (h : circleB l) : (∃ i, i < 12 ∧ osB l i) ↔ (wolfFrom l 0 12 ≥ 0 ∨ l = equalL) := by
  have hl := circleB_len h
  constructor
  · rintro ⟨i, hi, ho⟩
    by_cases e : rd l (i : Int) = rd l (((i + 1) % 12 : Nat) : Int)
    · right
      have all : ∀ j : Nat, j < 12 → rd l (j : Int) = rd l (((i + 1) % 12 : Nat) : Int) := fun j hj => by
        by_cases hji : j = i
        · rw [hji]; exact e
        · exact ho j hj hji
      have z := all 0 (by omega)
      exact same_equal h (fun j hj => by rw [all j hj]; exact z.symm)
    · left
      exact (wolfFrom_nn l 12 0).2 ⟨i, by omega, by omega, e, ho⟩
  · rintro (hw | rfl)
    · obtain ⟨j, _, hj, hwj⟩ := (wolfFrom_nn l 12 0).1 hw
      exact ⟨j, by omega, hwj.2⟩
    · exact ⟨0, by omega, os_equal⟩

def closesB (l : List Int) (s : Int) (n : Nat) : Prop := (∀ x ∈ l, -1000 ≤ x ∧ x ≤ 1000) ∧ n = 12 ∧ s + l.sum = 12
theorem closesB_cons (a : Int) (l : List Int) (s : Int) (n : Nat) : closesB (a :: l) s n ↔ (-1000 ≤ a ∧ a ≤ 1000) ∧ closesB l (s + a) n := by
  unfold closesB
  simp only [List.mem_cons, forall_eq_or_imp, List.sum_cons]
  constructor
  · rintro ⟨⟨h1, h2⟩, h3, h4⟩; exact ⟨h1, h2, h3, by omega⟩
  · rintro ⟨h1, h2, h3, h4⟩; exact ⟨⟨h1, h2⟩, h3, by omega⟩
instance (l : List Int) (s : Int) (n : Nat) : Decidable (closesB l s n) := by unfold closesB; infer_instance

/-- The last eight bits of whatever: a byte. -/
theorem and255 (x : Int) : 0 ≤ Go.bits .and .i64 x 255 ∧ Go.bits .and .i64 x 255 ≤ 255 := by
  have e : (BitVec.ofInt IntKind.i64.bits 255).toNat = 255 := by decide
  have h : Go.bits .and .i64 x 255 = IntKind.i64.wrap (((BitVec.ofInt IntKind.i64.bits x).toNat &&& 255 : Nat) : Int) := by
    unfold Go.bits
    simp only [BitVec.toNat_and]
    rw [e]
  have hle : (BitVec.ofInt IntKind.i64.bits x).toNat &&& 255 ≤ 255 := Nat.and_le_right
  rw [h, IntKind.wrap_i64]
  omega
/-- A cursor into the code. -/
def curB (l : List Int) (i : Int) : Prop := 0 ≤ i ∧ i ≤ (l.length : Int)

theorem impl_within_eq (a b c : Int) : impl_within.f a b c = some (decide (b ≤ a ∧ a ≤ c)) := by
  unfold impl_within.f; by_cases h : b ≤ a <;> by_cases h2 : a ≤ c <;> simp [h, h2]

theorem impl_CircleOk_l0 (d : Nat) : ∀ (k : Nat) (l : List Int) (s : Int) (i : Nat), i + d = l.length → d < k → l.length ≤ 1048576 → 0 ≤ s → s ≤ (12 * i : Int) →
    impl_CircleOk.l0 k s l (l.length : Int) (i : Int) l = some (decide (circleG (l.drop i) s l.length)) := by
  induction d with
  | zero =>
    intro k l s i hi hk hn h1 h2
    obtain ⟨k, rfl⟩ : ∃ m, k = m + 1 := ⟨k - 1, by omega⟩
    simp only [impl_CircleOk.l0, impl_within_eq]
    rw [if_neg (by omega), List.drop_eq_nil_of_le (by omega)]
    by_cases h : (l.length : Int) = 12
    · simp only [h, if_true, circleG, List.not_mem_nil, false_imp_iff, implies_true, true_and, List.sum_nil, Int.add_zero]
      rw [Bool.eq_iff_iff.2 (by simp : (s == 12) = true ↔ decide (s = 12) = true)]
    · simp only [h, if_false, circleG, false_and, and_false, decide_false]
  | succ d ih =>
    intro k l s i hi hk hn h1 h2
    obtain ⟨k, rfl⟩ : ∃ m, k = m + 1 := ⟨k - 1, by omega⟩
    simp only [impl_CircleOk.l0]
    have hlt : (i : Int) < (l.length : Int) := by omega
    have h0 : (0 : Int) ≤ (i : Int) := by omega
    simp only [hlt, h0, if_true, impl_within_eq, up_one (n := l.length) (show i < l.length by omega) (by omega)]
    rw [drop_rd (l := l) (i := i) (by omega)]
    simp only [Option.bind_some, decide_eq_true_eq, circleG_cons]
    by_cases h : 0 ≤ rd l (i : Int) ∧ rd l (i : Int) ≤ 12
    · rw [if_pos h, w64 (by omega) (by omega), ih k l _ (i + 1) (by omega) (by omega) hn (by omega) (by omega)]
      simp [h]
    · rw [if_neg h]; simp [h]
theorem impl_CircleOk_eq {k : Nat} {l : List Int} (hk : l.length < k) (hn : l.length ≤ 1048576) : impl_CircleOk.f k l = some (decide (circleB l)) := by
  unfold impl_CircleOk.f circleB
  exact impl_CircleOk_l0 l.length k l 0 0 (by omega) hk hn (by omega) (by omega)

theorem impl_isKey_eq {k : Nat} {l : List Int} (i : Int) (hk : l.length < k) (hn : l.length ≤ 1048576) : impl_isKey.f k l i = some (decide (circleB l ∧ 0 ≤ i ∧ i ≤ 11)) := by
  unfold impl_isKey.f
  rw [impl_CircleOk_eq hk hn, impl_within_eq]
  by_cases h : circleB l <;> simp [h]

theorem impl_partsFrom_l0 (d : Nat) : ∀ (k : Nat) (l : List Int) (f : Int) (c i : Nat), i + d = c → d < k → circleB l → 0 ≤ f → f ≤ 11 → c ≤ 12 →
    impl_partsFrom.l0 k f (c : Int) (partF l f i) (i : Int) l = some (partF l f c) := by
  induction d with
  | zero =>
    intro k l f c i hi hk hs h0 h1 hc
    obtain ⟨k, rfl⟩ : ∃ m, k = m + 1 := ⟨k - 1, by omega⟩
    simp only [impl_partsFrom.l0]
    obtain rfl : i = c := by omega
    rw [if_neg (by omega)]
  | succ d ih =>
    intro k l f c i hi hk hs h0 h1 hc
    obtain ⟨k, rfl⟩ : ∃ m, k = m + 1 := ⟨k - 1, by omega⟩
    have hl := circleB_len hs
    have e := tmod_nat (f := f) (n := 12) i h0 (by omega)
    have hm : (f.toNat + i) % 12 < 12 := Nat.mod_lt _ (by omega)
    have hr := circleB_rd hs (i := (f.toNat + i) % 12) (by omega)
    have hsp := partF_rng hs h0 i
    have e' : Int.tmod (f + (i : Int)) 12 = (((f.toNat + i) % 12 : Nat) : Int) := e
    simp only [impl_partsFrom.l0]
    rw [if_pos (by omega), w64 (x := f + (i : Int)) (by omega) (by omega), e', if_pos (by omega), if_pos (by omega), up_one (n := 12) (by omega) (by omega), w64 (by omega) (by omega)]
    rw [← ih k l f c (i + 1) (by omega) (by omega) hs h0 h1 hc]
    simp only [partF, e']
theorem impl_partsFrom_eq {k : Nat} {l : List Int} (i : Int) (c : Nat) (hk : l.length + 12 < k) (hn : l.length ≤ 1048576) (hc : c ≤ 12) : impl_partsFrom.f k l i (c : Int) = some (if circleB l ∧ 0 ≤ i ∧ i ≤ 11 then partF l i c else 0) := by
  unfold impl_partsFrom.f
  rw [impl_isKey_eq i (by omega) hn]
  simp only [Option.bind_some, decide_eq_true_eq]
  by_cases h : circleB l ∧ 0 ≤ i ∧ i ≤ 11
  · rw [if_pos h, if_pos h]
    exact impl_partsFrom_l0 c k l i c 0 (by omega) (by omega) h.1 h.2.1 h.2.2 hc
  · rw [if_neg h, if_neg h]

theorem impl_ThirdParts_eq {k : Nat} {l : List Int} (i : Int) (hk : l.length + 12 < k) (hn : l.length ≤ 1048576) : impl_ThirdParts.f k l i = some (if circleB l ∧ 0 ≤ i ∧ i ≤ 11 then partF l i 4 else 0) := by
  unfold impl_ThirdParts.f
  have := impl_partsFrom_eq (k := k) (l := l) i 4 hk hn (by omega)
  rw [show ((4 : Nat) : Int) = 4 from rfl] at this
  rw [this]
  rfl

theorem impl_GroupThirds_eq {k : Nat} {l : List Int} (i : Int) (hk : l.length + 13 < k) (hn : l.length ≤ 1048576) : impl_GroupThirds.f k l i = some (groupF l i) := by
  obtain ⟨k, rfl⟩ : ∃ m, k = m + 1 := ⟨k - 1, by omega⟩
  unfold impl_GroupThirds.f groupF
  rw [impl_CircleOk_eq (by omega) hn, impl_within_eq]
  simp only [Option.bind_some, impl_GroupThirds.j0, decide_eq_true_eq]
  by_cases h : circleB l
  · by_cases h2 : 0 ≤ i ∧ i ≤ 3
    · rw [w64 (x := i + 4) (by omega) (by omega), w64 (x := i + 8) (by omega) (by omega), impl_ThirdParts_eq i (by omega) hn, impl_ThirdParts_eq (i + 4) (by omega) hn, impl_ThirdParts_eq (i + 8) (by omega) hn]
      rw [if_pos (show circleB l ∧ 0 ≤ i ∧ i ≤ 11 from ⟨h, by omega, by omega⟩), if_pos (show circleB l ∧ 0 ≤ i + 4 ∧ i + 4 ≤ 11 from ⟨h, by omega, by omega⟩), if_pos (show circleB l ∧ 0 ≤ i + 8 ∧ i + 8 ≤ 11 from ⟨h, by omega, by omega⟩)]
      simp [h, h2]
    · simp [h, h2]
  · simp [h]

theorem impl_othersSame_l0 (d : Nat) : ∀ (k : Nat) (l : List Int) (c i : Nat) , i + d = 12 → d < k → l.length = 12 → c < 12 → (∀ j, j < i → j ≠ c → rd l (j : Int) = rd l (((c + 1) % 12 : Nat) : Int)) →
    impl_othersSame.l0 k (c : Int) (((c + 1) % 12 : Nat) : Int) l (l.length : Int) (i : Int) l = some (decide (osB l c)) := by
  induction d with
  | zero =>
    intro k l c i hi hk hl hc h
    obtain ⟨k, rfl⟩ : ∃ m, k = m + 1 := ⟨k - 1, by omega⟩
    simp only [impl_othersSame.l0]
    rw [if_neg (by omega)]
    have : osB l c := fun j hj hne => h j (by omega) hne
    simp [this]
  | succ d ih =>
    intro k l c i hi hk hl hc h
    obtain ⟨k, rfl⟩ : ∃ m, k = m + 1 := ⟨k - 1, by omega⟩
    simp only [impl_othersSame.l0]
    rw [if_pos (by omega), if_pos (by omega), if_pos (by omega), up_one (n := 12) (by omega) (by omega)]
    by_cases e : (i : Int) = (c : Int)
    · rw [if_pos e]
      exact ih k l c (i + 1) (by omega) (by omega) hl hc (fun j hj hne => h j (by omega) hne)
    · have hm : (c + 1) % 12 < 12 := Nat.mod_lt _ (by omega)
      rw [if_neg e, if_pos (by omega), if_pos (by omega)]
      by_cases e2 : rd l (i : Int) = rd l (((c + 1) % 12 : Nat) : Int)
      · rw [if_pos e2]
        refine ih k l c (i + 1) (by omega) (by omega) hl hc (fun j hj hne => ?_)
        by_cases ej : j = i
        · rw [ej]; exact e2
        · exact h j (by omega) hne
      · rw [if_neg e2]
        have : ¬ osB l c := fun x => e2 (x i (by omega) (by omega))
        simp [this]
theorem impl_othersSame_eq {k : Nat} {l : List Int} {c : Nat} (hk : 12 < k) (hl : l.length = 12) (hc : c < 12) : impl_othersSame.f k l (c : Int) = some (decide (osB l c)) := by
  unfold impl_othersSame.f
  rw [w64 (by omega) (by omega), tmod12]
  exact impl_othersSame_l0 12 k l c 0 (by omega) hk hl hc (fun j hj => by omega)

theorem impl_WolfAt_l0 (d : Nat) : ∀ (k : Nat) (l : List Int) (i : Nat) , i + d = 12 → d + 13 < k → l.length = 12 → impl_WolfAt.l0 k l (l.length : Int) (i : Int) l = some (wolfFrom l i d) := by
  induction d with
  | zero =>
    intro k l i hi hk hl
    obtain ⟨k, rfl⟩ : ∃ m, k = m + 1 := ⟨k - 1, by omega⟩
    simp only [impl_WolfAt.l0]
    rw [if_neg (by omega)]
    rfl
  | succ d ih =>
    intro k l i hi hk hl
    obtain ⟨k, rfl⟩ : ∃ m, k = m + 1 := ⟨k - 1, by omega⟩
    have hm : (i + 1) % 12 < 12 := Nat.mod_lt _ (by omega)
    simp only [impl_WolfAt.l0]
    rw [if_pos (by omega), if_pos (by omega), if_pos (by omega), impl_othersSame_eq (by omega) hl (by omega)]
    rw [show Int.tmod (wrap64 ((i : Int) + 1)) 12 = (((i + 1) % 12 : Nat) : Int) by rw [w64 (by omega) (by omega), tmod12], up_one (n := 12) (by omega) (by omega), ih k l (i + 1) (by omega) (by omega) hl]
    simp only [Option.bind_some, decide_eq_true_eq, wolfFrom]
    by_cases h : osB l i
    · rw [if_pos h, if_pos (by omega), if_pos (by omega)]
      by_cases e : rd l (i : Int) = rd l (((i + 1) % 12 : Nat) : Int)
      · rw [if_pos e, if_neg (show ¬ wolfB l i from fun x => x.1 e)]
      · rw [if_neg e, if_pos (show wolfB l i from ⟨e, h⟩)]
    · rw [if_neg h, if_neg (show ¬ wolfB l i from fun x => h x.2)]
theorem impl_WolfAt_eq {k : Nat} {l : List Int} (hk : l.length + 26 < k) (hn : l.length ≤ 1048576) : impl_WolfAt.f k l = some (wolfF l) := by
  unfold impl_WolfAt.f wolfF
  rw [impl_CircleOk_eq (by omega) hn]
  simp only [Option.bind_some, decide_eq_true_eq]
  by_cases h : circleB l
  · have hl := circleB_len h
    rw [if_pos h, if_pos h]
    exact impl_WolfAt_l0 12 k l 0 (by omega) (by omega) hl
  · rw [if_neg h, if_neg h]

theorem impl_IsRegular_l0 (d : Nat) : ∀ (k : Nat) (l : List Int) (i : Nat) , i + d = 12 → d + 13 < k → l.length = 12 → ∃ b : Bool, impl_IsRegular.l0 k (l.length : Int) (i : Int) l = some b ∧ (b = true ↔ ∃ j, i ≤ j ∧ j < 12 ∧ osB l j) := by
  induction d with
  | zero =>
    intro k l i hi hk hl
    obtain ⟨k, rfl⟩ : ∃ m, k = m + 1 := ⟨k - 1, by omega⟩
    simp only [impl_IsRegular.l0]
    rw [if_neg (by omega)]
    exact ⟨false, rfl, ⟨fun h => (by cases h), fun ⟨j, h1, h2, _⟩ => by omega⟩⟩
  | succ d ih =>
    intro k l i hi hk hl
    obtain ⟨k, rfl⟩ : ∃ m, k = m + 1 := ⟨k - 1, by omega⟩
    obtain ⟨b, hb, hbi⟩ := ih k l (i + 1) (by omega) (by omega) hl
    simp only [impl_IsRegular.l0]
    rw [if_pos (by omega), impl_othersSame_eq (by omega) hl (by omega), up_one (n := 12) (by omega) (by omega), hb]
    simp only [Option.bind_some, decide_eq_true_eq]
    by_cases h : osB l i
    · rw [if_pos h]
      exact ⟨true, rfl, ⟨fun _ => ⟨i, Nat.le_refl _, by omega, h⟩, fun _ => rfl⟩⟩
    · rw [if_neg h]
      refine ⟨b, rfl, hbi.trans ?_⟩
      constructor
      · rintro ⟨j, h1, h2, h3⟩; exact ⟨j, by omega, h2, h3⟩
      · rintro ⟨j, h1, h2, h3⟩
        have : j ≠ i := fun e => h (by rw [← e]; exact h3)
        exact ⟨j, by omega, h2, h3⟩
theorem impl_IsRegular_eq {k : Nat} {l : List Int} (hk : l.length + 26 < k) (hn : l.length ≤ 1048576) : impl_IsRegular.f k l = some (decide (circleB l ∧ ∃ j, j < 12 ∧ osB l j)) := by
  unfold impl_IsRegular.f
  rw [impl_CircleOk_eq (by omega) hn]
  simp only [Option.bind_some, decide_eq_true_eq]
  by_cases h : circleB l
  · have hl := circleB_len h
    rw [if_pos h]
    obtain ⟨b, hb, hbi⟩ := impl_IsRegular_l0 12 k l 0 (by omega) (by omega) hl
    rw [show ((0 : Nat) : Int) = 0 from rfl] at hb
    rw [hb]
    refine congrArg some ?_
    rw [Bool.eq_iff_iff, hbi, decide_eq_true_eq]
    exact ⟨fun ⟨j, _, h2, h3⟩ => ⟨h, j, h2, h3⟩, fun ⟨_, j, h2, h3⟩ => ⟨j, by omega, h2, h3⟩⟩
  · rw [if_neg h]
    simp [h]

theorem impl_IntervalOk_eq (a b c d : Int) : impl_IntervalOk.f a b c d = some (decide (okI a b c d)) := by
  unfold impl_IntervalOk.f okI
  simp only [impl_within_eq, Option.bind_some, decide_eq_true_eq]
  by_cases h1 : 1 ≤ d ∧ d ≤ 12
  · rw [if_pos h1]
    by_cases h2 : -400 ≤ a ∧ a ≤ 400
    · rw [if_pos h2]
      by_cases h3 : -400 ≤ b ∧ b ≤ 400
      · rw [if_pos h3]
        simp [h1, h2, h3]
      · rw [if_neg h3]
        simp only [h3, false_and, and_false, decide_false]
    · rw [if_neg h2]
      simp only [h2, false_and, and_false, decide_false]
  · rw [if_neg h1]
    simp only [h1, false_and, decide_false]

theorem impl_divisor_l0 (n : Nat) : ∀ (k : Nat) (a b : Int), b.natAbs ≤ n → n < k → -9223372036854775808 < a → a ≤ 9223372036854775807 → -9223372036854775808 < b → b ≤ 9223372036854775807 →
    impl_divisor.l0 k a b = some (Int.gcd a b : Int) := by
  induction n with
  | zero =>
    intro k a b hb hk h1 h2 h3 h4
    obtain ⟨k, rfl⟩ : ∃ m, k = m + 1 := ⟨k - 1, by omega⟩
    have hb0 : b = 0 := by omega
    subst hb0
    simp only [impl_divisor.l0, if_true, Int.gcd_zero_right]
    by_cases ha : a < 0
    · rw [if_pos ha, w64 (by omega) (by omega)]
      exact congrArg some (by omega)
    · rw [if_neg ha]
      exact congrArg some (by omega)
  | succ n ih =>
    intro k a b hb hk h1 h2 h3 h4
    by_cases hb0 : b = 0
    · exact ih k a b (by subst hb0; simp) (by omega) h1 h2 h3 h4
    · obtain ⟨k, rfl⟩ : ∃ m, k = m + 1 := ⟨k - 1, by omega⟩
      simp only [impl_divisor.l0]
      have hm := tmod_lt a hb0
      rw [if_neg hb0, ih k b (Int.tmod a b) (by omega) (by omega) h3 h4 (by omega) (by omega), gcd_tmod]
theorem impl_divisor_eq {k : Nat} {a b : Int} (hk : b.natAbs < k) (h1 : -9223372036854775808 < a) (h2 : a ≤ 9223372036854775807) (h3 : -9223372036854775808 < b) (h4 : b ≤ 9223372036854775807) :
    impl_divisor.f k a b = some (Int.gcd a b : Int) := impl_divisor_l0 b.natAbs k a b (Nat.le_refl _) hk h1 h2 h3 h4

theorem impl_simplest_eq {k : Nat} {a b c d : Int} (hk : 100000 < k) (ha : smallI a) (hb : smallI b) (hc : smallI c) (hd : smallI d) (h0 : d ≠ 0) : impl_simplest.f k a b c d = some (simpF a b c d) := by
  have p := gcd_small ha hb
  have q := gcd_small hc hd
  have g := g4_pos (a := a) (b := b) (c := c) h0
  unfold impl_simplest.f
  unfold smallI at *
  rw [impl_divisor_eq (by omega) (by omega) (by omega) (by omega) (by omega), Option.bind_some, impl_divisor_eq (by omega) (by omega) (by omega) (by omega) (by omega), Option.bind_some, impl_divisor_eq (by omega) (by omega) (by omega) (by omega) (by omega), Option.bind_some]
  unfold g4 at g
  rw [if_neg g]
  rfl

theorem impl_okInterval_eq {k : Nat} {a b c d : Int} (hk : 100000 < k) (ha : smallI a) (hb : smallI b) (hc : smallI c) (hd : smallI d) (h0 : d ≠ 0) : impl_okInterval.f k a b c d = some (if okI (simpF a b c d).1 (simpF a b c d).2.1 (simpF a b c d).2.2.1 (simpF a b c d).2.2.2 then ((simpF a b c d).1, (simpF a b c d).2.1, (simpF a b c d).2.2.1, (simpF a b c d).2.2.2, true) else (0, 0, 0, 0, false)) := by
  unfold impl_okInterval.f
  rw [impl_simplest_eq hk ha hb hc hd h0, Option.bind_some, impl_IntervalOk_eq, Option.bind_some]
  simp only [decide_eq_true_eq]
  split <;> rfl

theorem impl_AddIntervals_eq {k : Nat} (a0 a1 a2 a3 b0 b1 b2 b3 : Int) (hk : 100000 < k) : impl_AddIntervals.f k a0 a1 a2 a3 b0 b1 b2 b3 = some (addF a0 a1 a2 a3 b0 b1 b2 b3) := by
  unfold impl_AddIntervals.f addF
  rw [impl_IntervalOk_eq, Option.bind_some]
  simp only [decide_eq_true_eq]
  by_cases h1 : okI a0 a1 a2 a3
  · rw [if_pos h1, impl_IntervalOk_eq, Option.bind_some]
    simp only [decide_eq_true_eq]
    by_cases h2 : okI b0 b1 b2 b3
    · rw [if_pos h2, if_pos (c := okI a0 a1 a2 a3 ∧ okI b0 b1 b2 b3) ⟨h1, h2⟩]
      obtain ⟨d1, x0, x1, x2⟩ := h1
      obtain ⟨d2, y0, y1, y2⟩ := h2
      have m0 := mul_rng x0.1 x0.2 d2.1 d2.2
      have m1 := mul_rng x1.1 x1.2 d2.1 d2.2
      have m2 := mul_rng x2.1 x2.2 d2.1 d2.2
      have n0 := mul_rng y0.1 y0.2 d1.1 d1.2
      have n1 := mul_rng y1.1 y1.2 d1.1 d1.2
      have n2 := mul_rng y2.1 y2.2 d1.1 d1.2
      have dd := mul_pos12 d1.1 d1.2 d2.1 d2.2
      rw [w64 (x := a0 * b3) (by omega) (by omega), w64 (x := b0 * a3) (by omega) (by omega), w64 (x := a0 * b3 + b0 * a3) (by omega) (by omega), w64 (x := a1 * b3) (by omega) (by omega), w64 (x := b1 * a3) (by omega) (by omega), w64 (x := a1 * b3 + b1 * a3) (by omega) (by omega), w64 (x := a2 * b3) (by omega) (by omega), w64 (x := b2 * a3) (by omega) (by omega), w64 (x := a2 * b3 + b2 * a3) (by omega) (by omega), w64 (x := a3 * b3) (by omega) (by omega)]
      rw [impl_okInterval_eq hk (by unfold smallI; omega) (by unfold smallI; omega) (by unfold smallI; omega) (by unfold smallI; omega) (by omega)]
      rfl
    · rw [if_neg h2, if_neg (c := okI a0 a1 a2 a3 ∧ okI b0 b1 b2 b3) (fun h => h2 h.2)]
  · rw [if_neg h1, if_neg (c := okI a0 a1 a2 a3 ∧ okI b0 b1 b2 b3) (fun h => h1 h.1)]

theorem impl_ThirdAt_eq {k : Nat} {l : List Int} (i : Int) (hk : l.length + 100000 < k) (hn : l.length ≤ 1048576) : impl_ThirdAt.f k l i = some (thirdF l i) := by
  unfold impl_ThirdAt.f thirdF
  rw [impl_isKey_eq i (by omega) hn, Option.bind_some]
  simp only [decide_eq_true_eq]
  by_cases h : circleB l ∧ 0 ≤ i ∧ i ≤ 11
  · have p := partF_rng h.1 h.2.1 4
    rw [if_pos h, if_pos h, impl_ThirdParts_eq i (by omega) hn, Option.bind_some, if_pos h, w64 (x := 19 * partF l i 4) (by omega) (by omega), w64 (x := 19 * partF l i 4 - 72) (by omega) (by omega), w64 (x := 12 * partF l i 4) (by omega) (by omega), w64 (x := 48 - 12 * partF l i 4) (by omega) (by omega), impl_simplest_eq (by omega) (by unfold smallI; omega) (by unfold smallI; omega) (by unfold smallI; omega) (by unfold smallI; omega) (by omega)]
    rfl
  · rw [if_neg h, if_neg h]

theorem impl_GroupSum_eq {k : Nat} {l : List Int} (i : Int) (hk : l.length + 100002 < k) (hn : l.length ≤ 1048576) : impl_GroupSum.f k l i = some (gsumF l i) := by
  obtain ⟨k, rfl⟩ : ∃ m, k = m + 1 := ⟨k - 1, by omega⟩
  unfold impl_GroupSum.f gsumF
  rw [impl_CircleOk_eq (by omega) hn, Option.bind_some]
  simp only [decide_eq_true_eq]
  by_cases h : circleB l
  · rw [if_pos h, impl_within_eq, Option.bind_some]
    by_cases h2 : 0 ≤ i ∧ i ≤ 3
    · rw [decide_eq_true h2, if_pos (c := circleB l ∧ 0 ≤ i ∧ i ≤ 3) ⟨h, h2⟩]
      simp only [impl_GroupSum.j0, Bool.not_true, Bool.false_eq_true, if_false]
      rw [w64 (x := i + 4) (by omega) (by omega), w64 (x := i + 8) (by omega) (by omega), impl_ThirdAt_eq _ (by omega) hn, Option.bind_some, impl_ThirdAt_eq _ (by omega) hn, Option.bind_some, impl_AddIntervals_eq _ _ _ _ _ _ _ _ (by omega), Option.bind_some, impl_ThirdAt_eq _ (by omega) hn, Option.bind_some, impl_AddIntervals_eq _ _ _ _ _ _ _ _ (by omega), Option.bind_some]
      show (if (add4 (thirdF l i) (thirdF l (i + 4))).2.2.2.2 = true then (if (add4 (fore (add4 (thirdF l i) (thirdF l (i + 4)))) (thirdF l (i + 8))).2.2.2.2 = true then some (fore (add4 (fore (add4 (thirdF l i) (thirdF l (i + 4)))) (thirdF l (i + 8)))) else some (0, 0, 0, 0)) else some (0, 0, 0, 0)) = _
      split
      · split <;> rfl
      · rfl
    · rw [decide_eq_false h2, if_neg (c := circleB l ∧ 0 ≤ i ∧ i ≤ 3) (fun h3 => h2 h3.2)]
      simp [impl_GroupSum.j0]
  · rw [if_neg h, if_neg (c := circleB l ∧ 0 ≤ i ∧ i ≤ 3) (fun h3 => h h3.1)]
    simp [impl_GroupSum.j0]

theorem laws_big_eq (l : List Int) : laws_big.f l = some (decide ((l.length : Int) > 1048576)) := rfl

theorem spec_l01In_eq (a b c : Int) : spec_l01In.f a b c = some (decide (b ≤ a ∧ a ≤ c)) := by
  unfold spec_l01In.f; by_cases h : a ≥ b <;> by_cases h2 : a ≤ c <;> simp [h, h2]; all_goals omega

theorem spec_CircleOk_l0 (d : Nat) : ∀ (k : Nat) (l : List Int) (s : Int) (i : Nat), i + d = l.length → d < k → l.length ≤ 1048576 → 0 ≤ s → s ≤ (12 * i : Int) →
    spec_CircleOk.l0 k s (i : Int) l = some (decide (circleG (l.drop i) s l.length)) := by
  induction d with
  | zero =>
    intro k l s i hi hk hn h1 h2
    obtain ⟨k, rfl⟩ : ∃ m, k = m + 1 := ⟨k - 1, by omega⟩
    simp only [spec_CircleOk.l0, spec_l01In_eq]
    rw [if_neg (by omega), List.drop_eq_nil_of_le (by omega)]
    by_cases h : (l.length : Int) = 12
    · simp only [h, if_true, circleG, List.not_mem_nil, false_imp_iff, implies_true, true_and, List.sum_nil, Int.add_zero]
      rw [Bool.eq_iff_iff.2 (by simp : (s == 12) = true ↔ decide (s = 12) = true)]
    · simp only [h, if_false, circleG, false_and, and_false, decide_false]
  | succ d ih =>
    intro k l s i hi hk hn h1 h2
    obtain ⟨k, rfl⟩ : ∃ m, k = m + 1 := ⟨k - 1, by omega⟩
    simp only [spec_CircleOk.l0]
    have hlt : (i : Int) < (l.length : Int) := by omega
    have h0 : (0 : Int) ≤ (i : Int) := by omega
    simp only [hlt, h0, if_true, spec_l01In_eq, up_one (n := l.length) (show i < l.length by omega) (by omega)]
    rw [drop_rd (l := l) (i := i) (by omega)]
    simp only [Option.bind_some, decide_eq_true_eq, circleG_cons]
    by_cases h : 0 ≤ rd l (i : Int) ∧ rd l (i : Int) ≤ 12
    · rw [if_pos h, w64 (by omega) (by omega), ih k l _ (i + 1) (by omega) (by omega) hn (by omega) (by omega)]
      simp [h]
    · rw [if_neg h]; simp [h]
theorem spec_CircleOk_eq {k : Nat} {l : List Int} (hk : l.length < k) (hn : l.length ≤ 1048576) : spec_CircleOk.f k l = some (decide (circleB l)) := by
  unfold spec_CircleOk.f circleB
  exact spec_CircleOk_l0 l.length k l 0 0 (by omega) hk hn (by omega) (by omega)

theorem spec_l01Byte_eq {l : List Int} (hn : l.length ≤ 140737488351232) (i h : Int) (hi : curB l i) : ∃ b i' h', spec_l01Byte.f l i h = some (b, i', h') ∧ 0 ≤ b ∧ b ≤ 255 ∧ curB l i' := by
  unfold curB at *
  unfold spec_l01Byte.f
  by_cases hc : i < (l.length : Int)
  · rw [if_pos hc, if_pos hi.1]
    refine ⟨_, _, _, rfl, (and255 _).1, (and255 _).2, ?_⟩
    rw [w64 (by omega) (by omega)]
    omega
  · rw [if_neg hc]
    exact ⟨_, _, _, rfl, (and255 _).1, (and255 _).2, hi⟩

theorem spec_l01Below_eq {l : List Int} (hn : l.length ≤ 140737488351232) (i h n : Int) (hi : curB l i) (h1 : 1 ≤ n) : ∃ v i' h', spec_l01Below.f l i h n = some (v, i', h') ∧ 0 ≤ v ∧ v < n ∧ curB l i' := by
  unfold spec_l01Below.f
  rw [if_neg (by omega)]
  by_cases h2 : n ≤ 256
  · rw [if_pos h2]
    obtain ⟨b, i', h', e, b0, b1, hi'⟩ := spec_l01Byte_eq hn i h hi
    rw [e]
    simp only [Option.bind_some]
    rw [if_neg (by omega)]
    exact ⟨_, _, _, rfl, Int.tmod_nonneg _ b0, Int.tmod_lt_of_pos _ (by omega), hi'⟩
  · rw [if_neg h2]
    obtain ⟨x, i1, h1', e, x0, x1, hi1⟩ := spec_l01Byte_eq hn i h hi
    rw [e]
    simp only [Option.bind_some]
    obtain ⟨y, i2, h2', e2, y0, y1, hi2⟩ := spec_l01Byte_eq hn i1 h1' hi1
    rw [e2]
    simp only [Option.bind_some]
    obtain ⟨z, i3, h3', e3, z0, z1, hi3⟩ := spec_l01Byte_eq hn i2 h2' hi2
    rw [e3]
    simp only [Option.bind_some]
    obtain ⟨u, i4, h4', e4, u0, u1, hi4⟩ := spec_l01Byte_eq hn i3 h3' hi3
    rw [e4]
    simp only [Option.bind_some]
    rw [if_neg (by omega), w64 (x := x * 16777216) (by omega) (by omega), w64 (x := y * 65536) (by omega) (by omega), w64 (x := z * 256) (by omega) (by omega), w64 (x := x * 16777216 + y * 65536) (by omega) (by omega),
      w64 (x := x * 16777216 + y * 65536 + z * 256) (by omega) (by omega), w64 (x := x * 16777216 + y * 65536 + z * 256 + u) (by omega) (by omega)]
    exact ⟨_, _, _, rfl, Int.tmod_nonneg _ (by omega), Int.tmod_lt_of_pos _ (by omega), hi4⟩

theorem spec_l01PickInt_eq {l : List Int} (hn : l.length ≤ 140737488351232) (i h : Int) (p : List Int) (hi : curB l i) (h1 : 1 ≤ p.length) : ∃ v i' h', spec_l01PickInt.f l i h p = some (v, i', h') ∧ v ∈ p ∧ curB l i' := by
  obtain ⟨v, i', h', e, v0, v1, c⟩ := spec_l01Below_eq hn i h (p.length : Int) hi (by omega)
  unfold spec_l01PickInt.f
  rw [e]
  simp only [Option.bind_some]
  rw [if_pos v0, if_pos v1]
  obtain ⟨n, rfl⟩ : ∃ n : Nat, v = n := ⟨v.toNat, by omega⟩
  exact ⟨_, _, _, rfl, rd_mem (by omega), c⟩

theorem spec_l01Once_eq {l : List Int} (hn : l.length ≤ 140737488351232) (i h n : Int) (hi : curB l i) (h1 : 1 ≤ n) : ∃ b i' h', spec_l01Once.f l i h n = some (b, i', h') ∧ curB l i' := by
  obtain ⟨v, i', h', e, _, _, c⟩ := spec_l01Below_eq hn i h n hi h1
  unfold spec_l01Once.f
  rw [e]
  exact ⟨_, _, _, rfl, c⟩

theorem equal_circle : circleB [1, 1, 1, 1, 1, 1, 1, 1, 1, 1, 1, 1] := by
  refine ⟨?_, by simp, by simp⟩
  simp
theorem spec_l12Circle_j1 {k : Nat} {L out : List Int} (ci ch : Int) (hk : 13 < k) (hl : out.length = 12) : ∃ p i' h', spec_l12Circle.j1 k L ci ch out = some (p, i', h') ∧ circleB p := by
  obtain ⟨k, rfl⟩ : ∃ m, k = m + 1 := ⟨k - 1, by omega⟩
  simp only [spec_l12Circle.j1]
  rw [spec_CircleOk_eq (by omega) (by omega), Option.bind_some]
  simp only [decide_eq_true_eq, spec_EqualCircle.f, Option.bind_some]
  by_cases h : circleB out
  · rw [if_pos h]
    exact ⟨_, _, _, rfl, h⟩
  · rw [if_neg h]
    exact ⟨_, _, _, rfl, equal_circle⟩
theorem mod12_rng {v : Int} (h0 : 0 ≤ v) (h1 : v < 12) : 0 ≤ Int.tmod (wrap64 (v + 1)) 12 ∧ Int.tmod (wrap64 (v + 1)) 12 < 12 := by
  rw [w64 (by omega) (by omega), Int.tmod_eq_emod_of_nonneg (by omega)]
  omega
theorem spec_l12Circle_l0 {L : List Int} (hn : L.length ≤ 140737488351232) (a : Int) (d : Nat) : ∀ (k : Nat) (ci ch : Int) (out : List Int), d ≤ 12 → d + 20 < k → curB L ci → out.length = 12 →
    ∃ p i' h', spec_l12Circle.l0 k a (d : Int) L ci ch out = some (p, i', h') ∧ circleB p := by
  induction d with
  | zero =>
    intro k ci ch out h12 hk hc hl
    obtain ⟨k, rfl⟩ : ∃ m, k = m + 1 := ⟨k - 1, by omega⟩
    simp only [spec_l12Circle.l0]
    rw [if_neg (by omega)]
    obtain ⟨b, i1, h1, e1, c1⟩ := spec_l01Once_eq hn ci ch 4 hc (by omega)
    rw [e1]
    simp only [Option.bind_some]
    by_cases c : b = true
    · rw [if_pos c]
      obtain ⟨u, i2, h2, e2, u0, u1, c2⟩ := spec_l01Below_eq hn i1 h1 12 c1 (by omega)
      obtain ⟨v, i3, h3, e3, v0, v1, c3⟩ := spec_l01Below_eq hn i2 h2 12 c2 (by omega)
      rw [e2]
      simp only [Option.bind_some]
      rw [e3]
      simp only [Option.bind_some]
      rw [if_pos u0, if_pos (by omega)]
      split
      · first | rw [if_pos v0, if_pos (by omega)] | rw [if_pos (by omega)]
        split
        · exact spec_l12Circle_j1 _ _ (by omega) (by simpa using hl)
        · exact spec_l12Circle_j1 _ _ (by omega) hl
      · exact spec_l12Circle_j1 _ _ (by omega) hl
    · rw [if_neg c]
      exact spec_l12Circle_j1 _ _ (by omega) hl
  | succ d ih =>
    intro k ci ch out h12 hk hc hl
    obtain ⟨k, rfl⟩ : ∃ m, k = m + 1 := ⟨k - 1, by omega⟩
    simp only [spec_l12Circle.l0]
    rw [if_pos (by omega)]
    obtain ⟨v, i2, h2, e2, v0, v1, c2⟩ := spec_l01Below_eq hn ci ch 12 hc (by omega)
    have m := mod12_rng v0 v1
    rw [e2]
    simp only [Option.bind_some]
    rw [if_pos v0, if_pos (by omega), w64 (x := ((d + 1 : Nat) : Int) - 1) (by omega) (by omega), show ((d + 1 : Nat) : Int) - 1 = (d : Int) by omega]
    split
    · rw [if_pos m.1, if_pos (by omega)]
      exact ih k i2 h2 _ (by omega) (by omega) c2 (by simpa using hl)
    · exact ih k i2 h2 _ (by omega) (by omega) c2 (by simpa using hl)
theorem spec_l12Circle_eq {k : Nat} {L : List Int} (hk : 40 < k) (hn : L.length ≤ 140737488351232) (ci ch : Int) (hc : curB L ci) : ∃ p i' h', spec_l12Circle.f k L ci ch = some (p, i', h') ∧ circleB p := by
  unfold spec_l12Circle.f
  rw [if_pos (by omega)]
  obtain ⟨u, i2, h2, e2, hu, c2⟩ := spec_l01PickInt_eq hn ci ch [1, 2, 3, 4] hc (by simp)
  rw [e2]
  simp only [Option.bind_some]
  have hu' : u = 1 ∨ u = 2 ∨ u = 3 ∨ u = 4 := by simpa using hu
  rw [if_neg (by omega)]
  obtain ⟨n, hn1, hn2⟩ : ∃ n : Nat, wrap64 (Int.tdiv (12 : Int) u) = n ∧ n ≤ 12 := by
    rcases hu' with rfl | rfl | rfl | rfl
    · exact ⟨12, by rw [show Int.tdiv 12 1 = 12 by decide, w64 (by omega) (by omega)]; rfl, by omega⟩
    · exact ⟨6, by rw [show Int.tdiv 12 2 = 6 by decide, w64 (by omega) (by omega)]; rfl, by omega⟩
    · exact ⟨4, by rw [show Int.tdiv 12 3 = 4 by decide, w64 (by omega) (by omega)]; rfl, by omega⟩
    · exact ⟨3, by rw [show Int.tdiv 12 4 = 3 by decide, w64 (by omega) (by omega)]; rfl, by omega⟩
  rw [hn1]
  exact spec_l12Circle_l0 hn u n k i2 h2 _ hn2 (by omega) c2 (by simp)

theorem spec_l01New_l0 (d : Nat) : ∀ (k : Nat) (l : List Int) (h : Int) (i : Nat), i + d = l.length → d < k → l.length ≤ 140737488351232 → ∃ h', spec_l01New.l0 k l h (i : Int) = some (l, 0, h') := by
  induction d with
  | zero =>
    intro k l h i hi hk hn
    obtain ⟨k, rfl⟩ : ∃ m, k = m + 1 := ⟨k - 1, by omega⟩
    simp only [spec_l01New.l0]
    rw [if_neg (by omega)]
    exact ⟨h, rfl⟩
  | succ d ih =>
    intro k l h i hi hk hn
    obtain ⟨k, rfl⟩ : ∃ m, k = m + 1 := ⟨k - 1, by omega⟩
    simp only [spec_l01New.l0]
    rw [if_pos (by omega), up_one (n := l.length) (by omega) (by omega)]
    by_cases h4 : (i : Int) < 4000
    · rw [if_pos h4, if_pos (by omega)]
      exact ih k l _ (i + 1) (by omega) (by omega) hn
    · rw [if_neg h4]
      exact ⟨h, rfl⟩
theorem spec_l01New_eq {k : Nat} {l : List Int} (hk : l.length < k) (hn : l.length ≤ 140737488351232) : ∃ h, spec_l01New.f k l = some (l, 0, h) := by
  unfold spec_l01New.f
  exact spec_l01New_l0 l.length k l _ 0 (by omega) hk hn

theorem spec_DrawCircle_eq {k : Nat} {l : List Int} (hk : l.length + 50 < k) (hn : l.length ≤ 140737488351232) : ∃ p, spec_DrawCircle.f k l = some p ∧ circleB p := by
  unfold spec_DrawCircle.f
  obtain ⟨h, e⟩ := spec_l01New_eq (k := k) (by omega) hn
  rw [e]
  simp only [Option.bind_some]
  obtain ⟨p, i2, h2, e2, d2⟩ := spec_l12Circle_eq (k := k) (by omega) hn 0 h ⟨by omega, by omega⟩
  rw [e2]
  exact ⟨p, rfl, d2⟩

theorem laws_at_eq {l : List Int} {a : Int} (hn : l.length ≤ 1048576) (h0 : 0 ≤ a) (h1 : a ≤ 100) (hx : ∀ x ∈ l, (Lit.int .u8 x).wf = true) : ∃ v, laws_at.f l a = some v ∧ 0 ≤ v ∧ v ≤ 255 := by
  unfold laws_at.f
  by_cases c : (l.length : Int) = 0
  · rw [if_pos c]
    exact ⟨0, rfl, by omega, by omega⟩
  · rw [if_neg c, w64 (x := a * 5) (by omega) (by omega), w64 (x := a * 5 + 1) (by omega) (by omega)]
    have p := Int.tmod_nonneg (a := a * 5 + 1) (l.length : Int) (by omega)
    have q : Int.tmod (a * 5 + 1) (l.length : Int) < l.length := by
      have := tmod_lt (a * 5 + 1) (b := (l.length : Int)) c
      omega
    generalize Int.tmod (a * 5 + 1) (l.length : Int) = t at p q ⊢
    rw [if_pos p, if_pos q]
    obtain ⟨n, rfl⟩ : ∃ n : Nat, t = n := ⟨t.toNat, by omega⟩
    have := wfu8 (hx _ (rd_mem (l := l) (i := n) (by omega)))
    rw [w64 (by omega) (by omega)]
    exact ⟨_, rfl, this.1, this.2⟩

theorem impl_LastPart_l0 (d : Nat) : ∀ (k : Nat) (l : List Int) (s : Int) (i : Nat), i + d = l.length → d < k → l.length ≤ 100 → (∀ x ∈ l, 0 ≤ x ∧ x ≤ 12) → 0 ≤ s → s ≤ 12 * (i : Int) →
    impl_LastPart.l0 k s l (l.length : Int) (i : Int) = some (12 - (s + (l.drop i).sum), true) := by
  induction d with
  | zero =>
    intro k l s i hi hk hn hx h0 h1
    obtain ⟨k, rfl⟩ : ∃ m, k = m + 1 := ⟨k - 1, by omega⟩
    simp only [impl_LastPart.l0]
    rw [if_neg (by omega), w64 (by omega) (by omega), List.drop_eq_nil_of_le (by omega)]
    simp
  | succ d ih =>
    intro k l s i hi hk hn hx h0 h1
    obtain ⟨k, rfl⟩ : ∃ m, k = m + 1 := ⟨k - 1, by omega⟩
    have hr := hx _ (rd_mem (l := l) (i := i) (by omega))
    simp only [impl_LastPart.l0]
    rw [if_pos (by omega), if_pos (by omega), if_pos (by omega), impl_within_eq, decide_eq_true hr, Option.bind_some, if_pos rfl, w64 (x := s + rd l (i : Int)) (by omega) (by omega), up_one (n := 100) (by omega) (by omega), ih k l _ (i + 1) (by omega) (by omega) hn hx (by omega) (by omega), drop_rd (l := l) (i := i) (by omega), List.sum_cons, Int.add_assoc]
theorem impl_LastPart_eq {k : Nat} {l : List Int} (hk : 12 < k) (hl : l.length = 11) (hx : ∀ x ∈ l, 0 ≤ x ∧ x ≤ 12) : impl_LastPart.f k l = some (12 - l.sum, true) := by
  unfold impl_LastPart.f
  rw [if_pos (by omega)]
  have := impl_LastPart_l0 11 k l 0 0 (by omega) (by omega) (by omega) hx (by omega) (by omega)
  rw [List.drop_zero, Int.zero_add] at this
  exact this

theorem impl_Closes_l0 (d : Nat) : ∀ (k : Nat) (l : List Int) (s : Int) (i : Nat), i + d = l.length → d < k → l.length ≤ 1048576 → -(1000 * i : Int) ≤ s → s ≤ (1000 * i : Int) →
    impl_Closes.l0 k l s l (l.length : Int) (i : Int) = some (decide (closesB (l.drop i) s l.length)) := by
  induction d with
  | zero =>
    intro k l s i hi hk hn h1 h2
    obtain ⟨k, rfl⟩ : ∃ m, k = m + 1 := ⟨k - 1, by omega⟩
    simp only [impl_Closes.l0]
    rw [if_neg (by omega), List.drop_eq_nil_of_le (by omega)]
    unfold closesB
    by_cases h : (l.length : Int) = 12
    · have h' : l.length = 12 := by omega
      simp [h']; rw [Bool.eq_iff_iff]; simp
    · have h' : ¬ l.length = 12 := by omega
      simp [h, h']
  | succ d ih =>
    intro k l s i hi hk hn h1 h2
    obtain ⟨k, rfl⟩ : ∃ m, k = m + 1 := ⟨k - 1, by omega⟩
    simp only [impl_Closes.l0]
    rw [if_pos (by omega), if_pos (by omega), if_pos (by omega), impl_within_eq, up_one (n := l.length) (by omega) (by omega)]
    rw [drop_rd (l := l) (i := i) (by omega)]
    simp only [Option.bind_some, decide_eq_true_eq, closesB_cons]
    by_cases h : -1000 ≤ rd l (i : Int) ∧ rd l (i : Int) ≤ 1000
    · rw [if_pos h, w64 (by omega) (by omega), ih k l _ (i + 1) (by omega) (by omega) hn (by omega) (by omega)]
      simp [h]
    · rw [if_neg h]; simp [h]
theorem impl_Closes_eq {k : Nat} {l : List Int} (hk : l.length < k) (hn : l.length ≤ 1048576) : impl_Closes.f k l = some (decide (closesB l 0 l.length)) := by
  unfold impl_Closes.f
  exact impl_Closes_l0 l.length k l 0 0 (by omega) hk hn (by omega) (by omega)

def chk (a b : Nat) : Bool :=
  let t := fun n : Int => simpF (19 * n - 72) (48 - 12 * n) 0 12
  let x := add4 (t a) (t b)
  let y := add4 (fore x) (t (12 - a - b))
  x.2.2.2.2 && y.2.2.2.2 && decide (fore y = (1, 0, 0, 1))
theorem chk_all : ∀ a, a < 13 → ∀ b, b < 13 → a + b ≤ 12 → chk a b = true := by decide +kernel
theorem group_sum {l : List Int} (h : circleB l) {i : Int} (h0 : 0 ≤ i) (h1 : i ≤ 3) : partF l i 4 + partF l (i + 4) 4 + partF l (i + 8) 4 = 12 := by
  have hl := circleB_len h
  have hsum := h.2.2
  obtain ⟨a0, a1, a2, a3, a4, a5, a6, a7, a8, a9, b0, b1, rfl⟩ := twelve hl
  simp at hsum
  have : i = 0 ∨ i = 1 ∨ i = 2 ∨ i = 3 := by omega
  rcases this with rfl | rfl | rfl | rfl <;> simp [partF, rd] <;> omega
theorem gsum_pure {l : List Int} (h : circleB l) {i : Int} (h0 : 0 ≤ i) (h1 : i ≤ 3) : gsumF l i = (1, 0, 0, 1) := by
  have s := group_sum h h0 h1
  have p1 := partF_rng h (f := i) (by omega) 4
  have p2 := partF_rng h (f := i + 4) (by omega) 4
  have p3 := partF_rng h (f := i + 8) (by omega) 4
  have c := chk_all (partF l i 4).toNat (by omega) (partF l (i + 4) 4).toNat (by omega) (by omega)
  unfold gsumF
  rw [if_pos ⟨h, h0, h1⟩]
  have t1 : thirdF l i = simpF (19 * ((partF l i 4).toNat : Int) - 72) (48 - 12 * ((partF l i 4).toNat : Int)) 0 12 := by
    unfold thirdF
    rw [if_pos ⟨h, by omega, by omega⟩, show ((partF l i 4).toNat : Int) = partF l i 4 by omega]
  have t2 : thirdF l (i + 4) = simpF (19 * ((partF l (i + 4) 4).toNat : Int) - 72) (48 - 12 * ((partF l (i + 4) 4).toNat : Int)) 0 12 := by
    unfold thirdF
    rw [if_pos ⟨h, by omega, by omega⟩, show ((partF l (i + 4) 4).toNat : Int) = partF l (i + 4) 4 by omega]
  have t3 : thirdF l (i + 8) = simpF (19 * (12 - ((partF l i 4).toNat : Int) - ((partF l (i + 4) 4).toNat : Int)) - 72) (48 - 12 * (12 - ((partF l i 4).toNat : Int) - ((partF l (i + 4) 4).toNat : Int))) 0 12 := by
    unfold thirdF
    rw [if_pos ⟨h, by omega, by omega⟩, show 12 - ((partF l i 4).toNat : Int) - ((partF l (i + 4) 4).toNat : Int) = partF l (i + 8) 4 by omega]
  simp only [chk, Bool.and_eq_true, decide_eq_true_eq] at c
  rw [← t1, ← t2, ← t3] at c
  rw [if_pos c.1.1, if_pos c.1.2, c.2]
theorem last_ok {l : List Int} (h : circleB l) : 12 - (l.take 11).sum = rd l 11 := by
  have hl := circleB_len h
  have hsum := h.2.2
  obtain ⟨a0, a1, a2, a3, a4, a5, a6, a7, a8, a9, b0, b1, rfl⟩ := twelve hl
  simp at hsum
  simp [rd]
  omega
theorem FnClosing : laws_FnClosing.Pure := by
  intro l _ hl hx
  obtain ⟨K, hK⟩ : ∃ K : Nat, l.length + 200000 ≤ K := ⟨_, Nat.le_refl _⟩
  refine ⟨K, ?_⟩
  unfold laws_FnClosing.f
  rw [laws_big_eq]
  simp only [Option.bind_some, decide_eq_true_eq]
  by_cases hb : (l.length : Int) > 1048576
  · rw [if_pos hb]
  · rw [if_neg hb]
    obtain ⟨c, e, hc⟩ := spec_DrawCircle_eq (k := K) (l := l) (by omega) (by omega)
    have h12 := circleB_len hc
    obtain ⟨u, e0, u0, u1⟩ := laws_at_eq (l := l) (a := 0) (by omega) (by omega) (by omega) hx
    have r0 : 0 ≤ Int.tmod u 4 ∧ Int.tmod u 4 ≤ 3 := by
      rw [Int.tmod_eq_emod_of_nonneg u0]
      omega
    rw [e, Option.bind_some, e0, Option.bind_some]
    generalize Int.tmod u 4 = i at r0 ⊢
    have s := group_sum hc r0.1 r0.2
    have p1 := partF_rng hc (f := i) (by omega) 4
    have p2 := partF_rng hc (f := i + 4) (by omega) 4
    have p3 := partF_rng hc (f := i + 8) (by omega) 4
    rw [impl_GroupThirds_eq _ (by omega) (by omega), Option.bind_some, groupF, if_pos (c := circleB c ∧ 0 ≤ i ∧ i ≤ 3) ⟨hc, r0.1, r0.2⟩, if_pos (by omega), impl_LastPart_eq (by omega) (by simp; omega) (fun x h => hc.1 x (List.mem_of_mem_take h)), Option.bind_some, impl_WolfAt_eq (by omega) (by omega), Option.bind_some, w64 (x := partF c i 4 + partF c (i + 4) 4) (by omega) (by omega), w64 (x := partF c i 4 + partF c (i + 4) 4 + partF c (i + 8) 4) (by omega) (by omega), if_pos s, impl_GroupSum_eq _ (by omega) (by omega), Option.bind_some, gsum_pure hc r0.1 r0.2]
    have hp : impl_PureOf.f 1 0 0 = some (1, 0, 0, 1) := by
      unfold impl_PureOf.f
      rw [impl_IntervalOk_eq, Option.bind_some, decide_eq_true (by decide)]
      rfl
    rw [hp, Option.bind_some, if_pos (by decide)]
    simp only [if_true]
    rw [if_pos (by omega), if_pos (last_ok hc), impl_Closes_eq (by omega) (by omega), Option.bind_some, decide_eq_true (p := closesB c 0 c.length) ⟨fun x h => by have := hc.1 x h; omega, h12, hc.2.2⟩, if_pos rfl]
    have heq : impl_IsRegular.f K [1, 1, 1, 1, 1, 1, 1, 1, 1, 1, 1, 1] = some true := by
      rw [impl_IsRegular_eq (by simp; omega) (by simp), decide_eq_true ⟨equal_circle, 0, by omega, os_equal⟩]
    simp only [impl_EqualCircle.f, Option.bind_some]
    rw [heq, Option.bind_some]
    by_cases hw : wolfF c < 0
    · rw [if_pos hw]
    · rw [if_neg hw]
      have hw2 : wolfFrom c 0 12 ≥ 0 := by
        unfold wolfF at hw
        rw [if_pos hc] at hw
        omega
      rw [impl_IsRegular_eq (by omega) (by omega), decide_eq_true ⟨hc, (reg_iff hc).mpr (.inl hw2)⟩, Option.bind_some, if_pos rfl]

end Go.Proofs.Ytmjccdljalocbaa.Pure
