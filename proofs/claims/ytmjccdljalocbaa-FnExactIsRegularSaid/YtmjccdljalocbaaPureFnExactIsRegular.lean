/- IsRegular of the program and of the reference answer alike, for every circle, and leave it as it was. No condition. -/
import Derived.Test.YtmjccdljalocbaaPFnExactIsRegularx1
import Derived.Test.YtmjccdljalocbaaPFnExactIsRegularx2
import Derived.Test.YtmjccdljalocbaaPFnExactIsRegularx3
import Derived.Test.YtmjccdljalocbaaPFnExactIsRegularx4
import Derived.OpenShut
namespace Go.Proofs.Ytmjccdljalocbaa.Pure
open Go.RowKit Go.Proofs.Ytmjccdljalocbaa.PFnExactIsRegular Go.Proofs.YtmjccdljalocbaaW.PrintWords Go.Proofs.YtmjccdljalocbaaW.PrintLast Go.Proofs.YtmjccdljalocbaaW.PrintMore
set_option linter.unusedVariables false
set_option linter.unusedSimpArgs false
theorem w64 {x : Int} (h : -9223372036854775808 ≤ x) (h' : x ≤ 9223372036854775807) : wrap64 x = x := by unfold wrap64; omega
theorem wf64 {x : Int} (h : (Lit.int .i64 x).wf = true) : -9223372036854775808 ≤ x ∧ x ≤ 9223372036854775807 := by
  simp only [Lit.wf, IntKind.min, IntKind.max, IntKind.signed, IntKind.bits, Bool.and_eq_true, decide_eq_true_eq, if_true] at h
  omega
theorem wfu8 {x : Int} (h : (Lit.int .u8 x).wf = true) : 0 ≤ x ∧ x ≤ 255 := by
  simp [Lit.wf, IntKind.min, IntKind.max, IntKind.signed, IntKind.bits] at h
  omega
theorem mx_def (a b : Int) : mx a b = max a b := by unfold mx; omega
theorem mn_def (a b : Int) : mn a b = min a b := by unfold mn; omega
theorem fuel {n k : Nat} (h : n < k) : ∃ m, k = m + 1 ∧ n ≤ m := ⟨k - 1, by omega, by omega⟩
theorem gcd_tmod (a b : Int) : Int.gcd b (Int.tmod a b) = Int.gcd a b := by
  unfold Int.gcd
  rw [Int.natAbs_tmod, Nat.gcd_comm, ← Nat.gcd_rec, Nat.gcd_comm]
theorem tmod_lt (a : Int) {b : Int} (h : b ≠ 0) : (Int.tmod a b).natAbs < b.natAbs := by
  rw [Int.natAbs_tmod]
  exact Nat.mod_lt _ (by omega)
theorem drop_rd {l : List Int} {i : Nat} (h : i < l.length) : l.drop i = rd l (i : Int) :: l.drop (i + 1) := by
  rw [List.drop_eq_getElem_cons h]
  simp [rd, List.getD, List.getElem?_eq_getElem h]
theorem rd_get {l : List Int} {i : Nat} (h : i < l.length) : rd l (i : Int) = l[i] := by simp [rd, List.getD, List.getElem?_eq_getElem h]
theorem up_one {i n : Nat} (h : i < n) (hn : n ≤ 9223372036854775807) : wrap64 ((i : Int) + 1) = ((i + 1 : Nat) : Int) := by rw [w64 (by omega) (by omega)]; omega
theorem rd_mem {l : List Int} {i : Nat} (h : i < l.length) : rd l (i : Int) ∈ l := by rw [rd_get h]; exact List.getElem_mem h
theorem maxLen_le {n : Nat} (h : n ≤ maxLen) : (n : Int) ≤ 9223372036854775807 := by unfold maxLen at h; omega

def circleG (l : List Int) (s : Int) (n : Nat) : Prop := (∀ x ∈ l, 0 ≤ x ∧ x ≤ 12) ∧ (n : Int) = 12 ∧ s + l.sum = 12
theorem circleG_cons (a : Int) (l : List Int) (s : Int) (n : Nat) : circleG (a :: l) s n ↔ (0 ≤ a ∧ a ≤ 12) ∧ circleG l (s + a) n := by
  unfold circleG
  simp only [List.mem_cons, forall_eq_or_imp, List.sum_cons]
  constructor
  · rintro ⟨⟨h1, h2⟩, h3, h4⟩; exact ⟨h1, h2, h3, by omega⟩
  · rintro ⟨h1, h2, h3, h4⟩; exact ⟨⟨h1, h2⟩, h3, by omega⟩
instance (l : List Int) (s : Int) (n : Nat) : Decidable (circleG l s n) := by unfold circleG; infer_instance
/-- A valid circle. -/
def circleB (l : List Int) : Prop := circleG l 0 l.length
instance (l : List Int) : Decidable (circleB l) := by unfold circleB; infer_instance
theorem circleB_len {l : List Int} (h : circleB l) : l.length = 12 := by have := h.2.1; omega
theorem circleB_rd {l : List Int} (h : circleB l) {i : Nat} (hi : i < l.length) : 0 ≤ rd l (i : Int) ∧ rd l (i : Int) ≤ 12 := h.1 _ (rd_mem hi)

/-- All parts but one are the same. -/
def osB (l : List Int) (i : Nat) : Prop := ∀ j, j < 12 → j ≠ i → rd l (j : Int) = rd l (((i + 1) % 12 : Nat) : Int)
instance (l : List Int) (i : Nat) : Decidable (osB l i) := by unfold osB; infer_instance
def wolfB (l : List Int) (i : Nat) : Prop := rd l (i : Int) ≠ rd l (((i + 1) % 12 : Nat) : Int) ∧ osB l i
instance (l : List Int) (i : Nat) : Decidable (wolfB l i) := by unfold wolfB; infer_instance
/-- The first index from i on that is a wolf's. -/
def wolfFrom (l : List Int) : Nat → Nat → Int
  | _, 0 => -1
  | i, d + 1 => if wolfB l i then (i : Int) else wolfFrom l (i + 1) d
def wolfF (l : List Int) : Int := if circleB l then wolfFrom l 0 12 else -1
theorem tmod12 {i : Nat} : Int.tmod ((i : Int) + 1) 12 = (((i + 1) % 12 : Nat) : Int) := by
  rw [Int.tmod_eq_emod_of_nonneg (by omega)]
  omega

def regB (l : List Int) : Prop := circleB l ∧ ∃ i, i < 12 ∧ osB l i
instance (l : List Int) : Decidable (∃ i, i < 12 ∧ osB l i) := inferInstance
instance (l : List Int) : Decidable (regB l) := by unfold regB; infer_instance
theorem wolfFrom_nn (l : List Int) (d : Nat) : ∀ i, wolfFrom l i d ≥ 0 ↔ ∃ j, i ≤ j ∧ j < i + d ∧ wolfB l j := by
  induction d with
  | zero => intro i; simp only [wolfFrom]; constructor
            · intro h; omega
            · rintro ⟨j, h1, h2, _⟩; omega
  | succ d ih =>
    intro i
    simp only [wolfFrom]
    by_cases h : wolfB l i
    · rw [if_pos h]
      exact ⟨fun _ => ⟨i, Nat.le_refl _, by omega, h⟩, fun _ => by omega⟩
    · rw [if_neg h, ih (i + 1)]
      constructor
      · rintro ⟨j, h1, h2, h3⟩; exact ⟨j, by omega, by omega, h3⟩
      · rintro ⟨j, h1, h2, h3⟩
        have : j ≠ i := fun e => h (by rw [← e]; exact h3)
        exact ⟨j, by omega, by omega, h3⟩
def equalL : List Int := [1, 1, 1, 1, 1, 1, 1, 1, 1, 1, 1, 1]
theorem twelve {l : List Int} (hl : l.length = 12) : ∃ a0 a1 a2 a3 a4 a5 a6 a7 a8 a9 b0 b1, l = [a0, a1, a2, a3, a4, a5, a6, a7, a8, a9, b0, b1] := by
  match l, hl with
  | [a0, a1, a2, a3, a4, a5, a6, a7, a8, a9, b0, b1], _ => exact ⟨_, _, _, _, _, _, _, _, _, _, _, _, rfl⟩
theorem same_equal {l : List Int} (h : circleB l) (hs : ∀ j : Nat, j < 12 → rd l (j : Int) = rd l 0) : l = equalL := by
  have hl := circleB_len h
  have hsum := h.2.2
  obtain ⟨a0, a1, a2, a3, a4, a5, a6, a7, a8, a9, b0, b1, rfl⟩ := twelve hl
  have e1 := hs 1 (by omega)
  have e2 := hs 2 (by omega)
  have e3 := hs 3 (by omega)
  have e4 := hs 4 (by omega)
  have e5 := hs 5 (by omega)
  have e6 := hs 6 (by omega)
  have e7 := hs 7 (by omega)
  have e8 := hs 8 (by omega)
  have e9 := hs 9 (by omega)
  have e10 := hs 10 (by omega)
  have e11 := hs 11 (by omega)
  simp [rd] at e1 e2 e3 e4 e5 e6 e7 e8 e9 e10 e11
  simp at hsum
  have z : a0 = 1 := by omega
  rw [e1, e2, e3, e4, e5, e6, e7, e8, e9, e10, e11, z]
  rfl
theorem os_equal : osB equalL 0 := by decide
/-- A circle is regular just if it has a wolf or is the equal one. -/
theorem reg_iff {l : List Int} (h : circleB l) : (∃ i, i < 12 ∧ osB l i) ↔ (wolfFrom l 0 12 ≥ 0 ∨ l = equalL) := by
  have hl := circleB_len h
  constructor
  · rintro ⟨i, hi, ho⟩
    by_cases e : rd l (i : Int) = rd l (((i + 1) % 12 : Nat) : Int)
    · right
      have all : ∀ j : Nat, j < 12 → rd l (j : Int) = rd l (((i + 1) % 12 : Nat) : Int) := fun j hj => by
        by_cases hji : j = i
        · rw [hji]; exact e
        · exact ho j hj hji
      have z := all 0 (by omega)
      exact same_equal h (fun j hj => by rw [all j hj]; exact z.symm)
    · left
      exact (wolfFrom_nn l 12 0).2 ⟨i, by omega, by omega, e, ho⟩
  · rintro (hw | rfl)
    · obtain ⟨j, _, hj, hwj⟩ := (wolfFrom_nn l 12 0).1 hw
      exact ⟨j, by omega, hwj.2⟩
    · exact ⟨0, by omega, os_equal⟩

theorem laws_szIntS_eq {l : List Int} (h : l.length ≤ maxLen) : laws_szIntS.f l 1048576 = some (if 1048576 < l.length then -1 else 1048576 - (l.length : Int)) := by
  have h2 := maxLen_le h
  unfold laws_szIntS.f
  rw [w64 (by omega) (by omega)]
  by_cases c : 1048576 < l.length
  · rw [if_pos c, if_pos (by omega)]
  · rw [if_neg c, if_neg (by omega)]

theorem laws_szCircle_eq {l : List Int} (h : l.length ≤ maxLen) : laws_szCircle.f l 1048576 = some (if 1048576 < l.length then -1 else 1048576 - (l.length : Int)) := by
  unfold laws_szCircle.f
  rw [laws_szIntS_eq h]
  simp only [Option.bind_some]
  by_cases c : 1048576 < l.length
  · rw [if_pos c, if_pos (by omega)]
  · rw [if_neg c, if_neg (by omega)]

theorem laws_toIntS_l0 (d : Nat) : ∀ (k : Nat) (l x : List Int) (i : Nat), i + d = l.length → d < k → l.length ≤ 35184372088832 → x.length = l.length → (∀ j, j < i → x[j]? = l[j]?) →
    laws_toIntS.l0 k l x (i : Int) = some l := by
  induction d with
  | zero =>
    intro k l x i hi hk hn hx he
    obtain ⟨k, rfl⟩ : ∃ m, k = m + 1 := ⟨k - 1, by omega⟩
    simp only [laws_toIntS.l0]
    rw [if_neg (by omega)]
    refine congrArg some (List.ext_getElem? fun j => ?_)
    by_cases hj : j < i
    · exact he j hj
    · rw [List.getElem?_eq_none (by omega), List.getElem?_eq_none (by omega)]
  | succ d ih =>
    intro k l x i hi hk hn hx he
    obtain ⟨k, rfl⟩ : ∃ m, k = m + 1 := ⟨k - 1, by omega⟩
    simp only [laws_toIntS.l0]
    rw [if_pos (by omega), if_pos (by omega), if_pos (by omega), up_one (n := l.length) (by omega) (by omega)]
    refine ih k l _ (i + 1) (by omega) (by omega) hn (by simpa using hx) fun j hj => ?_
    rw [Int.toNat_natCast, List.getElem?_set]
    by_cases hji : i = j
    · subst hji
      rw [if_pos rfl, if_pos (by omega), rd_get (by omega), List.getElem?_eq_getElem (by omega)]
    · rw [if_neg hji]
      exact he j (by omega)
theorem laws_toIntS_eq {k : Nat} {l : List Int} (hk : l.length < k) (hn : l.length ≤ 35184372088832) : laws_toIntS.f k l = some l := by
  unfold laws_toIntS.f
  rw [if_pos (by omega), if_pos (by simpa using hn)]
  exact laws_toIntS_l0 l.length k l _ 0 (by omega) hk hn (by simp) (fun j hj => absurd hj (by omega))

theorem laws_toCircle_eq {k : Nat} {l : List Int} (hk : l.length < k) (hn : l.length ≤ 35184372088832) : laws_toCircle.f k l = some l := by
  unfold laws_toCircle.f
  rw [laws_toIntS_eq hk hn]
  rfl

theorem laws_eqIntS_l0 (d : Nat) : ∀ (k : Nat) (l x : List Int) (i : Nat), i + d = l.length → d < k → l.length ≤ 35184372088832 → x.length = l.length →
    laws_eqIntS.l0 k l x (i : Int) = some (decide (l.drop i = x.drop i)) := by
  induction d with
  | zero =>
    intro k l x i hi hk hn hx
    obtain ⟨k, rfl⟩ : ∃ m, k = m + 1 := ⟨k - 1, by omega⟩
    simp only [laws_eqIntS.l0]
    rw [if_neg (by omega), List.drop_eq_nil_of_le (by omega), List.drop_eq_nil_of_le (by omega)]
    simp
  | succ d ih =>
    intro k l x i hi hk hn hx
    obtain ⟨k, rfl⟩ : ∃ m, k = m + 1 := ⟨k - 1, by omega⟩
    simp only [laws_eqIntS.l0]
    rw [if_pos (by omega), if_pos (by omega), if_pos (by omega), up_one (n := l.length) (by omega) (by omega), ih k l x (i + 1) (by omega) (by omega) hn hx,
      drop_rd (l := l) (i := i) (by omega), drop_rd (l := x) (i := i) (by omega)]
    by_cases h : rd l (i : Int) = rd x (i : Int)
    · rw [if_pos h]; simp [h]
    · rw [if_neg h]; simp [h]
theorem laws_eqIntS_eq {k : Nat} {l x : List Int} (hk : l.length < k) (hn : l.length ≤ 35184372088832) : laws_eqIntS.f k l x = some (decide (l = x)) := by
  unfold laws_eqIntS.f
  by_cases h : x.length = l.length
  · rw [if_pos (by omega)]
    exact laws_eqIntS_l0 l.length k l x 0 (by omega) hk hn h
  · rw [if_neg (by omega)]
    have : l ≠ x := fun e => h (by rw [e])
    simp [this]

theorem laws_eqCircle_eq {k : Nat} {l x : List Int} (hk : l.length < k) (hn : l.length ≤ 35184372088832) : laws_eqCircle.f k l x = some (decide (l = x)) := by
  unfold laws_eqCircle.f
  rw [laws_eqIntS_eq hk hn]
  by_cases h : l = x <;> simp [h]

theorem spec_l01In_eq (a b c : Int) : spec_l01In.f a b c = some (decide (b ≤ a ∧ a ≤ c)) := by
  unfold spec_l01In.f; by_cases h : a ≥ b <;> by_cases h2 : a ≤ c <;> simp [h, h2]; all_goals omega

theorem spec_CircleOk_l0 (d : Nat) : ∀ (k : Nat) (l : List Int) (s : Int) (i : Nat), i + d = l.length → d < k → l.length ≤ 1048576 → 0 ≤ s → s ≤ (12 * i : Int) →
    spec_CircleOk.l0 k s (i : Int) l = some (decide (circleG (l.drop i) s l.length)) := by
  induction d with
  | zero =>
    intro k l s i hi hk hn h1 h2
    obtain ⟨k, rfl⟩ : ∃ m, k = m + 1 := ⟨k - 1, by omega⟩
    simp only [spec_CircleOk.l0, spec_l01In_eq]
    rw [if_neg (by omega), List.drop_eq_nil_of_le (by omega)]
    by_cases h : (l.length : Int) = 12
    · simp only [h, if_true, circleG, List.not_mem_nil, false_imp_iff, implies_true, true_and, List.sum_nil, Int.add_zero]
      rw [Bool.eq_iff_iff.2 (by simp : (s == 12) = true ↔ decide (s = 12) = true)]
    · simp only [h, if_false, circleG, false_and, and_false, decide_false]
  | succ d ih =>
    intro k l s i hi hk hn h1 h2
    obtain ⟨k, rfl⟩ : ∃ m, k = m + 1 := ⟨k - 1, by omega⟩
    simp only [spec_CircleOk.l0]
    have hlt : (i : Int) < (l.length : Int) := by omega
    have h0 : (0 : Int) ≤ (i : Int) := by omega
    simp only [hlt, h0, if_true, spec_l01In_eq, up_one (n := l.length) (show i < l.length by omega) (by omega)]
    rw [drop_rd (l := l) (i := i) (by omega)]
    simp only [Option.bind_some, decide_eq_true_eq, circleG_cons]
    by_cases h : 0 ≤ rd l (i : Int) ∧ rd l (i : Int) ≤ 12
    · rw [if_pos h, w64 (by omega) (by omega), ih k l _ (i + 1) (by omega) (by omega) hn (by omega) (by omega)]
      simp [h]
    · rw [if_neg h]; simp [h]
theorem spec_CircleOk_eq {k : Nat} {l : List Int} (hk : l.length < k) (hn : l.length ≤ 1048576) : spec_CircleOk.f k l = some (decide (circleB l)) := by
  unfold spec_CircleOk.f circleB
  exact spec_CircleOk_l0 l.length k l 0 0 (by omega) hk hn (by omega) (by omega)

theorem spec_WolfAt_l1 (d : Nat) : ∀ (k : Nat) (l : List Int) (c i : Nat) (b : Bool) , i + d = 12 → d < k → l.length = 12 → c < 12 → (b = true ↔ rd l (c : Int) ≠ rd l (((c + 1) % 12 : Nat) : Int) ∧ ∀ j, j < i → j ≠ c → rd l (j : Int) = rd l (((c + 1) % 12 : Nat) : Int)) →
    spec_WolfAt.l1 k (c : Int) (rd l (((c + 1) % 12 : Nat) : Int)) b (i : Int) l = if wolfB l c then some (c : Int) else spec_WolfAt.l0 (k - d - 1) (wrap64 ((c : Int) + 1)) l := by
  induction d with
  | zero =>
    intro k l c i b hi hk hl hc hb
    obtain ⟨k, rfl⟩ : ∃ m, k = m + 1 := ⟨k - 1, by omega⟩
    obtain rfl : i = 12 := by omega
    simp only [spec_WolfAt.l1]
    rw [if_neg (by omega)]
    have e : k + 1 - 0 - 1 = k := by omega
    rw [e]
    have hw : b = true ↔ wolfB l c := hb
    by_cases h : wolfB l c
    · rw [if_pos (hw.2 h), if_pos h]
    · rw [if_neg (fun x => h (hw.1 x)), if_neg h]
  | succ d ih =>
    intro k l c i b hi hk hl hc hb
    obtain ⟨k, rfl⟩ : ∃ m, k = m + 1 := ⟨k - 1, by omega⟩
    have ek : k + 1 - (d + 1) - 1 = k - d - 1 := by omega
    simp only [spec_WolfAt.l1]
    rw [if_pos (by omega), up_one (n := 12) (by omega) (by omega), ek]
    cases hbv : b with
    | true =>
      have hb' := hb.1 hbv
      rw [if_pos rfl]
      by_cases e : (i : Int) = (c : Int)
      · rw [if_pos e]
        refine ih k l c (i + 1) true (by omega) (by omega) hl hc ?_
        refine ⟨fun _ => ⟨hb'.1, fun j hj hne => hb'.2 j (by omega) hne⟩, fun _ => rfl⟩
      · rw [if_neg e, if_pos (by omega), if_pos (by omega)]
        refine ih k l c (i + 1) _ (by omega) (by omega) hl hc ?_
        constructor
        · intro h
          refine ⟨hb'.1, fun j hj hne => ?_⟩
          by_cases ej : j = i
          · rw [ej]; simpa using h
          · exact hb'.2 j (by omega) hne
        · intro h
          simpa using h.2 i (by omega) (by omega)
    | false =>
      rw [if_neg (by simp)]
      refine ih k l c (i + 1) false (by omega) (by omega) hl hc ?_
      constructor
      · intro h; cases h
      · intro h
        exact absurd (hb.2 ⟨h.1, fun j hj hne => h.2 j (by omega) hne⟩) (by simp [hbv])
theorem spec_WolfAt_l0 (d : Nat) : ∀ (k : Nat) (l : List Int) (i : Nat) , i + d = 12 → 20 * d + 20 < k → circleB l → spec_WolfAt.l0 k (i : Int) l = some (wolfFrom l i d) := by
  induction d with
  | zero =>
    intro k l i hi hk hs
    obtain ⟨k, rfl⟩ : ∃ m, k = m + 2 := ⟨k - 2, by omega⟩
    simp only [spec_WolfAt.l0, spec_WolfAt.j1]
    rw [if_neg (by omega), if_neg (by simp)]
    rfl
  | succ d ih =>
    intro k l i hi hk hs
    obtain ⟨k, rfl⟩ : ∃ m, k = m + 2 := ⟨k - 2, by omega⟩
    have hl := circleB_len hs
    have hm : (i + 1) % 12 < 12 := Nat.mod_lt _ (by omega)
    have et : Int.tmod (wrap64 ((i : Int) + 1)) 12 = (((i + 1) % 12 : Nat) : Int) := by rw [w64 (by omega) (by omega), tmod12]
    simp only [spec_WolfAt.l0, spec_WolfAt.j1]
    rw [if_pos (by omega), spec_CircleOk_eq (by omega) (by omega)]
    simp only [Option.bind_some, hs, decide_true, if_true, et]
    rw [if_pos (by omega), if_pos (by omega), if_pos (by omega), if_pos (by omega)]
    have h1 := spec_WolfAt_l1 12 k l i 0 (rd l (i : Int) != rd l (((i + 1) % 12 : Nat) : Int)) (by omega) (by omega) hl (by omega) (by simp)
    rw [show ((0 : Nat) : Int) = 0 from rfl] at h1
    rw [h1, up_one (n := 12) (by omega) (by omega), ih (k - 12 - 1) l (i + 1) (by omega) (by omega) hs]
    simp only [wolfFrom]
    split <;> rfl
theorem spec_WolfAt_eq {k : Nat} {l : List Int} (hk : l.length + 262 < k) (hn : l.length ≤ 1048576) : spec_WolfAt.f k l = some (wolfF l) := by
  unfold spec_WolfAt.f wolfF
  by_cases h : circleB l
  · rw [if_pos h]
    exact spec_WolfAt_l0 12 k l 0 (by omega) (by omega) h
  · rw [if_neg h]
    obtain ⟨k, rfl⟩ : ∃ m, k = m + 2 := ⟨k - 2, by omega⟩
    simp only [spec_WolfAt.l0, spec_WolfAt.j1]
    rw [if_pos (by omega), spec_CircleOk_eq (by omega) hn]
    simp [h]

theorem spec_l15Same_l0 (d : Nat) : ∀ (k : Nat) (l x : List Int) (i : Nat), i + d = l.length → d < k → l.length ≤ 35184372088832 → x.length = l.length →
    spec_l15Same.l0 k l x (i : Int) = some (decide (l.drop i = x.drop i)) := by
  induction d with
  | zero =>
    intro k l x i hi hk hn hx
    obtain ⟨k, rfl⟩ : ∃ m, k = m + 1 := ⟨k - 1, by omega⟩
    simp only [spec_l15Same.l0]
    rw [if_neg (by omega), List.drop_eq_nil_of_le (by omega), List.drop_eq_nil_of_le (by omega)]
    simp
  | succ d ih =>
    intro k l x i hi hk hn hx
    obtain ⟨k, rfl⟩ : ∃ m, k = m + 1 := ⟨k - 1, by omega⟩
    simp only [spec_l15Same.l0]
    rw [if_pos (by omega), if_pos (by omega), if_pos (by omega), up_one (n := l.length) (by omega) (by omega), ih k l x (i + 1) (by omega) (by omega) hn hx,
      drop_rd (l := l) (i := i) (by omega), drop_rd (l := x) (i := i) (by omega)]
    by_cases h : rd l (i : Int) = rd x (i : Int)
    · rw [if_pos h]; simp [h]
    · rw [if_neg h]; simp [h]
theorem spec_l15Same_eq {k : Nat} {l x : List Int} (hk : l.length < k) (hn : l.length ≤ 35184372088832) : spec_l15Same.f k l x = some (decide (l = x)) := by
  unfold spec_l15Same.f
  by_cases h : x.length = l.length
  · rw [if_pos (by omega)]
    exact spec_l15Same_l0 l.length k l x 0 (by omega) hk hn h
  · rw [if_neg (by omega)]
    have : l ≠ x := fun e => h (by rw [e])
    simp [this]

theorem spec_IsRegular_eq {k : Nat} {l : List Int} (hk : l.length + 262 < k) (hn : l.length ≤ 1048576) : spec_IsRegular.f k l = some (decide (circleB l ∧ ∃ j, j < 12 ∧ osB l j)) := by
  unfold spec_IsRegular.f spec_EqualCircle.f
  rw [spec_CircleOk_eq (by omega) hn]
  simp only [Option.bind_some, decide_eq_true_eq]
  by_cases h : circleB l
  · have hl := circleB_len h
    rw [if_pos h, spec_WolfAt_eq hk hn, spec_l15Same_eq (by omega) (by omega)]
    simp only [Option.bind_some, wolfF, h, if_true, true_and, reg_iff h]
    by_cases hw : wolfFrom l 0 12 ≥ 0
    · rw [if_pos hw]; simp [hw]
    · rw [if_neg hw]
      simp only [hw, false_or]
      rfl
  · rw [if_neg h]
    simp [h]

theorem impl_within_eq (a b c : Int) : impl_within.f a b c = some (decide (b ≤ a ∧ a ≤ c)) := by
  unfold impl_within.f; by_cases h : b ≤ a <;> by_cases h2 : a ≤ c <;> simp [h, h2]

theorem impl_CircleOk_l0 (d : Nat) : ∀ (k : Nat) (l : List Int) (s : Int) (i : Nat), i + d = l.length → d < k → l.length ≤ 1048576 → 0 ≤ s → s ≤ (12 * i : Int) →
    impl_CircleOk.l0 k s l (l.length : Int) (i : Int) l = some (decide (circleG (l.drop i) s l.length)) := by
  induction d with
  | zero =>
    intro k l s i hi hk hn h1 h2
    obtain ⟨k, rfl⟩ : ∃ m, k = m + 1 := ⟨k - 1, by omega⟩
    simp only [impl_CircleOk.l0, impl_within_eq]
    rw [if_neg (by omega), List.drop_eq_nil_of_le (by omega)]
    by_cases h : (l.length : Int) = 12
    · simp only [h, if_true, circleG, List.not_mem_nil, false_imp_iff, implies_true, true_and, List.sum_nil, Int.add_zero]
      rw [Bool.eq_iff_iff.2 (by simp : (s == 12) = true ↔ decide (s = 12) = true)]
    · simp only [h, if_false, circleG, false_and, and_false, decide_false]
  | succ d ih =>
    intro k l s i hi hk hn h1 h2
    obtain ⟨k, rfl⟩ : ∃ m, k = m + 1 := ⟨k - 1, by omega⟩
    simp only [impl_CircleOk.l0]
    have hlt : (i : Int) < (l.length : Int) := by omega
    have h0 : (0 : Int) ≤ (i : Int) := by omega
    simp only [hlt, h0, if_true, impl_within_eq, up_one (n := l.length) (show i < l.length by omega) (by omega)]
    rw [drop_rd (l := l) (i := i) (by omega)]
    simp only [Option.bind_some, decide_eq_true_eq, circleG_cons]
    by_cases h : 0 ≤ rd l (i : Int) ∧ rd l (i : Int) ≤ 12
    · rw [if_pos h, w64 (by omega) (by omega), ih k l _ (i + 1) (by omega) (by omega) hn (by omega) (by omega)]
      simp [h]
    · rw [if_neg h]; simp [h]
theorem impl_CircleOk_eq {k : Nat} {l : List Int} (hk : l.length < k) (hn : l.length ≤ 1048576) : impl_CircleOk.f k l = some (decide (circleB l)) := by
  unfold impl_CircleOk.f circleB
  exact impl_CircleOk_l0 l.length k l 0 0 (by omega) hk hn (by omega) (by omega)

theorem impl_othersSame_l0 (d : Nat) : ∀ (k : Nat) (l : List Int) (c i : Nat) , i + d = 12 → d < k → l.length = 12 → c < 12 → (∀ j, j < i → j ≠ c → rd l (j : Int) = rd l (((c + 1) % 12 : Nat) : Int)) →
    impl_othersSame.l0 k (c : Int) (((c + 1) % 12 : Nat) : Int) l (l.length : Int) (i : Int) l = some (decide (osB l c)) := by
  induction d with
  | zero =>
    intro k l c i hi hk hl hc h
    obtain ⟨k, rfl⟩ : ∃ m, k = m + 1 := ⟨k - 1, by omega⟩
    simp only [impl_othersSame.l0]
    rw [if_neg (by omega)]
    have : osB l c := fun j hj hne => h j (by omega) hne
    simp [this]
  | succ d ih =>
    intro k l c i hi hk hl hc h
    obtain ⟨k, rfl⟩ : ∃ m, k = m + 1 := ⟨k - 1, by omega⟩
    simp only [impl_othersSame.l0]
    rw [if_pos (by omega), if_pos (by omega), if_pos (by omega), up_one (n := 12) (by omega) (by omega)]
    by_cases e : (i : Int) = (c : Int)
    · rw [if_pos e]
      exact ih k l c (i + 1) (by omega) (by omega) hl hc (fun j hj hne => h j (by omega) hne)
    · have hm : (c + 1) % 12 < 12 := Nat.mod_lt _ (by omega)
      rw [if_neg e, if_pos (by omega), if_pos (by omega)]
      by_cases e2 : rd l (i : Int) = rd l (((c + 1) % 12 : Nat) : Int)
      · rw [if_pos e2]
        refine ih k l c (i + 1) (by omega) (by omega) hl hc (fun j hj hne => ?_)
        by_cases ej : j = i
        · rw [ej]; exact e2
        · exact h j (by omega) hne
      · rw [if_neg e2]
        have : ¬ osB l c := fun x => e2 (x i (by omega) (by omega))
        simp [this]
theorem impl_othersSame_eq {k : Nat} {l : List Int} {c : Nat} (hk : 12 < k) (hl : l.length = 12) (hc : c < 12) : impl_othersSame.f k l (c : Int) = some (decide (osB l c)) := by
  unfold impl_othersSame.f
  rw [w64 (by omega) (by omega), tmod12]
  exact impl_othersSame_l0 12 k l c 0 (by omega) hk hl hc (fun j hj => by omega)

theorem impl_IsRegular_l0 (d : Nat) : ∀ (k : Nat) (l : List Int) (i : Nat) , i + d = 12 → d + 13 < k → l.length = 12 → ∃ b : Bool, impl_IsRegular.l0 k (l.length : Int) (i : Int) l = some b ∧ (b = true ↔ ∃ j, i ≤ j ∧ j < 12 ∧ osB l j) := by
  induction d with
  | zero =>
    intro k l i hi hk hl
    obtain ⟨k, rfl⟩ : ∃ m, k = m + 1 := ⟨k - 1, by omega⟩
    simp only [impl_IsRegular.l0]
    rw [if_neg (by omega)]
    exact ⟨false, rfl, ⟨fun h => (by cases h), fun ⟨j, h1, h2, _⟩ => by omega⟩⟩
  | succ d ih =>
    intro k l i hi hk hl
    obtain ⟨k, rfl⟩ : ∃ m, k = m + 1 := ⟨k - 1, by omega⟩
    obtain ⟨b, hb, hbi⟩ := ih k l (i + 1) (by omega) (by omega) hl
    simp only [impl_IsRegular.l0]
    rw [if_pos (by omega), impl_othersSame_eq (by omega) hl (by omega), up_one (n := 12) (by omega) (by omega), hb]
    simp only [Option.bind_some, decide_eq_true_eq]
    by_cases h : osB l i
    · rw [if_pos h]
      exact ⟨true, rfl, ⟨fun _ => ⟨i, Nat.le_refl _, by omega, h⟩, fun _ => rfl⟩⟩
    · rw [if_neg h]
      refine ⟨b, rfl, hbi.trans ?_⟩
      constructor
      · rintro ⟨j, h1, h2, h3⟩; exact ⟨j, by omega, h2, h3⟩
      · rintro ⟨j, h1, h2, h3⟩
        have : j ≠ i := fun e => h (by rw [← e]; exact h3)
        exact ⟨j, by omega, h2, h3⟩
theorem impl_IsRegular_eq {k : Nat} {l : List Int} (hk : l.length + 26 < k) (hn : l.length ≤ 1048576) : impl_IsRegular.f k l = some (decide (circleB l ∧ ∃ j, j < 12 ∧ osB l j)) := by
  unfold impl_IsRegular.f
  rw [impl_CircleOk_eq (by omega) hn]
  simp only [Option.bind_some, decide_eq_true_eq]
  by_cases h : circleB l
  · have hl := circleB_len h
    rw [if_pos h]
    obtain ⟨b, hb, hbi⟩ := impl_IsRegular_l0 12 k l 0 (by omega) (by omega) hl
    rw [show ((0 : Nat) : Int) = 0 from rfl] at hb
    rw [hb]
    refine congrArg some ?_
    rw [Bool.eq_iff_iff, hbi, decide_eq_true_eq]
    exact ⟨fun ⟨j, _, h2, h3⟩ => ⟨h, j, h2, h3⟩, fun ⟨_, j, h2, h3⟩ => ⟨j, by omega, h2, h3⟩⟩
  · rw [if_neg h]
    simp [h]

/-- The law, over numbers and lists. -/
def laws_FnExactIsRegular.Pure : Prop := ∀ (l0_0 : List Int), l0_0.length ≤ maxLen → (∀ x ∈ l0_0, (Lit.int .i64 x).wf = true) → ∃ k, laws_FnExactIsRegular.f k l0_0 = some true
theorem FnExactIsRegular : laws_FnExactIsRegular.Pure := by
  intro l hm _
  refine ⟨l.length + 300, ?_⟩
  unfold laws_FnExactIsRegular.f
  rw [laws_szCircle_eq hm]
  simp only [Option.bind_some]
  by_cases c : 1048576 < l.length
  · rw [if_pos c, if_pos (by omega)]
  · rw [if_neg c, if_neg (by omega), laws_toCircle_eq (by omega) (by omega)]
    simp only [Option.bind_some]
    rw [spec_IsRegular_eq (by omega) (by omega), impl_IsRegular_eq (by omega) (by omega)]
    simp only [Option.bind_some]
    rw [laws_eqCircle_eq (by omega) (by omega)]
    simp

end Go.Proofs.Ytmjccdljalocbaa.Pure
