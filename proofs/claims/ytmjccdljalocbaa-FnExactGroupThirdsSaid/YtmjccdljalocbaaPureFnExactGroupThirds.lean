/- GroupThirds of the program and of the reference answer alike, for every circle and whole number, and leave the circle as it was. No condition. -/
import Derived.Test.YtmjccdljalocbaaPFnExactGroupThirdsx1
import Derived.Test.YtmjccdljalocbaaPFnExactGroupThirdsx2
import Derived.Test.YtmjccdljalocbaaPFnExactGroupThirdsx3
import Derived.OpenShut
namespace Go.Proofs.Ytmjccdljalocbaa.Pure
open Go.RowKit Go.Proofs.Ytmjccdljalocbaa.PFnExactGroupThirds Go.Proofs.YtmjccdljalocbaaW.PrintWords Go.Proofs.YtmjccdljalocbaaW.PrintLast Go.Proofs.YtmjccdljalocbaaW.PrintMore
set_option linter.unusedVariables false
set_option linter.unusedSimpArgs false
theorem w64 {x : Int} (h : -9223372036854775808 ≤ x) (h' : x ≤ 9223372036854775807) : wrap64 x = x := by unfold wrap64; omega
theorem wf64 {x : Int} (h : (Lit.int .i64 x).wf = true) : -9223372036854775808 ≤ x ∧ x ≤ 9223372036854775807 := by
  simp only [Lit.wf, IntKind.min, IntKind.max, IntKind.signed, IntKind.bits, Bool.and_eq_true, decide_eq_true_eq, if_true] at h
  omega
theorem wfu8 {x : Int} (h : (Lit.int .u8 x).wf = true) : 0 ≤ x ∧ x ≤ 255 := by
  simp [Lit.wf, IntKind.min, IntKind.max, IntKind.signed, IntKind.bits] at h
  omega
theorem mx_def (a b : Int) : mx a b = max a b := by unfold mx; omega
theorem mn_def (a b : Int) : mn a b = min a b := by unfold mn; omega
theorem fuel {n k : Nat} (h : n < k) : ∃ m, k = m + 1 ∧ n ≤ m := ⟨k - 1, by omega, by omega⟩
theorem gcd_tmod (a b : Int) : Int.gcd b (Int.tmod a b) = Int.gcd a b := by
  unfold Int.gcd
  rw [Int.natAbs_tmod, Nat.gcd_comm, ← Nat.gcd_rec, Nat.gcd_comm]
theorem tmod_lt (a : Int) {b : Int} (h : b ≠ 0) : (Int.tmod a b).natAbs < b.natAbs := by
  rw [Int.natAbs_tmod]
  exact Nat.mod_lt _ (by omega)
theorem drop_rd {l : List Int} {i : Nat} (h : i < l.length) : l.drop i = rd l (i : Int) :: l.drop (i + 1) := by
  rw [List.drop_eq_getElem_cons h]
  simp [rd, List.getD, List.getElem?_eq_getElem h]
theorem rd_get {l : List Int} {i : Nat} (h : i < l.length) : rd l (i : Int) = l[i] := by simp [rd, List.getD, List.getElem?_eq_getElem h]
theorem up_one {i n : Nat} (h : i < n) (hn : n ≤ 9223372036854775807) : wrap64 ((i : Int) + 1) = ((i + 1 : Nat) : Int) := by rw [w64 (by omega) (by omega)]; omega
theorem rd_mem {l : List Int} {i : Nat} (h : i < l.length) : rd l (i : Int) ∈ l := by rw [rd_get h]; exact List.getElem_mem h
theorem maxLen_le {n : Nat} (h : n ≤ maxLen) : (n : Int) ≤ 9223372036854775807 := by unfold maxLen at h; omega

def circleG (l : List Int) (s : Int) (n : Nat) : Prop := (∀ x ∈ l, 0 ≤ x ∧ x ≤ 12) ∧ (n : Int) = 12 ∧ s + l.sum = 12
theorem circleG_cons (a : Int) (l : List Int) (s : Int) (n : Nat) : circleG (a :: l) s n ↔ (0 ≤ a ∧ a ≤ 12) ∧ circleG l (s + a) n := by
  unfold circleG
  simp only [List.mem_cons, forall_eq_or_imp, List.sum_cons]
  constructor
  · rintro ⟨⟨h1, h2⟩, h3, h4⟩; exact ⟨h1, h2, h3, by omega⟩
  · rintro ⟨h1, h2, h3, h4⟩; exact ⟨⟨h1, h2⟩, h3, by omega⟩
instance (l : List Int) (s : Int) (n : Nat) : Decidable (circleG l s n) := by unfold circleG; infer_instance
/-- A valid circle. -/
def circleB (l : List Int) : Prop := circleG l 0 l.length
instance (l : List Int) : Decidable (circleB l) := by unfold circleB; infer_instance
theorem circleB_len {l : List Int} (h : circleB l) : l.length = 12 := by have := h.2.1; omega
theorem circleB_rd {l : List Int} (h : circleB l) {i : Nat} (hi : i < l.length) : 0 ≤ rd l (i : Int) ∧ rd l (i : Int) ≤ 12 := h.1 _ (rd_mem hi)

/-- The sum of c parts from f on. -/
def partF (l : List Int) (f : Int) : Nat → Int
  | 0 => 0
  | c + 1 => partF l f c + rd l (Int.tmod (f + c) 12)
theorem tmod_nat {f : Int} {n : Nat} (c : Nat) (h : 0 ≤ f) (hn : 1 ≤ n) : Int.tmod (f + c) n = (((f.toNat + c) % n : Nat) : Int) := by
  rw [Int.tmod_eq_emod_of_nonneg (by omega)]
  have : f + (c : Int) = ((f.toNat + c : Nat) : Int) := by omega
  rw [this]
  rfl
theorem partF_rng {l : List Int} (h : circleB l) {f : Int} (hf : 0 ≤ f) (c : Nat) : 0 ≤ partF l f c ∧ partF l f c ≤ 12 * (c : Int) := by
  have hl := circleB_len h
  induction c with
  | zero => simp [partF]
  | succ c ih =>
    simp only [partF]
    have e : Int.tmod (f + (c : Int)) 12 = (((f.toNat + c) % 12 : Nat) : Int) := tmod_nat (f := f) (n := 12) c hf (by omega)
    rw [e]
    have := circleB_rd h (i := (f.toNat + c) % 12) (by have := Nat.mod_lt (f.toNat + c) (show 0 < 12 by omega); omega)
    omega

def groupF (l : List Int) (i : Int) : Int × Int × Int := if circleB l ∧ 0 ≤ i ∧ i ≤ 3 then (partF l i 4, partF l (i + 4) 4, partF l (i + 8) 4) else (0, 0, 0)

theorem laws_szIntS_eq {l : List Int} (h : l.length ≤ maxLen) : laws_szIntS.f l 1048576 = some (if 1048576 < l.length then -1 else 1048576 - (l.length : Int)) := by
  have h2 := maxLen_le h
  unfold laws_szIntS.f
  rw [w64 (by omega) (by omega)]
  by_cases c : 1048576 < l.length
  · rw [if_pos c, if_pos (by omega)]
  · rw [if_neg c, if_neg (by omega)]

theorem laws_szCircle_eq {l : List Int} (h : l.length ≤ maxLen) : laws_szCircle.f l 1048576 = some (if 1048576 < l.length then -1 else 1048576 - (l.length : Int)) := by
  unfold laws_szCircle.f
  rw [laws_szIntS_eq h]
  simp only [Option.bind_some]
  by_cases c : 1048576 < l.length
  · rw [if_pos c, if_pos (by omega)]
  · rw [if_neg c, if_neg (by omega)]

theorem spec_l01In_eq (a b c : Int) : spec_l01In.f a b c = some (decide (b ≤ a ∧ a ≤ c)) := by
  unfold spec_l01In.f; by_cases h : a ≥ b <;> by_cases h2 : a ≤ c <;> simp [h, h2]; all_goals omega

theorem spec_CircleOk_l0 (d : Nat) : ∀ (k : Nat) (l : List Int) (s : Int) (i : Nat), i + d = l.length → d < k → l.length ≤ 1048576 → 0 ≤ s → s ≤ (12 * i : Int) →
    spec_CircleOk.l0 k s (i : Int) l = some (decide (circleG (l.drop i) s l.length)) := by
  induction d with
  | zero =>
    intro k l s i hi hk hn h1 h2
    obtain ⟨k, rfl⟩ : ∃ m, k = m + 1 := ⟨k - 1, by omega⟩
    simp only [spec_CircleOk.l0, spec_l01In_eq]
    rw [if_neg (by omega), List.drop_eq_nil_of_le (by omega)]
    by_cases h : (l.length : Int) = 12
    · simp only [h, if_true, circleG, List.not_mem_nil, false_imp_iff, implies_true, true_and, List.sum_nil, Int.add_zero]
      rw [Bool.eq_iff_iff.2 (by simp : (s == 12) = true ↔ decide (s = 12) = true)]
    · simp only [h, if_false, circleG, false_and, and_false, decide_false]
  | succ d ih =>
    intro k l s i hi hk hn h1 h2
    obtain ⟨k, rfl⟩ : ∃ m, k = m + 1 := ⟨k - 1, by omega⟩
    simp only [spec_CircleOk.l0]
    have hlt : (i : Int) < (l.length : Int) := by omega
    have h0 : (0 : Int) ≤ (i : Int) := by omega
    simp only [hlt, h0, if_true, spec_l01In_eq, up_one (n := l.length) (show i < l.length by omega) (by omega)]
    rw [drop_rd (l := l) (i := i) (by omega)]
    simp only [Option.bind_some, decide_eq_true_eq, circleG_cons]
    by_cases h : 0 ≤ rd l (i : Int) ∧ rd l (i : Int) ≤ 12
    · rw [if_pos h, w64 (by omega) (by omega), ih k l _ (i + 1) (by omega) (by omega) hn (by omega) (by omega)]
      simp [h]
    · rw [if_neg h]; simp [h]
theorem spec_CircleOk_eq {k : Nat} {l : List Int} (hk : l.length < k) (hn : l.length ≤ 1048576) : spec_CircleOk.f k l = some (decide (circleB l)) := by
  unfold spec_CircleOk.f circleB
  exact spec_CircleOk_l0 l.length k l 0 0 (by omega) hk hn (by omega) (by omega)

theorem spec_l13Sum_l0 (d : Nat) : ∀ (k : Nat) (l : List Int) (f : Int) (c i : Nat), i + d = c → d < k → circleB l → 0 ≤ f → f ≤ 11 → c ≤ 12 →
    spec_l13Sum.l0 k f (c : Int) (partF l f i) (i : Int) l = some (partF l f c) := by
  induction d with
  | zero =>
    intro k l f c i hi hk hs h0 h1 hc
    obtain ⟨k, rfl⟩ : ∃ m, k = m + 1 := ⟨k - 1, by omega⟩
    simp only [spec_l13Sum.l0]
    obtain rfl : i = c := by omega
    rw [if_neg (by omega)]
  | succ d ih =>
    intro k l f c i hi hk hs h0 h1 hc
    obtain ⟨k, rfl⟩ : ∃ m, k = m + 1 := ⟨k - 1, by omega⟩
    have hl := circleB_len hs
    have e := tmod_nat (f := f) (n := 12) i h0 (by omega)
    have hm : (f.toNat + i) % 12 < 12 := Nat.mod_lt _ (by omega)
    have hr := circleB_rd hs (i := (f.toNat + i) % 12) (by omega)
    have hsp := partF_rng hs h0 i
    have e' : Int.tmod (f + (i : Int)) 12 = (((f.toNat + i) % 12 : Nat) : Int) := e
    simp only [spec_l13Sum.l0]
    rw [if_pos (by omega), w64 (x := f + (i : Int)) (by omega) (by omega), e', if_pos (by omega), if_pos (by omega), up_one (n := 12) (by omega) (by omega), w64 (by omega) (by omega)]
    rw [← ih k l f c (i + 1) (by omega) (by omega) hs h0 h1 hc]
    simp only [partF, e']
theorem spec_l13Sum_eq {k : Nat} {l : List Int} (i : Int) (c : Nat) (hk : 12 < k) (h : circleB l) (h0 : 0 ≤ i) (h1 : i ≤ 11) (hc : c ≤ 12) : spec_l13Sum.f k l i (c : Int) = some (partF l i c) :=
  spec_l13Sum_l0 c k l i c 0 (by omega) (by omega) h h0 h1 hc

theorem spec_GroupThirds_eq {k : Nat} {l : List Int} (i : Int) (hk : l.length + 13 < k) (hn : l.length ≤ 1048576) : spec_GroupThirds.f k l i = some (groupF l i) := by
  obtain ⟨k, rfl⟩ : ∃ m, k = m + 1 := ⟨k - 1, by omega⟩
  unfold spec_GroupThirds.f groupF
  rw [spec_CircleOk_eq (by omega) hn, spec_l01In_eq]
  simp only [Option.bind_some, spec_GroupThirds.j0, decide_eq_true_eq]
  by_cases h : circleB l
  · by_cases h2 : 0 ≤ i ∧ i ≤ 3
    · have e0 := spec_l13Sum_eq (k := k) i 4 (by omega) h (by omega) (by omega) (by omega)
      have e1 := spec_l13Sum_eq (k := k) (i + 4) 4 (by omega) h (by omega) (by omega) (by omega)
      have e2 := spec_l13Sum_eq (k := k) (i + 8) 4 (by omega) h (by omega) (by omega) (by omega)
      rw [show ((4 : Nat) : Int) = 4 from rfl] at e0 e1 e2
      rw [w64 (x := i + 4) (by omega) (by omega), w64 (x := i + 8) (by omega) (by omega), e0, e1, e2]
      simp [h, h2]
    · simp [h, h2]
  · simp [h]

theorem laws_toIntS_l0 (d : Nat) : ∀ (k : Nat) (l x : List Int) (i : Nat), i + d = l.length → d < k → l.length ≤ 35184372088832 → x.length = l.length → (∀ j, j < i → x[j]? = l[j]?) →
    laws_toIntS.l0 k l x (i : Int) = some l := by
  induction d with
  | zero =>
    intro k l x i hi hk hn hx he
    obtain ⟨k, rfl⟩ : ∃ m, k = m + 1 := ⟨k - 1, by omega⟩
    simp only [laws_toIntS.l0]
    rw [if_neg (by omega)]
    refine congrArg some (List.ext_getElem? fun j => ?_)
    by_cases hj : j < i
    · exact he j hj
    · rw [List.getElem?_eq_none (by omega), List.getElem?_eq_none (by omega)]
  | succ d ih =>
    intro k l x i hi hk hn hx he
    obtain ⟨k, rfl⟩ : ∃ m, k = m + 1 := ⟨k - 1, by omega⟩
    simp only [laws_toIntS.l0]
    rw [if_pos (by omega), if_pos (by omega), if_pos (by omega), up_one (n := l.length) (by omega) (by omega)]
    refine ih k l _ (i + 1) (by omega) (by omega) hn (by simpa using hx) fun j hj => ?_
    rw [Int.toNat_natCast, List.getElem?_set]
    by_cases hji : i = j
    · subst hji
      rw [if_pos rfl, if_pos (by omega), rd_get (by omega), List.getElem?_eq_getElem (by omega)]
    · rw [if_neg hji]
      exact he j (by omega)
theorem laws_toIntS_eq {k : Nat} {l : List Int} (hk : l.length < k) (hn : l.length ≤ 35184372088832) : laws_toIntS.f k l = some l := by
  unfold laws_toIntS.f
  rw [if_pos (by omega), if_pos (by simpa using hn)]
  exact laws_toIntS_l0 l.length k l _ 0 (by omega) hk hn (by simp) (fun j hj => absurd hj (by omega))

theorem laws_toCircle_eq {k : Nat} {l : List Int} (hk : l.length < k) (hn : l.length ≤ 35184372088832) : laws_toCircle.f k l = some l := by
  unfold laws_toCircle.f
  rw [laws_toIntS_eq hk hn]
  rfl

theorem impl_within_eq (a b c : Int) : impl_within.f a b c = some (decide (b ≤ a ∧ a ≤ c)) := by
  unfold impl_within.f; by_cases h : b ≤ a <;> by_cases h2 : a ≤ c <;> simp [h, h2]

theorem impl_CircleOk_l0 (d : Nat) : ∀ (k : Nat) (l : List Int) (s : Int) (i : Nat), i + d = l.length → d < k → l.length ≤ 1048576 → 0 ≤ s → s ≤ (12 * i : Int) →
    impl_CircleOk.l0 k s l (l.length : Int) (i : Int) l = some (decide (circleG (l.drop i) s l.length)) := by
  induction d with
  | zero =>
    intro k l s i hi hk hn h1 h2
    obtain ⟨k, rfl⟩ : ∃ m, k = m + 1 := ⟨k - 1, by omega⟩
    simp only [impl_CircleOk.l0, impl_within_eq]
    rw [if_neg (by omega), List.drop_eq_nil_of_le (by omega)]
    by_cases h : (l.length : Int) = 12
    · simp only [h, if_true, circleG, List.not_mem_nil, false_imp_iff, implies_true, true_and, List.sum_nil, Int.add_zero]
      rw [Bool.eq_iff_iff.2 (by simp : (s == 12) = true ↔ decide (s = 12) = true)]
    · simp only [h, if_false, circleG, false_and, and_false, decide_false]
  | succ d ih =>
    intro k l s i hi hk hn h1 h2
    obtain ⟨k, rfl⟩ : ∃ m, k = m + 1 := ⟨k - 1, by omega⟩
    simp only [impl_CircleOk.l0]
    have hlt : (i : Int) < (l.length : Int) := by omega
    have h0 : (0 : Int) ≤ (i : Int) := by omega
    simp only [hlt, h0, if_true, impl_within_eq, up_one (n := l.length) (show i < l.length by omega) (by omega)]
    rw [drop_rd (l := l) (i := i) (by omega)]
    simp only [Option.bind_some, decide_eq_true_eq, circleG_cons]
    by_cases h : 0 ≤ rd l (i : Int) ∧ rd l (i : Int) ≤ 12
    · rw [if_pos h, w64 (by omega) (by omega), ih k l _ (i + 1) (by omega) (by omega) hn (by omega) (by omega)]
      simp [h]
    · rw [if_neg h]; simp [h]
theorem impl_CircleOk_eq {k : Nat} {l : List Int} (hk : l.length < k) (hn : l.length ≤ 1048576) : impl_CircleOk.f k l = some (decide (circleB l)) := by
  unfold impl_CircleOk.f circleB
  exact impl_CircleOk_l0 l.length k l 0 0 (by omega) hk hn (by omega) (by omega)

theorem impl_isKey_eq {k : Nat} {l : List Int} (i : Int) (hk : l.length < k) (hn : l.length ≤ 1048576) : impl_isKey.f k l i = some (decide (circleB l ∧ 0 ≤ i ∧ i ≤ 11)) := by
  unfold impl_isKey.f
  rw [impl_CircleOk_eq hk hn, impl_within_eq]
  by_cases h : circleB l <;> simp [h]

theorem impl_partsFrom_l0 (d : Nat) : ∀ (k : Nat) (l : List Int) (f : Int) (c i : Nat), i + d = c → d < k → circleB l → 0 ≤ f → f ≤ 11 → c ≤ 12 →
    impl_partsFrom.l0 k f (c : Int) (partF l f i) (i : Int) l = some (partF l f c) := by
  induction d with
  | zero =>
    intro k l f c i hi hk hs h0 h1 hc
    obtain ⟨k, rfl⟩ : ∃ m, k = m + 1 := ⟨k - 1, by omega⟩
    simp only [impl_partsFrom.l0]
    obtain rfl : i = c := by omega
    rw [if_neg (by omega)]
  | succ d ih =>
    intro k l f c i hi hk hs h0 h1 hc
    obtain ⟨k, rfl⟩ : ∃ m, k = m + 1 := ⟨k - 1, by omega⟩
    have hl := circleB_len hs
    have e := tmod_nat (f := f) (n := 12) i h0 (by omega)
    have hm : (f.toNat + i) % 12 < 12 := Nat.mod_lt _ (by omega)
    have hr := circleB_rd hs (i := (f.toNat + i) % 12) (by omega)
    have hsp := partF_rng hs h0 i
    have e' : Int.tmod (f + (i : Int)) 12 = (((f.toNat + i) % 12 : Nat) : Int) := e
    simp only [impl_partsFrom.l0]
    rw [if_pos (by omega), w64 (x := f + (i : Int)) (by omega) (by omega), e', if_pos (by omega), if_pos (by omega), up_one (n := 12) (by omega) (by omega), w64 (by omega) (by omega)]
    rw [← ih k l f c (i + 1) (by omega) (by omega) hs h0 h1 hc]
    simp only [partF, e']
theorem impl_partsFrom_eq {k : Nat} {l : List Int} (i : Int) (c : Nat) (hk : l.length + 12 < k) (hn : l.length ≤ 1048576) (hc : c ≤ 12) : impl_partsFrom.f k l i (c : Int) = some (if circleB l ∧ 0 ≤ i ∧ i ≤ 11 then partF l i c else 0) := by
  unfold impl_partsFrom.f
  rw [impl_isKey_eq i (by omega) hn]
  simp only [Option.bind_some, decide_eq_true_eq]
  by_cases h : circleB l ∧ 0 ≤ i ∧ i ≤ 11
  · rw [if_pos h, if_pos h]
    exact impl_partsFrom_l0 c k l i c 0 (by omega) (by omega) h.1 h.2.1 h.2.2 hc
  · rw [if_neg h, if_neg h]

theorem impl_ThirdParts_eq {k : Nat} {l : List Int} (i : Int) (hk : l.length + 12 < k) (hn : l.length ≤ 1048576) : impl_ThirdParts.f k l i = some (if circleB l ∧ 0 ≤ i ∧ i ≤ 11 then partF l i 4 else 0) := by
  unfold impl_ThirdParts.f
  have := impl_partsFrom_eq (k := k) (l := l) i 4 hk hn (by omega)
  rw [show ((4 : Nat) : Int) = 4 from rfl] at this
  rw [this]
  rfl

theorem impl_GroupThirds_eq {k : Nat} {l : List Int} (i : Int) (hk : l.length + 13 < k) (hn : l.length ≤ 1048576) : impl_GroupThirds.f k l i = some (groupF l i) := by
  obtain ⟨k, rfl⟩ : ∃ m, k = m + 1 := ⟨k - 1, by omega⟩
  unfold impl_GroupThirds.f groupF
  rw [impl_CircleOk_eq (by omega) hn, impl_within_eq]
  simp only [Option.bind_some, impl_GroupThirds.j0, decide_eq_true_eq]
  by_cases h : circleB l
  · by_cases h2 : 0 ≤ i ∧ i ≤ 3
    · rw [w64 (x := i + 4) (by omega) (by omega), w64 (x := i + 8) (by omega) (by omega), impl_ThirdParts_eq i (by omega) hn, impl_ThirdParts_eq (i + 4) (by omega) hn, impl_ThirdParts_eq (i + 8) (by omega) hn]
      rw [if_pos (show circleB l ∧ 0 ≤ i ∧ i ≤ 11 from ⟨h, by omega, by omega⟩), if_pos (show circleB l ∧ 0 ≤ i + 4 ∧ i + 4 ≤ 11 from ⟨h, by omega, by omega⟩), if_pos (show circleB l ∧ 0 ≤ i + 8 ∧ i + 8 ≤ 11 from ⟨h, by omega, by omega⟩)]
      simp [h, h2]
    · simp [h, h2]
  · simp [h]

theorem laws_eqIntS_l0 (d : Nat) : ∀ (k : Nat) (l x : List Int) (i : Nat), i + d = l.length → d < k → l.length ≤ 35184372088832 → x.length = l.length →
    laws_eqIntS.l0 k l x (i : Int) = some (decide (l.drop i = x.drop i)) := by
  induction d with
  | zero =>
    intro k l x i hi hk hn hx
    obtain ⟨k, rfl⟩ : ∃ m, k = m + 1 := ⟨k - 1, by omega⟩
    simp only [laws_eqIntS.l0]
    rw [if_neg (by omega), List.drop_eq_nil_of_le (by omega), List.drop_eq_nil_of_le (by omega)]
    simp
  | succ d ih =>
    intro k l x i hi hk hn hx
    obtain ⟨k, rfl⟩ : ∃ m, k = m + 1 := ⟨k - 1, by omega⟩
    simp only [laws_eqIntS.l0]
    rw [if_pos (by omega), if_pos (by omega), if_pos (by omega), up_one (n := l.length) (by omega) (by omega), ih k l x (i + 1) (by omega) (by omega) hn hx,
      drop_rd (l := l) (i := i) (by omega), drop_rd (l := x) (i := i) (by omega)]
    by_cases h : rd l (i : Int) = rd x (i : Int)
    · rw [if_pos h]; simp [h]
    · rw [if_neg h]; simp [h]
theorem laws_eqIntS_eq {k : Nat} {l x : List Int} (hk : l.length < k) (hn : l.length ≤ 35184372088832) : laws_eqIntS.f k l x = some (decide (l = x)) := by
  unfold laws_eqIntS.f
  by_cases h : x.length = l.length
  · rw [if_pos (by omega)]
    exact laws_eqIntS_l0 l.length k l x 0 (by omega) hk hn h
  · rw [if_neg (by omega)]
    have : l ≠ x := fun e => h (by rw [e])
    simp [this]

theorem laws_eqCircle_eq {k : Nat} {l x : List Int} (hk : l.length < k) (hn : l.length ≤ 35184372088832) : laws_eqCircle.f k l x = some (decide (l = x)) := by
  unfold laws_eqCircle.f
  rw [laws_eqIntS_eq hk hn]
  by_cases h : l = x <;> simp [h]

/-- The law, over numbers and lists. -/
def laws_FnExactGroupThirds.Pure : Prop := ∀ (l0_0 : List Int) (a1 : Int), l0_0.length ≤ maxLen → (∀ x ∈ l0_0, (Lit.int .i64 x).wf = true) → (Lit.int .i64 a1).wf = true → ∃ k, laws_FnExactGroupThirds.f k l0_0 a1 = some true
theorem FnExactGroupThirds : laws_FnExactGroupThirds.Pure := by
  intro l i hm _ _
  refine ⟨l.length + 20, ?_⟩
  unfold laws_FnExactGroupThirds.f
  rw [laws_szCircle_eq hm]
  simp only [Option.bind_some]
  by_cases c : 1048576 < l.length
  · rw [if_pos c, if_pos (by omega)]
  · rw [if_neg c, if_neg (by omega), laws_toCircle_eq (by omega) (by omega)]
    simp only [Option.bind_some]
    rw [spec_GroupThirds_eq i (by omega) (by omega), impl_GroupThirds_eq i (by omega) (by omega)]
    simp only [Option.bind_some, if_true, laws_FnExactGroupThirds.j0]
    rw [laws_toCircle_eq (by omega) (by omega)]
    simp only [Option.bind_some]
    rw [laws_eqCircle_eq (by omega) (by omega)]
    simp

end Go.Proofs.Ytmjccdljalocbaa.Pure
