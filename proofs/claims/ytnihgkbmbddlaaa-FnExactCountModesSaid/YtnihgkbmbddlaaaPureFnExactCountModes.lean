/- CountModes of the program and of the reference answer alike, for every scale, and leave it as it was. No condition. -/
import Derived.Test.YtnihgkbmbddlaaaPFnExactCountModesx1
import Derived.Test.YtnihgkbmbddlaaaPFnExactCountModesx2
import Derived.Test.YtnihgkbmbddlaaaPFnExactCountModesx3
import Derived.Test.YtnihgkbmbddlaaaPFnExactCountModesx4
import Derived.Test.YtnihgkbmbddlaaaPFnExactCountModesx5
import Derived.Test.YtnihgkbmbddlaaaPFnExactCountModesx6
import Derived.OpenShut
namespace Go.Proofs.Ytnihgkbmbddlaaa.Pure
open Go.RowKit Go.Proofs.Ytnihgkbmbddlaaa.PFnExactCountModes Go.Proofs.YtnihgkbmbddlaaaW.PrintWords Go.Proofs.YtnihgkbmbddlaaaW.PrintLast Go.Proofs.YtnihgkbmbddlaaaW.PrintMore
set_option linter.unusedVariables false
set_option linter.unusedSimpArgs false
theorem w64 {x : Int} (h : -9223372036854775808 ≤ x) (h' : x ≤ 9223372036854775807) : wrap64 x = x := by unfold wrap64; omega
theorem wf64 {x : Int} (h : (Lit.int .i64 x).wf = true) : -9223372036854775808 ≤ x ∧ x ≤ 9223372036854775807 := by
  simp only [Lit.wf, IntKind.min, IntKind.max, IntKind.signed, IntKind.bits, Bool.and_eq_true, decide_eq_true_eq, if_true] at h
  omega
theorem wfu8 {x : Int} (h : (Lit.int .u8 x).wf = true) : 0 ≤ x ∧ x ≤ 255 := by
  simp [Lit.wf, IntKind.min, IntKind.max, IntKind.signed, IntKind.bits] at h
  omega
theorem mx_def (a b : Int) : mx a b = max a b := by unfold mx; omega
theorem mn_def (a b : Int) : mn a b = min a b := by unfold mn; omega
theorem fuel {n k : Nat} (h : n < k) : ∃ m, k = m + 1 ∧ n ≤ m := ⟨k - 1, by omega, by omega⟩
theorem gcd_tmod (a b : Int) : Int.gcd b (Int.tmod a b) = Int.gcd a b := by
  unfold Int.gcd
  rw [Int.natAbs_tmod, Nat.gcd_comm, ← Nat.gcd_rec, Nat.gcd_comm]
theorem tmod_lt (a : Int) {b : Int} (h : b ≠ 0) : (Int.tmod a b).natAbs < b.natAbs := by
  rw [Int.natAbs_tmod]
  exact Nat.mod_lt _ (by omega)
theorem drop_rd {l : List Int} {i : Nat} (h : i < l.length) : l.drop i = rd l (i : Int) :: l.drop (i + 1) := by
  rw [List.drop_eq_getElem_cons h]
  simp [rd, List.getD, List.getElem?_eq_getElem h]
theorem rd_get {l : List Int} {i : Nat} (h : i < l.length) : rd l (i : Int) = l[i] := by simp [rd, List.getD, List.getElem?_eq_getElem h]
theorem up_one {i n : Nat} (h : i < n) (hn : n ≤ 9223372036854775807) : wrap64 ((i : Int) + 1) = ((i + 1 : Nat) : Int) := by rw [w64 (by omega) (by omega)]; omega
theorem rd_mem {l : List Int} {i : Nat} (h : i < l.length) : rd l (i : Int) ∈ l := by rw [rd_get h]; exact List.getElem_mem h
theorem maxLen_le {n : Nat} (h : n ≤ maxLen) : (n : Int) ≤ 9223372036854775807 := by unfold maxLen at h; omega

def scaleG (l : List Int) (s : Int) (n : Nat) : Prop := (∀ x ∈ l, 1 ≤ x ∧ x ≤ 20) ∧ (1 ≤ (n : Int) ∧ (n : Int) ≤ 12) ∧ s + l.sum ≤ 60
theorem scaleG_cons (a : Int) (l : List Int) (s : Int) (n : Nat) : scaleG (a :: l) s n ↔ (1 ≤ a ∧ a ≤ 20) ∧ scaleG l (s + a) n := by
  unfold scaleG
  simp only [List.mem_cons, forall_eq_or_imp, List.sum_cons]
  constructor
  · rintro ⟨⟨h1, h2⟩, h3, h4⟩; exact ⟨h1, h2, h3, by omega⟩
  · rintro ⟨h1, h2, h3, h4⟩; exact ⟨⟨h1, h2⟩, h3, by omega⟩
instance (l : List Int) (s : Int) (n : Nat) : Decidable (scaleG l s n) := by unfold scaleG; infer_instance
/-- A valid scale. -/
def scaleB (l : List Int) : Prop := scaleG l 0 l.length
instance (l : List Int) : Decidable (scaleB l) := by unfold scaleB; infer_instance
theorem scaleB_len {l : List Int} (h : scaleB l) : 1 ≤ l.length ∧ l.length ≤ 12 := by have := h.2.1; omega
theorem scaleB_rd {l : List Int} (h : scaleB l) {i : Nat} (hi : i < l.length) : 1 ≤ rd l (i : Int) ∧ rd l (i : Int) ≤ 20 := h.1 _ (rd_mem hi)

/-- The mode of a scale from k on. -/
def rotL (l : List Int) (k : Nat) : List Int := l.drop k ++ l.take k
def modeF (l : List Int) (k : Int) : List Int := if scaleB l ∧ 0 ≤ k ∧ k ≤ (l.length : Int) - 1 then rotL l k.toNat else []
theorem rotL_len (l : List Int) (k : Nat) : (rotL l k).length = l.length := by
  unfold rotL
  rw [List.length_append, List.length_drop, List.length_take]
  omega
theorem rotL_get {l : List Int} {k i : Nat} (hk : k < l.length) (hi : i < l.length) : (rotL l k)[i]? = some (rd l (((k + i) % l.length : Nat) : Int)) := by
  unfold rotL
  by_cases h : i < l.length - k
  · have e : (k + i) % l.length = k + i := Nat.mod_eq_of_lt (by omega)
    rw [e, rd_get (by omega), List.getElem?_append_left (by rw [List.length_drop]; omega), List.getElem?_drop, List.getElem?_eq_getElem (by omega)]
  · have e : (k + i) % l.length = k + i - l.length := by
      rw [Nat.mod_eq_sub_mod (by omega), Nat.mod_eq_of_lt (by omega)]
    rw [e, rd_get (by omega), List.getElem?_append_right (by rw [List.length_drop]; omega), List.length_drop, List.getElem?_take, if_pos (by omega), List.getElem?_eq_getElem (by omega)]
    congr 2
    omega
theorem modeF_len {l : List Int} {k : Int} (h : scaleB l) (h0 : 0 ≤ k) (h1 : k ≤ (l.length : Int) - 1) : (modeF l k).length = l.length := by
  unfold modeF
  rw [if_pos ⟨h, h0, h1⟩, rotL_len]
theorem modeF_len_le (l : List Int) (k : Int) : (modeF l k).length ≤ 12 := by
  unfold modeF
  split
  · rename_i h; rw [rotL_len]; exact (scaleB_len h.1).2
  · simp
theorem tmod_nat {f : Int} {n : Nat} (c : Nat) (h : 0 ≤ f) (hn : 1 ≤ n) : Int.tmod (f + c) n = (((f.toNat + c) % n : Nat) : Int) := by
  rw [Int.tmod_eq_emod_of_nonneg (by omega)]
  have : f + (c : Int) = ((f.toNat + c : Nat) : Int) := by omega
  rw [this]
  rfl

/-- The lexicographic order of two lists. -/
def ordF : List Int → List Int → Int
  | [], [] => 0
  | [], _ :: _ => -1
  | _ :: _, [] => 1
  | a :: x, b :: y => if a = b then ordF x y else if a < b then -1 else 1
theorem ordF_zero (x : List Int) : ∀ y, ordF x y = 0 ↔ x = y := by
  induction x with
  | nil => intro y; cases y <;> simp [ordF]
  | cons a x ih =>
    intro y
    cases y with
    | nil => simp [ordF]
    | cons b y =>
      by_cases h : a = b
      · simp [ordF, h, ih y]
      · by_cases h2 : a < b <;> simp [ordF, h, h2]

/-- No mode before k is the one from k on. -/
def freshB (l : List Int) (k : Nat) : Prop := ∀ j, j < k → modeF l (j : Int) ≠ modeF l (k : Int)
instance (l : List Int) (k : Nat) : Decidable (freshB l k) := by unfold freshB; infer_instance
/-- How many of the first modes are new. -/
def cntF (l : List Int) : Nat → Nat
  | 0 => 0
  | i + 1 => cntF l i + if freshB l i then 1 else 0
theorem cntF_le (l : List Int) (i : Nat) : cntF l i ≤ i := by
  induction i with
  | zero => simp [cntF]
  | succ i ih => simp only [cntF]; split <;> omega
def countF (l : List Int) : Int := if scaleB l then (cntF l l.length : Int) else 0
/-- The first index from i on whose mode is x. -/
def sameFrom (l x : List Int) : Nat → Nat → Int
  | _, 0 => -1
  | i, d + 1 => if modeF l (i : Int) = x then (i : Int) else sameFrom l x (i + 1) d
def sameF (l x : List Int) : Int := if scaleB l then sameFrom l x 0 l.length else -1
theorem sameFrom_at (l : List Int) (k d : Nat) : ∀ i, i + d = l.length → i ≤ k → k < l.length → (sameFrom l (modeF l (k : Int)) i d = (k : Int) ↔ ∀ j, i ≤ j → j < k → modeF l (j : Int) ≠ modeF l (k : Int)) := by
  induction d with
  | zero => intro i hi hk hl; omega
  | succ d ih =>
    intro i hi hk hl
    simp only [sameFrom]
    by_cases e : modeF l (i : Int) = modeF l (k : Int)
    · rw [if_pos e]
      by_cases hik : i = k
      · subst hik
        simp
        intro j h1 h2
        omega
      · constructor
        · intro h; omega
        · intro h; exact absurd e (h i (Nat.le_refl _) (by omega))
    · rw [if_neg e]
      have hik : i ≠ k := fun h => e (by rw [h])
      rw [ih (i + 1) (by omega) (by omega) hl]
      constructor
      · intro h j h1 h2
        by_cases hj : j = i
        · rw [hj]; exact e
        · exact h j (by omega) h2
      · intro h j h1 h2
        exact h j (by omega) h2
theorem sameFrom_fresh {l : List Int} {k : Nat} (h : k < l.length) : sameFrom l (modeF l (k : Int)) 0 l.length = (k : Int) ↔ freshB l k := by
  rw [sameFrom_at l k l.length 0 (by omega) (by omega) h]
  unfold freshB
  exact ⟨fun x j hj => x j (by omega) hj, fun x j _ hj => x j hj⟩

theorem laws_eqIntS_l0 (d : Nat) : ∀ (k : Nat) (l x : List Int) (i : Nat), i + d = l.length → d < k → l.length ≤ 35184372088832 → x.length = l.length →
    laws_eqIntS.l0 k l x (i : Int) = some (decide (l.drop i = x.drop i)) := by
  induction d with
  | zero =>
    intro k l x i hi hk hn hx
    obtain ⟨k, rfl⟩ : ∃ m, k = m + 1 := ⟨k - 1, by omega⟩
    simp only [laws_eqIntS.l0]
    rw [if_neg (by omega), List.drop_eq_nil_of_le (by omega), List.drop_eq_nil_of_le (by omega)]
    simp
  | succ d ih =>
    intro k l x i hi hk hn hx
    obtain ⟨k, rfl⟩ : ∃ m, k = m + 1 := ⟨k - 1, by omega⟩
    simp only [laws_eqIntS.l0]
    rw [if_pos (by omega), if_pos (by omega), if_pos (by omega), up_one (n := l.length) (by omega) (by omega), ih k l x (i + 1) (by omega) (by omega) hn hx,
      drop_rd (l := l) (i := i) (by omega), drop_rd (l := x) (i := i) (by omega)]
    by_cases h : rd l (i : Int) = rd x (i : Int)
    · rw [if_pos h]; simp [h]
    · rw [if_neg h]; simp [h]
theorem laws_eqIntS_eq {k : Nat} {l x : List Int} (hk : l.length < k) (hn : l.length ≤ 35184372088832) : laws_eqIntS.f k l x = some (decide (l = x)) := by
  unfold laws_eqIntS.f
  by_cases h : x.length = l.length
  · rw [if_pos (by omega)]
    exact laws_eqIntS_l0 l.length k l x 0 (by omega) hk hn h
  · rw [if_neg (by omega)]
    have : l ≠ x := fun e => h (by rw [e])
    simp [this]

theorem laws_eqScale_eq {k : Nat} {l x : List Int} (hk : l.length < k) (hn : l.length ≤ 35184372088832) : laws_eqScale.f k l x = some (decide (l = x)) := by
  unfold laws_eqScale.f
  rw [laws_eqIntS_eq hk hn]
  by_cases h : l = x <;> simp [h]

theorem laws_szIntS_eq {l : List Int} (h : l.length ≤ maxLen) : laws_szIntS.f l 1048576 = some (if 1048576 < l.length then -1 else 1048576 - (l.length : Int)) := by
  have h2 := maxLen_le h
  unfold laws_szIntS.f
  rw [w64 (by omega) (by omega)]
  by_cases c : 1048576 < l.length
  · rw [if_pos c, if_pos (by omega)]
  · rw [if_neg c, if_neg (by omega)]

theorem laws_szScale_eq {l : List Int} (h : l.length ≤ maxLen) : laws_szScale.f l 1048576 = some (if 1048576 < l.length then -1 else 1048576 - (l.length : Int)) := by
  unfold laws_szScale.f
  rw [laws_szIntS_eq h]
  simp only [Option.bind_some]
  by_cases c : 1048576 < l.length
  · rw [if_pos c, if_pos (by omega)]
  · rw [if_neg c, if_neg (by omega)]

theorem laws_toIntS_l0 (d : Nat) : ∀ (k : Nat) (l x : List Int) (i : Nat), i + d = l.length → d < k → l.length ≤ 35184372088832 → x.length = l.length → (∀ j, j < i → x[j]? = l[j]?) →
    laws_toIntS.l0 k l x (i : Int) = some l := by
  induction d with
  | zero =>
    intro k l x i hi hk hn hx he
    obtain ⟨k, rfl⟩ : ∃ m, k = m + 1 := ⟨k - 1, by omega⟩
    simp only [laws_toIntS.l0]
    rw [if_neg (by omega)]
    refine congrArg some (List.ext_getElem? fun j => ?_)
    by_cases hj : j < i
    · exact he j hj
    · rw [List.getElem?_eq_none (by omega), List.getElem?_eq_none (by omega)]
  | succ d ih =>
    intro k l x i hi hk hn hx he
    obtain ⟨k, rfl⟩ : ∃ m, k = m + 1 := ⟨k - 1, by omega⟩
    simp only [laws_toIntS.l0]
    rw [if_pos (by omega), if_pos (by omega), if_pos (by omega), up_one (n := l.length) (by omega) (by omega)]
    refine ih k l _ (i + 1) (by omega) (by omega) hn (by simpa using hx) fun j hj => ?_
    rw [Int.toNat_natCast, List.getElem?_set]
    by_cases hji : i = j
    · subst hji
      rw [if_pos rfl, if_pos (by omega), rd_get (by omega), List.getElem?_eq_getElem (by omega)]
    · rw [if_neg hji]
      exact he j (by omega)
theorem laws_toIntS_eq {k : Nat} {l : List Int} (hk : l.length < k) (hn : l.length ≤ 35184372088832) : laws_toIntS.f k l = some l := by
  unfold laws_toIntS.f
  rw [if_pos (by omega), if_pos (by simpa using hn)]
  exact laws_toIntS_l0 l.length k l _ 0 (by omega) hk hn (by simp) (fun j hj => absurd hj (by omega))

theorem laws_toScale_eq {k : Nat} {l : List Int} (hk : l.length < k) (hn : l.length ≤ 35184372088832) : laws_toScale.f k l = some l := by
  unfold laws_toScale.f
  rw [laws_toIntS_eq hk hn]
  rfl

theorem spec_l01In_eq (a b c : Int) : spec_l01In.f a b c = some (decide (b ≤ a ∧ a ≤ c)) := by
  unfold spec_l01In.f; by_cases h : a ≥ b <;> by_cases h2 : a ≤ c <;> simp [h, h2]; all_goals omega

theorem spec_ScaleOk_l0 (d : Nat) : ∀ (k : Nat) (l : List Int) (s : Int) (i : Nat), i + d = l.length → d < k → l.length ≤ 1048576 → 0 ≤ s → s ≤ (20 * i : Int) →
    spec_ScaleOk.l0 k s (i : Int) l = some (decide (scaleG (l.drop i) s l.length)) := by
  induction d with
  | zero =>
    intro k l s i hi hk hn h1 h2
    obtain ⟨k, rfl⟩ : ∃ m, k = m + 1 := ⟨k - 1, by omega⟩
    simp only [spec_ScaleOk.l0, spec_l01In_eq]
    rw [if_neg (by omega), List.drop_eq_nil_of_le (by omega)]
    by_cases h : 1 ≤ (l.length : Int) ∧ (l.length : Int) ≤ 12
    · simp only [h, and_self, decide_true, if_true, Option.bind_some, scaleG, List.not_mem_nil, false_imp_iff, implies_true, true_and, List.sum_nil, Int.add_zero]
    · simp only [h, decide_false, Bool.false_eq_true, if_false, Option.bind_some, scaleG, false_and, and_false]
  | succ d ih =>
    intro k l s i hi hk hn h1 h2
    obtain ⟨k, rfl⟩ : ∃ m, k = m + 1 := ⟨k - 1, by omega⟩
    simp only [spec_ScaleOk.l0]
    have hlt : (i : Int) < (l.length : Int) := by omega
    have h0 : (0 : Int) ≤ (i : Int) := by omega
    simp only [hlt, h0, if_true, spec_l01In_eq, up_one (n := l.length) (show i < l.length by omega) (by omega)]
    rw [drop_rd (l := l) (i := i) (by omega)]
    simp only [Option.bind_some, decide_eq_true_eq, scaleG_cons]
    by_cases h : 1 ≤ rd l (i : Int) ∧ rd l (i : Int) ≤ 20
    · rw [if_pos h, w64 (by omega) (by omega), ih k l _ (i + 1) (by omega) (by omega) hn (by omega) (by omega)]
      simp [h]
    · rw [if_neg h]; simp [h]
theorem spec_ScaleOk_eq {k : Nat} {l : List Int} (hk : l.length < k) (hn : l.length ≤ 1048576) : spec_ScaleOk.f k l = some (decide (scaleB l)) := by
  unfold spec_ScaleOk.f scaleB
  exact spec_ScaleOk_l0 l.length k l 0 0 (by omega) hk hn (by omega) (by omega)

theorem spec_ModeOf_l0 (d : Nat) : ∀ (k : Nat) (l : List Int) (f : Int) (i : Nat), i + d = l.length → d + l.length + 1 < k → scaleB l → 0 ≤ f → f ≤ (l.length : Int) - 1 →
    spec_ModeOf.l0 k f (i : Int) l ((rotL l f.toNat).take i) = some (rotL l f.toNat) := by
  induction d with
  | zero =>
    intro k l f i hi hk hs h0 h1
    obtain ⟨k, rfl⟩ : ∃ m, k = m + 1 := ⟨k - 1, by omega⟩
    simp only [spec_ModeOf.l0]
    rw [if_neg (by omega), List.take_of_length_le (by rw [rotL_len]; omega)]
  | succ d ih =>
    intro k l f i hi hk hs h0 h1
    obtain ⟨k, rfl⟩ : ∃ m, k = m + 1 := ⟨k - 1, by omega⟩
    have hl := scaleB_len hs
    have hm : (f.toNat + i) % l.length < l.length := Nat.mod_lt _ (by omega)
    have hg := rotL_get (l := l) (k := f.toNat) (i := i) (by omega) (by omega)
    simp only [spec_ModeOf.l0]
    rw [if_pos (by omega), spec_ScaleOk_eq (by omega) (by omega), spec_l01In_eq, w64 (x := (l.length : Int) - 1) (by omega) (by omega), w64 (x := f + (i : Int)) (by omega) (by omega), tmod_nat i h0 hl.1, up_one (n := 12) (by omega) (by omega)]
    simp only [Option.bind_some, hs, decide_true, if_true, decide_eq_true_eq]
    rw [if_pos ⟨h0, h1⟩, if_neg (by omega), if_pos (by omega), if_pos (by omega), if_pos (by rw [List.length_take]; omega)]
    have e : (rotL l f.toNat).take i ++ [rd l (((f.toNat + i) % l.length : Nat) : Int)] = (rotL l f.toNat).take (i + 1) := by
      have hlt : i < (rotL l f.toNat).length := by rw [rotL_len]; omega
      rw [List.take_succ_eq_append_getElem hlt]
      rw [List.getElem?_eq_getElem hlt] at hg
      rw [Option.some.inj hg]
    rw [e]
    exact ih k l f (i + 1) (by omega) (by omega) hs h0 h1
theorem spec_ModeOf_eq {k : Nat} {l : List Int} (f : Int) (hk : 2 * l.length + 1 < k) (hn : l.length ≤ 1048576) : spec_ModeOf.f k l f = some (modeF l f) := by
  unfold spec_ModeOf.f modeF
  by_cases hs : scaleB l
  · have hl := scaleB_len hs
    by_cases h : 0 ≤ f ∧ f ≤ (l.length : Int) - 1
    · rw [if_pos ⟨hs, h⟩]
      have := spec_ModeOf_l0 l.length k l f 0 (by omega) (by omega) hs h.1 h.2
      simpa using this
    · rw [if_neg (fun x => h x.2)]
      obtain ⟨k, rfl⟩ : ∃ m, k = m + 1 := ⟨k - 1, by omega⟩
      simp only [spec_ModeOf.l0]
      rw [if_pos (by omega), spec_ScaleOk_eq (by omega) hn, spec_l01In_eq, w64 (x := (l.length : Int) - 1) (by omega) (by omega)]
      simp [h]
  · rw [if_neg (fun x => hs x.1)]
    obtain ⟨k, rfl⟩ : ∃ m, k = m + 1 := ⟨k - 1, by omega⟩
    simp only [spec_ModeOf.l0]
    by_cases c : (0 : Int) < (l.length : Int)
    · rw [if_pos c, spec_ScaleOk_eq (by omega) hn]
      simp [hs]
    · rw [if_neg c]

theorem spec_l15Same_l0 (d : Nat) : ∀ (k : Nat) (l x : List Int) (i : Nat), i + d = l.length → d < k → l.length ≤ 35184372088832 → x.length = l.length →
    spec_l15Same.l0 k l x (i : Int) = some (decide (l.drop i = x.drop i)) := by
  induction d with
  | zero =>
    intro k l x i hi hk hn hx
    obtain ⟨k, rfl⟩ : ∃ m, k = m + 1 := ⟨k - 1, by omega⟩
    simp only [spec_l15Same.l0]
    rw [if_neg (by omega), List.drop_eq_nil_of_le (by omega), List.drop_eq_nil_of_le (by omega)]
    simp
  | succ d ih =>
    intro k l x i hi hk hn hx
    obtain ⟨k, rfl⟩ : ∃ m, k = m + 1 := ⟨k - 1, by omega⟩
    simp only [spec_l15Same.l0]
    rw [if_pos (by omega), if_pos (by omega), if_pos (by omega), up_one (n := l.length) (by omega) (by omega), ih k l x (i + 1) (by omega) (by omega) hn hx,
      drop_rd (l := l) (i := i) (by omega), drop_rd (l := x) (i := i) (by omega)]
    by_cases h : rd l (i : Int) = rd x (i : Int)
    · rw [if_pos h]; simp [h]
    · rw [if_neg h]; simp [h]
theorem spec_l15Same_eq {k : Nat} {l x : List Int} (hk : l.length < k) (hn : l.length ≤ 35184372088832) : spec_l15Same.f k l x = some (decide (l = x)) := by
  unfold spec_l15Same.f
  by_cases h : x.length = l.length
  · rw [if_pos (by omega)]
    exact spec_l15Same_l0 l.length k l x 0 (by omega) hk hn h
  · rw [if_neg (by omega)]
    have : l ≠ x := fun e => h (by rw [e])
    simp [this]

theorem spec_CountModes_l1 (d : Nat) : ∀ (k : Nat) (l : List Int) (s : Int) (c i : Nat) (b : Bool), i + d = c → d + 60 < k → scaleB l → c < l.length → (b = true ↔ ∀ j, j < i → modeF l (j : Int) ≠ modeF l (c : Int)) →
    spec_CountModes.l1 k s (c : Int) b (i : Int) l = spec_CountModes.l0 (k - d - 1) (if freshB l c then wrap64 (s + 1) else s) (wrap64 ((c : Int) + 1)) l := by
  induction d with
  | zero =>
    intro k l s c i b hi hk hs hc hb
    obtain ⟨k, rfl⟩ : ∃ m, k = m + 1 := ⟨k - 1, by omega⟩
    simp only [spec_CountModes.l1]
    obtain rfl : i = c := by omega
    rw [if_neg (by omega)]
    have e : (k + 1 - 0 - 1) = k := by omega
    rw [e]
    have hf : b = true ↔ freshB l i := hb
    by_cases h : freshB l i
    · rw [if_pos (hf.2 h), if_pos h]
    · rw [if_neg (fun x => h (hf.1 x)), if_neg h]
  | succ d ih =>
    intro k l s c i b hi hk hs hc hb
    obtain ⟨k, rfl⟩ : ∃ m, k = m + 1 := ⟨k - 1, by omega⟩
    have hl := scaleB_len hs
    have e1 := modeF_len_le l (i : Int)
    have ek : (k + 1 - (d + 1) - 1) = k - d - 1 := by omega
    simp only [spec_CountModes.l1]
    rw [if_pos (by omega), up_one (n := 12) (by omega) (by omega), ek]
    cases hbv : b with
    | true =>
      rw [if_pos rfl, spec_ModeOf_eq _ (by omega) (by omega), spec_ModeOf_eq _ (by omega) (by omega)]
      simp only [Option.bind_some]
      rw [spec_l15Same_eq (by omega) (by omega)]
      simp only [Option.bind_some]
      refine ih k l s c (i + 1) _ (by omega) (by omega) hs hc ?_
      have hb' := hb.1 hbv
      constructor
      · intro h j hj
        by_cases e : j = i
        · rw [e]; simpa using h
        · exact hb' j (by omega)
      · intro h
        simpa using h i (by omega)
    | false =>
      rw [if_neg (by simp)]
      refine ih k l s c (i + 1) false (by omega) (by omega) hs hc ?_
      constructor
      · intro h; cases h
      · intro h
        exact absurd (hb.2 fun j hj => h j (by omega)) (by simp [hbv])
theorem spec_CountModes_l0 (d : Nat) : ∀ (k : Nat) (l : List Int) (i : Nat), i + d = l.length → 20 * d + 100 < k → scaleB l → spec_CountModes.l0 k (cntF l i : Int) (i : Int) l = some (cntF l l.length : Int) := by
  induction d with
  | zero =>
    intro k l i hi hk hs
    obtain ⟨k, rfl⟩ : ∃ m, k = m + 2 := ⟨k - 2, by omega⟩
    simp only [spec_CountModes.l0, spec_CountModes.j1]
    obtain rfl : i = l.length := by omega
    rw [if_neg (by omega), if_neg (by simp)]
  | succ d ih =>
    intro k l i hi hk hs
    obtain ⟨k, rfl⟩ : ∃ m, k = m + 2 := ⟨k - 2, by omega⟩
    have hl := scaleB_len hs
    have hc := cntF_le l i
    simp only [spec_CountModes.l0, spec_CountModes.j1]
    rw [if_pos (by omega), spec_ScaleOk_eq (by omega) (by omega)]
    simp only [Option.bind_some, hs, decide_true, if_true]
    have := spec_CountModes_l1 i k l (cntF l i : Int) i 0 true (by omega) (by omega) hs (by omega) (by simp)
    rw [show ((0 : Nat) : Int) = 0 from rfl] at this
    rw [this, up_one (n := 12) (by omega) (by omega), w64 (by omega) (by omega), ← ih (k - i - 1) l (i + 1) (by omega) (by omega) hs]
    simp only [cntF]
    by_cases h : freshB l i
    · rw [if_pos h, if_pos h]
      rfl
    · rw [if_neg h, if_neg h]
      rfl
theorem spec_CountModes_eq {k : Nat} {l : List Int} (hk : 20 * l.length + 120 < k) (hn : l.length ≤ 1048576) : spec_CountModes.f k l = some (countF l) := by
  unfold spec_CountModes.f countF
  by_cases hs : scaleB l
  · have hl := scaleB_len hs
    rw [if_pos hs]
    exact spec_CountModes_l0 l.length k l 0 (by omega) (by omega) hs
  · rw [if_neg hs]
    obtain ⟨k, rfl⟩ : ∃ m, k = m + 2 := ⟨k - 2, by omega⟩
    simp only [spec_CountModes.l0, spec_CountModes.j1]
    by_cases c : (0 : Int) < (l.length : Int)
    · rw [if_pos c, spec_ScaleOk_eq (by omega) hn]
      simp [hs]
    · rw [if_neg c, if_neg (by simp)]

theorem impl_within_eq (a b c : Int) : impl_within.f a b c = some (decide (b ≤ a ∧ a ≤ c)) := by
  unfold impl_within.f; by_cases h : b ≤ a <;> by_cases h2 : a ≤ c <;> simp [h, h2]

theorem impl_ScaleOk_l0 (d : Nat) : ∀ (k : Nat) (l : List Int) (s : Int) (i : Nat), i + d = l.length → d < k → l.length ≤ 1048576 → 0 ≤ s → s ≤ (20 * i : Int) →
    impl_ScaleOk.l0 k s l (l.length : Int) (i : Int) l = some (decide (scaleG (l.drop i) s l.length)) := by
  induction d with
  | zero =>
    intro k l s i hi hk hn h1 h2
    obtain ⟨k, rfl⟩ : ∃ m, k = m + 1 := ⟨k - 1, by omega⟩
    simp only [impl_ScaleOk.l0, impl_within_eq]
    rw [if_neg (by omega), List.drop_eq_nil_of_le (by omega)]
    by_cases h : 1 ≤ (l.length : Int) ∧ (l.length : Int) ≤ 12
    · simp only [h, and_self, decide_true, if_true, Option.bind_some, scaleG, List.not_mem_nil, false_imp_iff, implies_true, true_and, List.sum_nil, Int.add_zero]
    · simp only [h, decide_false, Bool.false_eq_true, if_false, Option.bind_some, scaleG, false_and, and_false]
  | succ d ih =>
    intro k l s i hi hk hn h1 h2
    obtain ⟨k, rfl⟩ : ∃ m, k = m + 1 := ⟨k - 1, by omega⟩
    simp only [impl_ScaleOk.l0]
    have hlt : (i : Int) < (l.length : Int) := by omega
    have h0 : (0 : Int) ≤ (i : Int) := by omega
    simp only [hlt, h0, if_true, impl_within_eq, up_one (n := l.length) (show i < l.length by omega) (by omega)]
    rw [drop_rd (l := l) (i := i) (by omega)]
    simp only [Option.bind_some, decide_eq_true_eq, scaleG_cons]
    by_cases h : 1 ≤ rd l (i : Int) ∧ rd l (i : Int) ≤ 20
    · rw [if_pos h, w64 (by omega) (by omega), ih k l _ (i + 1) (by omega) (by omega) hn (by omega) (by omega)]
      simp [h]
    · rw [if_neg h]; simp [h]
theorem impl_ScaleOk_eq {k : Nat} {l : List Int} (hk : l.length < k) (hn : l.length ≤ 1048576) : impl_ScaleOk.f k l = some (decide (scaleB l)) := by
  unfold impl_ScaleOk.f scaleB
  exact impl_ScaleOk_l0 l.length k l 0 0 (by omega) hk hn (by omega) (by omega)

theorem impl_ModeOf_eq {k : Nat} {l : List Int} (f : Int) (hk : l.length < k) (hn : l.length ≤ 1048576) : impl_ModeOf.f k l f = some (modeF l f) := by
  unfold impl_ModeOf.f modeF
  rw [impl_ScaleOk_eq hk hn, impl_within_eq]
  simp only [Option.bind_some, decide_eq_true_eq]
  by_cases hs : scaleB l
  · have hl := scaleB_len hs
    rw [if_pos hs, w64 (x := (l.length : Int) - 1) (by omega) (by omega)]
    by_cases h : 0 ≤ f ∧ f ≤ (l.length : Int) - 1
    · rw [if_pos h, if_pos h.1, if_pos (show f ≤ (l.length : Int) by omega), if_pos (by rw [List.length_drop]; simp; omega), if_pos (by rw [List.length_append, List.length_drop, List.length_take]; simp; omega), if_pos (show scaleB l ∧ 0 ≤ f ∧ f ≤ (l.length : Int) - 1 from ⟨hs, h⟩)]
      simp [rotL]
    · rw [if_neg h, if_neg (fun x => h x.2)]
  · rw [if_neg hs, if_neg (fun x => hs x.1)]

theorem impl_orderInts_l0 (d : Nat) : ∀ (k : Nat) (x y : List Int) (i : Nat), i + d = x.length → 2 * d + 1 < k → x.length ≤ 1048576 → y.length ≤ 1048576 → i ≤ y.length → impl_orderInts.l0 k x y (i : Int) = some (ordF (x.drop i) (y.drop i)) := by
  induction d with
  | zero =>
    intro k x y i hi hk hx hy hiy
    obtain ⟨k, rfl⟩ : ∃ m, k = m + 2 := ⟨k - 2, by omega⟩
    simp only [impl_orderInts.l0, impl_orderInts.j1]
    rw [if_neg (by omega), List.drop_eq_nil_of_le (by omega)]
    by_cases e : i = y.length
    · rw [List.drop_eq_nil_of_le (by omega), if_neg (by simp), if_neg (by omega), if_neg (by omega)]
      rfl
    · rw [drop_rd (l := y) (i := i) (by omega), if_neg (by simp), if_pos (by omega)]
      rfl
  | succ d ih =>
    intro k x y i hi hk hx hy hiy
    obtain ⟨k, rfl⟩ : ∃ m, k = m + 2 := ⟨k - 2, by omega⟩
    simp only [impl_orderInts.l0, impl_orderInts.j1]
    rw [if_pos (by omega), drop_rd (l := x) (i := i) (by omega)]
    by_cases e : i = y.length
    · have e0 : y.drop i = [] := List.drop_eq_nil_of_le (by omega)
      rw [e0, if_neg (by simp; omega), if_neg (by omega), if_pos (by omega)]
      rfl
    · rw [drop_rd (l := y) (i := i) (by omega), if_pos (by simp; omega), if_pos (by omega), if_pos (by omega), if_pos (by omega), up_one (n := x.length) (by omega) (by omega), ih k x y (i + 1) (by omega) (by omega) hx hy (by omega)]
      simp only [ordF]
      by_cases h : rd x (i : Int) = rd y (i : Int)
      · rw [if_pos h, if_pos h]
      · rw [if_neg h, if_neg h]
        by_cases h2 : rd x (i : Int) < rd y (i : Int)
        · rw [if_pos h2, if_pos h2]
        · rw [if_neg h2, if_neg h2]
theorem impl_orderInts_eq {k : Nat} {x y : List Int} (hk : 2 * x.length + 1 < k) (hx : x.length ≤ 1048576) (hy : y.length ≤ 1048576) : impl_orderInts.f k x y = some (ordF x y) := by
  unfold impl_orderInts.f
  have := impl_orderInts_l0 x.length k x y 0 (by omega) hk hx hy (by omega)
  simpa using this

theorem impl_SameMode_l0 (d : Nat) : ∀ (k : Nat) (l x : List Int) (i : Nat), i + d = l.length → d + 40 < k → scaleB l → x.length ≤ 1048576 → impl_SameMode.l0 k (l.length : Int) (i : Int) l x = some (sameFrom l x i d) := by
  induction d with
  | zero =>
    intro k l x i hi hk hs hx
    obtain ⟨k, rfl⟩ : ∃ m, k = m + 1 := ⟨k - 1, by omega⟩
    simp only [impl_SameMode.l0]
    rw [if_neg (by omega)]
    rfl
  | succ d ih =>
    intro k l x i hi hk hs hx
    obtain ⟨k, rfl⟩ : ∃ m, k = m + 1 := ⟨k - 1, by omega⟩
    have hl := scaleB_len hs
    have e1 := modeF_len_le l (i : Int)
    simp only [impl_SameMode.l0]
    rw [if_pos (by omega), impl_ModeOf_eq _ (by omega) (by omega)]
    simp only [Option.bind_some]
    rw [impl_orderInts_eq (by omega) (by omega) hx, up_one (n := 12) (by omega) (by omega)]
    simp only [Option.bind_some, ordF_zero, sameFrom]
    by_cases h : modeF l (i : Int) = x
    · rw [if_pos h, if_pos h]
    · rw [if_neg h, if_neg h]
      exact ih k l x (i + 1) (by omega) (by omega) hs hx
theorem impl_SameMode_eq {k : Nat} {l x : List Int} (hk : l.length + 60 < k) (hn : l.length ≤ 1048576) (hx : x.length ≤ 1048576) : impl_SameMode.f k l x = some (sameF l x) := by
  unfold impl_SameMode.f sameF
  rw [impl_ScaleOk_eq (by omega) hn]
  simp only [Option.bind_some, decide_eq_true_eq]
  by_cases hs : scaleB l
  · have hl := scaleB_len hs
    rw [if_pos hs, if_pos hs]
    exact impl_SameMode_l0 l.length k l x 0 (by omega) (by omega) hs hx
  · rw [if_neg hs, if_neg hs]

theorem impl_CountModes_l0 (d : Nat) : ∀ (k : Nat) (l : List Int) (i : Nat), i + d = l.length → d + 100 < k → scaleB l → impl_CountModes.l0 k (cntF l i : Int) (l.length : Int) (i : Int) l = some (cntF l l.length : Int) := by
  induction d with
  | zero =>
    intro k l i hi hk hs
    obtain ⟨k, rfl⟩ : ∃ m, k = m + 1 := ⟨k - 1, by omega⟩
    simp only [impl_CountModes.l0]
    obtain rfl : i = l.length := by omega
    rw [if_neg (by omega)]
  | succ d ih =>
    intro k l i hi hk hs
    obtain ⟨k, rfl⟩ : ∃ m, k = m + 1 := ⟨k - 1, by omega⟩
    have hl := scaleB_len hs
    have e1 := modeF_len_le l (i : Int)
    have hc := cntF_le l i
    simp only [impl_CountModes.l0]
    rw [if_pos (by omega), impl_ModeOf_eq _ (by omega) (by omega)]
    simp only [Option.bind_some]
    rw [impl_SameMode_eq (by omega) (by omega) (by omega), up_one (n := 12) (by omega) (by omega), w64 (by omega) (by omega)]
    simp only [Option.bind_some, sameF, hs, if_true]
    rw [← ih k l (i + 1) (by omega) (by omega) hs]
    simp only [cntF]
    by_cases h : freshB l i
    · rw [if_pos ((sameFrom_fresh (by omega)).2 h), if_pos h]
      rfl
    · rw [if_neg (fun x => h ((sameFrom_fresh (by omega)).1 x)), if_neg h]
      rfl
theorem impl_CountModes_eq {k : Nat} {l : List Int} (hk : l.length + 130 < k) (hn : l.length ≤ 1048576) : impl_CountModes.f k l = some (countF l) := by
  unfold impl_CountModes.f countF
  rw [impl_ScaleOk_eq (by omega) hn]
  simp only [Option.bind_some, decide_eq_true_eq]
  by_cases hs : scaleB l
  · have hl := scaleB_len hs
    rw [if_pos hs, if_pos hs]
    exact impl_CountModes_l0 l.length k l 0 (by omega) (by omega) hs
  · rw [if_neg hs, if_neg hs]

/-- The law, over numbers and lists. -/
def laws_FnExactCountModes.Pure : Prop := ∀ (l0_0 : List Int), l0_0.length ≤ maxLen → (∀ x ∈ l0_0, (Lit.int .i64 x).wf = true) → ∃ k, laws_FnExactCountModes.f k l0_0 = some true
theorem FnExactCountModes : laws_FnExactCountModes.Pure := by
  intro l hm _
  refine ⟨20 * l.length + 140, ?_⟩
  unfold laws_FnExactCountModes.f
  rw [laws_szScale_eq hm]
  simp only [Option.bind_some]
  by_cases c : 1048576 < l.length
  · rw [if_pos c, if_pos (by omega)]
  · rw [if_neg c, if_neg (by omega), laws_toScale_eq (by omega) (by omega)]
    simp only [Option.bind_some]
    rw [spec_CountModes_eq (by omega) (by omega), impl_CountModes_eq (by omega) (by omega)]
    simp only [Option.bind_some]
    rw [laws_eqScale_eq (by omega) (by omega)]
    simp

end Go.Proofs.Ytnihgkbmbddlaaa.Pure
