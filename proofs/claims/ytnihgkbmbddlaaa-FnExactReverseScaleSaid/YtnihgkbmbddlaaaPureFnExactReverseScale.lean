/- ReverseScale of the program and of the reference answer alike, for every scale, leave it as it was, and the answer is new memory. No condition. -/
import Derived.Test.YtnihgkbmbddlaaaPFnExactReverseScalex1
import Derived.Test.YtnihgkbmbddlaaaPFnExactReverseScalex2
import Derived.Test.YtnihgkbmbddlaaaPFnExactReverseScalex3
import Derived.Test.YtnihgkbmbddlaaaPFnExactReverseScalex4
import Derived.OpenShut
namespace Go.Proofs.Ytnihgkbmbddlaaa.Pure
open Go.RowKit Go.Proofs.Ytnihgkbmbddlaaa.PFnExactReverseScale Go.Proofs.YtnihgkbmbddlaaaW.PrintWords Go.Proofs.YtnihgkbmbddlaaaW.PrintLast Go.Proofs.YtnihgkbmbddlaaaW.PrintMore
set_option linter.unusedVariables false
set_option linter.unusedSimpArgs false
theorem w64 {x : Int} (h : -9223372036854775808 ≤ x) (h' : x ≤ 9223372036854775807) : wrap64 x = x := by unfold wrap64; omega
theorem wf64 {x : Int} (h : (Lit.int .i64 x).wf = true) : -9223372036854775808 ≤ x ∧ x ≤ 9223372036854775807 := by
  simp only [Lit.wf, IntKind.min, IntKind.max, IntKind.signed, IntKind.bits, Bool.and_eq_true, decide_eq_true_eq, if_true] at h
  omega
theorem wfu8 {x : Int} (h : (Lit.int .u8 x).wf = true) : 0 ≤ x ∧ x ≤ 255 := by
  simp [Lit.wf, IntKind.min, IntKind.max, IntKind.signed, IntKind.bits] at h
  omega
theorem mx_def (a b : Int) : mx a b = max a b := by unfold mx; omega
theorem mn_def (a b : Int) : mn a b = min a b := by unfold mn; omega
theorem fuel {n k : Nat} (h : n < k) : ∃ m, k = m + 1 ∧ n ≤ m := ⟨k - 1, by omega, by omega⟩
theorem gcd_tmod (a b : Int) : Int.gcd b (Int.tmod a b) = Int.gcd a b := by
  unfold Int.gcd
  rw [Int.natAbs_tmod, Nat.gcd_comm, ← Nat.gcd_rec, Nat.gcd_comm]
theorem tmod_lt (a : Int) {b : Int} (h : b ≠ 0) : (Int.tmod a b).natAbs < b.natAbs := by
  rw [Int.natAbs_tmod]
  exact Nat.mod_lt _ (by omega)
theorem drop_rd {l : List Int} {i : Nat} (h : i < l.length) : l.drop i = rd l (i : Int) :: l.drop (i + 1) := by
  rw [List.drop_eq_getElem_cons h]
  simp [rd, List.getD, List.getElem?_eq_getElem h]
theorem rd_get {l : List Int} {i : Nat} (h : i < l.length) : rd l (i : Int) = l[i] := by simp [rd, List.getD, List.getElem?_eq_getElem h]
theorem up_one {i n : Nat} (h : i < n) (hn : n ≤ 9223372036854775807) : wrap64 ((i : Int) + 1) = ((i + 1 : Nat) : Int) := by rw [w64 (by omega) (by omega)]; omega
theorem rd_mem {l : List Int} {i : Nat} (h : i < l.length) : rd l (i : Int) ∈ l := by rw [rd_get h]; exact List.getElem_mem h
theorem maxLen_le {n : Nat} (h : n ≤ maxLen) : (n : Int) ≤ 9223372036854775807 := by unfold maxLen at h; omega

def scaleG (l : List Int) (s : Int) (n : Nat) : Prop := (∀ x ∈ l, 1 ≤ x ∧ x ≤ 20) ∧ (1 ≤ (n : Int) ∧ (n : Int) ≤ 12) ∧ s + l.sum ≤ 60
theorem scaleG_cons (a : Int) (l : List Int) (s : Int) (n : Nat) : scaleG (a :: l) s n ↔ (1 ≤ a ∧ a ≤ 20) ∧ scaleG l (s + a) n := by
  unfold scaleG
  simp only [List.mem_cons, forall_eq_or_imp, List.sum_cons]
  constructor
  · rintro ⟨⟨h1, h2⟩, h3, h4⟩; exact ⟨h1, h2, h3, by omega⟩
  · rintro ⟨h1, h2, h3, h4⟩; exact ⟨⟨h1, h2⟩, h3, by omega⟩
instance (l : List Int) (s : Int) (n : Nat) : Decidable (scaleG l s n) := by unfold scaleG; infer_instance
/-- A valid scale. -/
def scaleB (l : List Int) : Prop := scaleG l 0 l.length
instance (l : List Int) : Decidable (scaleB l) := by unfold scaleB; infer_instance
theorem scaleB_len {l : List Int} (h : scaleB l) : 1 ≤ l.length ∧ l.length ≤ 12 := by have := h.2.1; omega
theorem scaleB_rd {l : List Int} (h : scaleB l) {i : Nat} (hi : i < l.length) : 1 ≤ rd l (i : Int) ∧ rd l (i : Int) ≤ 20 := h.1 _ (rd_mem hi)

theorem laws_eqIntS_l0 (d : Nat) : ∀ (k : Nat) (l x : List Int) (i : Nat), i + d = l.length → d < k → l.length ≤ 35184372088832 → x.length = l.length →
    laws_eqIntS.l0 k l x (i : Int) = some (decide (l.drop i = x.drop i)) := by
  induction d with
  | zero =>
    intro k l x i hi hk hn hx
    obtain ⟨k, rfl⟩ : ∃ m, k = m + 1 := ⟨k - 1, by omega⟩
    simp only [laws_eqIntS.l0]
    rw [if_neg (by omega), List.drop_eq_nil_of_le (by omega), List.drop_eq_nil_of_le (by omega)]
    simp
  | succ d ih =>
    intro k l x i hi hk hn hx
    obtain ⟨k, rfl⟩ : ∃ m, k = m + 1 := ⟨k - 1, by omega⟩
    simp only [laws_eqIntS.l0]
    rw [if_pos (by omega), if_pos (by omega), if_pos (by omega), up_one (n := l.length) (by omega) (by omega), ih k l x (i + 1) (by omega) (by omega) hn hx,
      drop_rd (l := l) (i := i) (by omega), drop_rd (l := x) (i := i) (by omega)]
    by_cases h : rd l (i : Int) = rd x (i : Int)
    · rw [if_pos h]; simp [h]
    · rw [if_neg h]; simp [h]
theorem laws_eqIntS_eq {k : Nat} {l x : List Int} (hk : l.length < k) (hn : l.length ≤ 35184372088832) : laws_eqIntS.f k l x = some (decide (l = x)) := by
  unfold laws_eqIntS.f
  by_cases h : x.length = l.length
  · rw [if_pos (by omega)]
    exact laws_eqIntS_l0 l.length k l x 0 (by omega) hk hn h
  · rw [if_neg (by omega)]
    have : l ≠ x := fun e => h (by rw [e])
    simp [this]

theorem laws_eqScale_eq {k : Nat} {l x : List Int} (hk : l.length < k) (hn : l.length ≤ 35184372088832) : laws_eqScale.f k l x = some (decide (l = x)) := by
  unfold laws_eqScale.f
  rw [laws_eqIntS_eq hk hn]
  by_cases h : l = x <;> simp [h]

theorem laws_markIntS_l0 (d : Nat) : ∀ (k : Nat) (x : List Int) (a : Int) (i : Nat), i + d = x.length → d < k → x.length ≤ 35184372088832 → 0 ≤ a → a + d ≤ 9000000000000000000 →
    ∃ y : List Int, laws_markIntS.l0 k x a (i : Int) = some (a + d, y) ∧ y.length = x.length ∧ (∀ j, j < i → y[j]? = x[j]?) ∧ (∀ j, i ≤ j → j < x.length → y[j]? = some (a + (j - i : Int))) := by
  induction d with
  | zero =>
    intro k x a i hi hk hn ha hb
    obtain ⟨k, rfl⟩ : ∃ m, k = m + 1 := ⟨k - 1, by omega⟩
    simp only [laws_markIntS.l0]
    rw [if_neg (by omega)]
    exact ⟨x, by simp, rfl, fun _ _ => rfl, fun j h1 h2 => by omega⟩
  | succ d ih =>
    intro k x a i hi hk hn ha hb
    obtain ⟨k, rfl⟩ : ∃ m, k = m + 1 := ⟨k - 1, by omega⟩
    simp only [laws_markIntS.l0]
    rw [if_pos (by omega), if_pos (by omega), up_one (n := x.length) (by omega) (by omega), w64 (x := a + 1) (by omega) (by omega)]
    obtain ⟨y, h1, h2, h3, h4⟩ := ih k (x.set (i : Int).toNat a) (a + 1) (i + 1) (by simpa using (by omega : i + 1 + d = x.length)) (by omega) (by simpa using hn) (by omega) (by omega)
    refine ⟨y, by rw [h1]; exact congrArg some (Prod.ext (by simp; omega) rfl), by simpa using h2, fun j hj => ?_, fun j hj hj2 => ?_⟩
    · rw [h3 j (by omega), Int.toNat_natCast, List.getElem?_set, if_neg (by omega)]
    · by_cases e : j = i
      · subst e
        rw [h3 j (by omega), Int.toNat_natCast, List.getElem?_set, if_pos rfl, if_pos (by omega)]
        exact congrArg some (by omega)
      · rw [h4 j (by omega) (by simpa using hj2)]
        exact congrArg some (by omega)

theorem laws_heldIntS_l0 (d : Nat) : ∀ (k : Nat) (x : List Int) (a : Int) (i : Nat), i + d = x.length → d < k → x.length ≤ 35184372088832 → 0 ≤ a → a + d ≤ 9000000000000000000 →
    (∀ j, i ≤ j → j < x.length → x[j]? = some (a + (j - i : Int))) → laws_heldIntS.l0 k x a (i : Int) = some (a + d) := by
  induction d with
  | zero =>
    intro k x a i hi hk hn ha hb hx
    obtain ⟨k, rfl⟩ : ∃ m, k = m + 1 := ⟨k - 1, by omega⟩
    simp only [laws_heldIntS.l0]
    rw [if_neg (by omega)]
    simp
  | succ d ih =>
    intro k x a i hi hk hn ha hb hx
    obtain ⟨k, rfl⟩ : ∃ m, k = m + 1 := ⟨k - 1, by omega⟩
    simp only [laws_heldIntS.l0]
    have e := hx i (Nat.le_refl _) (by omega)
    have e2 : rd x (i : Int) = a := by
      rw [rd_get (by omega)]
      rw [List.getElem?_eq_getElem (by omega)] at e
      have := Option.some.inj e
      omega
    rw [if_pos (by omega), if_pos (by omega), if_pos e2, up_one (n := x.length) (by omega) (by omega), w64 (x := a + 1) (by omega) (by omega),
      ih k x (a + 1) (i + 1) (by omega) (by omega) hn (by omega) (by omega) (fun j h1 h2 => by rw [hx j (by omega) h2]; exact congrArg some (by omega))]
    exact congrArg some (by omega)
/-- What is marked is held. -/
theorem mark_held (l : List Int) (hn : l.length ≤ 35184372088832) : ∃ y : List Int, ∀ k, l.length < k → laws_markIntS.f k l 1 = some (1 + (l.length : Int), y) ∧ laws_heldIntS.f k y 1 = some (1 + (l.length : Int)) := by
  obtain ⟨y, h1, h2, _, h4⟩ := laws_markIntS_l0 l.length (l.length + 1) l 1 0 (by omega) (by omega) hn (by omega) (by omega)
  refine ⟨y, fun k hk => ⟨at_rounds (laws_markIntS.mono l 1) (Nat.succ_le_of_lt hk) h1, ?_⟩⟩
  have := laws_heldIntS_l0 l.length k y 1 0 (by omega) hk (by omega) (by omega) (by omega) (fun j hj hj2 => h4 j hj (by omega))
  exact this

/-- What is marked in a scale is held. -/
theorem mark_heldS (l : List Int) (hn : l.length ≤ 35184372088832) : ∃ y : List Int, ∀ k, l.length < k → laws_markScale.f k l 1 = some (1 + (l.length : Int), y) ∧ laws_heldScale.f k y 1 = some (1 + (l.length : Int)) := by
  obtain ⟨y, hy⟩ := mark_held l hn
  refine ⟨y, fun k hk => ⟨?_, ?_⟩⟩
  · unfold laws_markScale.f
    rw [(hy k hk).1]
    rfl
  · unfold laws_heldScale.f
    rw [(hy k hk).2]
    simp only [Option.bind_some]
    rw [if_neg (by omega)]

theorem laws_szIntS_eq {l : List Int} (h : l.length ≤ maxLen) : laws_szIntS.f l 1048576 = some (if 1048576 < l.length then -1 else 1048576 - (l.length : Int)) := by
  have h2 := maxLen_le h
  unfold laws_szIntS.f
  rw [w64 (by omega) (by omega)]
  by_cases c : 1048576 < l.length
  · rw [if_pos c, if_pos (by omega)]
  · rw [if_neg c, if_neg (by omega)]

theorem laws_szScale_eq {l : List Int} (h : l.length ≤ maxLen) : laws_szScale.f l 1048576 = some (if 1048576 < l.length then -1 else 1048576 - (l.length : Int)) := by
  unfold laws_szScale.f
  rw [laws_szIntS_eq h]
  simp only [Option.bind_some]
  by_cases c : 1048576 < l.length
  · rw [if_pos c, if_pos (by omega)]
  · rw [if_neg c, if_neg (by omega)]

theorem laws_toIntS_l0 (d : Nat) : ∀ (k : Nat) (l x : List Int) (i : Nat), i + d = l.length → d < k → l.length ≤ 35184372088832 → x.length = l.length → (∀ j, j < i → x[j]? = l[j]?) →
    laws_toIntS.l0 k l x (i : Int) = some l := by
  induction d with
  | zero =>
    intro k l x i hi hk hn hx he
    obtain ⟨k, rfl⟩ : ∃ m, k = m + 1 := ⟨k - 1, by omega⟩
    simp only [laws_toIntS.l0]
    rw [if_neg (by omega)]
    refine congrArg some (List.ext_getElem? fun j => ?_)
    by_cases hj : j < i
    · exact he j hj
    · rw [List.getElem?_eq_none (by omega), List.getElem?_eq_none (by omega)]
  | succ d ih =>
    intro k l x i hi hk hn hx he
    obtain ⟨k, rfl⟩ : ∃ m, k = m + 1 := ⟨k - 1, by omega⟩
    simp only [laws_toIntS.l0]
    rw [if_pos (by omega), if_pos (by omega), if_pos (by omega), up_one (n := l.length) (by omega) (by omega)]
    refine ih k l _ (i + 1) (by omega) (by omega) hn (by simpa using hx) fun j hj => ?_
    rw [Int.toNat_natCast, List.getElem?_set]
    by_cases hji : i = j
    · subst hji
      rw [if_pos rfl, if_pos (by omega), rd_get (by omega), List.getElem?_eq_getElem (by omega)]
    · rw [if_neg hji]
      exact he j (by omega)
theorem laws_toIntS_eq {k : Nat} {l : List Int} (hk : l.length < k) (hn : l.length ≤ 35184372088832) : laws_toIntS.f k l = some l := by
  unfold laws_toIntS.f
  rw [if_pos (by omega), if_pos (by simpa using hn)]
  exact laws_toIntS_l0 l.length k l _ 0 (by omega) hk hn (by simp) (fun j hj => absurd hj (by omega))

theorem laws_toScale_eq {k : Nat} {l : List Int} (hk : l.length < k) (hn : l.length ≤ 35184372088832) : laws_toScale.f k l = some l := by
  unfold laws_toScale.f
  rw [laws_toIntS_eq hk hn]
  rfl

theorem spec_l01In_eq (a b c : Int) : spec_l01In.f a b c = some (decide (b ≤ a ∧ a ≤ c)) := by
  unfold spec_l01In.f; by_cases h : a ≥ b <;> by_cases h2 : a ≤ c <;> simp [h, h2]; all_goals omega

theorem spec_ScaleOk_l0 (d : Nat) : ∀ (k : Nat) (l : List Int) (s : Int) (i : Nat), i + d = l.length → d < k → l.length ≤ 1048576 → 0 ≤ s → s ≤ (20 * i : Int) →
    spec_ScaleOk.l0 k s (i : Int) l = some (decide (scaleG (l.drop i) s l.length)) := by
  induction d with
  | zero =>
    intro k l s i hi hk hn h1 h2
    obtain ⟨k, rfl⟩ : ∃ m, k = m + 1 := ⟨k - 1, by omega⟩
    simp only [spec_ScaleOk.l0, spec_l01In_eq]
    rw [if_neg (by omega), List.drop_eq_nil_of_le (by omega)]
    by_cases h : 1 ≤ (l.length : Int) ∧ (l.length : Int) ≤ 12
    · simp only [h, and_self, decide_true, if_true, Option.bind_some, scaleG, List.not_mem_nil, false_imp_iff, implies_true, true_and, List.sum_nil, Int.add_zero]
    · simp only [h, decide_false, Bool.false_eq_true, if_false, Option.bind_some, scaleG, false_and, and_false]
  | succ d ih =>
    intro k l s i hi hk hn h1 h2
    obtain ⟨k, rfl⟩ : ∃ m, k = m + 1 := ⟨k - 1, by omega⟩
    simp only [spec_ScaleOk.l0]
    have hlt : (i : Int) < (l.length : Int) := by omega
    have h0 : (0 : Int) ≤ (i : Int) := by omega
    simp only [hlt, h0, if_true, spec_l01In_eq, up_one (n := l.length) (show i < l.length by omega) (by omega)]
    rw [drop_rd (l := l) (i := i) (by omega)]
    simp only [Option.bind_some, decide_eq_true_eq, scaleG_cons]
    by_cases h : 1 ≤ rd l (i : Int) ∧ rd l (i : Int) ≤ 20
    · rw [if_pos h, w64 (by omega) (by omega), ih k l _ (i + 1) (by omega) (by omega) hn (by omega) (by omega)]
      simp [h]
    · rw [if_neg h]; simp [h]
theorem spec_ScaleOk_eq {k : Nat} {l : List Int} (hk : l.length < k) (hn : l.length ≤ 1048576) : spec_ScaleOk.f k l = some (decide (scaleB l)) := by
  unfold spec_ScaleOk.f scaleB
  exact spec_ScaleOk_l0 l.length k l 0 0 (by omega) hk hn (by omega) (by omega)

theorem spec_rev_step {l : List Int} {i : Nat} (h : i < l.length) : (l.drop (i + 1)).reverse ++ [rd l (i : Int)] = (l.drop i).reverse := by
  rw [drop_rd h, List.reverse_cons]
theorem spec_ReverseScale_l0 (i : Nat) : ∀ (k : Nat) (l : List Int), i ≤ l.length → i + l.length + 1 < k → scaleB l → spec_ReverseScale.l0 k ((i : Int) - 1) l ((l.drop i).reverse) = some l.reverse := by
  induction i with
  | zero =>
    intro k l hi hk hs
    obtain ⟨k, rfl⟩ : ∃ m, k = m + 1 := ⟨k - 1, by omega⟩
    simp only [spec_ReverseScale.l0]
    rw [if_neg (by omega)]
    simp
  | succ i ih =>
    intro k l hi hk hs
    obtain ⟨k, rfl⟩ : ∃ m, k = m + 1 := ⟨k - 1, by omega⟩
    have hl := scaleB_len hs
    have e : (((i + 1 : Nat) : Int) - 1) = (i : Int) := by omega
    simp only [spec_ReverseScale.l0]
    rw [e, if_pos (by omega), spec_ScaleOk_eq (by omega) (by omega)]
    simp only [Option.bind_some, hs, decide_true, if_true]
    rw [if_pos (by omega), if_pos (by omega), if_pos (by rw [List.length_reverse, List.length_drop]; omega), w64 (by omega) (by omega), spec_rev_step (by omega)]
    exact ih k l (by omega) (by omega) hs
theorem spec_ReverseScale_eq {k : Nat} {l : List Int} (hk : 2 * l.length + 1 < k) (hn : l.length ≤ 1048576) : spec_ReverseScale.f k l = some (if scaleB l then l.reverse else []) := by
  unfold spec_ReverseScale.f
  by_cases hs : scaleB l
  · have hl := scaleB_len hs
    rw [if_pos hs, w64 (by omega) (by omega)]
    have := spec_ReverseScale_l0 l.length k l (Nat.le_refl _) (by omega) hs
    simpa using this
  · rw [if_neg hs, w64 (by omega) (by omega)]
    obtain ⟨k, rfl⟩ : ∃ m, k = m + 1 := ⟨k - 1, by omega⟩
    simp only [spec_ReverseScale.l0]
    by_cases c : (l.length : Int) - 1 ≥ 0
    · rw [if_pos c, spec_ScaleOk_eq (by omega) hn]
      simp [hs]
    · rw [if_neg c]

theorem impl_within_eq (a b c : Int) : impl_within.f a b c = some (decide (b ≤ a ∧ a ≤ c)) := by
  unfold impl_within.f; by_cases h : b ≤ a <;> by_cases h2 : a ≤ c <;> simp [h, h2]

theorem impl_ScaleOk_l0 (d : Nat) : ∀ (k : Nat) (l : List Int) (s : Int) (i : Nat), i + d = l.length → d < k → l.length ≤ 1048576 → 0 ≤ s → s ≤ (20 * i : Int) →
    impl_ScaleOk.l0 k s l (l.length : Int) (i : Int) l = some (decide (scaleG (l.drop i) s l.length)) := by
  induction d with
  | zero =>
    intro k l s i hi hk hn h1 h2
    obtain ⟨k, rfl⟩ : ∃ m, k = m + 1 := ⟨k - 1, by omega⟩
    simp only [impl_ScaleOk.l0, impl_within_eq]
    rw [if_neg (by omega), List.drop_eq_nil_of_le (by omega)]
    by_cases h : 1 ≤ (l.length : Int) ∧ (l.length : Int) ≤ 12
    · simp only [h, and_self, decide_true, if_true, Option.bind_some, scaleG, List.not_mem_nil, false_imp_iff, implies_true, true_and, List.sum_nil, Int.add_zero]
    · simp only [h, decide_false, Bool.false_eq_true, if_false, Option.bind_some, scaleG, false_and, and_false]
  | succ d ih =>
    intro k l s i hi hk hn h1 h2
    obtain ⟨k, rfl⟩ : ∃ m, k = m + 1 := ⟨k - 1, by omega⟩
    simp only [impl_ScaleOk.l0]
    have hlt : (i : Int) < (l.length : Int) := by omega
    have h0 : (0 : Int) ≤ (i : Int) := by omega
    simp only [hlt, h0, if_true, impl_within_eq, up_one (n := l.length) (show i < l.length by omega) (by omega)]
    rw [drop_rd (l := l) (i := i) (by omega)]
    simp only [Option.bind_some, decide_eq_true_eq, scaleG_cons]
    by_cases h : 1 ≤ rd l (i : Int) ∧ rd l (i : Int) ≤ 20
    · rw [if_pos h, w64 (by omega) (by omega), ih k l _ (i + 1) (by omega) (by omega) hn (by omega) (by omega)]
      simp [h]
    · rw [if_neg h]; simp [h]
theorem impl_ScaleOk_eq {k : Nat} {l : List Int} (hk : l.length < k) (hn : l.length ≤ 1048576) : impl_ScaleOk.f k l = some (decide (scaleB l)) := by
  unfold impl_ScaleOk.f scaleB
  exact impl_ScaleOk_l0 l.length k l 0 0 (by omega) hk hn (by omega) (by omega)

def revF (l : List Int) : List Int := if scaleB l then l.reverse else []
theorem revF_len (l : List Int) : (revF l).length ≤ 12 := by
  unfold revF
  split
  · rename_i h; rw [List.length_reverse]; exact (scaleB_len h).2
  · simp
theorem rev_step {l : List Int} {i : Nat} (h : i < l.length) : (l.drop (i + 1)).reverse ++ [rd l (i : Int)] = (l.drop i).reverse := by
  rw [drop_rd h, List.reverse_cons]
theorem impl_ReverseScale_l0 (i : Nat) : ∀ (k : Nat) (l : List Int), i ≤ l.length → i < k → scaleB l → impl_ReverseScale.l0 k ((i : Int) - 1) l ((l.drop i).reverse) = some l.reverse := by
  induction i with
  | zero =>
    intro k l hi hk hs
    obtain ⟨k, rfl⟩ : ∃ m, k = m + 1 := ⟨k - 1, by omega⟩
    simp only [impl_ReverseScale.l0]
    rw [if_neg (by omega)]
    simp
  | succ i ih =>
    intro k l hi hk hs
    obtain ⟨k, rfl⟩ : ∃ m, k = m + 1 := ⟨k - 1, by omega⟩
    have hl := scaleB_len hs
    have e : (((i + 1 : Nat) : Int) - 1) = (i : Int) := by omega
    simp only [impl_ReverseScale.l0]
    rw [e, if_pos (by omega), if_pos (by omega), if_pos (by omega), if_pos (by rw [List.length_reverse, List.length_drop]; omega), w64 (by omega) (by omega), rev_step (by omega)]
    exact ih k l (by omega) (by omega) hs
theorem impl_ReverseScale_eq {k : Nat} {l : List Int} (hk : l.length < k) (hn : l.length ≤ 1048576) : impl_ReverseScale.f k l = some (revF l) := by
  unfold impl_ReverseScale.f revF
  rw [impl_ScaleOk_eq hk hn]
  simp only [Option.bind_some, decide_eq_true_eq]
  by_cases hs : scaleB l
  · have hl := scaleB_len hs
    rw [if_pos hs, if_pos hs, w64 (by omega) (by omega)]
    have := impl_ReverseScale_l0 l.length k l (Nat.le_refl _) hk hs
    simpa using this
  · rw [if_neg hs, if_neg hs]

/-- The law, over numbers and lists. -/
def laws_FnExactReverseScale.Pure : Prop := ∀ (l0_0 : List Int), l0_0.length ≤ maxLen → (∀ x ∈ l0_0, (Lit.int .i64 x).wf = true) → ∃ k, laws_FnExactReverseScale.f k l0_0 = some true
theorem FnExactReverseScale : laws_FnExactReverseScale.Pure := by
  intro l hm _
  refine ⟨2 * l.length + 21, ?_⟩
  unfold laws_FnExactReverseScale.f
  rw [laws_szScale_eq hm]
  simp only [Option.bind_some]
  by_cases c : 1048576 < l.length
  · rw [if_pos c, if_pos (by omega)]
  · have hl12 := revF_len l
    obtain ⟨y, hy⟩ := mark_heldS l (by omega)
    obtain ⟨z, hz⟩ := mark_heldS (revF l) (by omega)
    obtain ⟨m1, _⟩ := hy (2 * l.length + 21) (by omega)
    obtain ⟨n1, n2⟩ := hz (2 * l.length + 20) (by omega)
    rw [if_neg c, if_neg (by omega), laws_toScale_eq (by omega) (by omega)]
    simp only [Option.bind_some]
    rw [spec_ReverseScale_eq (by omega) (by omega), impl_ReverseScale_eq (by omega) (by omega)]
    rw [show (if scaleB l then l.reverse else []) = revF l from rfl]
    simp only [Option.bind_some]
    rw [laws_eqScale_eq (by omega) (by omega), laws_eqScale_eq (by omega) (by omega)]
    simp only [Option.bind_some, decide_true, if_true]
    rw [m1]
    simp only [Option.bind_some]
    rw [if_neg (by omega)]
    simp only [laws_FnExactReverseScale.j0, Bool.not_true, Bool.false_eq_true, if_false]
    rw [n1]
    simp only [Option.bind_some]
    rw [n2]
    simp only [Option.bind_some, if_true]
    rw [if_neg (by omega), laws_toScale_eq (by omega) (by omega)]
    simp only [Option.bind_some]
    rw [impl_ReverseScale_eq (by omega) (by omega)]
    simp only [Option.bind_some]
    rw [laws_eqScale_eq (by omega) (by omega)]
    simp only [Option.bind_some, decide_true, if_true]
    rw [if_neg (by omega)]

end Go.Proofs.Ytnihgkbmbddlaaa.Pure
