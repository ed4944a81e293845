/- ScaleSum of the program and of the reference answer alike, for every scale, and leave it as it was. No condition. -/
import Derived.Test.YtnihgkbmbddlaaaPFnExactScaleSumx1
import Derived.Test.YtnihgkbmbddlaaaPFnExactScaleSumx2
import Derived.OpenShut
namespace Go.Proofs.Ytnihgkbmbddlaaa.Pure
open Go.RowKit Go.Proofs.Ytnihgkbmbddlaaa.PFnExactScaleSum Go.Proofs.YtnihgkbmbddlaaaW.PrintWords Go.Proofs.YtnihgkbmbddlaaaW.PrintLast Go.Proofs.YtnihgkbmbddlaaaW.PrintMore
set_option linter.unusedVariables false
set_option linter.unusedSimpArgs false
theorem w64 {x : Int} (h : -9223372036854775808 ≤ x) (h' : x ≤ 9223372036854775807) : wrap64 x = x := by unfold wrap64; omega
theorem wf64 {x : Int} (h : (Lit.int .i64 x).wf = true) : -9223372036854775808 ≤ x ∧ x ≤ 9223372036854775807 := by
  simp only [Lit.wf, IntKind.min, IntKind.max, IntKind.signed, IntKind.bits, Bool.and_eq_true, decide_eq_true_eq, if_true] at h
  omega
theorem wfu8 {x : Int} (h : (Lit.int .u8 x).wf = true) : 0 ≤ x ∧ x ≤ 255 := by
  simp [Lit.wf, IntKind.min, IntKind.max, IntKind.signed, IntKind.bits] at h
  omega
theorem mx_def (a b : Int) : mx a b = max a b := by unfold mx; omega
theorem mn_def (a b : Int) : mn a b = min a b := by unfold mn; omega
theorem fuel {n k : Nat} (h : n < k) : ∃ m, k = m + 1 ∧ n ≤ m := ⟨k - 1, by omega, by omega⟩
theorem gcd_tmod (a b : Int) : Int.gcd b (Int.tmod a b) = Int.gcd a b := by
  unfold Int.gcd
  rw [Int.natAbs_tmod, Nat.gcd_comm, ← Nat.gcd_rec, Nat.gcd_comm]
theorem tmod_lt (a : Int) {b : Int} (h : b ≠ 0) : (Int.tmod a b).natAbs < b.natAbs := by
  rw [Int.natAbs_tmod]
  exact Nat.mod_lt _ (by omega)
theorem drop_rd {l : List Int} {i : Nat} (h : i < l.length) : l.drop i = rd l (i : Int) :: l.drop (i + 1) := by
  rw [List.drop_eq_getElem_cons h]
  simp [rd, List.getD, List.getElem?_eq_getElem h]
theorem rd_get {l : List Int} {i : Nat} (h : i < l.length) : rd l (i : Int) = l[i] := by simp [rd, List.getD, List.getElem?_eq_getElem h]
theorem up_one {i n : Nat} (h : i < n) (hn : n ≤ 9223372036854775807) : wrap64 ((i : Int) + 1) = ((i + 1 : Nat) : Int) := by rw [w64 (by omega) (by omega)]; omega
theorem rd_mem {l : List Int} {i : Nat} (h : i < l.length) : rd l (i : Int) ∈ l := by rw [rd_get h]; exact List.getElem_mem h
theorem maxLen_le {n : Nat} (h : n ≤ maxLen) : (n : Int) ≤ 9223372036854775807 := by unfold maxLen at h; omega

def scaleG (l : List Int) (s : Int) (n : Nat) : Prop := (∀ x ∈ l, 1 ≤ x ∧ x ≤ 20) ∧ (1 ≤ (n : Int) ∧ (n : Int) ≤ 12) ∧ s + l.sum ≤ 60
theorem scaleG_cons (a : Int) (l : List Int) (s : Int) (n : Nat) : scaleG (a :: l) s n ↔ (1 ≤ a ∧ a ≤ 20) ∧ scaleG l (s + a) n := by
  unfold scaleG
  simp only [List.mem_cons, forall_eq_or_imp, List.sum_cons]
  constructor
  · rintro ⟨⟨h1, h2⟩, h3, h4⟩; exact ⟨h1, h2, h3, by omega⟩
  · rintro ⟨h1, h2, h3, h4⟩; exact ⟨⟨h1, h2⟩, h3, by omega⟩
instance (l : List Int) (s : Int) (n : Nat) : Decidable (scaleG l s n) := by unfold scaleG; infer_instance
/-- A valid scale. -/
def scaleB (l : List Int) : Prop := scaleG l 0 l.length
instance (l : List Int) : Decidable (scaleB l) := by unfold scaleB; infer_instance
theorem scaleB_len {l : List Int} (h : scaleB l) : 1 ≤ l.length ∧ l.length ≤ 12 := by have := h.2.1; omega
theorem scaleB_rd {l : List Int} (h : scaleB l) {i : Nat} (hi : i < l.length) : 1 ≤ rd l (i : Int) ∧ rd l (i : Int) ≤ 20 := h.1 _ (rd_mem hi)

/-- The sum of c steps from f on. -/
def spanF (l : List Int) (f : Int) : Nat → Int
  | 0 => 0
  | c + 1 => spanF l f c + rd l (Int.tmod (f + c) l.length)
theorem tmod_nat {f : Int} {n : Nat} (c : Nat) (h : 0 ≤ f) (hn : 1 ≤ n) : Int.tmod (f + c) n = (((f.toNat + c) % n : Nat) : Int) := by
  rw [Int.tmod_eq_emod_of_nonneg (by omega)]
  have : f + (c : Int) = ((f.toNat + c : Nat) : Int) := by omega
  rw [this]
  rfl
theorem spanF_rng {l : List Int} (h : scaleB l) {f : Int} (hf : 0 ≤ f) (c : Nat) : 0 ≤ spanF l f c ∧ spanF l f c ≤ 20 * (c : Int) := by
  have hl := scaleB_len h
  induction c with
  | zero => simp [spanF]
  | succ c ih =>
    simp only [spanF]
    rw [tmod_nat c hf hl.1]
    have := scaleB_rd h (i := (f.toNat + c) % l.length) (Nat.mod_lt _ (by omega))
    omega
def spanAtF (l : List Int) (f c : Int) : Int := if scaleB l ∧ (0 ≤ f ∧ f ≤ (l.length : Int) - 1) ∧ (0 ≤ c ∧ c ≤ (l.length : Int)) then spanF l f c.toNat else 0

theorem laws_eqIntS_l0 (d : Nat) : ∀ (k : Nat) (l x : List Int) (i : Nat), i + d = l.length → d < k → l.length ≤ 35184372088832 → x.length = l.length →
    laws_eqIntS.l0 k l x (i : Int) = some (decide (l.drop i = x.drop i)) := by
  induction d with
  | zero =>
    intro k l x i hi hk hn hx
    obtain ⟨k, rfl⟩ : ∃ m, k = m + 1 := ⟨k - 1, by omega⟩
    simp only [laws_eqIntS.l0]
    rw [if_neg (by omega), List.drop_eq_nil_of_le (by omega), List.drop_eq_nil_of_le (by omega)]
    simp
  | succ d ih =>
    intro k l x i hi hk hn hx
    obtain ⟨k, rfl⟩ : ∃ m, k = m + 1 := ⟨k - 1, by omega⟩
    simp only [laws_eqIntS.l0]
    rw [if_pos (by omega), if_pos (by omega), if_pos (by omega), up_one (n := l.length) (by omega) (by omega), ih k l x (i + 1) (by omega) (by omega) hn hx,
      drop_rd (l := l) (i := i) (by omega), drop_rd (l := x) (i := i) (by omega)]
    by_cases h : rd l (i : Int) = rd x (i : Int)
    · rw [if_pos h]; simp [h]
    · rw [if_neg h]; simp [h]
theorem laws_eqIntS_eq {k : Nat} {l x : List Int} (hk : l.length < k) (hn : l.length ≤ 35184372088832) : laws_eqIntS.f k l x = some (decide (l = x)) := by
  unfold laws_eqIntS.f
  by_cases h : x.length = l.length
  · rw [if_pos (by omega)]
    exact laws_eqIntS_l0 l.length k l x 0 (by omega) hk hn h
  · rw [if_neg (by omega)]
    have : l ≠ x := fun e => h (by rw [e])
    simp [this]

theorem laws_eqScale_eq {k : Nat} {l x : List Int} (hk : l.length < k) (hn : l.length ≤ 35184372088832) : laws_eqScale.f k l x = some (decide (l = x)) := by
  unfold laws_eqScale.f
  rw [laws_eqIntS_eq hk hn]
  by_cases h : l = x <;> simp [h]

theorem laws_szIntS_eq {l : List Int} (h : l.length ≤ maxLen) : laws_szIntS.f l 1048576 = some (if 1048576 < l.length then -1 else 1048576 - (l.length : Int)) := by
  have h2 := maxLen_le h
  unfold laws_szIntS.f
  rw [w64 (by omega) (by omega)]
  by_cases c : 1048576 < l.length
  · rw [if_pos c, if_pos (by omega)]
  · rw [if_neg c, if_neg (by omega)]

theorem laws_szScale_eq {l : List Int} (h : l.length ≤ maxLen) : laws_szScale.f l 1048576 = some (if 1048576 < l.length then -1 else 1048576 - (l.length : Int)) := by
  unfold laws_szScale.f
  rw [laws_szIntS_eq h]
  simp only [Option.bind_some]
  by_cases c : 1048576 < l.length
  · rw [if_pos c, if_pos (by omega)]
  · rw [if_neg c, if_neg (by omega)]

theorem laws_toIntS_l0 (d : Nat) : ∀ (k : Nat) (l x : List Int) (i : Nat), i + d = l.length → d < k → l.length ≤ 35184372088832 → x.length = l.length → (∀ j, j < i → x[j]? = l[j]?) →
    laws_toIntS.l0 k l x (i : Int) = some l := by
  induction d with
  | zero =>
    intro k l x i hi hk hn hx he
    obtain ⟨k, rfl⟩ : ∃ m, k = m + 1 := ⟨k - 1, by omega⟩
    simp only [laws_toIntS.l0]
    rw [if_neg (by omega)]
    refine congrArg some (List.ext_getElem? fun j => ?_)
    by_cases hj : j < i
    · exact he j hj
    · rw [List.getElem?_eq_none (by omega), List.getElem?_eq_none (by omega)]
  | succ d ih =>
    intro k l x i hi hk hn hx he
    obtain ⟨k, rfl⟩ : ∃ m, k = m + 1 := ⟨k - 1, by omega⟩
    simp only [laws_toIntS.l0]
    rw [if_pos (by omega), if_pos (by omega), if_pos (by omega), up_one (n := l.length) (by omega) (by omega)]
    refine ih k l _ (i + 1) (by omega) (by omega) hn (by simpa using hx) fun j hj => ?_
    rw [Int.toNat_natCast, List.getElem?_set]
    by_cases hji : i = j
    · subst hji
      rw [if_pos rfl, if_pos (by omega), rd_get (by omega), List.getElem?_eq_getElem (by omega)]
    · rw [if_neg hji]
      exact he j (by omega)
theorem laws_toIntS_eq {k : Nat} {l : List Int} (hk : l.length < k) (hn : l.length ≤ 35184372088832) : laws_toIntS.f k l = some l := by
  unfold laws_toIntS.f
  rw [if_pos (by omega), if_pos (by simpa using hn)]
  exact laws_toIntS_l0 l.length k l _ 0 (by omega) hk hn (by simp) (fun j hj => absurd hj (by omega))

theorem laws_toScale_eq {k : Nat} {l : List Int} (hk : l.length < k) (hn : l.length ≤ 35184372088832) : laws_toScale.f k l = some l := by
  unfold laws_toScale.f
  rw [laws_toIntS_eq hk hn]
  rfl

theorem spec_l01In_eq (a b c : Int) : spec_l01In.f a b c = some (decide (b ≤ a ∧ a ≤ c)) := by
  unfold spec_l01In.f; by_cases h : a ≥ b <;> by_cases h2 : a ≤ c <;> simp [h, h2]; all_goals omega

theorem spec_ScaleOk_l0 (d : Nat) : ∀ (k : Nat) (l : List Int) (s : Int) (i : Nat), i + d = l.length → d < k → l.length ≤ 1048576 → 0 ≤ s → s ≤ (20 * i : Int) →
    spec_ScaleOk.l0 k s (i : Int) l = some (decide (scaleG (l.drop i) s l.length)) := by
  induction d with
  | zero =>
    intro k l s i hi hk hn h1 h2
    obtain ⟨k, rfl⟩ : ∃ m, k = m + 1 := ⟨k - 1, by omega⟩
    simp only [spec_ScaleOk.l0, spec_l01In_eq]
    rw [if_neg (by omega), List.drop_eq_nil_of_le (by omega)]
    by_cases h : 1 ≤ (l.length : Int) ∧ (l.length : Int) ≤ 12
    · simp only [h, and_self, decide_true, if_true, Option.bind_some, scaleG, List.not_mem_nil, false_imp_iff, implies_true, true_and, List.sum_nil, Int.add_zero]
    · simp only [h, decide_false, Bool.false_eq_true, if_false, Option.bind_some, scaleG, false_and, and_false]
  | succ d ih =>
    intro k l s i hi hk hn h1 h2
    obtain ⟨k, rfl⟩ : ∃ m, k = m + 1 := ⟨k - 1, by omega⟩
    simp only [spec_ScaleOk.l0]
    have hlt : (i : Int) < (l.length : Int) := by omega
    have h0 : (0 : Int) ≤ (i : Int) := by omega
    simp only [hlt, h0, if_true, spec_l01In_eq, up_one (n := l.length) (show i < l.length by omega) (by omega)]
    rw [drop_rd (l := l) (i := i) (by omega)]
    simp only [Option.bind_some, decide_eq_true_eq, scaleG_cons]
    by_cases h : 1 ≤ rd l (i : Int) ∧ rd l (i : Int) ≤ 20
    · rw [if_pos h, w64 (by omega) (by omega), ih k l _ (i + 1) (by omega) (by omega) hn (by omega) (by omega)]
      simp [h]
    · rw [if_neg h]; simp [h]
theorem spec_ScaleOk_eq {k : Nat} {l : List Int} (hk : l.length < k) (hn : l.length ≤ 1048576) : spec_ScaleOk.f k l = some (decide (scaleB l)) := by
  unfold spec_ScaleOk.f scaleB
  exact spec_ScaleOk_l0 l.length k l 0 0 (by omega) hk hn (by omega) (by omega)

theorem spec_ScaleSum_l0 (d : Nat) : ∀ (k : Nat) (l : List Int) (s : Int) (i : Nat), i + d = l.length → d + l.length + 1 < k → scaleB l → 0 ≤ s → s ≤ 20 * (i : Int) → spec_ScaleSum.l0 k s (i : Int) l = some (s + (l.drop i).sum) := by
  induction d with
  | zero =>
    intro k l s i hi hk h h1 h2
    obtain ⟨k, rfl⟩ : ∃ m, k = m + 1 := ⟨k - 1, by omega⟩
    simp only [spec_ScaleSum.l0]
    rw [if_neg (by omega), List.drop_eq_nil_of_le (by omega)]
    simp
  | succ d ih =>
    intro k l s i hi hk h h1 h2
    obtain ⟨k, rfl⟩ : ∃ m, k = m + 1 := ⟨k - 1, by omega⟩
    have hl := scaleB_len h
    have hr := scaleB_rd h (i := i) (by omega)
    simp only [spec_ScaleSum.l0]
    rw [if_pos (by omega), spec_ScaleOk_eq (by omega) (by omega), if_pos (show (0 : Int) ≤ i by omega), up_one (n := 12) (by omega) (by omega), w64 (by omega) (by omega)]
    simp only [Option.bind_some, decide_eq_true_eq, h, if_true]
    rw [ih k l _ (i + 1) (by omega) (by omega) h (by omega) (by omega), drop_rd (l := l) (i := i) (by omega)]
    simp only [List.sum_cons]
    exact congrArg some (by omega)
theorem spec_ScaleSum_eq {k : Nat} {l : List Int} (hk : 2 * l.length + 1 < k) (hn : l.length ≤ 1048576) : spec_ScaleSum.f k l = some (if scaleB l then l.sum else 0) := by
  unfold spec_ScaleSum.f
  by_cases h : scaleB l
  · rw [if_pos h]
    have := spec_ScaleSum_l0 l.length k l 0 0 (by omega) (by omega) h (by omega) (by omega)
    simpa using this
  · rw [if_neg h]
    obtain ⟨k, rfl⟩ : ∃ m, k = m + 1 := ⟨k - 1, by omega⟩
    simp only [spec_ScaleSum.l0]
    by_cases c : (0 : Int) < (l.length : Int)
    · rw [if_pos c, spec_ScaleOk_eq (by omega) hn]
      simp [h]
    · rw [if_neg c]

theorem impl_within_eq (a b c : Int) : impl_within.f a b c = some (decide (b ≤ a ∧ a ≤ c)) := by
  unfold impl_within.f; by_cases h : b ≤ a <;> by_cases h2 : a ≤ c <;> simp [h, h2]

theorem impl_ScaleOk_l0 (d : Nat) : ∀ (k : Nat) (l : List Int) (s : Int) (i : Nat), i + d = l.length → d < k → l.length ≤ 1048576 → 0 ≤ s → s ≤ (20 * i : Int) →
    impl_ScaleOk.l0 k s l (l.length : Int) (i : Int) l = some (decide (scaleG (l.drop i) s l.length)) := by
  induction d with
  | zero =>
    intro k l s i hi hk hn h1 h2
    obtain ⟨k, rfl⟩ : ∃ m, k = m + 1 := ⟨k - 1, by omega⟩
    simp only [impl_ScaleOk.l0, impl_within_eq]
    rw [if_neg (by omega), List.drop_eq_nil_of_le (by omega)]
    by_cases h : 1 ≤ (l.length : Int) ∧ (l.length : Int) ≤ 12
    · simp only [h, and_self, decide_true, if_true, Option.bind_some, scaleG, List.not_mem_nil, false_imp_iff, implies_true, true_and, List.sum_nil, Int.add_zero]
    · simp only [h, decide_false, Bool.false_eq_true, if_false, Option.bind_some, scaleG, false_and, and_false]
  | succ d ih =>
    intro k l s i hi hk hn h1 h2
    obtain ⟨k, rfl⟩ : ∃ m, k = m + 1 := ⟨k - 1, by omega⟩
    simp only [impl_ScaleOk.l0]
    have hlt : (i : Int) < (l.length : Int) := by omega
    have h0 : (0 : Int) ≤ (i : Int) := by omega
    simp only [hlt, h0, if_true, impl_within_eq, up_one (n := l.length) (show i < l.length by omega) (by omega)]
    rw [drop_rd (l := l) (i := i) (by omega)]
    simp only [Option.bind_some, decide_eq_true_eq, scaleG_cons]
    by_cases h : 1 ≤ rd l (i : Int) ∧ rd l (i : Int) ≤ 20
    · rw [if_pos h, w64 (by omega) (by omega), ih k l _ (i + 1) (by omega) (by omega) hn (by omega) (by omega)]
      simp [h]
    · rw [if_neg h]; simp [h]
theorem impl_ScaleOk_eq {k : Nat} {l : List Int} (hk : l.length < k) (hn : l.length ≤ 1048576) : impl_ScaleOk.f k l = some (decide (scaleB l)) := by
  unfold impl_ScaleOk.f scaleB
  exact impl_ScaleOk_l0 l.length k l 0 0 (by omega) hk hn (by omega) (by omega)

theorem impl_SpanAt_l0 (d : Nat) : ∀ (k : Nat) (l : List Int) (f : Int) (c i : Nat), i + d = c → d < k → scaleB l → 0 ≤ f → f ≤ (l.length : Int) - 1 → c ≤ l.length →
    impl_SpanAt.l0 k f (c : Int) (spanF l f i) (i : Int) l = some (spanF l f c) := by
  induction d with
  | zero =>
    intro k l f c i hi hk hs h0 h1 hc
    obtain ⟨k, rfl⟩ : ∃ m, k = m + 1 := ⟨k - 1, by omega⟩
    simp only [impl_SpanAt.l0]
    obtain rfl : i = c := by omega
    rw [if_neg (by omega)]
  | succ d ih =>
    intro k l f c i hi hk hs h0 h1 hc
    obtain ⟨k, rfl⟩ : ∃ m, k = m + 1 := ⟨k - 1, by omega⟩
    have hl := scaleB_len hs
    have e := tmod_nat (f := f) (n := l.length) i h0 hl.1
    have hm : (f.toNat + i) % l.length < l.length := Nat.mod_lt _ (by omega)
    have hr := scaleB_rd hs hm
    have hsp := spanF_rng hs h0 i
    simp only [impl_SpanAt.l0]
    rw [if_pos (by omega), if_neg (by omega), w64 (x := f + (i : Int)) (by omega) (by omega), e, if_pos (by omega), if_pos (by omega), up_one (n := 12) (by omega) (by omega), w64 (by omega) (by omega)]
    rw [← ih k l f c (i + 1) (by omega) (by omega) hs h0 h1 hc]
    simp only [spanF, e]
theorem impl_SpanAt_eq {k : Nat} {l : List Int} (f c : Int) (hk : l.length + 20 < k) (hn : l.length ≤ 1048576) : impl_SpanAt.f k l f c = some (spanAtF l f c) := by
  obtain ⟨k, rfl⟩ : ∃ m, k = m + 1 := ⟨k - 1, by omega⟩
  unfold impl_SpanAt.f spanAtF
  rw [impl_ScaleOk_eq (by omega) hn]
  simp only [Option.bind_some, impl_within_eq, impl_SpanAt.j0, decide_eq_true_eq]
  by_cases hs : scaleB l
  · have hl := scaleB_len hs
    rw [w64 (x := (l.length : Int) - 1) (by omega) (by omega)]
    by_cases h1 : 0 ≤ f ∧ f ≤ (l.length : Int) - 1
    · by_cases h2 : 0 ≤ c ∧ c ≤ (l.length : Int)
      · have := impl_SpanAt_l0 c.toNat k l f c.toNat 0 (by omega) (by omega) hs h1.1 h1.2 (by omega)
        rw [show ((c.toNat : Nat) : Int) = c by omega] at this
        simp only [spanF] at this
        simp only [hs, h1, h2, and_self, if_true, decide_true, Bool.not_true, Bool.false_eq_true, if_false]
        exact this
      · simp [hs, h1, h2]
    · simp [hs, h1]
  · simp [hs]

theorem spanF_all_aux {l : List Int} (h : scaleB l) (c : Nat) (hc : c ≤ l.length) : spanF l 0 c = (l.take c).sum := by
  have hl := scaleB_len h
  induction c with
  | zero => simp [spanF]
  | succ c ih =>
    simp only [spanF]
    rw [ih (by omega), tmod_nat c (by omega) hl.1]
    have e : ((0 : Int).toNat + c) % l.length = c := by
      rw [show (0 : Int).toNat + c = c by omega]
      exact Nat.mod_eq_of_lt (by omega)
    rw [e, rd_get (by omega), List.take_succ_eq_append_getElem (by omega), List.sum_append]
    simp
theorem spanF_all {l : List Int} (h : scaleB l) : spanF l 0 l.length = l.sum := by
  rw [spanF_all_aux h l.length (Nat.le_refl _), List.take_length]
theorem impl_ScaleSum_eq {k : Nat} {l : List Int} (hk : l.length + 20 < k) (hn : l.length ≤ 1048576) : impl_ScaleSum.f k l = some (if scaleB l then l.sum else 0) := by
  unfold impl_ScaleSum.f
  rw [impl_ScaleOk_eq (by omega) hn, impl_SpanAt_eq 0 _ hk hn]
  simp only [Option.bind_some, decide_eq_true_eq]
  by_cases h : scaleB l
  · have hl := scaleB_len h
    rw [if_pos h, if_pos h]
    unfold spanAtF
    rw [if_pos ⟨h, ⟨by omega, by omega⟩, ⟨by omega, by omega⟩⟩, Int.toNat_natCast, spanF_all h]
  · rw [if_neg h, if_neg h]

/-- The law, over numbers and lists. -/
def laws_FnExactScaleSum.Pure : Prop := ∀ (l0_0 : List Int), l0_0.length ≤ maxLen → (∀ x ∈ l0_0, (Lit.int .i64 x).wf = true) → ∃ k, laws_FnExactScaleSum.f k l0_0 = some true
theorem FnExactScaleSum : laws_FnExactScaleSum.Pure := by
  intro l hm _
  refine ⟨2 * l.length + 21, ?_⟩
  unfold laws_FnExactScaleSum.f
  rw [laws_szScale_eq hm]
  simp only [Option.bind_some]
  by_cases c : 1048576 < l.length
  · rw [if_pos c, if_pos (by omega)]
  · rw [if_neg c, if_neg (by omega), laws_toScale_eq (by omega) (by omega)]
    simp only [Option.bind_some]
    rw [spec_ScaleSum_eq (by omega) (by omega), impl_ScaleSum_eq (by omega) (by omega)]
    simp only [Option.bind_some]
    rw [laws_eqScale_eq (by omega) (by omega)]
    simp

end Go.Proofs.Ytnihgkbmbddlaaa.Pure
