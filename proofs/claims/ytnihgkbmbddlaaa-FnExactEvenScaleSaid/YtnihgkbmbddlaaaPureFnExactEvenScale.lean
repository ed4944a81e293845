/- EvenScale of the program and of the reference answer alike, for all whole numbers, and the answer is new memory. No condition. -/
import Derived.Test.YtnihgkbmbddlaaaPFnExactEvenScalex1
import Derived.Test.YtnihgkbmbddlaaaPFnExactEvenScalex2
import Derived.Test.YtnihgkbmbddlaaaPFnExactEvenScalex3
import Derived.OpenShut
namespace Go.Proofs.Ytnihgkbmbddlaaa.Pure
open Go.RowKit Go.Proofs.Ytnihgkbmbddlaaa.PFnExactEvenScale Go.Proofs.YtnihgkbmbddlaaaW.PrintWords Go.Proofs.YtnihgkbmbddlaaaW.PrintLast Go.Proofs.YtnihgkbmbddlaaaW.PrintMore
set_option linter.unusedVariables false
set_option linter.unusedSimpArgs false
theorem w64 {x : Int} (h : -9223372036854775808 ≤ x) (h' : x ≤ 9223372036854775807) : wrap64 x = x := by unfold wrap64; omega
theorem wf64 {x : Int} (h : (Lit.int .i64 x).wf = true) : -9223372036854775808 ≤ x ∧ x ≤ 9223372036854775807 := by
  simp only [Lit.wf, IntKind.min, IntKind.max, IntKind.signed, IntKind.bits, Bool.and_eq_true, decide_eq_true_eq, if_true] at h
  omega
theorem wfu8 {x : Int} (h : (Lit.int .u8 x).wf = true) : 0 ≤ x ∧ x ≤ 255 := by
  simp [Lit.wf, IntKind.min, IntKind.max, IntKind.signed, IntKind.bits] at h
  omega
theorem mx_def (a b : Int) : mx a b = max a b := by unfold mx; omega
theorem mn_def (a b : Int) : mn a b = min a b := by unfold mn; omega
theorem fuel {n k : Nat} (h : n < k) : ∃ m, k = m + 1 ∧ n ≤ m := ⟨k - 1, by omega, by omega⟩
theorem gcd_tmod (a b : Int) : Int.gcd b (Int.tmod a b) = Int.gcd a b := by
  unfold Int.gcd
  rw [Int.natAbs_tmod, Nat.gcd_comm, ← Nat.gcd_rec, Nat.gcd_comm]
theorem tmod_lt (a : Int) {b : Int} (h : b ≠ 0) : (Int.tmod a b).natAbs < b.natAbs := by
  rw [Int.natAbs_tmod]
  exact Nat.mod_lt _ (by omega)
theorem drop_rd {l : List Int} {i : Nat} (h : i < l.length) : l.drop i = rd l (i : Int) :: l.drop (i + 1) := by
  rw [List.drop_eq_getElem_cons h]
  simp [rd, List.getD, List.getElem?_eq_getElem h]
theorem rd_get {l : List Int} {i : Nat} (h : i < l.length) : rd l (i : Int) = l[i] := by simp [rd, List.getD, List.getElem?_eq_getElem h]
theorem up_one {i n : Nat} (h : i < n) (hn : n ≤ 9223372036854775807) : wrap64 ((i : Int) + 1) = ((i + 1 : Nat) : Int) := by rw [w64 (by omega) (by omega)]; omega
theorem rd_mem {l : List Int} {i : Nat} (h : i < l.length) : rd l (i : Int) ∈ l := by rw [rd_get h]; exact List.getElem_mem h
theorem maxLen_le {n : Nat} (h : n ≤ maxLen) : (n : Int) ≤ 9223372036854775807 := by unfold maxLen at h; omega

def scaleG (l : List Int) (s : Int) (n : Nat) : Prop := (∀ x ∈ l, 1 ≤ x ∧ x ≤ 20) ∧ (1 ≤ (n : Int) ∧ (n : Int) ≤ 12) ∧ s + l.sum ≤ 60
theorem scaleG_cons (a : Int) (l : List Int) (s : Int) (n : Nat) : scaleG (a :: l) s n ↔ (1 ≤ a ∧ a ≤ 20) ∧ scaleG l (s + a) n := by
  unfold scaleG
  simp only [List.mem_cons, forall_eq_or_imp, List.sum_cons]
  constructor
  · rintro ⟨⟨h1, h2⟩, h3, h4⟩; exact ⟨h1, h2, h3, by omega⟩
  · rintro ⟨h1, h2, h3, h4⟩; exact ⟨⟨h1, h2⟩, h3, by omega⟩
instance (l : List Int) (s : Int) (n : Nat) : Decidable (scaleG l s n) := by unfold scaleG; infer_instance
/-- A valid scale. -/
def scaleB (l : List Int) : Prop := scaleG l 0 l.length
instance (l : List Int) : Decidable (scaleB l) := by unfold scaleB; infer_instance
theorem scaleB_len {l : List Int} (h : scaleB l) : 1 ≤ l.length ∧ l.length ≤ 12 := by have := h.2.1; omega
theorem scaleB_rd {l : List Int} (h : scaleB l) {i : Nat} (hi : i < l.length) : 1 ≤ rd l (i : Int) ∧ rd l (i : Int) ≤ 20 := h.1 _ (rd_mem hi)

theorem laws_eqIntS_l0 (d : Nat) : ∀ (k : Nat) (l x : List Int) (i : Nat), i + d = l.length → d < k → l.length ≤ 35184372088832 → x.length = l.length →
    laws_eqIntS.l0 k l x (i : Int) = some (decide (l.drop i = x.drop i)) := by
  induction d with
  | zero =>
    intro k l x i hi hk hn hx
    obtain ⟨k, rfl⟩ : ∃ m, k = m + 1 := ⟨k - 1, by omega⟩
    simp only [laws_eqIntS.l0]
    rw [if_neg (by omega), List.drop_eq_nil_of_le (by omega), List.drop_eq_nil_of_le (by omega)]
    simp
  | succ d ih =>
    intro k l x i hi hk hn hx
    obtain ⟨k, rfl⟩ : ∃ m, k = m + 1 := ⟨k - 1, by omega⟩
    simp only [laws_eqIntS.l0]
    rw [if_pos (by omega), if_pos (by omega), if_pos (by omega), up_one (n := l.length) (by omega) (by omega), ih k l x (i + 1) (by omega) (by omega) hn hx,
      drop_rd (l := l) (i := i) (by omega), drop_rd (l := x) (i := i) (by omega)]
    by_cases h : rd l (i : Int) = rd x (i : Int)
    · rw [if_pos h]; simp [h]
    · rw [if_neg h]; simp [h]
theorem laws_eqIntS_eq {k : Nat} {l x : List Int} (hk : l.length < k) (hn : l.length ≤ 35184372088832) : laws_eqIntS.f k l x = some (decide (l = x)) := by
  unfold laws_eqIntS.f
  by_cases h : x.length = l.length
  · rw [if_pos (by omega)]
    exact laws_eqIntS_l0 l.length k l x 0 (by omega) hk hn h
  · rw [if_neg (by omega)]
    have : l ≠ x := fun e => h (by rw [e])
    simp [this]

theorem laws_eqScale_eq {k : Nat} {l x : List Int} (hk : l.length < k) (hn : l.length ≤ 35184372088832) : laws_eqScale.f k l x = some (decide (l = x)) := by
  unfold laws_eqScale.f
  rw [laws_eqIntS_eq hk hn]
  by_cases h : l = x <;> simp [h]

theorem laws_markIntS_l0 (d : Nat) : ∀ (k : Nat) (x : List Int) (a : Int) (i : Nat), i + d = x.length → d < k → x.length ≤ 35184372088832 → 0 ≤ a → a + d ≤ 9000000000000000000 →
    ∃ y : List Int, laws_markIntS.l0 k x a (i : Int) = some (a + d, y) ∧ y.length = x.length ∧ (∀ j, j < i → y[j]? = x[j]?) ∧ (∀ j, i ≤ j → j < x.length → y[j]? = some (a + (j - i : Int))) := by
  induction d with
  | zero =>
    intro k x a i hi hk hn ha hb
    obtain ⟨k, rfl⟩ : ∃ m, k = m + 1 := ⟨k - 1, by omega⟩
    simp only [laws_markIntS.l0]
    rw [if_neg (by omega)]
    exact ⟨x, by simp, rfl, fun _ _ => rfl, fun j h1 h2 => by omega⟩
  | succ d ih =>
    intro k x a i hi hk hn ha hb
    obtain ⟨k, rfl⟩ : ∃ m, k = m + 1 := ⟨k - 1, by omega⟩
    simp only [laws_markIntS.l0]
    rw [if_pos (by omega), if_pos (by omega), up_one (n := x.length) (by omega) (by omega), w64 (x := a + 1) (by omega) (by omega)]
    obtain ⟨y, h1, h2, h3, h4⟩ := ih k (x.set (i : Int).toNat a) (a + 1) (i + 1) (by simpa using (by omega : i + 1 + d = x.length)) (by omega) (by simpa using hn) (by omega) (by omega)
    refine ⟨y, by rw [h1]; exact congrArg some (Prod.ext (by simp; omega) rfl), by simpa using h2, fun j hj => ?_, fun j hj hj2 => ?_⟩
    · rw [h3 j (by omega), Int.toNat_natCast, List.getElem?_set, if_neg (by omega)]
    · by_cases e : j = i
      · subst e
        rw [h3 j (by omega), Int.toNat_natCast, List.getElem?_set, if_pos rfl, if_pos (by omega)]
        exact congrArg some (by omega)
      · rw [h4 j (by omega) (by simpa using hj2)]
        exact congrArg some (by omega)

theorem laws_heldIntS_l0 (d : Nat) : ∀ (k : Nat) (x : List Int) (a : Int) (i : Nat), i + d = x.length → d < k → x.length ≤ 35184372088832 → 0 ≤ a → a + d ≤ 9000000000000000000 →
    (∀ j, i ≤ j → j < x.length → x[j]? = some (a + (j - i : Int))) → laws_heldIntS.l0 k x a (i : Int) = some (a + d) := by
  induction d with
  | zero =>
    intro k x a i hi hk hn ha hb hx
    obtain ⟨k, rfl⟩ : ∃ m, k = m + 1 := ⟨k - 1, by omega⟩
    simp only [laws_heldIntS.l0]
    rw [if_neg (by omega)]
    simp
  | succ d ih =>
    intro k x a i hi hk hn ha hb hx
    obtain ⟨k, rfl⟩ : ∃ m, k = m + 1 := ⟨k - 1, by omega⟩
    simp only [laws_heldIntS.l0]
    have e := hx i (Nat.le_refl _) (by omega)
    have e2 : rd x (i : Int) = a := by
      rw [rd_get (by omega)]
      rw [List.getElem?_eq_getElem (by omega)] at e
      have := Option.some.inj e
      omega
    rw [if_pos (by omega), if_pos (by omega), if_pos e2, up_one (n := x.length) (by omega) (by omega), w64 (x := a + 1) (by omega) (by omega),
      ih k x (a + 1) (i + 1) (by omega) (by omega) hn (by omega) (by omega) (fun j h1 h2 => by rw [hx j (by omega) h2]; exact congrArg some (by omega))]
    exact congrArg some (by omega)
/-- What is marked is held. -/
theorem mark_held (l : List Int) (hn : l.length ≤ 35184372088832) : ∃ y : List Int, ∀ k, l.length < k → laws_markIntS.f k l 1 = some (1 + (l.length : Int), y) ∧ laws_heldIntS.f k y 1 = some (1 + (l.length : Int)) := by
  obtain ⟨y, h1, h2, _, h4⟩ := laws_markIntS_l0 l.length (l.length + 1) l 1 0 (by omega) (by omega) hn (by omega) (by omega)
  refine ⟨y, fun k hk => ⟨at_rounds (laws_markIntS.mono l 1) (Nat.succ_le_of_lt hk) h1, ?_⟩⟩
  have := laws_heldIntS_l0 l.length k y 1 0 (by omega) hk (by omega) (by omega) (by omega) (fun j hj hj2 => h4 j hj (by omega))
  exact this

/-- What is marked in a scale is held. -/
theorem mark_heldS (l : List Int) (hn : l.length ≤ 35184372088832) : ∃ y : List Int, ∀ k, l.length < k → laws_markScale.f k l 1 = some (1 + (l.length : Int), y) ∧ laws_heldScale.f k y 1 = some (1 + (l.length : Int)) := by
  obtain ⟨y, hy⟩ := mark_held l hn
  refine ⟨y, fun k hk => ⟨?_, ?_⟩⟩
  · unfold laws_markScale.f
    rw [(hy k hk).1]
    rfl
  · unfold laws_heldScale.f
    rw [(hy k hk).2]
    simp only [Option.bind_some]
    rw [if_neg (by omega)]

theorem spec_l01In_eq (a b c : Int) : spec_l01In.f a b c = some (decide (b ≤ a ∧ a ≤ c)) := by
  unfold spec_l01In.f; by_cases h : a ≥ b <;> by_cases h2 : a ≤ c <;> simp [h, h2]; all_goals omega

theorem spec_ScaleOk_l0 (d : Nat) : ∀ (k : Nat) (l : List Int) (s : Int) (i : Nat), i + d = l.length → d < k → l.length ≤ 1048576 → 0 ≤ s → s ≤ (20 * i : Int) →
    spec_ScaleOk.l0 k s (i : Int) l = some (decide (scaleG (l.drop i) s l.length)) := by
  induction d with
  | zero =>
    intro k l s i hi hk hn h1 h2
    obtain ⟨k, rfl⟩ : ∃ m, k = m + 1 := ⟨k - 1, by omega⟩
    simp only [spec_ScaleOk.l0, spec_l01In_eq]
    rw [if_neg (by omega), List.drop_eq_nil_of_le (by omega)]
    by_cases h : 1 ≤ (l.length : Int) ∧ (l.length : Int) ≤ 12
    · simp only [h, and_self, decide_true, if_true, Option.bind_some, scaleG, List.not_mem_nil, false_imp_iff, implies_true, true_and, List.sum_nil, Int.add_zero]
    · simp only [h, decide_false, Bool.false_eq_true, if_false, Option.bind_some, scaleG, false_and, and_false]
  | succ d ih =>
    intro k l s i hi hk hn h1 h2
    obtain ⟨k, rfl⟩ : ∃ m, k = m + 1 := ⟨k - 1, by omega⟩
    simp only [spec_ScaleOk.l0]
    have hlt : (i : Int) < (l.length : Int) := by omega
    have h0 : (0 : Int) ≤ (i : Int) := by omega
    simp only [hlt, h0, if_true, spec_l01In_eq, up_one (n := l.length) (show i < l.length by omega) (by omega)]
    rw [drop_rd (l := l) (i := i) (by omega)]
    simp only [Option.bind_some, decide_eq_true_eq, scaleG_cons]
    by_cases h : 1 ≤ rd l (i : Int) ∧ rd l (i : Int) ≤ 20
    · rw [if_pos h, w64 (by omega) (by omega), ih k l _ (i + 1) (by omega) (by omega) hn (by omega) (by omega)]
      simp [h]
    · rw [if_neg h]; simp [h]
theorem spec_ScaleOk_eq {k : Nat} {l : List Int} (hk : l.length < k) (hn : l.length ≤ 1048576) : spec_ScaleOk.f k l = some (decide (scaleB l)) := by
  unfold spec_ScaleOk.f scaleB
  exact spec_ScaleOk_l0 l.length k l 0 0 (by omega) hk hn (by omega) (by omega)

theorem impl_within_eq (a b c : Int) : impl_within.f a b c = some (decide (b ≤ a ∧ a ≤ c)) := by
  unfold impl_within.f; by_cases h : b ≤ a <;> by_cases h2 : a ≤ c <;> simp [h, h2]

def evenB (c s : Int) : Prop := (1 ≤ c ∧ c ≤ 12) ∧ (c ≤ s ∧ s ≤ 60)
instance (c s : Int) : Decidable (evenB c s) := by unfold evenB; infer_instance
theorem impl_EvenPlaces_none {k : Nat} {c s : Int} (h : ¬ evenB c s) (hk : 0 < k) : impl_EvenPlaces.f k c s = some [] := by
  obtain ⟨k, rfl⟩ : ∃ m, k = m + 1 := ⟨k - 1, by omega⟩
  unfold impl_EvenPlaces.f
  simp only [impl_within_eq, Option.bind_some, impl_EvenPlaces.j0, decide_eq_true_eq]
  unfold evenB at h
  by_cases h1 : 1 ≤ c ∧ c ≤ 12
  · have h2 : ¬ (c ≤ s ∧ s ≤ 60) := fun x => h ⟨h1, x⟩
    simp [h1, h2]
  · simp [h1]
theorem spec_EvenPlaces_none {k : Nat} {c s : Int} (h : ¬ evenB c s) (hk : 0 < k) : spec_EvenPlaces.f k c s = some [] := by
  obtain ⟨k, rfl⟩ : ∃ m, k = m + 1 := ⟨k - 1, by omega⟩
  unfold spec_EvenPlaces.f
  simp only [spec_l01In_eq, Option.bind_some, spec_EvenPlaces.l0, decide_eq_true_eq]
  unfold evenB at h
  by_cases h0 : 0 < c
  · rw [if_pos h0]
    by_cases h1 : 1 ≤ c ∧ c ≤ 12
    · have h2 : ¬ (c ≤ s ∧ s ≤ 60) := fun x => h ⟨h1, x⟩
      simp [h1, h2]
    · simp [h1]
  · rw [if_neg h0]
theorem evenB_cases {c s : Int} (h : evenB c s) (P : Int → Int → Prop) [∀ x y, Decidable (P x y)] (hP : (List.range 13).all (fun x => (List.range 61).all fun y => decide (evenB x y → P x y)) = true) : P c s := by
  have h' := h
  unfold evenB at h'
  have hx := List.all_eq_true.1 hP c.toNat (List.mem_range.2 (by omega))
  have hy := List.all_eq_true.1 hx s.toNat (List.mem_range.2 (by omega))
  have e1 : ((c.toNat : Nat) : Int) = c := by omega
  have e2 : ((s.toNat : Nat) : Int) = s := by omega
  rw [e1, e2] at hy
  exact of_decide_eq_true hy h

theorem evs_nil {k : Nat} (s : Int) (hk : 2 < k) : spec_EvenScale.l0 k s [] 0 [] = some [] ∧ impl_EvenScale.l0 k s [] [] (([] : List Int).length : Int) 0 [] = some [] := by
  obtain ⟨k, rfl⟩ : ∃ m, k = m + 1 := ⟨k - 1, by omega⟩
  constructor
  · simp only [spec_EvenScale.l0]
    rw [if_neg (by simp), spec_ScaleOk_eq (by simp; omega) (by simp)]
    have : ¬ scaleB ([] : List Int) := by decide
    simp [this]
  · simp only [impl_EvenScale.l0]
    rw [if_neg (by simp)]
set_option maxRecDepth 100000 in
theorem even_all : (List.range 13).all (fun x => (List.range 61).all fun y => decide (evenB x y → laws_FnExactEvenScale.f 40 x y = some true)) = true := by decide +kernel
theorem FnExactEvenScale : laws_FnExactEvenScale.Pure := by
  intro c s _ _
  by_cases h : evenB c s
  · exact ⟨40, evenB_cases h (fun x y => laws_FnExactEvenScale.f 40 x y = some true) even_all⟩
  · refine ⟨40, ?_⟩
    unfold laws_FnExactEvenScale.f impl_EvenScale.f spec_EvenScale.f
    rw [spec_EvenPlaces_none h (by omega), impl_EvenPlaces_none h (by omega)]
    simp only [Option.bind_some]
    rw [(evs_nil s (show 2 < 40 by omega)).1, (evs_nil s (show 2 < 40 by omega)).2]
    decide +kernel

end Go.Proofs.Ytnihgkbmbddlaaa.Pure
