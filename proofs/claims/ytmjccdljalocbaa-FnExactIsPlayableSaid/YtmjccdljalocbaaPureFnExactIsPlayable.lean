/- IsPlayable of the program and of the reference answer alike, for every keyboard and note, and leave the keyboard as it was. No condition. -/
import Derived.Test.YtmjccdljalocbaaPFnExactIsPlayablex1
import Derived.Test.YtmjccdljalocbaaPFnExactIsPlayablex2
import Derived.Test.YtmjccdljalocbaaPFnExactIsPlayablex3
import Derived.OpenShut
namespace Go.Proofs.Ytmjccdljalocbaa.Pure
open Go.RowKit Go.Proofs.Ytmjccdljalocbaa.PFnExactIsPlayable Go.Proofs.YtmjccdljalocbaaW.PrintWords Go.Proofs.YtmjccdljalocbaaW.PrintLast Go.Proofs.YtmjccdljalocbaaW.PrintMore
set_option linter.unusedVariables false
set_option linter.unusedSimpArgs false
theorem w64 {x : Int} (h : -9223372036854775808 ≤ x) (h' : x ≤ 9223372036854775807) : wrap64 x = x := by unfold wrap64; omega
theorem wf64 {x : Int} (h : (Lit.int .i64 x).wf = true) : -9223372036854775808 ≤ x ∧ x ≤ 9223372036854775807 := by
  simp only [Lit.wf, IntKind.min, IntKind.max, IntKind.signed, IntKind.bits, Bool.and_eq_true, decide_eq_true_eq, if_true] at h
  omega
theorem wfu8 {x : Int} (h : (Lit.int .u8 x).wf = true) : 0 ≤ x ∧ x ≤ 255 := by
  simp [Lit.wf, IntKind.min, IntKind.max, IntKind.signed, IntKind.bits] at h
  omega
theorem mx_def (a b : Int) : mx a b = max a b := by unfold mx; omega
theorem mn_def (a b : Int) : mn a b = min a b := by unfold mn; omega
theorem fuel {n k : Nat} (h : n < k) : ∃ m, k = m + 1 ∧ n ≤ m := ⟨k - 1, by omega, by omega⟩
theorem gcd_tmod (a b : Int) : Int.gcd b (Int.tmod a b) = Int.gcd a b := by
  unfold Int.gcd
  rw [Int.natAbs_tmod, Nat.gcd_comm, ← Nat.gcd_rec, Nat.gcd_comm]
theorem tmod_lt (a : Int) {b : Int} (h : b ≠ 0) : (Int.tmod a b).natAbs < b.natAbs := by
  rw [Int.natAbs_tmod]
  exact Nat.mod_lt _ (by omega)
theorem drop_rd {l : List Int} {i : Nat} (h : i < l.length) : l.drop i = rd l (i : Int) :: l.drop (i + 1) := by
  rw [List.drop_eq_getElem_cons h]
  simp [rd, List.getD, List.getElem?_eq_getElem h]
theorem rd_get {l : List Int} {i : Nat} (h : i < l.length) : rd l (i : Int) = l[i] := by simp [rd, List.getD, List.getElem?_eq_getElem h]
theorem up_one {i n : Nat} (h : i < n) (hn : n ≤ 9223372036854775807) : wrap64 ((i : Int) + 1) = ((i + 1 : Nat) : Int) := by rw [w64 (by omega) (by omega)]; omega
theorem rd_mem {l : List Int} {i : Nat} (h : i < l.length) : rd l (i : Int) ∈ l := by rw [rd_get h]; exact List.getElem_mem h
theorem maxLen_le {n : Nat} (h : n ≤ maxLen) : (n : Int) ≤ 9223372036854775807 := by unfold maxLen at h; omega

def tonicL (n : Int) (d : Nat) : List Int := (List.range d).map fun (j : Nat) => n + j
def tonicF (n : Int) : List Int := if -14 ≤ n ∧ n ≤ 14 then tonicL (n - 1) 7 else []
theorem tonicF_len (n : Int) : (tonicF n).length ≤ 7 := by unfold tonicF tonicL; split <;> simp
theorem tonicL_succ (n : Int) (d : Nat) : tonicL n (d + 1) = n :: tonicL (n + 1) d := by
  unfold tonicL
  rw [List.range_succ_eq_map]
  simp
  intro a _
  omega

theorem laws_szIntS_eq {l : List Int} (h : l.length ≤ maxLen) : laws_szIntS.f l 1048576 = some (if 1048576 < l.length then -1 else 1048576 - (l.length : Int)) := by
  have h2 := maxLen_le h
  unfold laws_szIntS.f
  rw [w64 (by omega) (by omega)]
  by_cases c : 1048576 < l.length
  · rw [if_pos c, if_pos (by omega)]
  · rw [if_neg c, if_neg (by omega)]

theorem laws_szKeyboard_eq {l : List Int} (h : l.length ≤ maxLen) : laws_szKeyboard.f l 1048576 = some (if 1048576 < l.length then -1 else 1048576 - (l.length : Int)) := by
  unfold laws_szKeyboard.f
  rw [laws_szIntS_eq h]
  simp only [Option.bind_some]
  by_cases c : 1048576 < l.length
  · rw [if_pos c, if_pos (by omega)]
  · rw [if_neg c, if_neg (by omega)]

theorem laws_toIntS_l0 (d : Nat) : ∀ (k : Nat) (l x : List Int) (i : Nat), i + d = l.length → d < k → l.length ≤ 35184372088832 → x.length = l.length → (∀ j, j < i → x[j]? = l[j]?) →
    laws_toIntS.l0 k l x (i : Int) = some l := by
  induction d with
  | zero =>
    intro k l x i hi hk hn hx he
    obtain ⟨k, rfl⟩ : ∃ m, k = m + 1 := ⟨k - 1, by omega⟩
    simp only [laws_toIntS.l0]
    rw [if_neg (by omega)]
    refine congrArg some (List.ext_getElem? fun j => ?_)
    by_cases hj : j < i
    · exact he j hj
    · rw [List.getElem?_eq_none (by omega), List.getElem?_eq_none (by omega)]
  | succ d ih =>
    intro k l x i hi hk hn hx he
    obtain ⟨k, rfl⟩ : ∃ m, k = m + 1 := ⟨k - 1, by omega⟩
    simp only [laws_toIntS.l0]
    rw [if_pos (by omega), if_pos (by omega), if_pos (by omega), up_one (n := l.length) (by omega) (by omega)]
    refine ih k l _ (i + 1) (by omega) (by omega) hn (by simpa using hx) fun j hj => ?_
    rw [Int.toNat_natCast, List.getElem?_set]
    by_cases hji : i = j
    · subst hji
      rw [if_pos rfl, if_pos (by omega), rd_get (by omega), List.getElem?_eq_getElem (by omega)]
    · rw [if_neg hji]
      exact he j (by omega)
theorem laws_toIntS_eq {k : Nat} {l : List Int} (hk : l.length < k) (hn : l.length ≤ 35184372088832) : laws_toIntS.f k l = some l := by
  unfold laws_toIntS.f
  rw [if_pos (by omega), if_pos (by simpa using hn)]
  exact laws_toIntS_l0 l.length k l _ 0 (by omega) hk hn (by simp) (fun j hj => absurd hj (by omega))

theorem laws_toKeyboard_eq {k : Nat} {l : List Int} (hk : l.length < k) (hn : l.length ≤ 35184372088832) : laws_toKeyboard.f k l = some l := by
  unfold laws_toKeyboard.f
  rw [laws_toIntS_eq hk hn]
  rfl

theorem laws_eqIntS_l0 (d : Nat) : ∀ (k : Nat) (l x : List Int) (i : Nat), i + d = l.length → d < k → l.length ≤ 35184372088832 → x.length = l.length →
    laws_eqIntS.l0 k l x (i : Int) = some (decide (l.drop i = x.drop i)) := by
  induction d with
  | zero =>
    intro k l x i hi hk hn hx
    obtain ⟨k, rfl⟩ : ∃ m, k = m + 1 := ⟨k - 1, by omega⟩
    simp only [laws_eqIntS.l0]
    rw [if_neg (by omega), List.drop_eq_nil_of_le (by omega), List.drop_eq_nil_of_le (by omega)]
    simp
  | succ d ih =>
    intro k l x i hi hk hn hx
    obtain ⟨k, rfl⟩ : ∃ m, k = m + 1 := ⟨k - 1, by omega⟩
    simp only [laws_eqIntS.l0]
    rw [if_pos (by omega), if_pos (by omega), if_pos (by omega), up_one (n := l.length) (by omega) (by omega), ih k l x (i + 1) (by omega) (by omega) hn hx,
      drop_rd (l := l) (i := i) (by omega), drop_rd (l := x) (i := i) (by omega)]
    by_cases h : rd l (i : Int) = rd x (i : Int)
    · rw [if_pos h]; simp [h]
    · rw [if_neg h]; simp [h]
theorem laws_eqIntS_eq {k : Nat} {l x : List Int} (hk : l.length < k) (hn : l.length ≤ 35184372088832) : laws_eqIntS.f k l x = some (decide (l = x)) := by
  unfold laws_eqIntS.f
  by_cases h : x.length = l.length
  · rw [if_pos (by omega)]
    exact laws_eqIntS_l0 l.length k l x 0 (by omega) hk hn h
  · rw [if_neg (by omega)]
    have : l ≠ x := fun e => h (by rw [e])
    simp [this]

theorem laws_eqKeyboard_eq {k : Nat} {l x : List Int} (hk : l.length < k) (hn : l.length ≤ 35184372088832) : laws_eqKeyboard.f k l x = some (decide (l = x)) := by
  unfold laws_eqKeyboard.f
  rw [laws_eqIntS_eq hk hn]
  by_cases h : l = x <;> simp [h]

theorem spec_l01In_eq (a b c : Int) : spec_l01In.f a b c = some (decide (b ≤ a ∧ a ≤ c)) := by
  unfold spec_l01In.f; by_cases h : a ≥ b <;> by_cases h2 : a ≤ c <;> simp [h, h2]; all_goals omega

theorem spec_TonicNotes_l0 (d : Nat) : ∀ (k : Nat) (n : Int) (x : List Int) (y : Int), y + d = n + 6 → d < k → -1000 ≤ n → n ≤ 1000 → -1000 ≤ y → x.length + d ≤ 100 → spec_TonicNotes.l0 k n x y = some (x ++ tonicL y d) := by
  induction d with
  | zero =>
    intro k n x y hy hk h1 h2 h3 h4
    obtain ⟨k, rfl⟩ : ∃ m, k = m + 1 := ⟨k - 1, by omega⟩
    simp only [spec_TonicNotes.l0]
    rw [w64 (by omega) (by omega), if_neg (by omega)]
    simp [tonicL]
  | succ d ih =>
    intro k n x y hy hk h1 h2 h3 h4
    obtain ⟨k, rfl⟩ : ∃ m, k = m + 1 := ⟨k - 1, by omega⟩
    simp only [spec_TonicNotes.l0]
    rw [w64 (x := n + 5) (by omega) (by omega), if_pos (by omega), if_pos (by omega), w64 (by omega) (by omega), ih k n _ _ (by omega) (by omega) h1 h2 (by omega) (by simp; omega), tonicL_succ]
    simp
theorem spec_TonicNotes_eq {k : Nat} (n : Int) (hk : 7 < k) : spec_TonicNotes.f k n = some (tonicF n) := by
  unfold spec_TonicNotes.f tonicF
  simp only [spec_l01In_eq, Option.bind_some, decide_eq_true_eq]
  by_cases h : -14 ≤ n ∧ n ≤ 14
  · rw [if_pos h, if_pos h, w64 (by omega) (by omega), spec_TonicNotes_l0 7 k n [] (n - 1) (by omega) hk (by omega) (by omega) (by omega) (by simp)]
    simp
  · rw [if_neg h, if_neg h]

theorem spec_l07Has_eq (a : Int) : spec_l07Has.f a = some (decide (-15 ≤ a ∧ a ≤ 19)) := by
  unfold spec_l07Has.f; rw [spec_l01In_eq]; simp

theorem spec_HasNote_l0 (d : Nat) : ∀ (k : Nat) (l : List Int) (n : Int) (i : Nat) (b : Bool), i + d = l.length → d + l.length + 1 < k → l.length ≤ 1048576 → (∀ k, l.length < k → spec_KeyboardOk.f k l = some b) →
    spec_HasNote.l0 k n (i : Int) l = some (b && decide (n ∈ l.drop i)) := by
  induction d with
  | zero =>
    intro k l n i b hi hk hn hb
    obtain ⟨k, rfl⟩ : ∃ m, k = m + 1 := ⟨k - 1, by omega⟩
    simp only [spec_HasNote.l0]
    rw [if_neg (by omega), List.drop_eq_nil_of_le (by omega)]
    simp
  | succ d ih =>
    intro k l n i b hi hk hn hb
    obtain ⟨k, rfl⟩ : ∃ m, k = m + 1 := ⟨k - 1, by omega⟩
    simp only [spec_HasNote.l0]
    rw [if_pos (by omega), if_pos (by omega), up_one (n := l.length) (by omega) (by omega), ih k l n (i + 1) b (by omega) (by omega) hn hb, hb k (by omega), drop_rd (l := l) (i := i) (by omega)]
    by_cases e : rd l (i : Int) = n
    · rw [if_pos e]
      cases b <;> simp [e]
    · rw [if_neg e]
      have e' : ¬ n = rd l (i : Int) := fun h => e h.symm
      simp [e']

theorem impl_within_eq (a b c : Int) : impl_within.f a b c = some (decide (b ≤ a ∧ a ≤ c)) := by
  unfold impl_within.f; by_cases h : b ≤ a <;> by_cases h2 : a ≤ c <;> simp [h, h2]

theorem impl_TonicNotes_l0 (d : Nat) : ∀ (k : Nat) (n : Int) (x : List Int) (y : Int), y + d = n + 6 → d < k → -1000 ≤ n → n ≤ 1000 → -1000 ≤ y → x.length + d ≤ 100 → impl_TonicNotes.l0 k n x y = some (x ++ tonicL y d) := by
  induction d with
  | zero =>
    intro k n x y hy hk h1 h2 h3 h4
    obtain ⟨k, rfl⟩ : ∃ m, k = m + 1 := ⟨k - 1, by omega⟩
    simp only [impl_TonicNotes.l0]
    rw [w64 (by omega) (by omega), if_neg (by omega)]
    simp [tonicL]
  | succ d ih =>
    intro k n x y hy hk h1 h2 h3 h4
    obtain ⟨k, rfl⟩ : ∃ m, k = m + 1 := ⟨k - 1, by omega⟩
    simp only [impl_TonicNotes.l0]
    rw [w64 (x := n + 5) (by omega) (by omega), if_pos (by omega), if_pos (by omega), w64 (by omega) (by omega), ih k n _ _ (by omega) (by omega) h1 h2 (by omega) (by simp; omega), tonicL_succ]
    simp
theorem impl_TonicNotes_eq {k : Nat} (n : Int) (hk : 7 < k) : impl_TonicNotes.f k n = some (tonicF n) := by
  unfold impl_TonicNotes.f tonicF
  simp only [impl_within_eq, Option.bind_some, decide_eq_true_eq]
  by_cases h : -14 ≤ n ∧ n ≤ 14
  · rw [if_pos h, if_pos h, w64 (by omega) (by omega), impl_TonicNotes_l0 7 k n [] (n - 1) (by omega) hk (by omega) (by omega) (by omega) (by simp)]
    simp
  · rw [if_neg h, if_neg h]

theorem impl_hasName_eq (a : Int) : impl_hasName.f a = some (decide (-15 ≤ a ∧ a ≤ 19)) := by
  unfold impl_hasName.f; rw [impl_within_eq]; simp

theorem kb_l0 (d : Nat) : ∀ (l : List Int) (i : Nat), i + d = l.length → l.length ≤ 1048576 → ∃ b, ∀ k, d < k → impl_KeyboardOk.l0 k l (l.length : Int) (i : Int) l = some b ∧ spec_KeyboardOk.l0 k (i : Int) l = some b := by
  induction d with
  | zero =>
    intro l i hi hn
    refine ⟨decide (1 ≤ (l.length : Int) ∧ (l.length : Int) ≤ 20), fun k hk => ?_⟩
    obtain ⟨k, rfl⟩ : ∃ m, k = m + 1 := ⟨k - 1, by omega⟩
    have h1 : ¬ (i : Int) < (l.length : Int) := by omega
    simp only [impl_KeyboardOk.l0, spec_KeyboardOk.l0, h1, if_false, impl_within_eq, spec_l01In_eq, Option.bind_some, and_self]
  | succ d ih =>
    intro l i hi hn
    obtain ⟨b, hb⟩ := ih l (i + 1) (by omega) hn
    have h1 : (i : Int) < (l.length : Int) := by omega
    have h2 : (0 : Int) ≤ (i : Int) := by omega
    have hu : wrap64 ((i : Int) + 1) = ((i + 1 : Nat) : Int) := up_one (n := l.length) (by omega) (by omega)
    have hd : wrap64 ((i : Int) - 1) = (i : Int) - 1 := w64 (by omega) (by omega)
    by_cases hr : -15 ≤ rd l (i : Int) ∧ rd l (i : Int) ≤ 19
    · by_cases h0 : (i : Int) > 0
      · have h3 : (0 : Int) ≤ (i : Int) - 1 := by omega
        have h4 : (i : Int) - 1 < (l.length : Int) := by omega
        by_cases hl : rd l (i : Int) ≤ rd l ((i : Int) - 1)
        · refine ⟨false, fun k hk => ?_⟩
          obtain ⟨k, rfl⟩ : ∃ m, k = m + 1 := ⟨k - 1, by omega⟩
          simp only [impl_KeyboardOk.l0, spec_KeyboardOk.l0, h1, h2, hu, hd, impl_hasName_eq, spec_l07Has_eq, Option.bind_some, hr, and_self, decide_true, if_true, h0, h3, h4, hl, ge_iff_le]
        · refine ⟨b, fun k hk => ?_⟩
          obtain ⟨k, rfl⟩ : ∃ m, k = m + 1 := ⟨k - 1, by omega⟩
          simp only [impl_KeyboardOk.l0, spec_KeyboardOk.l0, h1, h2, hu, hd, impl_hasName_eq, spec_l07Has_eq, Option.bind_some, hr, and_self, decide_true, if_true, h0, h3, h4, hl, ge_iff_le, if_false]
          exact hb k (by omega)
      · refine ⟨b, fun k hk => ?_⟩
        obtain ⟨k, rfl⟩ : ∃ m, k = m + 1 := ⟨k - 1, by omega⟩
        simp only [impl_KeyboardOk.l0, spec_KeyboardOk.l0, h1, h2, hu, hd, impl_hasName_eq, spec_l07Has_eq, Option.bind_some, hr, and_self, decide_true, if_true, h0, if_false]
        exact hb k (by omega)
    · refine ⟨false, fun k hk => ?_⟩
      obtain ⟨k, rfl⟩ : ∃ m, k = m + 1 := ⟨k - 1, by omega⟩
      simp only [impl_KeyboardOk.l0, spec_KeyboardOk.l0, h1, h2, hu, hd, impl_hasName_eq, spec_l07Has_eq, Option.bind_some, hr, if_true, decide_false, Bool.false_eq_true, if_false, and_self]
/-- Both tell the same of a keyboard. -/
theorem kb_both (l : List Int) (hn : l.length ≤ 1048576) : ∃ b, ∀ k, l.length < k → impl_KeyboardOk.f k l = some b ∧ spec_KeyboardOk.f k l = some b := by
  obtain ⟨b, hb⟩ := kb_l0 l.length l 0 (by omega) hn
  exact ⟨b, fun k hk => hb k hk⟩

theorem impl_hasInt_l0 (d : Nat) : ∀ (k : Nat) (l : List Int) (n : Int) (i : Nat), i + d = l.length → d < k → l.length ≤ 1048576 → impl_hasInt.l0 k n l (l.length : Int) (i : Int) = some (decide (n ∈ l.drop i)) := by
  induction d with
  | zero =>
    intro k l n i hi hk hn
    obtain ⟨k, rfl⟩ : ∃ m, k = m + 1 := ⟨k - 1, by omega⟩
    simp only [impl_hasInt.l0]
    rw [if_neg (by omega), List.drop_eq_nil_of_le (by omega)]
    simp
  | succ d ih =>
    intro k l n i hi hk hn
    obtain ⟨k, rfl⟩ : ∃ m, k = m + 1 := ⟨k - 1, by omega⟩
    simp only [impl_hasInt.l0]
    rw [if_pos (by omega), if_pos (by omega), if_pos (by omega), up_one (n := l.length) (by omega) (by omega), ih k l n (i + 1) (by omega) (by omega) hn, drop_rd (l := l) (i := i) (by omega)]
    by_cases e : rd l (i : Int) = n
    · rw [if_pos e]; simp [e]
    · rw [if_neg e]
      have e' : ¬ n = rd l (i : Int) := fun h => e h.symm
      simp [e']
theorem impl_hasInt_eq {k : Nat} {l : List Int} (n : Int) (hk : l.length < k) (hn : l.length ≤ 1048576) : impl_hasInt.f k l n = some (decide (n ∈ l)) := by
  unfold impl_hasInt.f
  exact impl_hasInt_l0 l.length k l n 0 (by omega) hk hn

theorem hn_both (l : List Int) (hn : l.length ≤ 1048576) : ∃ b : Bool, ∀ (k : Nat) (n : Int), 2 * l.length + 1 < k → impl_HasNote.f k l n = some (b && decide (n ∈ l)) ∧ spec_HasNote.f k l n = some (b && decide (n ∈ l)) := by
  obtain ⟨b, hb⟩ := kb_both l hn
  refine ⟨b, fun k n hk => ⟨?_, ?_⟩⟩
  · unfold impl_HasNote.f
    rw [(hb k (by omega)).1, Option.bind_some, impl_hasInt_eq n (by omega) hn]
    cases b <;> simp
  · unfold spec_HasNote.f
    exact spec_HasNote_l0 l.length k l n 0 b (by omega) (by omega) hn (fun k hk => (hb k hk).2)

theorem ip_both (d : Nat) : ∀ (t l : List Int) (i : Nat), i + d = t.length → t.length ≤ 7 → l.length ≤ 1048576 → ∃ b, ∀ k, 2 * l.length + 1 + d < k → impl_IsPlayable.l0 k t t (t.length : Int) (i : Int) l = some b ∧ spec_IsPlayable.l0 k t (i : Int) l = some b := by
  induction d with
  | zero =>
    intro t l i hi ht hn
    refine ⟨decide ((t.length : Int) > 0), fun k hk => ?_⟩
    obtain ⟨k, rfl⟩ : ∃ m, k = m + 1 := ⟨k - 1, by omega⟩
    have h1 : ¬ (i : Int) < (t.length : Int) := by omega
    simp only [impl_IsPlayable.l0, spec_IsPlayable.l0, h1, if_false, and_self]
  | succ d ih =>
    intro t l i hi ht hn
    obtain ⟨b, hb⟩ := ih t l (i + 1) (by omega) ht hn
    obtain ⟨c, hc⟩ := hn_both l hn
    have h1 : (i : Int) < (t.length : Int) := by omega
    have h2 : (0 : Int) ≤ (i : Int) := by omega
    have hu : wrap64 ((i : Int) + 1) = ((i + 1 : Nat) : Int) := up_one (n := t.length) (by omega) (by omega)
    refine ⟨(c && decide (rd t (i : Int) ∈ l)) && b, fun k hk => ?_⟩
    obtain ⟨k, rfl⟩ : ∃ m, k = m + 1 := ⟨k - 1, by omega⟩
    obtain ⟨e1, e2⟩ := hc k (rd t (i : Int)) (by omega)
    obtain ⟨f1, f2⟩ := hb k (by omega)
    simp only [impl_IsPlayable.l0, spec_IsPlayable.l0, h1, h2, hu, if_true, e1, e2, Option.bind_some, f1, f2]
    cases (c && decide (rd t (i : Int) ∈ l)) <;> simp

/-- The law, over numbers and lists. -/
def laws_FnExactIsPlayable.Pure : Prop := ∀ (l0_0 : List Int) (a1 : Int), l0_0.length ≤ maxLen → (∀ x ∈ l0_0, (Lit.int .i64 x).wf = true) → (Lit.int .i64 a1).wf = true → ∃ k, laws_FnExactIsPlayable.f k l0_0 a1 = some true
theorem FnExactIsPlayable : laws_FnExactIsPlayable.Pure := by
  intro l n hm _ _
  refine ⟨2 * l.length + 20, ?_⟩
  unfold laws_FnExactIsPlayable.f
  rw [laws_szKeyboard_eq hm]
  simp only [Option.bind_some]
  by_cases c : 1048576 < l.length
  · rw [if_pos c, if_pos (by omega)]
  · rw [if_neg c, if_neg (by omega), laws_toKeyboard_eq (by omega) (by omega)]
    have hl := tonicF_len n
    obtain ⟨b, hb⟩ := ip_both (tonicF n).length (tonicF n) l 0 (by omega) hl (by omega)
    obtain ⟨h1, h2⟩ := hb (2 * l.length + 20) (by omega)
    simp only [Option.bind_some]
    unfold impl_IsPlayable.f spec_IsPlayable.f
    rw [spec_TonicNotes_eq n (by omega), impl_TonicNotes_eq n (by omega)]
    simp only [Option.bind_some]
    rw [show ((0 : Nat) : Int) = 0 from rfl] at h1 h2
    rw [h1, h2]
    simp only [Option.bind_some]
    rw [laws_eqKeyboard_eq (by omega) (by omega)]
    simp

end Go.Proofs.Ytmjccdljalocbaa.Pure
