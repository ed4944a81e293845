/- SpansOf of the program and of the reference answer alike, for every scale and every count, leave the scale as it was, and the answer is new memory. No condition. -/
import Derived.Test.YtgolkgcmmionpaaPFnExactSpansOfx1
import Derived.Test.YtgolkgcmmionpaaPFnExactSpansOfx2
import Derived.Test.YtgolkgcmmionpaaPFnExactSpansOfx3
import Derived.Test.YtgolkgcmmionpaaPFnExactSpansOfx4
import Derived.OpenShut
namespace Go.Proofs.Ytgolkgcmmionpaa.Pure
open Go.RowKit Go.Proofs.Ytgolkgcmmionpaa.PFnExactSpansOf Go.Proofs.YtgolkgcmmionpaaW.PrintWords Go.Proofs.YtgolkgcmmionpaaW.PrintLast Go.Proofs.YtgolkgcmmionpaaW.PrintMore
set_option linter.unusedVariables false
set_option linter.unusedSimpArgs false
theorem w64 {x : Int} (h : -9223372036854775808 ≤ x) (h' : x ≤ 9223372036854775807) : wrap64 x = x := by unfold wrap64; omega
theorem wf64 {x : Int} (h : (Lit.int .i64 x).wf = true) : -9223372036854775808 ≤ x ∧ x ≤ 9223372036854775807 := by
  simp only [Lit.wf, IntKind.min, IntKind.max, IntKind.signed, IntKind.bits, Bool.and_eq_true, decide_eq_true_eq, if_true] at h
  omega
theorem wfu8 {x : Int} (h : (Lit.int .u8 x).wf = true) : 0 ≤ x ∧ x ≤ 255 := by
  simp [Lit.wf, IntKind.min, IntKind.max, IntKind.signed, IntKind.bits] at h
  omega
theorem mx_def (a b : Int) : mx a b = max a b := by unfold mx; omega
theorem mn_def (a b : Int) : mn a b = min a b := by unfold mn; omega
theorem fuel {n k : Nat} (h : n < k) : ∃ m, k = m + 1 ∧ n ≤ m := ⟨k - 1, by omega, by omega⟩
theorem gcd_tmod (a b : Int) : Int.gcd b (Int.tmod a b) = Int.gcd a b := by
  unfold Int.gcd
  rw [Int.natAbs_tmod, Nat.gcd_comm, ← Nat.gcd_rec, Nat.gcd_comm]
theorem tmod_lt (a : Int) {b : Int} (h : b ≠ 0) : (Int.tmod a b).natAbs < b.natAbs := by
  rw [Int.natAbs_tmod]
  exact Nat.mod_lt _ (by omega)
theorem drop_rd {l : List Int} {i : Nat} (h : i < l.length) : l.drop i = rd l (i : Int) :: l.drop (i + 1) := by
  rw [List.drop_eq_getElem_cons h]
  simp [rd, List.getD, List.getElem?_eq_getElem h]
theorem rd_get {l : List Int} {i : Nat} (h : i < l.length) : rd l (i : Int) = l[i] := by simp [rd, List.getD, List.getElem?_eq_getElem h]
theorem up_one {i n : Nat} (h : i < n) (hn : n ≤ 9223372036854775807) : wrap64 ((i : Int) + 1) = ((i + 1 : Nat) : Int) := by rw [w64 (by omega) (by omega)]; omega
theorem rd_mem {l : List Int} {i : Nat} (h : i < l.length) : rd l (i : Int) ∈ l := by rw [rd_get h]; exact List.getElem_mem h
theorem maxLen_le {n : Nat} (h : n ≤ maxLen) : (n : Int) ≤ 9223372036854775807 := by unfold maxLen at h; omega

def scaleG (l : List Int) (s : Int) (n : Nat) : Prop := (∀ x ∈ l, 1 ≤ x ∧ x ≤ 20) ∧ (1 ≤ (n : Int) ∧ (n : Int) ≤ 12) ∧ s + l.sum ≤ 60
theorem scaleG_cons (a : Int) (l : List Int) (s : Int) (n : Nat) : scaleG (a :: l) s n ↔ (1 ≤ a ∧ a ≤ 20) ∧ scaleG l (s + a) n := by
  unfold scaleG
  simp only [List.mem_cons, forall_eq_or_imp, List.sum_cons]
  constructor
  · rintro ⟨⟨h1, h2⟩, h3, h4⟩; exact ⟨h1, h2, h3, by omega⟩
  · rintro ⟨h1, h2, h3, h4⟩; exact ⟨⟨h1, h2⟩, h3, by omega⟩
instance (l : List Int) (s : Int) (n : Nat) : Decidable (scaleG l s n) := by unfold scaleG; infer_instance
/-- A valid scale. -/
def scaleB (l : List Int) : Prop := scaleG l 0 l.length
instance (l : List Int) : Decidable (scaleB l) := by unfold scaleB; infer_instance
theorem scaleB_len {l : List Int} (h : scaleB l) : 1 ≤ l.length ∧ l.length ≤ 12 := by have := h.2.1; omega
theorem scaleB_rd {l : List Int} (h : scaleB l) {i : Nat} (hi : i < l.length) : 1 ≤ rd l (i : Int) ∧ rd l (i : Int) ≤ 20 := h.1 _ (rd_mem hi)

/-- The sum of c steps from f on. -/
def spanF (l : List Int) (f : Int) : Nat → Int
  | 0 => 0
  | c + 1 => spanF l f c + rd l (Int.tmod (f + c) l.length)
theorem tmod_nat {f : Int} {n : Nat} (c : Nat) (h : 0 ≤ f) (hn : 1 ≤ n) : Int.tmod (f + c) n = (((f.toNat + c) % n : Nat) : Int) := by
  rw [Int.tmod_eq_emod_of_nonneg (by omega)]
  have : f + (c : Int) = ((f.toNat + c : Nat) : Int) := by omega
  rw [this]
  rfl
theorem spanF_rng {l : List Int} (h : scaleB l) {f : Int} (hf : 0 ≤ f) (c : Nat) : 0 ≤ spanF l f c ∧ spanF l f c ≤ 20 * (c : Int) := by
  have hl := scaleB_len h
  induction c with
  | zero => simp [spanF]
  | succ c ih =>
    simp only [spanF]
    rw [tmod_nat c hf hl.1]
    have := scaleB_rd h (i := (f.toNat + c) % l.length) (Nat.mod_lt _ (by omega))
    omega
def spanAtF (l : List Int) (f c : Int) : Int := if scaleB l ∧ (0 ≤ f ∧ f ≤ (l.length : Int) - 1) ∧ (0 ≤ c ∧ c ≤ (l.length : Int)) then spanF l f c.toNat else 0

/-- Strictly rising. -/
def SS (l : List Int) : Prop := l.Pairwise (· < ·)
theorem ss_ext : ∀ {a b : List Int}, SS a → SS b → (∀ x, x ∈ a ↔ x ∈ b) → a = b
  | [], [], _, _, _ => rfl
  | [], y :: b, _, _, h => absurd ((h y).mpr (by simp)) (by simp)
  | x :: a, [], _, _, h => absurd ((h x).mp (by simp)) (by simp)
  | x :: a, y :: b, ha, hb, h => by
    unfold SS at ha hb
    rw [List.pairwise_cons] at ha hb
    have e : x = y := by
      have h1 : x ∈ y :: b := (h x).mp (by simp)
      have h2 : y ∈ x :: a := (h y).mpr (by simp)
      rcases List.mem_cons.mp h1 with e | h1
      · exact e
      · rcases List.mem_cons.mp h2 with e | h2
        · exact e.symm
        · have := ha.1 y h2; have := hb.1 x h1; omega
    subst e
    refine congrArg (x :: ·) (ss_ext ha.2 hb.2 fun z => ⟨fun hz => ?_, fun hz => ?_⟩)
    · rcases List.mem_cons.mp ((h z).mp (List.mem_cons_of_mem _ hz)) with e | h3
      · have := ha.1 z hz; omega
      · exact h3
    · rcases List.mem_cons.mp ((h z).mpr (List.mem_cons_of_mem _ hz)) with e | h3
      · have := hb.1 z hz; omega
      · exact h3
def insD (x : Int) : List Int → List Int
  | [] => [x]
  | y :: l => if y < x then y :: insD x l else if y = x then y :: l else x :: y :: l
theorem mem_insD (x z : Int) : ∀ l, z ∈ insD x l ↔ z = x ∨ z ∈ l
  | [] => by simp [insD]
  | y :: l => by
    have ih := mem_insD x z l
    simp only [insD]
    split
    · simp only [List.mem_cons, ih]
      constructor
      · rintro (h | h | h) <;> simp [h]
      · rintro (h | h | h) <;> simp [h]
    · split
      · rename_i e; subst e; simp
      · simp
theorem ss_insD (x : Int) : ∀ {l}, SS l → SS (insD x l)
  | [], _ => by simp [SS, insD]
  | y :: l, h => by
    unfold SS at h ⊢
    rw [List.pairwise_cons] at h
    simp only [insD]
    split
    · rw [List.pairwise_cons]
      refine ⟨fun z hz => ?_, ss_insD x h.2⟩
      rcases (mem_insD x z l).mp hz with e | hz
      · omega
      · exact h.1 z hz
    · split
      · rw [List.pairwise_cons]; exact h
      · rw [List.pairwise_cons]
        refine ⟨fun z hz => ?_, by rw [List.pairwise_cons]; exact h⟩
        rcases List.mem_cons.mp hz with e | hz
        · omega
        · have := h.1 z hz; omega
theorem len_insD (x : Int) : ∀ l, (insD x l).length ≤ l.length + 1
  | [] => by simp [insD]
  | y :: l => by
    have := len_insD x l
    simp only [insD]
    split
    · simp; omega
    · split <;> simp
/-- The spans from the places i to i + d - 1 on, laid into what is there. -/
def spansL (l : List Int) (c : Int) : Nat → Nat → List Int → List Int
  | _, 0, out => out
  | i, d + 1, out => spansL l c (i + 1) d (insD (spanAtF l (i : Int) c) out)
theorem spansL_ss (l : List Int) (c : Int) : ∀ d i out, SS out → SS (spansL l c i d out)
  | 0, _, _, h => h
  | d + 1, i, out, h => spansL_ss l c d (i + 1) _ (ss_insD _ h)
theorem spansL_mem (l : List Int) (c : Int) (x : Int) : ∀ d i out, x ∈ spansL l c i d out ↔ x ∈ out ∨ ∃ j : Nat, i ≤ j ∧ j < i + d ∧ x = spanAtF l (j : Int) c
  | 0, i, out => by
    simp only [spansL]
    constructor
    · exact .inl
    · rintro (h | ⟨j, h1, h2, _⟩)
      · exact h
      · omega
  | d + 1, i, out => by
    simp only [spansL]
    rw [spansL_mem l c x d (i + 1), mem_insD]
    constructor
    · rintro ((h | h) | ⟨j, h1, h2, h3⟩)
      · exact .inr ⟨i, by omega, by omega, h⟩
      · exact .inl h
      · exact .inr ⟨j, by omega, by omega, h3⟩
    · rintro (h | ⟨j, h1, h2, h3⟩)
      · exact .inl (.inr h)
      · by_cases e : j = i
        · subst e; exact .inl (.inl h3)
        · exact .inr ⟨j, by omega, by omega, h3⟩
theorem spansL_len (l : List Int) (c : Int) : ∀ d i out, (spansL l c i d out).length ≤ out.length + d
  | 0, _, _ => by simp [spansL]
  | d + 1, i, out => by
    have := spansL_len l c d (i + 1) (insD (spanAtF l (i : Int) c) out)
    have := len_insD (spanAtF l (i : Int) c) out
    simp only [spansL]
    omega
/-- The spans of a count of steps, in order, each once. -/
def spansF (l : List Int) (c : Int) : List Int := if scaleB l ∧ (0 ≤ c ∧ c ≤ (l.length : Int)) then spansL l c 0 l.length [] else []
theorem spanAtF_rng (l : List Int) (f c : Int) : 0 ≤ spanAtF l f c ∧ spanAtF l f c ≤ 240 := by
  unfold spanAtF
  split
  · rename_i h
    have := spanF_rng h.1 h.2.1.1 c.toNat
    have := scaleB_len h.1
    omega
  · omega
theorem spansF_ss (l : List Int) (c : Int) : SS (spansF l c) := by
  unfold spansF
  split
  · exact spansL_ss _ _ _ _ _ (by simp [SS])
  · simp [SS]
theorem spansF_mem {l : List Int} {c : Int} (hs : scaleB l) (h0 : 0 ≤ c) (h1 : c ≤ (l.length : Int)) (x : Int) : x ∈ spansF l c ↔ ∃ j : Nat, j < l.length ∧ x = spanAtF l (j : Int) c := by
  unfold spansF
  rw [if_pos ⟨hs, h0, h1⟩, spansL_mem]
  constructor
  · rintro (h | ⟨j, _, h, e⟩)
    · simp at h
    · exact ⟨j, by omega, e⟩
  · rintro ⟨j, h, e⟩
    exact .inr ⟨j, by omega, by omega, e⟩
theorem spansF_len (l : List Int) (c : Int) : (spansF l c).length ≤ 12 := by
  unfold spansF
  split
  · rename_i h
    have := scaleB_len h.1
    have := spansL_len l c l.length 0 []
    simp at this
    omega
  · simp
theorem spansF_rng {l : List Int} {c : Int} {x : Int} (h : x ∈ spansF l c) : 0 ≤ x ∧ x ≤ 240 := by
  unfold spansF at h
  split at h
  · rw [spansL_mem] at h
    rcases h with h | ⟨j, _, _, e⟩
    · simp at h
    · rw [e]; exact spanAtF_rng _ _ _
  · simp at h
theorem spansF_pos {l : List Int} {c : Int} (hs : scaleB l) (h0 : 0 ≤ c) (h1 : c ≤ (l.length : Int)) : 1 ≤ (spansF l c).length := by
  have hl := scaleB_len hs
  have : spanAtF l ((0 : Nat) : Int) c ∈ spansF l c := (spansF_mem hs h0 h1 _).mpr ⟨0, by omega, rfl⟩
  have := List.length_pos_of_mem this
  omega
theorem sort_ss {l : List Int} (h : l.Nodup) : SS (l.mergeSort fun x y => decide (x ≤ y)) := by
  have p := List.pairwise_mergeSort (le := fun x y : Int => decide (x ≤ y)) (by intro a b c; simp; omega) (by intro a b; simp; omega) l
  have n := (List.mergeSort_perm l fun x y => decide (x ≤ y)).nodup_iff.mpr h
  unfold SS
  unfold List.Nodup at n
  exact (List.pairwise_and_iff.mpr ⟨p, n⟩).imp (by intro a b; simp; omega)

theorem impl_within_eq (a b c : Int) : impl_within.f a b c = some (decide (b ≤ a ∧ a ≤ c)) := by
  unfold impl_within.f; by_cases h : b ≤ a <;> by_cases h2 : a ≤ c <;> simp [h, h2]

theorem impl_ScaleOk_l0 (d : Nat) : ∀ (k : Nat) (l : List Int) (s : Int) (i : Nat), i + d = l.length → d < k → l.length ≤ 1048576 → 0 ≤ s → s ≤ (20 * i : Int) →
    impl_ScaleOk.l0 k s l (l.length : Int) (i : Int) l = some (decide (scaleG (l.drop i) s l.length)) := by
  induction d with
  | zero =>
    intro k l s i hi hk hn h1 h2
    obtain ⟨k, rfl⟩ : ∃ m, k = m + 1 := ⟨k - 1, by omega⟩
    simp only [impl_ScaleOk.l0, impl_within_eq]
    rw [if_neg (by omega), List.drop_eq_nil_of_le (by omega)]
    by_cases h : 1 ≤ (l.length : Int) ∧ (l.length : Int) ≤ 12
    · simp only [h, and_self, decide_true, if_true, Option.bind_some, scaleG, List.not_mem_nil, false_imp_iff, implies_true, true_and, List.sum_nil, Int.add_zero]
    · simp only [h, decide_false, Bool.false_eq_true, if_false, Option.bind_some, scaleG, false_and, and_false]
  | succ d ih =>
    intro k l s i hi hk hn h1 h2
    obtain ⟨k, rfl⟩ : ∃ m, k = m + 1 := ⟨k - 1, by omega⟩
    simp only [impl_ScaleOk.l0]
    have hlt : (i : Int) < (l.length : Int) := by omega
    have h0 : (0 : Int) ≤ (i : Int) := by omega
    simp only [hlt, h0, if_true, impl_within_eq, up_one (n := l.length) (show i < l.length by omega) (by omega)]
    rw [drop_rd (l := l) (i := i) (by omega)]
    simp only [Option.bind_some, decide_eq_true_eq, scaleG_cons]
    by_cases h : 1 ≤ rd l (i : Int) ∧ rd l (i : Int) ≤ 20
    · rw [if_pos h, w64 (by omega) (by omega), ih k l _ (i + 1) (by omega) (by omega) hn (by omega) (by omega)]
      simp [h]
    · rw [if_neg h]; simp [h]
theorem impl_ScaleOk_eq {k : Nat} {l : List Int} (hk : l.length < k) (hn : l.length ≤ 1048576) : impl_ScaleOk.f k l = some (decide (scaleB l)) := by
  unfold impl_ScaleOk.f scaleB
  exact impl_ScaleOk_l0 l.length k l 0 0 (by omega) hk hn (by omega) (by omega)

theorem impl_SpanAt_l0 (d : Nat) : ∀ (k : Nat) (l : List Int) (f : Int) (c i : Nat), i + d = c → d < k → scaleB l → 0 ≤ f → f ≤ (l.length : Int) - 1 → c ≤ l.length →
    impl_SpanAt.l0 k f (c : Int) (spanF l f i) (i : Int) l = some (spanF l f c) := by
  induction d with
  | zero =>
    intro k l f c i hi hk hs h0 h1 hc
    obtain ⟨k, rfl⟩ : ∃ m, k = m + 1 := ⟨k - 1, by omega⟩
    simp only [impl_SpanAt.l0]
    obtain rfl : i = c := by omega
    rw [if_neg (by omega)]
  | succ d ih =>
    intro k l f c i hi hk hs h0 h1 hc
    obtain ⟨k, rfl⟩ : ∃ m, k = m + 1 := ⟨k - 1, by omega⟩
    have hl := scaleB_len hs
    have e := tmod_nat (f := f) (n := l.length) i h0 hl.1
    have hm : (f.toNat + i) % l.length < l.length := Nat.mod_lt _ (by omega)
    have hr := scaleB_rd hs hm
    have hsp := spanF_rng hs h0 i
    simp only [impl_SpanAt.l0]
    rw [if_pos (by omega), if_neg (by omega), w64 (x := f + (i : Int)) (by omega) (by omega), e, if_pos (by omega), if_pos (by omega), up_one (n := 12) (by omega) (by omega), w64 (by omega) (by omega)]
    rw [← ih k l f c (i + 1) (by omega) (by omega) hs h0 h1 hc]
    simp only [spanF, e]
theorem impl_SpanAt_eq {k : Nat} {l : List Int} (f c : Int) (hk : l.length + 20 < k) (hn : l.length ≤ 1048576) : impl_SpanAt.f k l f c = some (spanAtF l f c) := by
  obtain ⟨k, rfl⟩ : ∃ m, k = m + 1 := ⟨k - 1, by omega⟩
  unfold impl_SpanAt.f spanAtF
  rw [impl_ScaleOk_eq (by omega) hn]
  simp only [Option.bind_some, impl_within_eq, impl_SpanAt.j0, decide_eq_true_eq]
  by_cases hs : scaleB l
  · have hl := scaleB_len hs
    rw [w64 (x := (l.length : Int) - 1) (by omega) (by omega)]
    by_cases h1 : 0 ≤ f ∧ f ≤ (l.length : Int) - 1
    · by_cases h2 : 0 ≤ c ∧ c ≤ (l.length : Int)
      · have := impl_SpanAt_l0 c.toNat k l f c.toNat 0 (by omega) (by omega) hs h1.1 h1.2 (by omega)
        rw [show ((c.toNat : Nat) : Int) = c by omega] at this
        simp only [spanF] at this
        simp only [hs, h1, h2, and_self, if_true, decide_true, Bool.not_true, Bool.false_eq_true, if_false]
        exact this
      · simp [hs, h1, h2]
    · simp [hs, h1]
  · simp [hs]

theorem sort_Ints_eq {l : List Int} (h0 : 0 < l.length) (h1 : l.length ≤ 1048576) : sort_Ints.f l = some (l.mergeSort fun x y => decide (x ≤ y)) := by
  unfold sort_Ints.f
  rw [if_pos h0, if_pos (by omega)]
theorem sort_sorted {l : List Int} (h : l.Pairwise (· ≤ ·)) : (l.mergeSort fun x y => decide (x ≤ y)) = l :=
  List.mergeSort_of_pairwise (h.imp (by simp))

theorem impl_SpansOf_l0 (d : Nat) : ∀ (k : Nat) (l : List Int) (c : Int) (out : List Int) (i : Nat), scaleB l → 0 ≤ c → c ≤ (l.length : Int) → i + d = l.length → d + l.length + 20 < k → out.length ≤ i → out.Nodup → (∀ x, x ∈ out ↔ ∃ j : Nat, j < i ∧ x = spanAtF l (j : Int) c) →
    impl_SpansOf.l0 k c out (l.length : Int) (i : Int) l = some (spansF l c) := by
  induction d with
  | zero =>
    intro k l c out i hs h0 h1 hi hk hl hn hm
    obtain ⟨k, rfl⟩ : ∃ m, k = m + 1 := ⟨k - 1, by omega⟩
    have h12 := scaleB_len hs
    have hpos : 0 < out.length := List.length_pos_of_mem ((hm _).mpr ⟨0, by omega, rfl⟩)
    simp only [impl_SpansOf.l0]
    rw [if_neg (by omega), sort_Ints_eq hpos (by omega)]
    simp only [Option.bind_some]
    refine congrArg some (ss_ext (sort_ss hn) (spansF_ss l c) fun x => ?_)
    rw [List.mem_mergeSort, hm, spansF_mem hs h0 h1, show i = l.length by omega]
  | succ d ih =>
    intro k l c out i hs h0 h1 hi hk hl hn hm
    obtain ⟨k, rfl⟩ : ∃ m, k = m + 1 := ⟨k - 1, by omega⟩
    have h12 := scaleB_len hs
    have hr := spanAtF_rng l (i : Int) c
    simp only [impl_SpansOf.l0]
    rw [if_pos (by omega), impl_SpanAt_eq _ _ (by omega) (by omega)]
    simp only [Option.bind_some]
    rw [if_pos (by omega), up_one (n := 20) (by omega) (by omega)]
    by_cases hx : spanAtF l (i : Int) c ∈ out
    · rw [if_pos hx]
      refine ih k l c out (i + 1) hs h0 h1 (by omega) (by omega) (by omega) hn fun x => ?_
      rw [hm]
      constructor
      · rintro ⟨j, h, e⟩; exact ⟨j, by omega, e⟩
      · rintro ⟨j, h, e⟩
        by_cases e2 : j = i
        · subst e2
          rw [← e] at hx
          exact (hm x).mp hx
        · exact ⟨j, by omega, e⟩
    · rw [if_neg hx, if_pos (by omega)]
      refine ih k l c _ (i + 1) hs h0 h1 (by omega) (by omega) (by simp; omega) ?_ fun x => ?_
      · rw [List.nodup_append]
        refine ⟨hn, by simp, fun a ha b hb => ?_⟩
        simp at hb
        subst hb
        intro e
        exact hx (e ▸ ha)
      · rw [List.mem_append, hm]
        simp only [List.mem_singleton]
        constructor
        · rintro (⟨j, h, e⟩ | e)
          · exact ⟨j, by omega, e⟩
          · exact ⟨i, by omega, e⟩
        · rintro ⟨j, h, e⟩
          by_cases e2 : j = i
          · subst e2; exact .inr e
          · exact .inl ⟨j, by omega, e⟩
theorem impl_SpansOf_eq {k : Nat} {l : List Int} (c : Int) (hk : 2 * l.length + 40 < k) (hn : l.length ≤ 1048576) : impl_SpansOf.f k l c = some (spansF l c) := by
  obtain ⟨k, rfl⟩ : ∃ m, k = m + 1 := ⟨k - 1, by omega⟩
  unfold impl_SpansOf.f
  rw [impl_ScaleOk_eq (by omega) hn]
  simp only [Option.bind_some, impl_within_eq, impl_SpansOf.j0, decide_eq_true_eq]
  by_cases hs : scaleB l
  · rw [if_pos hs]
    by_cases hc : 0 ≤ c ∧ c ≤ (l.length : Int)
    · rw [decide_eq_true hc]
      simp only [Bool.not_true, Bool.false_eq_true, if_false]
      exact impl_SpansOf_l0 l.length k l c [] 0 hs hc.1 hc.2 (by omega) (by omega) (by simp) (by simp) (by simp)
    · rw [decide_eq_false hc, spansF, if_neg (c := scaleB l ∧ (0 ≤ c ∧ c ≤ (l.length : Int))) (fun h => hc h.2)]
      simp
  · rw [if_neg hs, spansF, if_neg (c := scaleB l ∧ (0 ≤ c ∧ c ≤ (l.length : Int))) (fun h => hs h.1)]
    simp

theorem laws_szIntS_eq {l : List Int} (h : l.length ≤ maxLen) : laws_szIntS.f l 1048576 = some (if 1048576 < l.length then -1 else 1048576 - (l.length : Int)) := by
  have h2 := maxLen_le h
  unfold laws_szIntS.f
  rw [w64 (by omega) (by omega)]
  by_cases c : 1048576 < l.length
  · rw [if_pos c, if_pos (by omega)]
  · rw [if_neg c, if_neg (by omega)]

theorem laws_szScale_eq {l : List Int} (h : l.length ≤ maxLen) : laws_szScale.f l 1048576 = some (if 1048576 < l.length then -1 else 1048576 - (l.length : Int)) := by
  unfold laws_szScale.f
  rw [laws_szIntS_eq h]
  simp only [Option.bind_some]
  by_cases c : 1048576 < l.length
  · rw [if_pos c, if_pos (by omega)]
  · rw [if_neg c, if_neg (by omega)]

theorem laws_toIntS_l0 (d : Nat) : ∀ (k : Nat) (l x : List Int) (i : Nat), i + d = l.length → d < k → l.length ≤ 35184372088832 → x.length = l.length → (∀ j, j < i → x[j]? = l[j]?) →
    laws_toIntS.l0 k l x (i : Int) = some l := by
  induction d with
  | zero =>
    intro k l x i hi hk hn hx he
    obtain ⟨k, rfl⟩ : ∃ m, k = m + 1 := ⟨k - 1, by omega⟩
    simp only [laws_toIntS.l0]
    rw [if_neg (by omega)]
    refine congrArg some (List.ext_getElem? fun j => ?_)
    by_cases hj : j < i
    · exact he j hj
    · rw [List.getElem?_eq_none (by omega), List.getElem?_eq_none (by omega)]
  | succ d ih =>
    intro k l x i hi hk hn hx he
    obtain ⟨k, rfl⟩ : ∃ m, k = m + 1 := ⟨k - 1, by omega⟩
    simp only [laws_toIntS.l0]
    rw [if_pos (by omega), if_pos (by omega), if_pos (by omega), up_one (n := l.length) (by omega) (by omega)]
    refine ih k l _ (i + 1) (by omega) (by omega) hn (by simpa using hx) fun j hj => ?_
    rw [Int.toNat_natCast, List.getElem?_set]
    by_cases hji : i = j
    · subst hji
      rw [if_pos rfl, if_pos (by omega), rd_get (by omega), List.getElem?_eq_getElem (by omega)]
    · rw [if_neg hji]
      exact he j (by omega)
theorem laws_toIntS_eq {k : Nat} {l : List Int} (hk : l.length < k) (hn : l.length ≤ 35184372088832) : laws_toIntS.f k l = some l := by
  unfold laws_toIntS.f
  rw [if_pos (by omega), if_pos (by simpa using hn)]
  exact laws_toIntS_l0 l.length k l _ 0 (by omega) hk hn (by simp) (fun j hj => absurd hj (by omega))

theorem laws_toScale_eq {k : Nat} {l : List Int} (hk : l.length < k) (hn : l.length ≤ 35184372088832) : laws_toScale.f k l = some l := by
  unfold laws_toScale.f
  rw [laws_toIntS_eq hk hn]
  rfl

theorem laws_eqIntS_l0 (d : Nat) : ∀ (k : Nat) (l x : List Int) (i : Nat), i + d = l.length → d < k → l.length ≤ 35184372088832 → x.length = l.length →
    laws_eqIntS.l0 k l x (i : Int) = some (decide (l.drop i = x.drop i)) := by
  induction d with
  | zero =>
    intro k l x i hi hk hn hx
    obtain ⟨k, rfl⟩ : ∃ m, k = m + 1 := ⟨k - 1, by omega⟩
    simp only [laws_eqIntS.l0]
    rw [if_neg (by omega), List.drop_eq_nil_of_le (by omega), List.drop_eq_nil_of_le (by omega)]
    simp
  | succ d ih =>
    intro k l x i hi hk hn hx
    obtain ⟨k, rfl⟩ : ∃ m, k = m + 1 := ⟨k - 1, by omega⟩
    simp only [laws_eqIntS.l0]
    rw [if_pos (by omega), if_pos (by omega), if_pos (by omega), up_one (n := l.length) (by omega) (by omega), ih k l x (i + 1) (by omega) (by omega) hn hx,
      drop_rd (l := l) (i := i) (by omega), drop_rd (l := x) (i := i) (by omega)]
    by_cases h : rd l (i : Int) = rd x (i : Int)
    · rw [if_pos h]; simp [h]
    · rw [if_neg h]; simp [h]
theorem laws_eqIntS_eq {k : Nat} {l x : List Int} (hk : l.length < k) (hn : l.length ≤ 35184372088832) : laws_eqIntS.f k l x = some (decide (l = x)) := by
  unfold laws_eqIntS.f
  by_cases h : x.length = l.length
  · rw [if_pos (by omega)]
    exact laws_eqIntS_l0 l.length k l x 0 (by omega) hk hn h
  · rw [if_neg (by omega)]
    have : l ≠ x := fun e => h (by rw [e])
    simp [this]

theorem laws_eqScale_eq {k : Nat} {l x : List Int} (hk : l.length < k) (hn : l.length ≤ 35184372088832) : laws_eqScale.f k l x = some (decide (l = x)) := by
  unfold laws_eqScale.f
  rw [laws_eqIntS_eq hk hn]
  by_cases h : l = x <;> simp [h]

theorem spec_l01In_eq (a b c : Int) : spec_l01In.f a b c = some (decide (b ≤ a ∧ a ≤ c)) := by
  unfold spec_l01In.f; by_cases h : a ≥ b <;> by_cases h2 : a ≤ c <;> simp [h, h2]; all_goals omega

theorem spec_ScaleOk_l0 (d : Nat) : ∀ (k : Nat) (l : List Int) (s : Int) (i : Nat), i + d = l.length → d < k → l.length ≤ 1048576 → 0 ≤ s → s ≤ (20 * i : Int) →
    spec_ScaleOk.l0 k s (i : Int) l = some (decide (scaleG (l.drop i) s l.length)) := by
  induction d with
  | zero =>
    intro k l s i hi hk hn h1 h2
    obtain ⟨k, rfl⟩ : ∃ m, k = m + 1 := ⟨k - 1, by omega⟩
    simp only [spec_ScaleOk.l0, spec_l01In_eq]
    rw [if_neg (by omega), List.drop_eq_nil_of_le (by omega)]
    by_cases h : 1 ≤ (l.length : Int) ∧ (l.length : Int) ≤ 12
    · simp only [h, and_self, decide_true, if_true, Option.bind_some, scaleG, List.not_mem_nil, false_imp_iff, implies_true, true_and, List.sum_nil, Int.add_zero]
    · simp only [h, decide_false, Bool.false_eq_true, if_false, Option.bind_some, scaleG, false_and, and_false]
  | succ d ih =>
    intro k l s i hi hk hn h1 h2
    obtain ⟨k, rfl⟩ : ∃ m, k = m + 1 := ⟨k - 1, by omega⟩
    simp only [spec_ScaleOk.l0]
    have hlt : (i : Int) < (l.length : Int) := by omega
    have h0 : (0 : Int) ≤ (i : Int) := by omega
    simp only [hlt, h0, if_true, spec_l01In_eq, up_one (n := l.length) (show i < l.length by omega) (by omega)]
    rw [drop_rd (l := l) (i := i) (by omega)]
    simp only [Option.bind_some, decide_eq_true_eq, scaleG_cons]
    by_cases h : 1 ≤ rd l (i : Int) ∧ rd l (i : Int) ≤ 20
    · rw [if_pos h, w64 (by omega) (by omega), ih k l _ (i + 1) (by omega) (by omega) hn (by omega) (by omega)]
      simp [h]
    · rw [if_neg h]; simp [h]
theorem spec_ScaleOk_eq {k : Nat} {l : List Int} (hk : l.length < k) (hn : l.length ≤ 1048576) : spec_ScaleOk.f k l = some (decide (scaleB l)) := by
  unfold spec_ScaleOk.f scaleB
  exact spec_ScaleOk_l0 l.length k l 0 0 (by omega) hk hn (by omega) (by omega)

theorem spec_SpanAt_l0 (d : Nat) : ∀ (k : Nat) (l : List Int) (f : Int) (c i : Nat), i + d = c → d < k → scaleB l → 0 ≤ f → f ≤ (l.length : Int) - 1 → c ≤ l.length →
    spec_SpanAt.l0 k f (c : Int) (spanF l f i) (i : Int) l = some (spanF l f c) := by
  induction d with
  | zero =>
    intro k l f c i hi hk hs h0 h1 hc
    obtain ⟨k, rfl⟩ : ∃ m, k = m + 1 := ⟨k - 1, by omega⟩
    simp only [spec_SpanAt.l0]
    obtain rfl : i = c := by omega
    rw [if_neg (by omega)]
  | succ d ih =>
    intro k l f c i hi hk hs h0 h1 hc
    obtain ⟨k, rfl⟩ : ∃ m, k = m + 1 := ⟨k - 1, by omega⟩
    have hl := scaleB_len hs
    have e := tmod_nat (f := f) (n := l.length) i h0 hl.1
    have hm : (f.toNat + i) % l.length < l.length := Nat.mod_lt _ (by omega)
    have hr := scaleB_rd hs hm
    have hsp := spanF_rng hs h0 i
    simp only [spec_SpanAt.l0]
    rw [if_pos (by omega), if_neg (by omega), w64 (x := f + (i : Int)) (by omega) (by omega), e, if_pos (by omega), if_pos (by omega), up_one (n := 12) (by omega) (by omega), w64 (by omega) (by omega)]
    rw [← ih k l f c (i + 1) (by omega) (by omega) hs h0 h1 hc]
    simp only [spanF, e]
theorem spec_SpanAt_eq {k : Nat} {l : List Int} (f c : Int) (hk : l.length + 20 < k) (hn : l.length ≤ 1048576) : spec_SpanAt.f k l f c = some (spanAtF l f c) := by
  obtain ⟨k, rfl⟩ : ∃ m, k = m + 1 := ⟨k - 1, by omega⟩
  unfold spec_SpanAt.f spanAtF
  rw [spec_ScaleOk_eq (by omega) hn]
  simp only [Option.bind_some, spec_l01In_eq, spec_SpanAt.j0, decide_eq_true_eq]
  by_cases hs : scaleB l
  · have hl := scaleB_len hs
    rw [w64 (x := (l.length : Int) - 1) (by omega) (by omega)]
    by_cases h1 : 0 ≤ f ∧ f ≤ (l.length : Int) - 1
    · by_cases h2 : 0 ≤ c ∧ c ≤ (l.length : Int)
      · have := spec_SpanAt_l0 c.toNat k l f c.toNat 0 (by omega) (by omega) hs h1.1 h1.2 (by omega)
        rw [show ((c.toNat : Nat) : Int) = c by omega] at this
        simp only [spanF] at this
        simp only [hs, h1, h2, and_self, if_true, decide_true, Bool.not_true, Bool.false_eq_true, if_false]
        exact this
      · simp [hs, h1, h2]
    · simp [hs, h1]
  · simp [hs]

/-- The first place that holds no less than x. -/
def posF (x : Int) : List Int → Nat
  | [] => 0
  | y :: l => if x ≤ y then 0 else posF x l + 1
theorem posF_le (x : Int) : ∀ l, posF x l ≤ l.length
  | [] => by simp [posF]
  | y :: l => by
    have := posF_le x l
    simp only [posF]
    split <;> simp <;> omega
theorem insD_pos (x : Int) : ∀ l : List Int, insD x l = if posF x l < l.length ∧ rd l (posF x l : Int) = x then l else l.take (posF x l) ++ x :: l.drop (posF x l)
  | [] => by simp [insD, posF]
  | y :: l => by
    have ih := insD_pos x l
    simp only [insD]
    by_cases c : y < x
    · have hp : posF x (y :: l) = posF x l + 1 := by simp only [posF]; rw [if_neg (by omega)]
      have e : rd (y :: l) ((posF x l + 1 : Nat) : Int) = rd l (posF x l : Int) := by simp [rd, List.getD]
      rw [if_pos c, ih, hp, e]
      by_cases c2 : posF x l < l.length ∧ rd l (posF x l : Int) = x
      · rw [if_pos c2, if_pos (by simp only [List.length_cons]; exact ⟨by omega, c2.2⟩)]
      · rw [if_neg c2, if_neg (by simp only [List.length_cons]; exact fun h => c2 ⟨by omega, h.2⟩)]
        simp
    · have hp : posF x (y :: l) = 0 := by simp only [posF]; rw [if_pos (by omega)]
      have e : rd (y :: l) ((0 : Nat) : Int) = y := by simp [rd, List.getD]
      rw [if_neg c, hp, e]
      by_cases e2 : y = x
      · rw [if_pos e2, if_pos ⟨by simp, e2⟩]
      · rw [if_neg e2, if_neg (fun h => e2 h.2)]
        simp
theorem spec_SpansOf_l2 (d : Nat) : ∀ (k : Nat) (l : List Int) (c : Int) (out : List Int) (z : Int) (f x : Int) (at_ i : Nat) (r : Option (List Int)), at_ + d = i → i ≤ out.length → out.length ≤ 1000 → d < k →
    (∀ m, k ≤ m + d + 1 → spec_SpansOf.l0 m c (out.take at_ ++ x :: out.drop at_) (wrap64 (f + 1)) l = r) →
    spec_SpansOf.l2 k c (out.take i ++ z :: out.drop i) f x (at_ : Int) (i : Int) l = r := by
  induction d with
  | zero =>
    intro k l c out z f x at_ i r hi hl hn hk hr
    obtain ⟨k, rfl⟩ : ∃ m, k = m + 1 := ⟨k - 1, by omega⟩
    obtain rfl : at_ = i := by omega
    have hlen : (out.take at_ ++ z :: out.drop at_).length = out.length + 1 := by simp; omega
    simp only [spec_SpansOf.l2]
    rw [if_neg (by omega), if_pos (by omega), if_pos (by omega), Int.toNat_natCast]
    have e : (out.take at_ ++ z :: out.drop at_).set at_ x = out.take at_ ++ x :: out.drop at_ := by
      rw [List.set_append_right _ _ (by simp; omega)]
      simp [show min at_ out.length = at_ by omega]
    rw [e]
    exact hr k (by omega)
  | succ d ih =>
    intro k l c out z f x at_ i r hi hl hn hk hr
    obtain ⟨k, rfl⟩ : ∃ m, k = m + 1 := ⟨k - 1, by omega⟩
    obtain ⟨i, rfl⟩ : ∃ m, i = m + 1 := ⟨i - 1, by omega⟩
    have hlen : (out.take (i + 1) ++ z :: out.drop (i + 1)).length = out.length + 1 := by simp; omega
    simp only [spec_SpansOf.l2]
    rw [w64 (x := ((i + 1 : Nat) : Int) - 1) (by omega) (by omega), show ((i + 1 : Nat) : Int) - 1 = (i : Int) by omega]
    rw [if_pos (by omega), if_pos (by omega), if_pos (by omega), if_pos (by omega), if_pos (by omega), Int.toNat_natCast]
    have e0 : rd (out.take (i + 1) ++ z :: out.drop (i + 1)) (i : Int) = out[i] := by
      rw [rd_get (by omega), List.getElem_append_left (by simp; omega)]
      simp
    have e : (out.take (i + 1) ++ z :: out.drop (i + 1)).set (i + 1) out[i] = out.take i ++ out[i] :: out.drop i := by
      have t1 : out.take (i + 1) = out.take i ++ [out[i]] := by rw [List.take_succ_eq_append_getElem (by omega)]
      have t2 : out.drop i = out[i] :: out.drop (i + 1) := List.drop_eq_getElem_cons (by omega)
      have t3 : i + 1 - (out.take (i + 1)).length = 0 := by simp; omega
      rw [List.set_append_right _ _ (by simp; omega), t3, List.set_cons_zero, ← t2, t1, List.append_assoc]
      rfl
    rw [e0, e]
    exact ih k l c out _ f x at_ i r (by omega) (by omega) hn (by omega) fun m hm => hr m (by omega)
theorem spec_SpansOf_l1 (d : Nat) : ∀ (k : Nat) (l : List Int) (c : Int) (out : List Int) (f x : Int) (r : Option (List Int)), d ≤ out.length → out.length ≤ 1000 → 2 * out.length + 10 + d < k →
    (∀ m, k ≤ m + d + out.length + 6 → spec_SpansOf.l0 m c (insD x out) (wrap64 (f + 1)) l = r) →
    spec_SpansOf.l1 k c out f x ((d + posF x (out.drop d) : Nat) : Int) ((d : Int) - 1) l = r := by
  induction d with
  | zero =>
    intro k l c out f x r hd hn hk hr
    obtain ⟨k, rfl⟩ : ∃ m, k = m + 3 := ⟨k - 3, by omega⟩
    have hp := posF_le x out
    have hi := insD_pos x out
    have hw : ∀ n : Nat, n = out.length + 1 → wrap64 ((n : Int) - 1) = (out.length : Int) := by
      intro n h
      rw [w64 (by omega) (by omega)]
      omega
    simp only [spec_SpansOf.l1, spec_SpansOf.j3, List.drop_zero, Nat.zero_add]
    rw [if_neg (by omega)]
    by_cases c1 : posF x out < out.length
    · rw [if_pos (by omega), if_pos (by omega)]
      by_cases c2 : rd out (posF x out : Int) = x
      · rw [if_pos ⟨c1, c2⟩] at hi
        rw [if_pos (by simpa using c2)]
        rw [← hi]
        exact hr (k + 1) (by omega)
      · rw [if_neg (fun h => c2 h.2)] at hi
        rw [if_neg (by simpa using c2), if_pos (by omega)]
        simp only [Option.bind_some]
        have := spec_SpansOf_l2 (out.length - posF x out) (k + 1) l c out 0 f x (posF x out) out.length r (by omega) (Nat.le_refl _) hn (by omega) (fun m hm => by rw [← hi]; exact hr m (by omega))
        simp only [List.take_length, List.drop_length] at this
        rw [hw _ (by simp)]
        exact this
    · rw [if_neg (by omega)]
      rw [if_neg (fun h => c1 h.1)] at hi
      rw [if_neg (by simp), if_pos (by omega)]
      simp only [Option.bind_some]
      have := spec_SpansOf_l2 (out.length - posF x out) (k + 1) l c out 0 f x (posF x out) out.length r (by omega) (Nat.le_refl _) hn (by omega) (fun m hm => by rw [← hi]; exact hr m (by omega))
      simp only [List.take_length, List.drop_length] at this
      rw [hw _ (by simp)]
      exact this
  | succ d ih =>
    intro k l c out f x r hd hn hk hr
    obtain ⟨k, rfl⟩ : ∃ m, k = m + 1 := ⟨k - 1, by omega⟩
    simp only [spec_SpansOf.l1]
    rw [show ((d + 1 : Nat) : Int) - 1 = (d : Int) by omega, w64 (x := (d : Int) - 1) (by omega) (by omega)]
    rw [if_pos (by omega), if_pos (by omega), if_pos (by omega)]
    have ih' := ih k l c out f x r (by omega) hn (by omega) fun m hm => hr m (by omega)
    rw [drop_rd (l := out) (i := d) (by omega)] at ih'
    simp only [posF] at ih'
    by_cases c1 : rd out (d : Int) ≥ x
    · rw [if_pos c1]
      rw [if_pos c1] at ih'
      exact ih'
    · rw [if_neg c1]
      rw [if_neg c1, show d + (posF x (out.drop (d + 1)) + 1) = d + 1 + posF x (out.drop (d + 1)) by omega] at ih'
      exact ih'
theorem spec_SpansOf_l0 (d : Nat) : ∀ (k : Nat) (l : List Int) (c : Int) (out : List Int) (i : Nat), scaleB l → 0 ≤ c → c ≤ (l.length : Int) → i + d = l.length → 60 * d + 60 < k → out.length ≤ i →
    spec_SpansOf.l0 k c out (i : Int) l = some (spansL l c i d out) := by
  induction d with
  | zero =>
    intro k l c out i hs h0 h1 hi hk hl
    obtain ⟨k, rfl⟩ : ∃ m, k = m + 2 := ⟨k - 2, by omega⟩
    simp only [spec_SpansOf.l0, spec_SpansOf.j1]
    rw [if_neg (by omega)]
    simp [spansL]
  | succ d ih =>
    intro k l c out i hs h0 h1 hi hk hl
    obtain ⟨k, rfl⟩ : ∃ m, k = m + 2 := ⟨k - 2, by omega⟩
    have h12 := scaleB_len hs
    simp only [spec_SpansOf.l0]
    rw [if_pos (by omega), spec_ScaleOk_eq (by omega) (by omega), decide_eq_true hs]
    simp only [Option.bind_some, if_true]
    rw [spec_l01In_eq, decide_eq_true (⟨h0, h1⟩ : 0 ≤ c ∧ c ≤ (l.length : Int))]
    simp only [Option.bind_some, spec_SpansOf.j1, if_true]
    rw [spec_SpanAt_eq _ _ (by omega) (by omega)]
    simp only [Option.bind_some, spansL]
    rw [w64 (x := (out.length : Int) - 1) (by omega) (by omega)]
    have hi2 := len_insD (spanAtF l (i : Int) c) out
    have := spec_SpansOf_l1 out.length k l c out (i : Int) (spanAtF l (i : Int) c) (some (spansL l c (i + 1) d (insD (spanAtF l (i : Int) c) out))) (Nat.le_refl _) (by omega) (by omega) fun m hm => by
      rw [up_one (n := 20) (by omega) (by omega)]
      exact ih m l c _ (i + 1) hs h0 h1 (by omega) (by omega) (by omega)
    rw [List.drop_length] at this
    simpa [posF] using this
theorem spec_SpansOf_eq {k : Nat} {l : List Int} (c : Int) (hk : l.length + 1000 < k) (hn : l.length ≤ 1048576) : spec_SpansOf.f k l c = some (spansF l c) := by
  unfold spec_SpansOf.f spansF
  by_cases hs : scaleB l
  · have h12 := scaleB_len hs
    by_cases hc : 0 ≤ c ∧ c ≤ (l.length : Int)
    · rw [if_pos ⟨hs, hc⟩]
      exact spec_SpansOf_l0 l.length k l c [] 0 hs hc.1 hc.2 (by omega) (by omega) (by simp)
    · rw [if_neg (fun h => hc h.2)]
      obtain ⟨k, rfl⟩ : ∃ m, k = m + 2 := ⟨k - 2, by omega⟩
      simp only [spec_SpansOf.l0]
      rw [if_pos (by omega), spec_ScaleOk_eq (by omega) (by omega), decide_eq_true hs]
      simp only [Option.bind_some, if_true]
      rw [spec_l01In_eq, decide_eq_false hc]
      simp [spec_SpansOf.j1]
  · rw [if_neg (fun h => hs h.1)]
    obtain ⟨k, rfl⟩ : ∃ m, k = m + 2 := ⟨k - 2, by omega⟩
    simp only [spec_SpansOf.l0]
    by_cases c0 : (0 : Int) < (l.length : Int)
    · rw [if_pos c0, spec_ScaleOk_eq (by omega) (by omega), decide_eq_false hs]
      simp [spec_SpansOf.j1]
    · rw [if_neg c0]
      simp [spec_SpansOf.j1]

theorem laws_markIntS_l0 (d : Nat) : ∀ (k : Nat) (x : List Int) (a : Int) (i : Nat), i + d = x.length → d < k → x.length ≤ 35184372088832 → 0 ≤ a → a + d ≤ 9000000000000000000 →
    ∃ y : List Int, laws_markIntS.l0 k x a (i : Int) = some (a + d, y) ∧ y.length = x.length ∧ (∀ j, j < i → y[j]? = x[j]?) ∧ (∀ j, i ≤ j → j < x.length → y[j]? = some (a + (j - i : Int))) := by
  induction d with
  | zero =>
    intro k x a i hi hk hn ha hb
    obtain ⟨k, rfl⟩ : ∃ m, k = m + 1 := ⟨k - 1, by omega⟩
    simp only [laws_markIntS.l0]
    rw [if_neg (by omega)]
    exact ⟨x, by simp, rfl, fun _ _ => rfl, fun j h1 h2 => by omega⟩
  | succ d ih =>
    intro k x a i hi hk hn ha hb
    obtain ⟨k, rfl⟩ : ∃ m, k = m + 1 := ⟨k - 1, by omega⟩
    simp only [laws_markIntS.l0]
    rw [if_pos (by omega), if_pos (by omega), up_one (n := x.length) (by omega) (by omega), w64 (x := a + 1) (by omega) (by omega)]
    obtain ⟨y, h1, h2, h3, h4⟩ := ih k (x.set (i : Int).toNat a) (a + 1) (i + 1) (by simpa using (by omega : i + 1 + d = x.length)) (by omega) (by simpa using hn) (by omega) (by omega)
    refine ⟨y, by rw [h1]; exact congrArg some (Prod.ext (by simp; omega) rfl), by simpa using h2, fun j hj => ?_, fun j hj hj2 => ?_⟩
    · rw [h3 j (by omega), Int.toNat_natCast, List.getElem?_set, if_neg (by omega)]
    · by_cases e : j = i
      · subst e
        rw [h3 j (by omega), Int.toNat_natCast, List.getElem?_set, if_pos rfl, if_pos (by omega)]
        exact congrArg some (by omega)
      · rw [h4 j (by omega) (by simpa using hj2)]
        exact congrArg some (by omega)

theorem laws_heldIntS_l0 (d : Nat) : ∀ (k : Nat) (x : List Int) (a : Int) (i : Nat), i + d = x.length → d < k → x.length ≤ 35184372088832 → 0 ≤ a → a + d ≤ 9000000000000000000 →
    (∀ j, i ≤ j → j < x.length → x[j]? = some (a + (j - i : Int))) → laws_heldIntS.l0 k x a (i : Int) = some (a + d) := by
  induction d with
  | zero =>
    intro k x a i hi hk hn ha hb hx
    obtain ⟨k, rfl⟩ : ∃ m, k = m + 1 := ⟨k - 1, by omega⟩
    simp only [laws_heldIntS.l0]
    rw [if_neg (by omega)]
    simp
  | succ d ih =>
    intro k x a i hi hk hn ha hb hx
    obtain ⟨k, rfl⟩ : ∃ m, k = m + 1 := ⟨k - 1, by omega⟩
    simp only [laws_heldIntS.l0]
    have e := hx i (Nat.le_refl _) (by omega)
    have e2 : rd x (i : Int) = a := by
      rw [rd_get (by omega)]
      rw [List.getElem?_eq_getElem (by omega)] at e
      have := Option.some.inj e
      omega
    rw [if_pos (by omega), if_pos (by omega), if_pos e2, up_one (n := x.length) (by omega) (by omega), w64 (x := a + 1) (by omega) (by omega),
      ih k x (a + 1) (i + 1) (by omega) (by omega) hn (by omega) (by omega) (fun j h1 h2 => by rw [hx j (by omega) h2]; exact congrArg some (by omega))]
    exact congrArg some (by omega)
/-- What is marked is held. -/
theorem mark_held (l : List Int) (hn : l.length ≤ 35184372088832) : ∃ y : List Int, ∀ k, l.length < k → laws_markIntS.f k l 1 = some (1 + (l.length : Int), y) ∧ laws_heldIntS.f k y 1 = some (1 + (l.length : Int)) := by
  obtain ⟨y, h1, h2, _, h4⟩ := laws_markIntS_l0 l.length (l.length + 1) l 1 0 (by omega) (by omega) hn (by omega) (by omega)
  refine ⟨y, fun k hk => ⟨at_rounds (laws_markIntS.mono l 1) (Nat.succ_le_of_lt hk) h1, ?_⟩⟩
  have := laws_heldIntS_l0 l.length k y 1 0 (by omega) hk (by omega) (by omega) (by omega) (fun j hj hj2 => h4 j hj (by omega))
  exact this

/-- The law, over numbers and lists. -/
def laws_FnExactSpansOf.Pure : Prop := ∀ (l0_0 : List Int) (a1 : Int), l0_0.length ≤ maxLen → (∀ x ∈ l0_0, (Lit.int .i64 x).wf = true) → (Lit.int .i64 a1).wf = true → ∃ k, laws_FnExactSpansOf.f k l0_0 a1 = some true
theorem markS (l : List Int) (hn : l.length ≤ 35184372088832) : ∃ y : List Int, ∀ k, l.length < k → laws_markScale.f k l 1 = some (1 + (l.length : Int), y) := by
  obtain ⟨y, hy⟩ := mark_held l hn
  refine ⟨y, fun k hk => ?_⟩
  unfold laws_markScale.f
  rw [(hy k hk).1]
  rfl
theorem FnExactSpansOf : laws_FnExactSpansOf.Pure := by
  intro l c hm _ _
  obtain ⟨K, hK⟩ : ∃ K : Nat, 4 * l.length + 3000 ≤ K := ⟨_, Nat.le_refl _⟩
  refine ⟨K + 1, ?_⟩
  unfold laws_FnExactSpansOf.f
  rw [laws_szScale_eq hm]
  simp only [Option.bind_some]
  by_cases d : 1048576 < l.length
  · rw [if_pos d, if_pos (by omega)]
  · rw [if_neg d, if_neg (by omega), laws_toScale_eq (by omega) (by omega)]
    simp only [Option.bind_some]
    rw [spec_SpansOf_eq _ (by omega) (by omega), impl_SpansOf_eq _ (by omega) (by omega)]
    simp only [Option.bind_some]
    have hq := spansF_len l c
    obtain ⟨q, he⟩ : ∃ q, spansF l c = q := ⟨_, rfl⟩
    rw [he] at hq ⊢
    obtain ⟨y, hy⟩ := markS l (by omega)
    obtain ⟨z, hz⟩ := mark_held q (by omega)
    rw [laws_eqIntS_eq (by omega) (by omega)]
    simp only [Option.bind_some, decide_true, if_true]
    rw [laws_eqScale_eq (by omega) (by omega)]
    simp only [Option.bind_some, decide_true, if_true]
    rw [hy _ (by omega)]
    simp only [Option.bind_some, laws_FnExactSpansOf.j0, Bool.not_true, Bool.false_eq_true, if_false]
    rw [if_neg (by omega), (hz _ (by omega)).1]
    simp only [Option.bind_some]
    rw [(hz _ (by omega)).2]
    simp only [Option.bind_some]
    rw [if_neg (by omega)]
    simp only [if_true]
    rw [laws_toScale_eq (by omega) (by omega)]
    simp only [Option.bind_some]
    rw [impl_SpansOf_eq _ (by omega) (by omega)]
    simp only [Option.bind_some]
    rw [he, laws_eqIntS_eq (by omega) (by omega)]
    simp only [Option.bind_some, decide_true, if_true]
    rw [if_neg (by omega)]

end Go.Proofs.Ytgolkgcmmionpaa.Pure
