/- The number of modes of a drawn scale divides the number of its notes, modes of modes are modes, and what is told of a scale is told of its modes: for every code the law returns true. No condition. -/
import Derived.Test.YtgolkgcmmionpaaPFnModesx1
import Derived.Test.YtgolkgcmmionpaaPFnModesx2
import Derived.Test.YtgolkgcmmionpaaPFnModesx3
import Derived.Test.YtgolkgcmmionpaaPFnModesx4
import Derived.Test.YtgolkgcmmionpaaPFnModesx5
import Derived.Test.YtgolkgcmmionpaaPFnModesx6
import Derived.Test.YtgolkgcmmionpaaPFnModesx7
import Derived.OpenShut
namespace Go.Proofs.Ytgolkgcmmionpaa.Pure
open Go.RowKit Go.Proofs.Ytgolkgcmmionpaa.PFnModes Go.Proofs.YtgolkgcmmionpaaW.PrintWords Go.Proofs.YtgolkgcmmionpaaW.PrintLast Go.Proofs.YtgolkgcmmionpaaW.PrintMore
set_option linter.unusedVariables false
set_option linter.unusedSimpArgs false
theorem w64 {x : Int} (h : -9223372036854775808 ≤ x) (h' : x ≤ 9223372036854775807) : wrap64 x = x := by unfold wrap64; omega
theorem wf64 {x : Int} (h : (Lit.int .i64 x).wf = true) : -9223372036854775808 ≤ x ∧ x ≤ 9223372036854775807 := by
  simp only [Lit.wf, IntKind.min, IntKind.max, IntKind.signed, IntKind.bits, Bool.and_eq_true, decide_eq_true_eq, if_true] at h
  omega
theorem wfu8 {x : Int} (h : (Lit.int .u8 x).wf = true) : 0 ≤ x ∧ x ≤ 255 := by
  simp [Lit.wf, IntKind.min, IntKind.max, IntKind.signed, IntKind.bits] at h
  omega
theorem mx_def (a b : Int) : mx a b = max a b := by unfold mx; omega
theorem mn_def (a b : Int) : mn a b = min a b := by unfold mn; omega
theorem fuel {n k : Nat} (h : n < k) : ∃ m, k = m + 1 ∧ n ≤ m := ⟨k - 1, by omega, by omega⟩
theorem gcd_tmod (a b : Int) : Int.gcd b (Int.tmod a b) = Int.gcd a b := by
  unfold Int.gcd
  rw [Int.natAbs_tmod, Nat.gcd_comm, ← Nat.gcd_rec, Nat.gcd_comm]
theorem tmod_lt (a : Int) {b : Int} (h : b ≠ 0) : (Int.tmod a b).natAbs < b.natAbs := by
  rw [Int.natAbs_tmod]
  exact Nat.mod_lt _ (by omega)
theorem drop_rd {l : List Int} {i : Nat} (h : i < l.length) : l.drop i = rd l (i : Int) :: l.drop (i + 1) := by
  rw [List.drop_eq_getElem_cons h]
  simp [rd, List.getD, List.getElem?_eq_getElem h]
theorem rd_get {l : List Int} {i : Nat} (h : i < l.length) : rd l (i : Int) = l[i] := by simp [rd, List.getD, List.getElem?_eq_getElem h]
theorem up_one {i n : Nat} (h : i < n) (hn : n ≤ 9223372036854775807) : wrap64 ((i : Int) + 1) = ((i + 1 : Nat) : Int) := by rw [w64 (by omega) (by omega)]; omega
theorem rd_mem {l : List Int} {i : Nat} (h : i < l.length) : rd l (i : Int) ∈ l := by rw [rd_get h]; exact List.getElem_mem h
theorem maxLen_le {n : Nat} (h : n ≤ maxLen) : (n : Int) ≤ 9223372036854775807 := by unfold maxLen at h; omega

def scaleG (l : List Int) (s : Int) (n : Nat) : Prop := (∀ x ∈ l, 1 ≤ x ∧ x ≤ 20) ∧ (1 ≤ (n : Int) ∧ (n : Int) ≤ 12) ∧ s + l.sum ≤ 60
theorem scaleG_cons (a : Int) (l : List Int) (s : Int) (n : Nat) : scaleG (a :: l) s n ↔ (1 ≤ a ∧ a ≤ 20) ∧ scaleG l (s + a) n := by
  unfold scaleG
  simp only [List.mem_cons, forall_eq_or_imp, List.sum_cons]
  constructor
  · rintro ⟨⟨h1, h2⟩, h3, h4⟩; exact ⟨h1, h2, h3, by omega⟩
  · rintro ⟨h1, h2, h3, h4⟩; exact ⟨⟨h1, h2⟩, h3, by omega⟩
instance (l : List Int) (s : Int) (n : Nat) : Decidable (scaleG l s n) := by unfold scaleG; infer_instance
/-- A valid scale. -/
def scaleB (l : List Int) : Prop := scaleG l 0 l.length
instance (l : List Int) : Decidable (scaleB l) := by unfold scaleB; infer_instance
theorem scaleB_len {l : List Int} (h : scaleB l) : 1 ≤ l.length ∧ l.length ≤ 12 := by have := h.2.1; omega
theorem scaleB_rd {l : List Int} (h : scaleB l) {i : Nat} (hi : i < l.length) : 1 ≤ rd l (i : Int) ∧ rd l (i : Int) ≤ 20 := h.1 _ (rd_mem hi)

/-- The sum of c steps from f on. -/
def spanF (l : List Int) (f : Int) : Nat → Int
  | 0 => 0
  | c + 1 => spanF l f c + rd l (Int.tmod (f + c) l.length)
theorem tmod_nat {f : Int} {n : Nat} (c : Nat) (h : 0 ≤ f) (hn : 1 ≤ n) : Int.tmod (f + c) n = (((f.toNat + c) % n : Nat) : Int) := by
  rw [Int.tmod_eq_emod_of_nonneg (by omega)]
  have : f + (c : Int) = ((f.toNat + c : Nat) : Int) := by omega
  rw [this]
  rfl
theorem spanF_rng {l : List Int} (h : scaleB l) {f : Int} (hf : 0 ≤ f) (c : Nat) : 0 ≤ spanF l f c ∧ spanF l f c ≤ 20 * (c : Int) := by
  have hl := scaleB_len h
  induction c with
  | zero => simp [spanF]
  | succ c ih =>
    simp only [spanF]
    rw [tmod_nat c hf hl.1]
    have := scaleB_rd h (i := (f.toNat + c) % l.length) (Nat.mod_lt _ (by omega))
    omega
def spanAtF (l : List Int) (f c : Int) : Int := if scaleB l ∧ (0 ≤ f ∧ f ≤ (l.length : Int) - 1) ∧ (0 ≤ c ∧ c ≤ (l.length : Int)) then spanF l f c.toNat else 0

theorem spanF_shift {l : List Int} (h : scaleB l) (f : Nat) : ∀ c : Nat, spanF l ((f + 1 : Nat) : Int) c + rd l ((f % l.length : Nat) : Int) = spanF l (f : Int) (c + 1)
  | 0 => by
    have hl := scaleB_len h
    have := tmod_nat (f := (f : Int)) (n := l.length) 0 (by omega) hl.1
    simp only [Int.toNat_natCast, Nat.add_zero] at this
    simp only [spanF]
    rw [this]
  | c + 1 => by
    have hl := scaleB_len h
    have ih := spanF_shift h f c
    have e1 := tmod_nat (f := ((f + 1 : Nat) : Int)) (n := l.length) c (by omega) hl.1
    have e2 := tmod_nat (f := (f : Int)) (n := l.length) (c + 1) (by omega) hl.1
    rw [Int.toNat_natCast] at e1 e2
    rw [spanF, e1, spanF, e2, ← ih, show f + 1 + c = f + (c + 1) by omega]
    omega
theorem spanF_whole {l : List Int} (h : scaleB l) (hs : spanF l 0 l.length = l.sum) : ∀ f : Nat, spanF l (f : Int) l.length = l.sum
  | 0 => hs
  | f + 1 => by
    have hl := scaleB_len h
    have ih := spanF_whole h hs f
    have s := spanF_shift h f l.length
    have e := tmod_nat (f := (f : Int)) (n := l.length) l.length (by omega) hl.1
    rw [Int.toNat_natCast, Nat.add_mod_right] at e
    rw [spanF, e] at s
    omega
theorem spanF_take {l : List Int} (h : scaleB l) : ∀ c : Nat, c ≤ l.length → spanF l 0 c = (l.take c).sum
  | 0, _ => by simp [spanF]
  | c + 1, hc => by
    have hl := scaleB_len h
    have e := tmod_nat (f := 0) (n := l.length) c (by omega) hl.1
    rw [show (0 : Int).toNat = 0 from rfl, Nat.zero_add, Nat.mod_eq_of_lt (show c < l.length by omega)] at e
    rw [spanF, e, spanF_take h c (by omega), List.take_succ_eq_append_getElem (by omega), List.sum_append, rd_get (by omega)]
    simp
theorem spanF_sum {l : List Int} (h : scaleB l) (f : Nat) : spanF l (f : Int) l.length = l.sum :=
  spanF_whole h (by rw [spanF_take h l.length (Nat.le_refl _)]; simp) f

theorem spanF_join {l : List Int} (h : scaleB l) (f a : Nat) : ∀ b : Nat, spanF l (f : Int) (a + b) = spanF l (f : Int) a + spanF l (((f + a) % l.length : Nat) : Int) b
  | 0 => by simp [spanF]
  | b + 1 => by
    have hl := scaleB_len h
    have ih := spanF_join h f a b
    have e1 := tmod_nat (f := (f : Int)) (n := l.length) (a + b) (by omega) hl.1
    have e2 := tmod_nat (f := (((f + a) % l.length : Nat) : Int)) (n := l.length) b (by omega) hl.1
    rw [Int.toNat_natCast] at e1 e2
    rw [← Nat.add_assoc, spanF, e1, ih, spanF, e2, Nat.mod_add_mod, Nat.add_assoc]
    omega
theorem spanAtF_nat {l : List Int} (h : scaleB l) {f c : Nat} (hf : f < l.length) (hc : c ≤ l.length) : spanAtF l (f : Int) (c : Int) = spanF l (f : Int) c := by
  unfold spanAtF
  rw [if_pos ⟨h, by omega, by omega⟩, Int.toNat_natCast]

/-- Strictly rising. -/
def SS (l : List Int) : Prop := l.Pairwise (· < ·)
theorem ss_ext : ∀ {a b : List Int}, SS a → SS b → (∀ x, x ∈ a ↔ x ∈ b) → a = b
  | [], [], _, _, _ => rfl
  | [], y :: b, _, _, h => absurd ((h y).mpr (by simp)) (by simp)
  | x :: a, [], _, _, h => absurd ((h x).mp (by simp)) (by simp)
  | x :: a, y :: b, ha, hb, h => by
    unfold SS at ha hb
    rw [List.pairwise_cons] at ha hb
    have e : x = y := by
      have h1 : x ∈ y :: b := (h x).mp (by simp)
      have h2 : y ∈ x :: a := (h y).mpr (by simp)
      rcases List.mem_cons.mp h1 with e | h1
      · exact e
      · rcases List.mem_cons.mp h2 with e | h2
        · exact e.symm
        · have := ha.1 y h2; have := hb.1 x h1; omega
    subst e
    refine congrArg (x :: ·) (ss_ext ha.2 hb.2 fun z => ⟨fun hz => ?_, fun hz => ?_⟩)
    · rcases List.mem_cons.mp ((h z).mp (List.mem_cons_of_mem _ hz)) with e | h3
      · have := ha.1 z hz; omega
      · exact h3
    · rcases List.mem_cons.mp ((h z).mpr (List.mem_cons_of_mem _ hz)) with e | h3
      · have := hb.1 z hz; omega
      · exact h3
def insD (x : Int) : List Int → List Int
  | [] => [x]
  | y :: l => if y < x then y :: insD x l else if y = x then y :: l else x :: y :: l
theorem mem_insD (x z : Int) : ∀ l, z ∈ insD x l ↔ z = x ∨ z ∈ l
  | [] => by simp [insD]
  | y :: l => by
    have ih := mem_insD x z l
    simp only [insD]
    split
    · simp only [List.mem_cons, ih]
      constructor
      · rintro (h | h | h) <;> simp [h]
      · rintro (h | h | h) <;> simp [h]
    · split
      · rename_i e; subst e; simp
      · simp
theorem ss_insD (x : Int) : ∀ {l}, SS l → SS (insD x l)
  | [], _ => by simp [SS, insD]
  | y :: l, h => by
    unfold SS at h ⊢
    rw [List.pairwise_cons] at h
    simp only [insD]
    split
    · rw [List.pairwise_cons]
      refine ⟨fun z hz => ?_, ss_insD x h.2⟩
      rcases (mem_insD x z l).mp hz with e | hz
      · omega
      · exact h.1 z hz
    · split
      · rw [List.pairwise_cons]; exact h
      · rw [List.pairwise_cons]
        refine ⟨fun z hz => ?_, by rw [List.pairwise_cons]; exact h⟩
        rcases List.mem_cons.mp hz with e | hz
        · omega
        · have := h.1 z hz; omega
theorem len_insD (x : Int) : ∀ l, (insD x l).length ≤ l.length + 1
  | [] => by simp [insD]
  | y :: l => by
    have := len_insD x l
    simp only [insD]
    split
    · simp; omega
    · split <;> simp
/-- The spans from the places i to i + d - 1 on, laid into what is there. -/
def spansL (l : List Int) (c : Int) : Nat → Nat → List Int → List Int
  | _, 0, out => out
  | i, d + 1, out => spansL l c (i + 1) d (insD (spanAtF l (i : Int) c) out)
theorem spansL_ss (l : List Int) (c : Int) : ∀ d i out, SS out → SS (spansL l c i d out)
  | 0, _, _, h => h
  | d + 1, i, out, h => spansL_ss l c d (i + 1) _ (ss_insD _ h)
theorem spansL_mem (l : List Int) (c : Int) (x : Int) : ∀ d i out, x ∈ spansL l c i d out ↔ x ∈ out ∨ ∃ j : Nat, i ≤ j ∧ j < i + d ∧ x = spanAtF l (j : Int) c
  | 0, i, out => by
    simp only [spansL]
    constructor
    · exact .inl
    · rintro (h | ⟨j, h1, h2, _⟩)
      · exact h
      · omega
  | d + 1, i, out => by
    simp only [spansL]
    rw [spansL_mem l c x d (i + 1), mem_insD]
    constructor
    · rintro ((h | h) | ⟨j, h1, h2, h3⟩)
      · exact .inr ⟨i, by omega, by omega, h⟩
      · exact .inl h
      · exact .inr ⟨j, by omega, by omega, h3⟩
    · rintro (h | ⟨j, h1, h2, h3⟩)
      · exact .inl (.inr h)
      · by_cases e : j = i
        · subst e; exact .inl (.inl h3)
        · exact .inr ⟨j, by omega, by omega, h3⟩
theorem spansL_len (l : List Int) (c : Int) : ∀ d i out, (spansL l c i d out).length ≤ out.length + d
  | 0, _, _ => by simp [spansL]
  | d + 1, i, out => by
    have := spansL_len l c d (i + 1) (insD (spanAtF l (i : Int) c) out)
    have := len_insD (spanAtF l (i : Int) c) out
    simp only [spansL]
    omega
/-- The spans of a count of steps, in order, each once. -/
def spansF (l : List Int) (c : Int) : List Int := if scaleB l ∧ (0 ≤ c ∧ c ≤ (l.length : Int)) then spansL l c 0 l.length [] else []
theorem spanAtF_rng (l : List Int) (f c : Int) : 0 ≤ spanAtF l f c ∧ spanAtF l f c ≤ 240 := by
  unfold spanAtF
  split
  · rename_i h
    have := spanF_rng h.1 h.2.1.1 c.toNat
    have := scaleB_len h.1
    omega
  · omega
theorem spansF_ss (l : List Int) (c : Int) : SS (spansF l c) := by
  unfold spansF
  split
  · exact spansL_ss _ _ _ _ _ (by simp [SS])
  · simp [SS]
theorem spansF_mem {l : List Int} {c : Int} (hs : scaleB l) (h0 : 0 ≤ c) (h1 : c ≤ (l.length : Int)) (x : Int) : x ∈ spansF l c ↔ ∃ j : Nat, j < l.length ∧ x = spanAtF l (j : Int) c := by
  unfold spansF
  rw [if_pos ⟨hs, h0, h1⟩, spansL_mem]
  constructor
  · rintro (h | ⟨j, _, h, e⟩)
    · simp at h
    · exact ⟨j, by omega, e⟩
  · rintro ⟨j, h, e⟩
    exact .inr ⟨j, by omega, by omega, e⟩
theorem spansF_len (l : List Int) (c : Int) : (spansF l c).length ≤ 12 := by
  unfold spansF
  split
  · rename_i h
    have := scaleB_len h.1
    have := spansL_len l c l.length 0 []
    simp at this
    omega
  · simp
theorem spansF_rng {l : List Int} {c : Int} {x : Int} (h : x ∈ spansF l c) : 0 ≤ x ∧ x ≤ 240 := by
  unfold spansF at h
  split at h
  · rw [spansL_mem] at h
    rcases h with h | ⟨j, _, _, e⟩
    · simp at h
    · rw [e]; exact spanAtF_rng _ _ _
  · simp at h
theorem spansF_pos {l : List Int} {c : Int} (hs : scaleB l) (h0 : 0 ≤ c) (h1 : c ≤ (l.length : Int)) : 1 ≤ (spansF l c).length := by
  have hl := scaleB_len hs
  have : spanAtF l ((0 : Nat) : Int) c ∈ spansF l c := (spansF_mem hs h0 h1 _).mpr ⟨0, by omega, rfl⟩
  have := List.length_pos_of_mem this
  omega
theorem sort_ss {l : List Int} (h : l.Nodup) : SS (l.mergeSort fun x y => decide (x ≤ y)) := by
  have p := List.pairwise_mergeSort (le := fun x y : Int => decide (x ≤ y)) (by intro a b c; simp; omega) (by intro a b; simp; omega) l
  have n := (List.mergeSort_perm l fun x y => decide (x ≤ y)).nodup_iff.mpr h
  unfold SS
  unfold List.Nodup at n
  exact (List.pairwise_and_iff.mpr ⟨p, n⟩).imp (by intro a b; simp; omega)

/-- No count of steps from i on (d of them) has more than two spans. -/
def twoL (l : List Int) : Nat → Nat → Bool
  | _, 0 => true
  | i, d + 1 => if ((spansF l (i : Int)).length : Int) > 2 then false else twoL l (i + 1) d
def twoF (l : List Int) : Bool := twoL l 0 l.length && decide (scaleB l)
theorem twoL_add (l : List Int) : ∀ d i, twoL l i (d + 1) = (twoL l i d && (if ((spansF l ((i + d : Nat) : Int)).length : Int) > 2 then false else true))
  | 0, i => by simp [twoL]
  | d + 1, i => by
    rw [twoL, twoL_add l d (i + 1), twoL, show i + 1 + d = i + (d + 1) by omega]
    split <;> simp
/-- The whole scale has one span. -/
theorem whole_span {l : List Int} (hs : scaleB l) : ∀ f : Nat, f < l.length → spanF l (f : Int) l.length = l.sum := fun f _ => spanF_sum hs f
theorem spans_whole (l : List Int) : (spansF l (l.length : Int)).length ≤ 1 := by
  by_cases hs : scaleB l
  · have hl := scaleB_len hs
    have h1 := spansF_mem hs (c := (l.length : Int)) (by omega) (by omega)
    have hss := spansF_ss l (l.length : Int)
    match h : spansF l (l.length : Int) with
    | [] => simp
    | [_] => simp
    | a :: b :: r =>
      rw [h] at hss h1
      have hv : ∀ x, x ∈ a :: b :: r → x = l.sum := by
        intro x hx
        obtain ⟨j, hj, e⟩ := (h1 x).mp hx
        rw [e]
        unfold spanAtF
        rw [if_pos ⟨hs, by omega, by omega⟩, Int.toNat_natCast]
        exact whole_span hs j hj
      unfold SS at hss
      rw [List.pairwise_cons] at hss
      have := hss.1 b (by simp)
      have := hv a (by simp)
      have := hv b (by simp)
      omega
  · unfold spansF
    rw [if_neg (fun h => hs h.1)]
    simp

/-- The mode of a scale from k on. -/
def rotL (l : List Int) (k : Nat) : List Int := l.drop k ++ l.take k
def modeF (l : List Int) (k : Int) : List Int := if scaleB l ∧ 0 ≤ k ∧ k ≤ (l.length : Int) - 1 then rotL l k.toNat else []
theorem rotL_len (l : List Int) (k : Nat) : (rotL l k).length = l.length := by
  unfold rotL
  rw [List.length_append, List.length_drop, List.length_take]
  omega
theorem rotL_get {l : List Int} {k i : Nat} (hk : k < l.length) (hi : i < l.length) : (rotL l k)[i]? = some (rd l (((k + i) % l.length : Nat) : Int)) := by
  unfold rotL
  by_cases h : i < l.length - k
  · have e : (k + i) % l.length = k + i := Nat.mod_eq_of_lt (by omega)
    rw [e, rd_get (by omega), List.getElem?_append_left (by rw [List.length_drop]; omega), List.getElem?_drop, List.getElem?_eq_getElem (by omega)]
  · have e : (k + i) % l.length = k + i - l.length := by
      rw [Nat.mod_eq_sub_mod (by omega), Nat.mod_eq_of_lt (by omega)]
    rw [e, rd_get (by omega), List.getElem?_append_right (by rw [List.length_drop]; omega), List.length_drop, List.getElem?_take, if_pos (by omega), List.getElem?_eq_getElem (by omega)]
    congr 2
    omega
theorem modeF_len {l : List Int} {k : Int} (h : scaleB l) (h0 : 0 ≤ k) (h1 : k ≤ (l.length : Int) - 1) : (modeF l k).length = l.length := by
  unfold modeF
  rw [if_pos ⟨h, h0, h1⟩, rotL_len]
theorem modeF_len_le (l : List Int) (k : Int) : (modeF l k).length ≤ 12 := by
  unfold modeF
  split
  · rename_i h; rw [rotL_len]; exact (scaleB_len h.1).2
  · simp

/-- The lexicographic order of two lists. -/
def ordF : List Int → List Int → Int
  | [], [] => 0
  | [], _ :: _ => -1
  | _ :: _, [] => 1
  | a :: x, b :: y => if a = b then ordF x y else if a < b then -1 else 1
theorem ordF_zero (x : List Int) : ∀ y, ordF x y = 0 ↔ x = y := by
  induction x with
  | nil => intro y; cases y <;> simp [ordF]
  | cons a x ih =>
    intro y
    cases y with
    | nil => simp [ordF]
    | cons b y =>
      by_cases h : a = b
      · simp [ordF, h, ih y]
      · by_cases h2 : a < b <;> simp [ordF, h, h2]

/-- No mode before k is the one from k on. -/
def freshB (l : List Int) (k : Nat) : Prop := ∀ j, j < k → modeF l (j : Int) ≠ modeF l (k : Int)
instance (l : List Int) (k : Nat) : Decidable (freshB l k) := by unfold freshB; infer_instance
/-- How many of the first modes are new. -/
def cntF (l : List Int) : Nat → Nat
  | 0 => 0
  | i + 1 => cntF l i + if freshB l i then 1 else 0
theorem cntF_le (l : List Int) (i : Nat) : cntF l i ≤ i := by
  induction i with
  | zero => simp [cntF]
  | succ i ih => simp only [cntF]; split <;> omega
def countF (l : List Int) : Int := if scaleB l then (cntF l l.length : Int) else 0
/-- The first index from i on whose mode is x. -/
def sameFrom (l x : List Int) : Nat → Nat → Int
  | _, 0 => -1
  | i, d + 1 => if modeF l (i : Int) = x then (i : Int) else sameFrom l x (i + 1) d
def sameF (l x : List Int) : Int := if scaleB l then sameFrom l x 0 l.length else -1
theorem sameFrom_at (l : List Int) (k d : Nat) : ∀ i, i + d = l.length → i ≤ k → k < l.length → (sameFrom l (modeF l (k : Int)) i d = (k : Int) ↔ ∀ j, i ≤ j → j < k → modeF l (j : Int) ≠ modeF l (k : Int)) := by
  induction d with
  | zero => intro i hi hk hl; omega
  | succ d ih =>
    intro i hi hk hl
    simp only [sameFrom]
    by_cases e : modeF l (i : Int) = modeF l (k : Int)
    · rw [if_pos e]
      by_cases hik : i = k
      · subst hik
        simp
        intro j h1 h2
        omega
      · constructor
        · intro h; omega
        · intro h; exact absurd e (h i (Nat.le_refl _) (by omega))
    · rw [if_neg e]
      have hik : i ≠ k := fun h => e (by rw [h])
      rw [ih (i + 1) (by omega) (by omega) hl]
      constructor
      · intro h j h1 h2
        by_cases hj : j = i
        · rw [hj]; exact e
        · exact h j (by omega) h2
      · intro h j h1 h2
        exact h j (by omega) h2
theorem sameFrom_fresh {l : List Int} {k : Nat} (h : k < l.length) : sameFrom l (modeF l (k : Int)) 0 l.length = (k : Int) ↔ freshB l k := by
  rw [sameFrom_at l k l.length 0 (by omega) (by omega) h]
  unfold freshB
  exact ⟨fun x j hj => x j (by omega) hj, fun x j _ hj => x j hj⟩

/-- The best index from i on, b being the best till then. -/
def brightF (l : List Int) (b : Nat) : Nat → Nat → Nat
  | _, 0 => b
  | i, d + 1 => brightF l (if ordF (modeF l i) (modeF l b) > 0 then i else b) (i + 1) d
def brightestF (l : List Int) : Int := if scaleB l then (brightF l 0 0 l.length : Int) else -1

theorem rotL_rd {l : List Int} {k i : Nat} (hk : k < l.length) (hi : i < l.length) : rd (rotL l k) (i : Int) = rd l (((k + i) % l.length : Nat) : Int) := by
  have h := rotL_get hk hi
  rw [rd_get (by rw [rotL_len]; exact hi)]
  rw [List.getElem?_eq_getElem (by rw [rotL_len]; exact hi)] at h
  exact Option.some.inj h
theorem rotL_rotL {l : List Int} {a b : Nat} (ha : a < l.length) (hb : b < l.length) : rotL (rotL l a) b = rotL l ((a + b) % l.length) := by
  have hn : 0 < l.length := by omega
  refine List.ext_getElem? fun i => ?_
  by_cases hi : i < l.length
  · have e1 := rotL_get (l := rotL l a) (k := b) (i := i) (by rw [rotL_len]; exact hb) (by rw [rotL_len]; exact hi)
    rw [rotL_len] at e1
    rw [e1, rotL_get (Nat.mod_lt _ hn) hi, rotL_rd ha (Nat.mod_lt _ hn), Nat.add_mod_mod, Nat.mod_add_mod, Nat.add_assoc]
  · rw [List.getElem?_eq_none (by rw [rotL_len, rotL_len]; omega), List.getElem?_eq_none (by rw [rotL_len]; omega)]
theorem rotL_mem (l : List Int) (k : Nat) (x : Int) : x ∈ rotL l k ↔ x ∈ l := by
  unfold rotL
  rw [List.mem_append]
  constructor
  · rintro (h | h)
    · exact List.mem_of_mem_drop h
    · exact List.mem_of_mem_take h
  · intro h
    rw [← List.take_append_drop k l, List.mem_append] at h
    exact h.symm
theorem rotL_sum (l : List Int) (k : Nat) : (rotL l k).sum = l.sum := by
  have h : (l.take k ++ l.drop k).sum = l.sum := by rw [List.take_append_drop]
  unfold rotL
  rw [List.sum_append] at h ⊢
  omega
theorem scaleB_rot {l : List Int} (h : scaleB l) (k : Nat) : scaleB (rotL l k) := by
  unfold scaleB scaleG at h ⊢
  rw [rotL_len, rotL_sum]
  exact ⟨fun x hx => h.1 x ((rotL_mem l k x).mp hx), h.2⟩
theorem scaleB_rev {l : List Int} (h : scaleB l) : scaleB l.reverse := by
  have e : l.reverse.sum = l.sum := by simp [List.sum_reverse]
  unfold scaleB scaleG at h ⊢
  rw [List.length_reverse, e]
  exact ⟨fun x hx => h.1 x (List.mem_reverse.mp hx), h.2⟩
/-- The mode from any place on, round the octave. -/
def rotM (l : List Int) (d : Nat) : List Int := rotL l (d % l.length)
theorem rotM_len (l : List Int) (d : Nat) : (rotM l d).length = l.length := rotL_len l _
theorem rotM_rotM {l : List Int} (h : 0 < l.length) (a b : Nat) : rotM (rotM l a) b = rotM l (a + b) := by
  unfold rotM
  rw [rotL_len, rotL_rotL (Nat.mod_lt _ h) (Nat.mod_lt _ h), ← Nat.add_mod]
theorem rotM_zero (l : List Int) : rotM l 0 = l := by simp [rotM, rotL]
theorem rotM_whole (l : List Int) : rotM l l.length = l := by simp [rotM, rotL]
theorem rotM_add (l : List Int) (x d : Nat) : rotM l (x + d * l.length) = rotM l x := by
  unfold rotM
  rw [Nat.add_mul_mod_self_right]
theorem rotM_inj {l : List Int} (h : 0 < l.length) {x y : Nat} (d : Nat) (e : rotM l (x + d) = rotM l (y + d)) : rotM l x = rotM l y := by
  have e2 : rotM (rotM l (x + d)) (d * (l.length - 1)) = rotM (rotM l (y + d)) (d * (l.length - 1)) := by rw [e]
  have hd : d + d * (l.length - 1) = d * l.length := by
    obtain ⟨m, hm⟩ : ∃ m, l.length = m + 1 := ⟨l.length - 1, by omega⟩
    rw [hm, Nat.add_sub_cancel, Nat.mul_add, Nat.mul_one, Nat.add_comm]
  rw [rotM_rotM h, rotM_rotM h, Nat.add_assoc, Nat.add_assoc, hd, rotM_add, rotM_add] at e2
  exact e2
theorem modeF_rotM {l : List Int} (hs : scaleB l) {k : Nat} (hk : k < l.length) : modeF l (k : Int) = rotM l k := by
  unfold modeF rotM
  rw [if_pos ⟨hs, by omega, by omega⟩, Int.toNat_natCast, Nat.mod_eq_of_lt hk]
/-- The least number of places after which a list comes back. -/
def leastP (l : List Int) (p : Nat) : Prop := 1 ≤ p ∧ rotM l p = l ∧ ∀ d, 1 ≤ d → d < p → rotM l d ≠ l
theorem leastP_from (l : List Int) : ∀ n, 1 ≤ n → rotM l n = l → ∃ p, leastP l p := by
  intro n
  induction n using Nat.strongRecOn with
  | _ n ih =>
    intro h1 h
    by_cases c : ∃ d, 1 ≤ d ∧ d < n ∧ rotM l d = l
    · obtain ⟨d, d1, d2, d3⟩ := c
      exact ih d d2 d1 d3
    · exact ⟨n, h1, h, fun d d1 d2 d3 => c ⟨d, d1, d2, d3⟩⟩
theorem leastP_uniq {l m : List Int} (h : ∀ d, rotM l d = l ↔ rotM m d = m) {p q : Nat} (hp : leastP l p) (hq : leastP m q) : p = q := by
  by_cases c : p = q
  · exact c
  · by_cases c2 : p < q
    · exact absurd ((h p).mp hp.2.1) (hq.2.2 p hp.1 c2)
    · exact absurd ((h q).mpr hq.2.1) (hp.2.2 q hq.1 (by omega))
theorem per_mul {l : List Int} (h : 0 < l.length) {p : Nat} (hp : rotM l p = l) : ∀ k, rotM l (k * p) = l
  | 0 => by rw [Nat.zero_mul]; exact rotM_zero l
  | k + 1 => by rw [Nat.add_mul, Nat.one_mul, ← rotM_rotM h, per_mul h hp k, hp]
theorem leastP_dvd {l : List Int} (h : 0 < l.length) {p : Nat} (hp : leastP l p) {n : Nat} (hn : rotM l n = l) : n % p = 0 := by
  by_cases c : n % p = 0
  · exact c
  · have e : rotM l (n % p) = l := by
      have e1 : n / p * p + n % p = n := by rw [Nat.mul_comm]; exact Nat.div_add_mod n p
      rw [← e1, ← rotM_rotM h, per_mul h hp.2.1] at hn
      exact hn
    exact absurd e (hp.2.2 _ (by omega) (Nat.mod_lt _ hp.1))
theorem leastP_le {l : List Int} (h : 0 < l.length) {p : Nat} (hp : leastP l p) : p ≤ l.length := by
  by_cases c : p ≤ l.length
  · exact c
  · exact absurd (rotM_whole l) (hp.2.2 _ h (by omega))
theorem fresh_iff {l : List Int} (hs : scaleB l) {p : Nat} (hp : leastP l p) {k : Nat} (hk : k < l.length) : freshB l k ↔ k < p := by
  have hl := scaleB_len hs
  unfold freshB
  constructor
  · intro h
    by_cases c : k < p
    · exact c
    · refine absurd ?_ (h (k - p) (by have := hp.1; omega))
      rw [modeF_rotM hs hk, modeF_rotM hs (by omega)]
      have e := rotM_rotM (l := l) (by omega) p (k - p)
      rw [hp.2.1, show p + (k - p) = k by omega] at e
      exact e
  · intro c j hj e
    rw [modeF_rotM hs hk, modeF_rotM hs (by omega)] at e
    have e2 : rotM l (0 + j) = rotM l ((k - j) + j) := by rw [Nat.zero_add, show k - j + j = k by omega]; exact e
    have e3 := rotM_inj (by omega) j e2
    rw [rotM_zero] at e3
    exact hp.2.2 (k - j) (by omega) (by omega) e3.symm
theorem cntF_eq {l : List Int} (hs : scaleB l) {p : Nat} (hp : leastP l p) : ∀ i, i ≤ l.length → cntF l i = min i p
  | 0, _ => by simp [cntF]
  | i + 1, h => by
    have hf := fresh_iff hs hp (k := i) (by omega)
    simp only [cntF]
    rw [cntF_eq hs hp i (by omega)]
    by_cases c : i < p
    · rw [if_pos (hf.mpr c)]; omega
    · rw [if_neg (fun x => c (hf.mp x))]; omega
theorem countF_eq {l : List Int} (hs : scaleB l) {p : Nat} (hp : leastP l p) : countF l = (p : Int) := by
  have hl := scaleB_len hs
  have := leastP_le (l := l) (by omega) hp
  unfold countF
  rw [if_pos hs, cntF_eq hs hp _ (Nat.le_refl _)]
  omega
theorem per_rot {l : List Int} (h : 0 < l.length) (a d : Nat) : rotM l d = l ↔ rotM (rotM l a) d = rotM l a := by
  rw [rotM_rotM h]
  constructor
  · intro e
    have := rotM_rotM h d a
    rw [e, Nat.add_comm] at this
    exact this.symm
  · intro e
    have e2 : rotM l (d + a) = rotM l (0 + a) := by rw [Nat.add_comm, e, Nat.zero_add]
    have := rotM_inj h a e2
    rw [rotM_zero] at this
    exact this
theorem count_rot {l : List Int} (hs : scaleB l) (a : Nat) : countF (rotM l a) = countF l := by
  have hl := scaleB_len hs
  have hm : scaleB (rotM l a) := scaleB_rot hs _
  obtain ⟨p, hp⟩ := leastP_from l l.length hl.1 (rotM_whole l)
  obtain ⟨q, hq⟩ := leastP_from (rotM l a) (rotM l a).length (by rw [rotM_len]; exact hl.1) (rotM_whole _)
  rw [countF_eq hs hp, countF_eq hm hq, leastP_uniq (per_rot (by omega) a) hp hq]
theorem count_dvd {l : List Int} (hs : scaleB l) : 1 ≤ countF l ∧ (l.length : Int) % (countF l) = 0 := by
  have hl := scaleB_len hs
  obtain ⟨p, hp⟩ := leastP_from l l.length hl.1 (rotM_whole l)
  have hd := leastP_dvd (l := l) (by omega) hp (rotM_whole l)
  rw [countF_eq hs hp]
  have := hp.1
  refine ⟨by omega, ?_⟩
  omega
theorem spanF_rot {l : List Int} (hs : scaleB l) {a : Nat} (ha : a < l.length) (j : Nat) : ∀ c : Nat, spanF (rotL l a) (j : Int) c = spanF l (((a + j) % l.length : Nat) : Int) c
  | 0 => rfl
  | c + 1 => by
    have hl := scaleB_len hs
    have e1 := tmod_nat (f := (j : Int)) (n := l.length) c (by omega) hl.1
    have e2 := tmod_nat (f := (((a + j) % l.length : Nat) : Int)) (n := l.length) c (by omega) hl.1
    rw [Int.toNat_natCast] at e1 e2
    rw [spanF, rotL_len, e1, spanF, e2, spanF_rot hs ha j c, rotL_rd ha (Nat.mod_lt _ (by omega)), Nat.add_mod_mod, Nat.mod_add_mod, Nat.add_assoc]
theorem spansF_rot {l : List Int} (hs : scaleB l) {a : Nat} (ha : a < l.length) {c : Nat} (hc : c ≤ l.length) : spansF (rotL l a) (c : Int) = spansF l (c : Int) := by
  have hl := scaleB_len hs
  have hm := scaleB_rot hs a
  have hr := rotL_len l a
  refine ss_ext (spansF_ss _ _) (spansF_ss _ _) fun x => ?_
  rw [spansF_mem hm (by omega) (by omega), spansF_mem hs (by omega) (by omega), hr]
  constructor
  · rintro ⟨j, hj, e⟩
    refine ⟨(a + j) % l.length, Nat.mod_lt _ (by omega), ?_⟩
    rw [e, spanAtF_nat hm (by omega) (by omega), spanAtF_nat hs (Nat.mod_lt _ (by omega)) hc, spanF_rot hs ha]
  · rintro ⟨j, hj, e⟩
    refine ⟨(j + (l.length - a)) % l.length, Nat.mod_lt _ (by omega), ?_⟩
    rw [e, spanAtF_nat hm (by rw [hr]; exact Nat.mod_lt _ (by omega)) (by omega), spanAtF_nat hs hj hc, spanF_rot hs ha, Nat.add_mod_mod, show a + (j + (l.length - a)) = j + l.length by omega, Nat.add_mod_right, Nat.mod_eq_of_lt hj]
theorem twoL_congr {l m : List Int} : ∀ d i, (∀ c : Nat, i ≤ c → c < i + d → spansF m (c : Int) = spansF l (c : Int)) → twoL m i d = twoL l i d
  | 0, _, _ => rfl
  | d + 1, i, h => by
    simp only [twoL]
    rw [h i (by omega) (by omega), twoL_congr d (i + 1) fun c h1 h2 => h c (by omega) (by omega)]
theorem two_rot {l : List Int} (hs : scaleB l) {a : Nat} (ha : a < l.length) : twoF (rotL l a) = twoF l := by
  unfold twoF
  rw [rotL_len, twoL_congr l.length 0 fun c _ h => spansF_rot hs ha (by omega), decide_eq_true hs, decide_eq_true (scaleB_rot hs a)]
/-- A list turned round, from a place on. -/
theorem rev_rot {l : List Int} {a : Nat} (ha : a < l.length) : (rotL l a).reverse = rotM l.reverse (l.length - a) := by
  unfold rotM rotL
  rw [List.reverse_append, List.length_reverse]
  by_cases c : a = 0
  · subst c
    simp
  · rw [Nat.mod_eq_of_lt (by omega), List.drop_reverse, List.take_reverse, show l.length - (l.length - a) = a by omega]
/-- A scale is a mode of its mirror. -/
def mirP (l : List Int) : Prop := ∃ k : Nat, k < l.length ∧ rotM l.reverse k = l
theorem mir_rot {l : List Int} {a : Nat} (ha : a < l.length) (h : mirP l) : mirP (rotL l a) := by
  obtain ⟨k, hk, e⟩ := h
  have hr : 0 < l.reverse.length := by rw [List.length_reverse]; omega
  refine ⟨(k + 2 * a) % l.length, by rw [rotL_len]; exact Nat.mod_lt _ (by omega), ?_⟩
  rw [rev_rot ha, rotM_rotM hr]
  have e2 : rotM l.reverse (l.length - a + (k + 2 * a) % l.length) = rotM l.reverse (k + a) := by
    unfold rotM
    rw [List.length_reverse, Nat.add_mod_mod, show l.length - a + (k + 2 * a) = (k + a) + l.length by omega, Nat.add_mod_right]
  rw [e2, ← rotM_rotM hr, e]
  unfold rotM
  rw [Nat.mod_eq_of_lt ha]
theorem mir_iff {l : List Int} {a : Nat} (ha : a < l.length) : mirP (rotL l a) ↔ mirP l := by
  constructor
  · intro h
    have hl : 0 < l.length := by omega
    have h2 := mir_rot (l := rotL l a) (a := (l.length - a) % l.length) (by rw [rotL_len]; exact Nat.mod_lt _ hl) h
    rw [rotL_rotL ha (Nat.mod_lt _ hl), Nat.add_mod_mod, show a + (l.length - a) = l.length by omega, Nat.mod_self] at h2
    simpa [rotL] using h2
  · exact mir_rot ha
theorem sameFrom_neg {l x : List Int} : ∀ d i : Nat, sameFrom l x i d = -1 ↔ ∀ k : Nat, i ≤ k → k < i + d → modeF l (k : Int) ≠ x
  | 0, i => by
    simp only [sameFrom, true_iff]
    intro k h1 h2
    omega
  | d + 1, i => by
    have ih := sameFrom_neg (l := l) (x := x) d (i + 1)
    simp only [sameFrom]
    by_cases c : modeF l (i : Int) = x
    · rw [if_pos c]
      constructor
      · intro h; omega
      · intro h; exact absurd c (h i (Nat.le_refl _) (by omega))
    · rw [if_neg c, ih]
      constructor
      · intro h k h1 h2
        by_cases e : k = i
        · rw [e]; exact c
        · exact h k (by omega) (by omega)
      · intro h k h1 h2
        exact h k (by omega) (by omega)
theorem mir_same {l : List Int} (hs : scaleB l) : sameF l.reverse l = -1 ↔ ¬ mirP l := by
  have hr := scaleB_rev hs
  unfold sameF mirP
  rw [if_pos hr, sameFrom_neg, List.length_reverse]
  constructor
  · rintro h ⟨k, hk, e⟩
    refine h k (by omega) (by omega) ?_
    rw [modeF_rotM hr (by rw [List.length_reverse]; exact hk)]
    exact e
  · intro h k _ hk e
    rw [modeF_rotM hr (by rw [List.length_reverse]; omega)] at e
    exact h ⟨k, by omega, e⟩
theorem sameFrom_le {l x : List Int} : ∀ d i k : Nat, i ≤ k → k < i + d → modeF l (k : Int) = x → 0 ≤ sameFrom l x i d ∧ sameFrom l x i d ≤ (k : Int)
  | 0, i, k, h1, h2, _ => by omega
  | d + 1, i, k, h1, h2, e => by
    simp only [sameFrom]
    by_cases c : modeF l (i : Int) = x
    · rw [if_pos c]; omega
    · rw [if_neg c]
      have : k ≠ i := by intro h; rw [h] at e; exact c e
      exact sameFrom_le d (i + 1) k (by omega) (by omega) e
theorem ordF_self (x : List Int) : ordF x x = 0 := (ordF_zero x x).mpr rfl
theorem ordF_anti : ∀ x y : List Int, ordF x y > 0 → ordF y x ≤ 0
  | [], [], h => by simp [ordF] at h
  | [], _ :: _, h => by simp [ordF] at h
  | _ :: _, [], _ => by simp [ordF]
  | a :: x, b :: y, h => by
    simp only [ordF] at h ⊢
    by_cases c : a = b
    · rw [if_pos c] at h
      rw [if_pos c.symm]
      exact ordF_anti x y h
    · rw [if_neg c] at h
      rw [if_neg (fun e => c e.symm)]
      by_cases c2 : a < b
      · rw [if_pos c2] at h; omega
      · rw [if_pos (show b < a by omega)]; omega
theorem ordF_trans : ∀ x y z : List Int, ordF x y ≤ 0 → ordF y z ≤ 0 → ordF x z ≤ 0
  | [], [], z, _, h => h
  | [], _ :: _, [], _, _ => by simp [ordF]
  | [], _ :: _, _ :: _, _, _ => by simp [ordF]
  | _ :: _, [], _, h, _ => by simp [ordF] at h
  | _ :: _, _ :: _, [], _, h => by simp [ordF] at h
  | a :: x, b :: y, c :: z, h1, h2 => by
    have ih := ordF_trans x y z
    simp only [ordF] at h1 h2 ⊢
    by_cases e1 : a = b
    · rw [if_pos e1] at h1
      subst e1
      by_cases e2 : a = c
      · rw [if_pos e2] at h2 ⊢
        exact ih h1 h2
      · rw [if_neg e2] at h2 ⊢
        exact h2
    · rw [if_neg e1] at h1
      by_cases l1 : a < b
      · by_cases e2 : b = c
        · rw [← e2, if_neg e1, if_pos l1]; omega
        · rw [if_neg e2] at h2
          by_cases l2 : b < c
          · rw [if_neg (by omega), if_pos (by omega)]; omega
          · rw [if_neg l2] at h2; omega
      · rw [if_neg l1] at h1; omega
theorem brightF_top (l : List Int) : ∀ d b i : Nat, b < l.length → i + d ≤ l.length → (∀ j : Nat, j < i → ordF (modeF l (j : Int)) (modeF l (b : Int)) ≤ 0) → brightF l b i d < l.length ∧ ∀ j : Nat, j < i + d → ordF (modeF l (j : Int)) (modeF l (brightF l b i d : Int)) ≤ 0
  | 0, b, i, hb, _, h => ⟨hb, h⟩
  | d + 1, b, i, hb, hi, h => by
    simp only [brightF]
    by_cases c : ordF (modeF l (i : Int)) (modeF l (b : Int)) > 0
    · rw [if_pos c, show i + (d + 1) = i + 1 + d by omega]
      refine brightF_top l d i (i + 1) (by omega) (by omega) fun j hj => ?_
      by_cases e : j = i
      · rw [e, ordF_self]; omega
      · exact ordF_trans _ _ _ (h j (by omega)) (ordF_anti _ _ c)
    · rw [if_neg c, show i + (d + 1) = i + 1 + d by omega]
      refine brightF_top l d b (i + 1) hb (by omega) fun j hj => ?_
      by_cases e : j = i
      · rw [e]; omega
      · exact h j (by omega)
theorem ordF_lt : ∀ x y : List Int, ordF x y < 0 → 0 < ordF y x
  | [], [], h => by simp [ordF] at h
  | [], _ :: _, _ => by simp [ordF]
  | _ :: _, [], h => by simp [ordF] at h
  | a :: x, b :: y, h => by
    simp only [ordF] at h ⊢
    by_cases c : a = b
    · rw [if_pos c] at h
      rw [if_pos c.symm]
      exact ordF_lt x y h
    · rw [if_neg c] at h
      rw [if_neg (fun e => c e.symm)]
      by_cases c2 : a < b
      · rw [if_neg (by omega)]; omega
      · rw [if_neg c2] at h; omega

/-- The last eight bits of whatever: a byte. -/
theorem and255 (x : Int) : 0 ≤ Go.bits .and .i64 x 255 ∧ Go.bits .and .i64 x 255 ≤ 255 := by
  have e : (BitVec.ofInt IntKind.i64.bits 255).toNat = 255 := by decide
  have h : Go.bits .and .i64 x 255 = IntKind.i64.wrap (((BitVec.ofInt IntKind.i64.bits x).toNat &&& 255 : Nat) : Int) := by
    unfold Go.bits
    simp only [BitVec.toNat_and]
    rw [e]
  have hle : (BitVec.ofInt IntKind.i64.bits x).toNat &&& 255 ≤ 255 := Nat.and_le_right
  rw [h, IntKind.wrap_i64]
  omega
/-- A cursor into the code. -/
def curB (l : List Int) (i : Int) : Prop := 0 ≤ i ∧ i ≤ (l.length : Int)

theorem laws_big_eq (l : List Int) : laws_big.f l = some (decide ((l.length : Int) > 1048576)) := rfl

theorem spec_l01Byte_eq {l : List Int} (hn : l.length ≤ 140737488351232) (i h : Int) (hi : curB l i) : ∃ b i' h', spec_l01Byte.f l i h = some (b, i', h') ∧ 0 ≤ b ∧ b ≤ 255 ∧ curB l i' := by
  unfold curB at *
  unfold spec_l01Byte.f
  by_cases hc : i < (l.length : Int)
  · rw [if_pos hc, if_pos hi.1]
    refine ⟨_, _, _, rfl, (and255 _).1, (and255 _).2, ?_⟩
    rw [w64 (by omega) (by omega)]
    omega
  · rw [if_neg hc]
    exact ⟨_, _, _, rfl, (and255 _).1, (and255 _).2, hi⟩

theorem spec_l01Below_eq {l : List Int} (hn : l.length ≤ 140737488351232) (i h n : Int) (hi : curB l i) (h1 : 1 ≤ n) : ∃ v i' h', spec_l01Below.f l i h n = some (v, i', h') ∧ 0 ≤ v ∧ v < n ∧ curB l i' := by
  unfold spec_l01Below.f
  rw [if_neg (by omega)]
  by_cases h2 : n ≤ 256
  · rw [if_pos h2]
    obtain ⟨b, i', h', e, b0, b1, hi'⟩ := spec_l01Byte_eq hn i h hi
    rw [e]
    simp only [Option.bind_some]
    rw [if_neg (by omega)]
    exact ⟨_, _, _, rfl, Int.tmod_nonneg _ b0, Int.tmod_lt_of_pos _ (by omega), hi'⟩
  · rw [if_neg h2]
    obtain ⟨x, i1, h1', e, x0, x1, hi1⟩ := spec_l01Byte_eq hn i h hi
    rw [e]
    simp only [Option.bind_some]
    obtain ⟨y, i2, h2', e2, y0, y1, hi2⟩ := spec_l01Byte_eq hn i1 h1' hi1
    rw [e2]
    simp only [Option.bind_some]
    obtain ⟨z, i3, h3', e3, z0, z1, hi3⟩ := spec_l01Byte_eq hn i2 h2' hi2
    rw [e3]
    simp only [Option.bind_some]
    obtain ⟨u, i4, h4', e4, u0, u1, hi4⟩ := spec_l01Byte_eq hn i3 h3' hi3
    rw [e4]
    simp only [Option.bind_some]
    rw [if_neg (by omega), w64 (x := x * 16777216) (by omega) (by omega), w64 (x := y * 65536) (by omega) (by omega), w64 (x := z * 256) (by omega) (by omega), w64 (x := x * 16777216 + y * 65536) (by omega) (by omega),
      w64 (x := x * 16777216 + y * 65536 + z * 256) (by omega) (by omega), w64 (x := x * 16777216 + y * 65536 + z * 256 + u) (by omega) (by omega)]
    exact ⟨_, _, _, rfl, Int.tmod_nonneg _ (by omega), Int.tmod_lt_of_pos _ (by omega), hi4⟩

theorem spec_l01Once_eq {l : List Int} (hn : l.length ≤ 140737488351232) (i h n : Int) (hi : curB l i) (h1 : 1 ≤ n) : ∃ b i' h', spec_l01Once.f l i h n = some (b, i', h') ∧ curB l i' := by
  obtain ⟨v, i', h', e, _, _, c⟩ := spec_l01Below_eq hn i h n hi h1
  unfold spec_l01Once.f
  rw [e]
  exact ⟨_, _, _, rfl, c⟩

theorem spec_l01PickInt_eq {l : List Int} (hn : l.length ≤ 140737488351232) (i h : Int) (p : List Int) (hi : curB l i) (h1 : 1 ≤ p.length) : ∃ v i' h', spec_l01PickInt.f l i h p = some (v, i', h') ∧ v ∈ p ∧ curB l i' := by
  obtain ⟨v, i', h', e, v0, v1, c⟩ := spec_l01Below_eq hn i h (p.length : Int) hi (by omega)
  unfold spec_l01PickInt.f
  rw [e]
  simp only [Option.bind_some]
  rw [if_pos v0, if_pos v1]
  obtain ⟨n, rfl⟩ : ∃ n : Nat, v = n := ⟨v.toNat, by omega⟩
  exact ⟨_, _, _, rfl, rd_mem (by omega), c⟩

/-- A scale as it is drawn. -/
def drawnS (l : List Int) : Prop := scaleB l ∧ l.length ≤ 8
theorem sum_le3 : ∀ l : List Int, (∀ x ∈ l, 1 ≤ x ∧ x ≤ 3) → (l.length : Int) ≤ l.sum ∧ l.sum ≤ 3 * (l.length : Int)
  | [], _ => by simp
  | a :: l, h => by
    have := sum_le3 l fun x hx => h x (List.mem_cons_of_mem _ hx)
    have := h a (by simp)
    simp only [List.sum_cons, List.length_cons]
    omega
theorem drawnS_small {l : List Int} (h0 : 1 ≤ l.length) (h1 : l.length ≤ 8) (hx : ∀ x ∈ l, 1 ≤ x ∧ x ≤ 3) : drawnS l := by
  have := sum_le3 l hx
  refine ⟨⟨fun x h => ?_, by omega, by omega⟩, h1⟩
  have := hx x h
  omega
theorem drawnS_major : drawnS [2, 2, 1, 2, 2, 2, 1] := by
  refine drawnS_small (by simp) (by simp) ?_
  simp
theorem spec_l21Scale_l0 {L : List Int} (hn : L.length ≤ 140737488351232) (d : Nat) : ∀ (k : Nat) (n : Nat) (i : Nat) (ci ch : Int) (out : List Int), i + d = n → n ≤ 8 → 1 ≤ n → d < k → curB L ci → out.length = i → (∀ x ∈ out, 1 ≤ x ∧ x ≤ 3) →
    ∃ p i' h', spec_l21Scale.l0 k (n : Int) (i : Int) L ci ch out = some (p, i', h') ∧ drawnS p := by
  induction d with
  | zero =>
    intro k n i ci ch out hi h8 h1 hk hc hl hx
    obtain ⟨k, rfl⟩ : ∃ m, k = m + 1 := ⟨k - 1, by omega⟩
    simp only [spec_l21Scale.l0]
    rw [if_neg (by omega)]
    exact ⟨_, _, _, rfl, drawnS_small (by omega) (by omega) hx⟩
  | succ d ih =>
    intro k n i ci ch out hi h8 h1 hk hc hl hx
    obtain ⟨k, rfl⟩ : ∃ m, k = m + 1 := ⟨k - 1, by omega⟩
    simp only [spec_l21Scale.l0]
    rw [if_pos (by omega)]
    obtain ⟨u, i2, h2, e2, hu, c2⟩ := spec_l01PickInt_eq hn ci ch [1, 2, 2, 3] hc (by simp)
    rw [e2]
    simp only [Option.bind_some]
    rw [if_pos (by omega), up_one (n := 20) (by omega) (by omega)]
    refine ih k n (i + 1) i2 h2 _ (by omega) h8 h1 (by omega) c2 (by simp; omega) fun x hx' => ?_
    rcases List.mem_append.mp hx' with h | h
    · exact hx x h
    · simp at h hu
      omega
theorem spec_l21Scale_eq {k : Nat} {L : List Int} (hk : 9 < k) (hn : L.length ≤ 140737488351232) (ci ch : Int) (hc : curB L ci) : ∃ p i' h', spec_l21Scale.f k L ci ch = some (p, i', h') ∧ drawnS p := by
  unfold spec_l21Scale.f
  obtain ⟨b, i1, h1, e1, c1⟩ := spec_l01Once_eq hn ci ch 4 hc (by omega)
  rw [e1]
  simp only [Option.bind_some, spec_MajorScale.f]
  by_cases c : b = true
  · rw [if_pos c]
    exact ⟨_, _, _, rfl, drawnS_major⟩
  · rw [if_neg c]
    obtain ⟨v, i2, h2, e2, v0, v1, c2⟩ := spec_l01Below_eq hn i1 h1 8 c1 (by omega)
    rw [e2]
    simp only [Option.bind_some]
    rw [w64 (by omega) (by omega), show 1 + v = ((v.toNat + 1 : Nat) : Int) by omega]
    exact spec_l21Scale_l0 hn (v.toNat + 1) k (v.toNat + 1) 0 i2 h2 [] (by omega) (by omega) (by omega) (by omega) c2 rfl (by simp)

theorem spec_l01New_l0 (d : Nat) : ∀ (k : Nat) (l : List Int) (h : Int) (i : Nat), i + d = l.length → d < k → l.length ≤ 140737488351232 → ∃ h', spec_l01New.l0 k l h (i : Int) = some (l, 0, h') := by
  induction d with
  | zero =>
    intro k l h i hi hk hn
    obtain ⟨k, rfl⟩ : ∃ m, k = m + 1 := ⟨k - 1, by omega⟩
    simp only [spec_l01New.l0]
    rw [if_neg (by omega)]
    exact ⟨h, rfl⟩
  | succ d ih =>
    intro k l h i hi hk hn
    obtain ⟨k, rfl⟩ : ∃ m, k = m + 1 := ⟨k - 1, by omega⟩
    simp only [spec_l01New.l0]
    rw [if_pos (by omega), up_one (n := l.length) (by omega) (by omega)]
    by_cases h4 : (i : Int) < 4000
    · rw [if_pos h4, if_pos (by omega)]
      exact ih k l _ (i + 1) (by omega) (by omega) hn
    · rw [if_neg h4]
      exact ⟨h, rfl⟩
theorem spec_l01New_eq {k : Nat} {l : List Int} (hk : l.length < k) (hn : l.length ≤ 140737488351232) : ∃ h, spec_l01New.f k l = some (l, 0, h) := by
  unfold spec_l01New.f
  exact spec_l01New_l0 l.length k l _ 0 (by omega) hk hn

theorem spec_DrawScale_eq {k : Nat} {l : List Int} (hk : l.length + 12 < k) (hn : l.length ≤ 140737488351232) : ∃ p, spec_DrawScale.f k l = some p ∧ drawnS p := by
  unfold spec_DrawScale.f
  obtain ⟨h, e⟩ := spec_l01New_eq (k := k) (by omega) hn
  rw [e]
  simp only [Option.bind_some]
  obtain ⟨p, i2, h2, e2, d2⟩ := spec_l21Scale_eq (k := k) (by omega) hn 0 h ⟨by omega, by omega⟩
  rw [e2]
  exact ⟨p, rfl, d2⟩

theorem impl_within_eq (a b c : Int) : impl_within.f a b c = some (decide (b ≤ a ∧ a ≤ c)) := by
  unfold impl_within.f; by_cases h : b ≤ a <;> by_cases h2 : a ≤ c <;> simp [h, h2]

theorem impl_ScaleOk_l0 (d : Nat) : ∀ (k : Nat) (l : List Int) (s : Int) (i : Nat), i + d = l.length → d < k → l.length ≤ 1048576 → 0 ≤ s → s ≤ (20 * i : Int) →
    impl_ScaleOk.l0 k s l (l.length : Int) (i : Int) l = some (decide (scaleG (l.drop i) s l.length)) := by
  induction d with
  | zero =>
    intro k l s i hi hk hn h1 h2
    obtain ⟨k, rfl⟩ : ∃ m, k = m + 1 := ⟨k - 1, by omega⟩
    simp only [impl_ScaleOk.l0, impl_within_eq]
    rw [if_neg (by omega), List.drop_eq_nil_of_le (by omega)]
    by_cases h : 1 ≤ (l.length : Int) ∧ (l.length : Int) ≤ 12
    · simp only [h, and_self, decide_true, if_true, Option.bind_some, scaleG, List.not_mem_nil, false_imp_iff, implies_true, true_and, List.sum_nil, Int.add_zero]
    · simp only [h, decide_false, Bool.false_eq_true, if_false, Option.bind_some, scaleG, false_and, and_false]
  | succ d ih =>
    intro k l s i hi hk hn h1 h2
    obtain ⟨k, rfl⟩ : ∃ m, k = m + 1 := ⟨k - 1, by omega⟩
    simp only [impl_ScaleOk.l0]
    have hlt : (i : Int) < (l.length : Int) := by omega
    have h0 : (0 : Int) ≤ (i : Int) := by omega
    simp only [hlt, h0, if_true, impl_within_eq, up_one (n := l.length) (show i < l.length by omega) (by omega)]
    rw [drop_rd (l := l) (i := i) (by omega)]
    simp only [Option.bind_some, decide_eq_true_eq, scaleG_cons]
    by_cases h : 1 ≤ rd l (i : Int) ∧ rd l (i : Int) ≤ 20
    · rw [if_pos h, w64 (by omega) (by omega), ih k l _ (i + 1) (by omega) (by omega) hn (by omega) (by omega)]
      simp [h]
    · rw [if_neg h]; simp [h]
theorem impl_ScaleOk_eq {k : Nat} {l : List Int} (hk : l.length < k) (hn : l.length ≤ 1048576) : impl_ScaleOk.f k l = some (decide (scaleB l)) := by
  unfold impl_ScaleOk.f scaleB
  exact impl_ScaleOk_l0 l.length k l 0 0 (by omega) hk hn (by omega) (by omega)

theorem impl_ModeOf_eq {k : Nat} {l : List Int} (f : Int) (hk : l.length < k) (hn : l.length ≤ 1048576) : impl_ModeOf.f k l f = some (modeF l f) := by
  unfold impl_ModeOf.f modeF
  rw [impl_ScaleOk_eq hk hn, impl_within_eq]
  simp only [Option.bind_some, decide_eq_true_eq]
  by_cases hs : scaleB l
  · have hl := scaleB_len hs
    rw [if_pos hs, w64 (x := (l.length : Int) - 1) (by omega) (by omega)]
    by_cases h : 0 ≤ f ∧ f ≤ (l.length : Int) - 1
    · rw [if_pos h, if_pos h.1, if_pos (show f ≤ (l.length : Int) by omega), if_pos (by rw [List.length_drop]; simp; omega), if_pos (by rw [List.length_append, List.length_drop, List.length_take]; simp; omega), if_pos (show scaleB l ∧ 0 ≤ f ∧ f ≤ (l.length : Int) - 1 from ⟨hs, h⟩)]
      simp [rotL]
    · rw [if_neg h, if_neg (fun x => h x.2)]
  · rw [if_neg hs, if_neg (fun x => hs x.1)]

theorem impl_orderInts_l0 (d : Nat) : ∀ (k : Nat) (x y : List Int) (i : Nat), i + d = x.length → 2 * d + 1 < k → x.length ≤ 1048576 → y.length ≤ 1048576 → i ≤ y.length → impl_orderInts.l0 k x y (i : Int) = some (ordF (x.drop i) (y.drop i)) := by
  induction d with
  | zero =>
    intro k x y i hi hk hx hy hiy
    obtain ⟨k, rfl⟩ : ∃ m, k = m + 2 := ⟨k - 2, by omega⟩
    simp only [impl_orderInts.l0, impl_orderInts.j1]
    rw [if_neg (by omega), List.drop_eq_nil_of_le (by omega)]
    by_cases e : i = y.length
    · rw [List.drop_eq_nil_of_le (by omega), if_neg (by simp), if_neg (by omega), if_neg (by omega)]
      rfl
    · rw [drop_rd (l := y) (i := i) (by omega), if_neg (by simp), if_pos (by omega)]
      rfl
  | succ d ih =>
    intro k x y i hi hk hx hy hiy
    obtain ⟨k, rfl⟩ : ∃ m, k = m + 2 := ⟨k - 2, by omega⟩
    simp only [impl_orderInts.l0, impl_orderInts.j1]
    rw [if_pos (by omega), drop_rd (l := x) (i := i) (by omega)]
    by_cases e : i = y.length
    · have e0 : y.drop i = [] := List.drop_eq_nil_of_le (by omega)
      rw [e0, if_neg (by simp; omega), if_neg (by omega), if_pos (by omega)]
      rfl
    · rw [drop_rd (l := y) (i := i) (by omega), if_pos (by simp; omega), if_pos (by omega), if_pos (by omega), if_pos (by omega), up_one (n := x.length) (by omega) (by omega), ih k x y (i + 1) (by omega) (by omega) hx hy (by omega)]
      simp only [ordF]
      by_cases h : rd x (i : Int) = rd y (i : Int)
      · rw [if_pos h, if_pos h]
      · rw [if_neg h, if_neg h]
        by_cases h2 : rd x (i : Int) < rd y (i : Int)
        · rw [if_pos h2, if_pos h2]
        · rw [if_neg h2, if_neg h2]
theorem impl_orderInts_eq {k : Nat} {x y : List Int} (hk : 2 * x.length + 1 < k) (hx : x.length ≤ 1048576) (hy : y.length ≤ 1048576) : impl_orderInts.f k x y = some (ordF x y) := by
  unfold impl_orderInts.f
  have := impl_orderInts_l0 x.length k x y 0 (by omega) hk hx hy (by omega)
  simpa using this

theorem impl_SameMode_l0 (d : Nat) : ∀ (k : Nat) (l x : List Int) (i : Nat), i + d = l.length → d + 40 < k → scaleB l → x.length ≤ 1048576 → impl_SameMode.l0 k (l.length : Int) (i : Int) l x = some (sameFrom l x i d) := by
  induction d with
  | zero =>
    intro k l x i hi hk hs hx
    obtain ⟨k, rfl⟩ : ∃ m, k = m + 1 := ⟨k - 1, by omega⟩
    simp only [impl_SameMode.l0]
    rw [if_neg (by omega)]
    rfl
  | succ d ih =>
    intro k l x i hi hk hs hx
    obtain ⟨k, rfl⟩ : ∃ m, k = m + 1 := ⟨k - 1, by omega⟩
    have hl := scaleB_len hs
    have e1 := modeF_len_le l (i : Int)
    simp only [impl_SameMode.l0]
    rw [if_pos (by omega), impl_ModeOf_eq _ (by omega) (by omega)]
    simp only [Option.bind_some]
    rw [impl_orderInts_eq (by omega) (by omega) hx, up_one (n := 12) (by omega) (by omega)]
    simp only [Option.bind_some, ordF_zero, sameFrom]
    by_cases h : modeF l (i : Int) = x
    · rw [if_pos h, if_pos h]
    · rw [if_neg h, if_neg h]
      exact ih k l x (i + 1) (by omega) (by omega) hs hx
theorem impl_SameMode_eq {k : Nat} {l x : List Int} (hk : l.length + 60 < k) (hn : l.length ≤ 1048576) (hx : x.length ≤ 1048576) : impl_SameMode.f k l x = some (sameF l x) := by
  unfold impl_SameMode.f sameF
  rw [impl_ScaleOk_eq (by omega) hn]
  simp only [Option.bind_some, decide_eq_true_eq]
  by_cases hs : scaleB l
  · have hl := scaleB_len hs
    rw [if_pos hs, if_pos hs]
    exact impl_SameMode_l0 l.length k l x 0 (by omega) (by omega) hs hx
  · rw [if_neg hs, if_neg hs]

theorem impl_SpanAt_l0 (d : Nat) : ∀ (k : Nat) (l : List Int) (f : Int) (c i : Nat), i + d = c → d < k → scaleB l → 0 ≤ f → f ≤ (l.length : Int) - 1 → c ≤ l.length →
    impl_SpanAt.l0 k f (c : Int) (spanF l f i) (i : Int) l = some (spanF l f c) := by
  induction d with
  | zero =>
    intro k l f c i hi hk hs h0 h1 hc
    obtain ⟨k, rfl⟩ : ∃ m, k = m + 1 := ⟨k - 1, by omega⟩
    simp only [impl_SpanAt.l0]
    obtain rfl : i = c := by omega
    rw [if_neg (by omega)]
  | succ d ih =>
    intro k l f c i hi hk hs h0 h1 hc
    obtain ⟨k, rfl⟩ : ∃ m, k = m + 1 := ⟨k - 1, by omega⟩
    have hl := scaleB_len hs
    have e := tmod_nat (f := f) (n := l.length) i h0 hl.1
    have hm : (f.toNat + i) % l.length < l.length := Nat.mod_lt _ (by omega)
    have hr := scaleB_rd hs hm
    have hsp := spanF_rng hs h0 i
    simp only [impl_SpanAt.l0]
    rw [if_pos (by omega), if_neg (by omega), w64 (x := f + (i : Int)) (by omega) (by omega), e, if_pos (by omega), if_pos (by omega), up_one (n := 12) (by omega) (by omega), w64 (by omega) (by omega)]
    rw [← ih k l f c (i + 1) (by omega) (by omega) hs h0 h1 hc]
    simp only [spanF, e]
theorem impl_SpanAt_eq {k : Nat} {l : List Int} (f c : Int) (hk : l.length + 20 < k) (hn : l.length ≤ 1048576) : impl_SpanAt.f k l f c = some (spanAtF l f c) := by
  obtain ⟨k, rfl⟩ : ∃ m, k = m + 1 := ⟨k - 1, by omega⟩
  unfold impl_SpanAt.f spanAtF
  rw [impl_ScaleOk_eq (by omega) hn]
  simp only [Option.bind_some, impl_within_eq, impl_SpanAt.j0, decide_eq_true_eq]
  by_cases hs : scaleB l
  · have hl := scaleB_len hs
    rw [w64 (x := (l.length : Int) - 1) (by omega) (by omega)]
    by_cases h1 : 0 ≤ f ∧ f ≤ (l.length : Int) - 1
    · by_cases h2 : 0 ≤ c ∧ c ≤ (l.length : Int)
      · have := impl_SpanAt_l0 c.toNat k l f c.toNat 0 (by omega) (by omega) hs h1.1 h1.2 (by omega)
        rw [show ((c.toNat : Nat) : Int) = c by omega] at this
        simp only [spanF] at this
        simp only [hs, h1, h2, and_self, if_true, decide_true, Bool.not_true, Bool.false_eq_true, if_false]
        exact this
      · simp [hs, h1, h2]
    · simp [hs, h1]
  · simp [hs]

theorem sort_Ints_eq {l : List Int} (h0 : 0 < l.length) (h1 : l.length ≤ 1048576) : sort_Ints.f l = some (l.mergeSort fun x y => decide (x ≤ y)) := by
  unfold sort_Ints.f
  rw [if_pos h0, if_pos (by omega)]
theorem sort_sorted {l : List Int} (h : l.Pairwise (· ≤ ·)) : (l.mergeSort fun x y => decide (x ≤ y)) = l :=
  List.mergeSort_of_pairwise (h.imp (by simp))

theorem impl_SpansOf_l0 (d : Nat) : ∀ (k : Nat) (l : List Int) (c : Int) (out : List Int) (i : Nat), scaleB l → 0 ≤ c → c ≤ (l.length : Int) → i + d = l.length → d + l.length + 20 < k → out.length ≤ i → out.Nodup → (∀ x, x ∈ out ↔ ∃ j : Nat, j < i ∧ x = spanAtF l (j : Int) c) →
    impl_SpansOf.l0 k c out (l.length : Int) (i : Int) l = some (spansF l c) := by
  induction d with
  | zero =>
    intro k l c out i hs h0 h1 hi hk hl hn hm
    obtain ⟨k, rfl⟩ : ∃ m, k = m + 1 := ⟨k - 1, by omega⟩
    have h12 := scaleB_len hs
    have hpos : 0 < out.length := List.length_pos_of_mem ((hm _).mpr ⟨0, by omega, rfl⟩)
    simp only [impl_SpansOf.l0]
    rw [if_neg (by omega), sort_Ints_eq hpos (by omega)]
    simp only [Option.bind_some]
    refine congrArg some (ss_ext (sort_ss hn) (spansF_ss l c) fun x => ?_)
    rw [List.mem_mergeSort, hm, spansF_mem hs h0 h1, show i = l.length by omega]
  | succ d ih =>
    intro k l c out i hs h0 h1 hi hk hl hn hm
    obtain ⟨k, rfl⟩ : ∃ m, k = m + 1 := ⟨k - 1, by omega⟩
    have h12 := scaleB_len hs
    have hr := spanAtF_rng l (i : Int) c
    simp only [impl_SpansOf.l0]
    rw [if_pos (by omega), impl_SpanAt_eq _ _ (by omega) (by omega)]
    simp only [Option.bind_some]
    rw [if_pos (by omega), up_one (n := 20) (by omega) (by omega)]
    by_cases hx : spanAtF l (i : Int) c ∈ out
    · rw [if_pos hx]
      refine ih k l c out (i + 1) hs h0 h1 (by omega) (by omega) (by omega) hn fun x => ?_
      rw [hm]
      constructor
      · rintro ⟨j, h, e⟩; exact ⟨j, by omega, e⟩
      · rintro ⟨j, h, e⟩
        by_cases e2 : j = i
        · subst e2
          rw [← e] at hx
          exact (hm x).mp hx
        · exact ⟨j, by omega, e⟩
    · rw [if_neg hx, if_pos (by omega)]
      refine ih k l c _ (i + 1) hs h0 h1 (by omega) (by omega) (by simp; omega) ?_ fun x => ?_
      · rw [List.nodup_append]
        refine ⟨hn, by simp, fun a ha b hb => ?_⟩
        simp at hb
        subst hb
        intro e
        exact hx (e ▸ ha)
      · rw [List.mem_append, hm]
        simp only [List.mem_singleton]
        constructor
        · rintro (⟨j, h, e⟩ | e)
          · exact ⟨j, by omega, e⟩
          · exact ⟨i, by omega, e⟩
        · rintro ⟨j, h, e⟩
          by_cases e2 : j = i
          · subst e2; exact .inr e
          · exact .inl ⟨j, by omega, e⟩
theorem impl_SpansOf_eq {k : Nat} {l : List Int} (c : Int) (hk : 2 * l.length + 40 < k) (hn : l.length ≤ 1048576) : impl_SpansOf.f k l c = some (spansF l c) := by
  obtain ⟨k, rfl⟩ : ∃ m, k = m + 1 := ⟨k - 1, by omega⟩
  unfold impl_SpansOf.f
  rw [impl_ScaleOk_eq (by omega) hn]
  simp only [Option.bind_some, impl_within_eq, impl_SpansOf.j0, decide_eq_true_eq]
  by_cases hs : scaleB l
  · rw [if_pos hs]
    by_cases hc : 0 ≤ c ∧ c ≤ (l.length : Int)
    · rw [decide_eq_true hc]
      simp only [Bool.not_true, Bool.false_eq_true, if_false]
      exact impl_SpansOf_l0 l.length k l c [] 0 hs hc.1 hc.2 (by omega) (by omega) (by simp) (by simp) (by simp)
    · rw [decide_eq_false hc, spansF, if_neg (c := scaleB l ∧ (0 ≤ c ∧ c ≤ (l.length : Int))) (fun h => hc h.2)]
      simp
  · rw [if_neg hs, spansF, if_neg (c := scaleB l ∧ (0 ≤ c ∧ c ≤ (l.length : Int))) (fun h => hs h.1)]
    simp

theorem impl_HasTwoSizes_l0 (d : Nat) : ∀ (k : Nat) (l : List Int) (i : Nat), i + d = l.length → d + 2 * l.length + 50 < k → l.length ≤ 1048576 → impl_HasTwoSizes.l0 k (l.length : Int) (i : Int) l = some (twoL l i d && decide (scaleB l)) := by
  induction d with
  | zero =>
    intro k l i hi hk hn
    obtain ⟨k, rfl⟩ : ∃ m, k = m + 1 := ⟨k - 1, by omega⟩
    simp only [impl_HasTwoSizes.l0]
    rw [if_neg (by omega), impl_ScaleOk_eq (by omega) hn]
    simp [twoL]
  | succ d ih =>
    intro k l i hi hk hn
    obtain ⟨k, rfl⟩ : ∃ m, k = m + 1 := ⟨k - 1, by omega⟩
    simp only [impl_HasTwoSizes.l0]
    rw [if_pos (by omega), impl_SpansOf_eq _ (by omega) hn]
    simp only [Option.bind_some, twoL]
    by_cases c : ((spansF l (i : Int)).length : Int) > 2
    · rw [if_pos c, if_pos c]; simp
    · rw [if_neg c, if_neg c, up_one (n := l.length) (by omega) (by omega), ih k l (i + 1) (by omega) (by omega) hn]
theorem impl_HasTwoSizes_eq {k : Nat} {l : List Int} (hk : 3 * l.length + 60 < k) (hn : l.length ≤ 1048576) : impl_HasTwoSizes.f k l = some (twoF l) := by
  unfold impl_HasTwoSizes.f twoF
  exact impl_HasTwoSizes_l0 l.length k l 0 (by omega) (by omega) hn

theorem laws_at_eq {l : List Int} {a : Int} (hn : l.length ≤ 1048576) (h0 : 0 ≤ a) (h1 : a ≤ 100) (hx : ∀ x ∈ l, (Lit.int .u8 x).wf = true) : ∃ v, laws_at.f l a = some v ∧ 0 ≤ v ∧ v ≤ 255 := by
  unfold laws_at.f
  by_cases c : (l.length : Int) = 0
  · rw [if_pos c]
    exact ⟨0, rfl, by omega, by omega⟩
  · rw [if_neg c, w64 (x := a * 5) (by omega) (by omega), w64 (x := a * 5 + 1) (by omega) (by omega)]
    have p := Int.tmod_nonneg (a := a * 5 + 1) (l.length : Int) (by omega)
    have q : Int.tmod (a * 5 + 1) (l.length : Int) < l.length := by
      have := tmod_lt (a * 5 + 1) (b := (l.length : Int)) c
      omega
    generalize Int.tmod (a * 5 + 1) (l.length : Int) = t at p q ⊢
    rw [if_pos p, if_pos q]
    obtain ⟨n, rfl⟩ : ∃ n : Nat, t = n := ⟨t.toNat, by omega⟩
    have := wfu8 (hx _ (rd_mem (l := l) (i := n) (by omega)))
    rw [w64 (by omega) (by omega)]
    exact ⟨_, rfl, this.1, this.2⟩

theorem impl_CountModes_l0 (d : Nat) : ∀ (k : Nat) (l : List Int) (i : Nat), i + d = l.length → d + 100 < k → scaleB l → impl_CountModes.l0 k (cntF l i : Int) (l.length : Int) (i : Int) l = some (cntF l l.length : Int) := by
  induction d with
  | zero =>
    intro k l i hi hk hs
    obtain ⟨k, rfl⟩ : ∃ m, k = m + 1 := ⟨k - 1, by omega⟩
    simp only [impl_CountModes.l0]
    obtain rfl : i = l.length := by omega
    rw [if_neg (by omega)]
  | succ d ih =>
    intro k l i hi hk hs
    obtain ⟨k, rfl⟩ : ∃ m, k = m + 1 := ⟨k - 1, by omega⟩
    have hl := scaleB_len hs
    have e1 := modeF_len_le l (i : Int)
    have hc := cntF_le l i
    simp only [impl_CountModes.l0]
    rw [if_pos (by omega), impl_ModeOf_eq _ (by omega) (by omega)]
    simp only [Option.bind_some]
    rw [impl_SameMode_eq (by omega) (by omega) (by omega), up_one (n := 12) (by omega) (by omega), w64 (by omega) (by omega)]
    simp only [Option.bind_some, sameF, hs, if_true]
    rw [← ih k l (i + 1) (by omega) (by omega) hs]
    simp only [cntF]
    by_cases h : freshB l i
    · rw [if_pos ((sameFrom_fresh (by omega)).2 h), if_pos h]
      rfl
    · rw [if_neg (fun x => h ((sameFrom_fresh (by omega)).1 x)), if_neg h]
      rfl
theorem impl_CountModes_eq {k : Nat} {l : List Int} (hk : l.length + 130 < k) (hn : l.length ≤ 1048576) : impl_CountModes.f k l = some (countF l) := by
  unfold impl_CountModes.f countF
  rw [impl_ScaleOk_eq (by omega) hn]
  simp only [Option.bind_some, decide_eq_true_eq]
  by_cases hs : scaleB l
  · have hl := scaleB_len hs
    rw [if_pos hs, if_pos hs]
    exact impl_CountModes_l0 l.length k l 0 (by omega) (by omega) hs
  · rw [if_neg hs, if_neg hs]

theorem impl_BrightestMode_l0 (d : Nat) : ∀ (k : Nat) (l : List Int) (b i : Nat), i + d = l.length → d + 30 < k → scaleB l → b < l.length → impl_BrightestMode.l0 k (b : Int) (l.length : Int) (i : Int) l = some (brightF l b i d : Int) := by
  induction d with
  | zero =>
    intro k l b i hi hk hs hb
    obtain ⟨k, rfl⟩ : ∃ m, k = m + 1 := ⟨k - 1, by omega⟩
    simp only [impl_BrightestMode.l0]
    rw [if_neg (by omega)]
    rfl
  | succ d ih =>
    intro k l b i hi hk hs hb
    obtain ⟨k, rfl⟩ : ∃ m, k = m + 1 := ⟨k - 1, by omega⟩
    have hl := scaleB_len hs
    have e1 := modeF_len_le l (i : Int)
    have e2 := modeF_len_le l (b : Int)
    simp only [impl_BrightestMode.l0]
    rw [if_pos (by omega), impl_ModeOf_eq _ (by omega) (by omega), impl_ModeOf_eq _ (by omega) (by omega)]
    simp only [Option.bind_some]
    rw [impl_orderInts_eq (by omega) (by omega) (by omega), up_one (n := 12) (by omega) (by omega)]
    simp only [Option.bind_some, brightF]
    by_cases h : ordF (modeF l (i : Int)) (modeF l (b : Int)) > 0
    · rw [if_pos h, if_pos h]
      exact ih k l i (i + 1) (by omega) (by omega) hs (by omega)
    · rw [if_neg h, if_neg h]
      exact ih k l b (i + 1) (by omega) (by omega) hs hb
theorem impl_BrightestMode_eq {k : Nat} {l : List Int} (hk : l.length + 50 < k) (hn : l.length ≤ 1048576) : impl_BrightestMode.f k l = some (brightestF l) := by
  unfold impl_BrightestMode.f brightestF
  rw [impl_ScaleOk_eq (by omega) hn]
  simp only [Option.bind_some, decide_eq_true_eq]
  by_cases hs : scaleB l
  · have hl := scaleB_len hs
    rw [if_pos hs, if_pos hs]
    exact impl_BrightestMode_l0 l.length k l 0 0 (by omega) (by omega) hs (by omega)
  · rw [if_neg hs, if_neg hs]

theorem laws_sameInts_l0 (d : Nat) : ∀ (k : Nat) (l x : List Int) (i : Nat), i + d = l.length → d < k → l.length ≤ 1048576 → x.length = l.length →
    laws_sameInts.l0 k l x (i : Int) = some (decide (l.drop i = x.drop i)) := by
  induction d with
  | zero =>
    intro k l x i hi hk hn hx
    obtain ⟨k, rfl⟩ : ∃ m, k = m + 1 := ⟨k - 1, by omega⟩
    simp only [laws_sameInts.l0]
    rw [if_neg (by omega), List.drop_eq_nil_of_le (by omega), List.drop_eq_nil_of_le (by omega)]
    simp
  | succ d ih =>
    intro k l x i hi hk hn hx
    obtain ⟨k, rfl⟩ : ∃ m, k = m + 1 := ⟨k - 1, by omega⟩
    simp only [laws_sameInts.l0]
    rw [if_pos (by omega), if_pos (by omega), if_pos (by omega), up_one (n := l.length) (by omega) (by omega), ih k l x (i + 1) (by omega) (by omega) hn hx,
      drop_rd (l := l) (i := i) (by omega), drop_rd (l := x) (i := i) (by omega)]
    by_cases h : rd l (i : Int) = rd x (i : Int)
    · rw [if_pos h]; simp [h]
    · rw [if_neg h]; simp [h]
theorem laws_sameInts_eq {k : Nat} {l x : List Int} (hk : l.length < k) (hn : l.length ≤ 1048576) : laws_sameInts.f k l x = some (decide (l = x)) := by
  unfold laws_sameInts.f
  by_cases h : x.length = l.length
  · rw [if_pos (by omega)]
    exact laws_sameInts_l0 l.length k l x 0 (by omega) hk hn h
  · rw [if_neg (by omega)]
    have : l ≠ x := fun e => h (by rw [e])
    simp [this]

def revF (l : List Int) : List Int := if scaleB l then l.reverse else []
theorem revF_len (l : List Int) : (revF l).length ≤ 12 := by
  unfold revF
  split
  · rename_i h; rw [List.length_reverse]; exact (scaleB_len h).2
  · simp
theorem rev_step {l : List Int} {i : Nat} (h : i < l.length) : (l.drop (i + 1)).reverse ++ [rd l (i : Int)] = (l.drop i).reverse := by
  rw [drop_rd h, List.reverse_cons]
theorem impl_ReverseScale_l0 (i : Nat) : ∀ (k : Nat) (l : List Int), i ≤ l.length → i < k → scaleB l → impl_ReverseScale.l0 k ((i : Int) - 1) l ((l.drop i).reverse) = some l.reverse := by
  induction i with
  | zero =>
    intro k l hi hk hs
    obtain ⟨k, rfl⟩ : ∃ m, k = m + 1 := ⟨k - 1, by omega⟩
    simp only [impl_ReverseScale.l0]
    rw [if_neg (by omega)]
    simp
  | succ i ih =>
    intro k l hi hk hs
    obtain ⟨k, rfl⟩ : ∃ m, k = m + 1 := ⟨k - 1, by omega⟩
    have hl := scaleB_len hs
    have e : (((i + 1 : Nat) : Int) - 1) = (i : Int) := by omega
    simp only [impl_ReverseScale.l0]
    rw [e, if_pos (by omega), if_pos (by omega), if_pos (by omega), if_pos (by rw [List.length_reverse, List.length_drop]; omega), w64 (by omega) (by omega), rev_step (by omega)]
    exact ih k l (by omega) (by omega) hs
theorem impl_ReverseScale_eq {k : Nat} {l : List Int} (hk : l.length < k) (hn : l.length ≤ 1048576) : impl_ReverseScale.f k l = some (revF l) := by
  unfold impl_ReverseScale.f revF
  rw [impl_ScaleOk_eq hk hn]
  simp only [Option.bind_some, decide_eq_true_eq]
  by_cases hs : scaleB l
  · have hl := scaleB_len hs
    rw [if_pos hs, if_pos hs, w64 (by omega) (by omega)]
    have := impl_ReverseScale_l0 l.length k l (Nat.le_refl _) hk hs
    simpa using this
  · rw [if_neg hs, if_neg hs]

theorem impl_IsMirror_eq {k : Nat} {l : List Int} (hk : l.length + 80 < k) (hs : scaleB l) : impl_IsMirror.f k l = some (sameF l.reverse l != -1) := by
  have hl := scaleB_len hs
  unfold impl_IsMirror.f
  rw [impl_ReverseScale_eq (by omega) (by omega), Option.bind_some, revF, if_pos hs, impl_SameMode_eq (by rw [List.length_reverse]; omega) (by rw [List.length_reverse]; omega) (by omega), Option.bind_some]

theorem laws_later_l0 (d : Nat) : ∀ (k : Nat) (x y : List Int) (i : Nat), i + d = x.length → 2 * d + 1 < k → x.length ≤ 1048576 → y.length = x.length → laws_later.l0 k x y (i : Int) = some (decide (ordF (x.drop i) (y.drop i) < 0)) := by
  induction d with
  | zero =>
    intro k x y i hi hk hx hy
    obtain ⟨k, rfl⟩ : ∃ m, k = m + 2 := ⟨k - 2, by omega⟩
    simp only [laws_later.l0, laws_later.j1]
    rw [if_neg (by omega), if_neg (by simp), List.drop_eq_nil_of_le (by omega), List.drop_eq_nil_of_le (by omega)]
    simp [ordF]
  | succ d ih =>
    intro k x y i hi hk hx hy
    obtain ⟨k, rfl⟩ : ∃ m, k = m + 2 := ⟨k - 2, by omega⟩
    simp only [laws_later.l0, laws_later.j1]
    rw [if_pos (by omega), if_pos (by simp; omega), if_pos (by omega), if_pos (by omega), if_pos (by omega), up_one (n := x.length) (by omega) (by omega), ih k x y (i + 1) (by omega) (by omega) hx hy, drop_rd (l := x) (i := i) (by omega), drop_rd (l := y) (i := i) (by omega)]
    by_cases h : rd x (i : Int) = rd y (i : Int)
    · have e : ordF (rd x (i : Int) :: x.drop (i + 1)) (rd y (i : Int) :: y.drop (i + 1)) = ordF (x.drop (i + 1)) (y.drop (i + 1)) := by simp only [ordF]; rw [if_pos h]
      rw [if_pos h, e]
    · rw [if_neg h]
      by_cases h2 : rd x (i : Int) < rd y (i : Int)
      · have e : ordF (rd x (i : Int) :: x.drop (i + 1)) (rd y (i : Int) :: y.drop (i + 1)) = -1 := by simp only [ordF]; rw [if_neg h, if_pos h2]
        rw [e, decide_eq_true h2]
        rfl
      · have e : ordF (rd x (i : Int) :: x.drop (i + 1)) (rd y (i : Int) :: y.drop (i + 1)) = 1 := by simp only [ordF]; rw [if_neg h, if_neg h2]
        rw [e, decide_eq_false h2]
        rfl
theorem laws_later_eq {k : Nat} {x y : List Int} (hk : 2 * x.length + 1 < k) (hx : x.length ≤ 1048576) (hy : y.length = x.length) : laws_later.f k x y = some (decide (ordF x y < 0)) := by
  unfold laws_later.f
  have := laws_later_l0 x.length k x y 0 (by omega) hk hx hy
  simpa using this

theorem tmod_rng {x n : Int} (hx : 0 ≤ x) (hn : 0 < n) : 0 ≤ Int.tmod x n ∧ Int.tmod x n < n := by
  rw [Int.tmod_eq_emod_of_nonneg hx]
  exact ⟨Int.emod_nonneg _ (by omega), Int.emod_lt_of_pos _ hn⟩
theorem FnModes : laws_FnModes.Pure := by
  intro l _ hl hx
  obtain ⟨K, hK⟩ : ∃ K : Nat, l.length + 3000 ≤ K := ⟨_, Nat.le_refl _⟩
  refine ⟨K + 1, ?_⟩
  unfold laws_FnModes.f
  rw [laws_big_eq]
  simp only [Option.bind_some, decide_eq_true_eq]
  by_cases hb : (l.length : Int) > 1048576
  · rw [if_pos hb]
  · rw [if_neg hb]
    obtain ⟨s, e, hs, h8⟩ := spec_DrawScale_eq (k := K + 1) (l := l) (by omega) (by omega)
    have hn := scaleB_len hs
    obtain ⟨u0, e0, u00, u01⟩ := laws_at_eq (l := l) (a := 0) (by omega) (by omega) (by omega) hx
    obtain ⟨u1, e1, u10, u11⟩ := laws_at_eq (l := l) (a := 1) (by omega) (by omega) (by omega) hx
    rw [e, Option.bind_some, e0, Option.bind_some, if_neg (by omega), e1, Option.bind_some]
    have r0 := tmod_rng (x := u0) (n := (s.length : Int)) u00 (by omega)
    have r1 := tmod_rng (x := u1) (n := (s.length : Int)) u10 (by omega)
    obtain ⟨a, ha⟩ : ∃ a : Nat, Int.tmod u0 (s.length : Int) = a := ⟨(Int.tmod u0 (s.length : Int)).toNat, by omega⟩
    obtain ⟨b, hb2⟩ : ∃ b : Nat, Int.tmod u1 (s.length : Int) = b := ⟨(Int.tmod u1 (s.length : Int)).toNat, by omega⟩
    rw [ha] at r0 ⊢
    rw [hb2] at r1 ⊢
    have hm0 : modeF s (a : Int) = rotM s a := modeF_rotM hs (by omega)
    have hmR : rotM s a = rotL s a := by unfold rotM; rw [Nat.mod_eq_of_lt (by omega)]
    have hmB : scaleB (rotM s a) := scaleB_rot hs _
    have hml := rotM_len s a
    have hm1 : modeF (rotM s a) (b : Int) = rotM s (a + b) := by rw [modeF_rotM hmB (by omega), rotM_rotM (by omega)]
    have hxl := rotM_len s (a + b)
    have hc := count_dvd hs
    have hg0 : brightestF s = (brightF s 0 0 s.length : Int) := by unfold brightestF; rw [if_pos hs]
    obtain ⟨hg1, hg2⟩ := brightF_top s s.length 0 0 (by omega) (by omega) (fun j hj => absurd hj (by omega))
    obtain ⟨g, hg⟩ : ∃ g, brightF s 0 0 s.length = g := ⟨_, rfl⟩
    rw [hg] at hg0 hg1 hg2
    have hk : 0 ≤ sameF s (rotM s a) ∧ sameF s (rotM s a) ≤ (a : Int) := by
      unfold sameF
      rw [if_pos hs]
      exact sameFrom_le s.length 0 a (by omega) (by omega) hm0
    obtain ⟨m, hm⟩ : ∃ m, rotM s a = m := ⟨_, rfl⟩
    obtain ⟨x, hxx⟩ : ∃ x, rotM s (a + b) = x := ⟨_, rfl⟩
    have c2 : countF m = countF s := by rw [← hm]; exact count_rot hs a
    have t2 : twoF m = twoF s := by rw [← hm, hmR]; exact two_rot hs (by omega)
    have m2 : (sameF m.reverse m != -1) = (sameF s.reverse s != -1) := by
      have i1 := mir_same hmB
      have i2 := mir_same hs
      have i3 := mir_iff (l := s) (a := a) (by omega)
      rw [← hmR] at i3
      rw [hm] at i1 i3
      by_cases c : mirP s
      · have n1 : sameF s.reverse s ≠ -1 := fun e => i2.mp e c
        have n2 : sameF m.reverse m ≠ -1 := fun e => i1.mp e (i3.mpr c)
        rw [bne_iff_ne.mpr n1, bne_iff_ne.mpr n2]
      · rw [i2.mpr c, i1.mpr fun e => c (i3.mp e)]
    have o2 : ¬ ordF (modeF s (g : Int)) m < 0 := by
      have h1 := hg2 a (by omega)
      rw [hm0, hm] at h1
      intro h2
      have h3 := ordF_lt _ _ h2
      omega
    rw [hm] at hm0 hm1 hml hmB hk
    rw [hxx] at hm1 hxl
    rw [impl_ModeOf_eq _ (by omega) (by omega), hm0, Option.bind_some, impl_ModeOf_eq _ (by omega) (by omega), hm1, Option.bind_some, impl_CountModes_eq (by omega) (by omega), Option.bind_some, impl_BrightestMode_eq (by omega) (by omega), Option.bind_some, impl_SameMode_eq (by omega) (by omega) (by omega), Option.bind_some, hg0]
    rw [if_neg (by omega), if_neg (by omega), if_pos hc.2, if_neg (by omega), if_neg (by omega)]
    have hj : ∀ q : Bool, q = false → laws_FnModes.j0 (K + 1) (s.length : Int) (a : Int) (b : Int) (countF s) (g : Int) q s m x = some true := by
      rintro q rfl
      simp only [laws_FnModes.j0, Bool.false_eq_true, if_false]
      have hab : Int.tmod (wrap64 ((a : Int) + b)) (s.length : Int) = (((a + b) % s.length : Nat) : Int) := by
        rw [w64 (by omega) (by omega), tmod_nat b (by omega) hn.1, Int.toNat_natCast]
      have hlt : (a + b) % s.length < s.length := Nat.mod_lt _ (by omega)
      have hmx : modeF s (((a + b) % s.length : Nat) : Int) = x := by
        rw [modeF_rotM hs hlt, ← hxx]
        unfold rotM
        rw [Nat.mod_mod]
      rw [if_neg (by omega), hab, impl_ModeOf_eq _ (by omega) (by omega), Option.bind_some, hmx, laws_sameInts_eq (by omega) (by omega), Option.bind_some, if_pos (by simp)]
      rw [impl_HasTwoSizes_eq (by omega) (by omega), Option.bind_some, impl_HasTwoSizes_eq (by omega) (by omega), Option.bind_some, t2, if_pos (by simp)]
      rw [impl_CountModes_eq (by omega) (by omega), Option.bind_some, if_pos c2]
      rw [impl_IsMirror_eq (by omega) hmB, Option.bind_some, impl_IsMirror_eq (by omega) hs, Option.bind_some, m2, if_pos (by simp)]
      have hrv := scaleB_rev hs
      have hrl : s.reverse.length = s.length := List.length_reverse
      rw [impl_ReverseScale_eq (by omega) (by omega), Option.bind_some, revF, if_pos hs, impl_ReverseScale_eq (by omega) (by omega), Option.bind_some, revF, if_pos hrv, List.reverse_reverse, laws_sameInts_eq (by omega) (by omega), Option.bind_some, if_pos (by simp)]
      have hgl : (modeF s (g : Int)).length = s.length := modeF_len hs (by omega) (by omega)
      rw [impl_ModeOf_eq _ (by omega) (by omega), Option.bind_some, laws_later_eq (by omega) (by omega) (by omega), Option.bind_some, decide_eq_false o2]
      rfl
    exact hj _ (decide_eq_false (by omega))

end Go.Proofs.Ytgolkgcmmionpaa.Pure
