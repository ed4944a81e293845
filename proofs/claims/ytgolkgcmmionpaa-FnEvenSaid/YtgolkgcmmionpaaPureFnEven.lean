/- No scale is more even than the even one, and just its rotations are as even: for every code the law returns true. No condition. -/
import Derived.Test.YtgolkgcmmionpaaPFnEvenx1
import Derived.Test.YtgolkgcmmionpaaPFnEvenx2
import Derived.Test.YtgolkgcmmionpaaPFnEvenx3
import Derived.Test.YtgolkgcmmionpaaPFnEvenx4
import Derived.Test.YtgolkgcmmionpaaPFnEvenx5
import Derived.Test.YtgolkgcmmionpaaPFnEvenx6
import Derived.OpenShut
namespace Go.Proofs.Ytgolkgcmmionpaa.Pure
open Go.RowKit Go.Proofs.Ytgolkgcmmionpaa.PFnEven Go.Proofs.YtgolkgcmmionpaaW.PrintWords Go.Proofs.YtgolkgcmmionpaaW.PrintLast Go.Proofs.YtgolkgcmmionpaaW.PrintMore
set_option linter.unusedVariables false
set_option linter.unusedSimpArgs false
theorem w64 {x : Int} (h : -9223372036854775808 ≤ x) (h' : x ≤ 9223372036854775807) : wrap64 x = x := by unfold wrap64; omega
theorem wf64 {x : Int} (h : (Lit.int .i64 x).wf = true) : -9223372036854775808 ≤ x ∧ x ≤ 9223372036854775807 := by
  simp only [Lit.wf, IntKind.min, IntKind.max, IntKind.signed, IntKind.bits, Bool.and_eq_true, decide_eq_true_eq, if_true] at h
  omega
theorem wfu8 {x : Int} (h : (Lit.int .u8 x).wf = true) : 0 ≤ x ∧ x ≤ 255 := by
  simp [Lit.wf, IntKind.min, IntKind.max, IntKind.signed, IntKind.bits] at h
  omega
theorem mx_def (a b : Int) : mx a b = max a b := by unfold mx; omega
theorem mn_def (a b : Int) : mn a b = min a b := by unfold mn; omega
theorem fuel {n k : Nat} (h : n < k) : ∃ m, k = m + 1 ∧ n ≤ m := ⟨k - 1, by omega, by omega⟩
theorem gcd_tmod (a b : Int) : Int.gcd b (Int.tmod a b) = Int.gcd a b := by
  unfold Int.gcd
  rw [Int.natAbs_tmod, Nat.gcd_comm, ← Nat.gcd_rec, Nat.gcd_comm]
theorem tmod_lt (a : Int) {b : Int} (h : b ≠ 0) : (Int.tmod a b).natAbs < b.natAbs := by
  rw [Int.natAbs_tmod]
  exact Nat.mod_lt _ (by omega)
theorem drop_rd {l : List Int} {i : Nat} (h : i < l.length) : l.drop i = rd l (i : Int) :: l.drop (i + 1) := by
  rw [List.drop_eq_getElem_cons h]
  simp [rd, List.getD, List.getElem?_eq_getElem h]
theorem rd_get {l : List Int} {i : Nat} (h : i < l.length) : rd l (i : Int) = l[i] := by simp [rd, List.getD, List.getElem?_eq_getElem h]
theorem up_one {i n : Nat} (h : i < n) (hn : n ≤ 9223372036854775807) : wrap64 ((i : Int) + 1) = ((i + 1 : Nat) : Int) := by rw [w64 (by omega) (by omega)]; omega
theorem rd_mem {l : List Int} {i : Nat} (h : i < l.length) : rd l (i : Int) ∈ l := by rw [rd_get h]; exact List.getElem_mem h
theorem maxLen_le {n : Nat} (h : n ≤ maxLen) : (n : Int) ≤ 9223372036854775807 := by unfold maxLen at h; omega

def scaleG (l : List Int) (s : Int) (n : Nat) : Prop := (∀ x ∈ l, 1 ≤ x ∧ x ≤ 20) ∧ (1 ≤ (n : Int) ∧ (n : Int) ≤ 12) ∧ s + l.sum ≤ 60
theorem scaleG_cons (a : Int) (l : List Int) (s : Int) (n : Nat) : scaleG (a :: l) s n ↔ (1 ≤ a ∧ a ≤ 20) ∧ scaleG l (s + a) n := by
  unfold scaleG
  simp only [List.mem_cons, forall_eq_or_imp, List.sum_cons]
  constructor
  · rintro ⟨⟨h1, h2⟩, h3, h4⟩; exact ⟨h1, h2, h3, by omega⟩
  · rintro ⟨h1, h2, h3, h4⟩; exact ⟨⟨h1, h2⟩, h3, by omega⟩
instance (l : List Int) (s : Int) (n : Nat) : Decidable (scaleG l s n) := by unfold scaleG; infer_instance
/-- A valid scale. -/
def scaleB (l : List Int) : Prop := scaleG l 0 l.length
instance (l : List Int) : Decidable (scaleB l) := by unfold scaleB; infer_instance
theorem scaleB_len {l : List Int} (h : scaleB l) : 1 ≤ l.length ∧ l.length ≤ 12 := by have := h.2.1; omega
theorem scaleB_rd {l : List Int} (h : scaleB l) {i : Nat} (hi : i < l.length) : 1 ≤ rd l (i : Int) ∧ rd l (i : Int) ≤ 20 := h.1 _ (rd_mem hi)

/-- The sum of c steps from f on. -/
def spanF (l : List Int) (f : Int) : Nat → Int
  | 0 => 0
  | c + 1 => spanF l f c + rd l (Int.tmod (f + c) l.length)
theorem tmod_nat {f : Int} {n : Nat} (c : Nat) (h : 0 ≤ f) (hn : 1 ≤ n) : Int.tmod (f + c) n = (((f.toNat + c) % n : Nat) : Int) := by
  rw [Int.tmod_eq_emod_of_nonneg (by omega)]
  have : f + (c : Int) = ((f.toNat + c : Nat) : Int) := by omega
  rw [this]
  rfl
theorem spanF_rng {l : List Int} (h : scaleB l) {f : Int} (hf : 0 ≤ f) (c : Nat) : 0 ≤ spanF l f c ∧ spanF l f c ≤ 20 * (c : Int) := by
  have hl := scaleB_len h
  induction c with
  | zero => simp [spanF]
  | succ c ih =>
    simp only [spanF]
    rw [tmod_nat c hf hl.1]
    have := scaleB_rd h (i := (f.toNat + c) % l.length) (Nat.mod_lt _ (by omega))
    omega
def spanAtF (l : List Int) (f c : Int) : Int := if scaleB l ∧ (0 ≤ f ∧ f ≤ (l.length : Int) - 1) ∧ (0 ≤ c ∧ c ≤ (l.length : Int)) then spanF l f c.toNat else 0

theorem spanF_shift {l : List Int} (h : scaleB l) (f : Nat) : ∀ c : Nat, spanF l ((f + 1 : Nat) : Int) c + rd l ((f % l.length : Nat) : Int) = spanF l (f : Int) (c + 1)
  | 0 => by
    have hl := scaleB_len h
    have := tmod_nat (f := (f : Int)) (n := l.length) 0 (by omega) hl.1
    simp only [Int.toNat_natCast, Nat.add_zero] at this
    simp only [spanF]
    rw [this]
  | c + 1 => by
    have hl := scaleB_len h
    have ih := spanF_shift h f c
    have e1 := tmod_nat (f := ((f + 1 : Nat) : Int)) (n := l.length) c (by omega) hl.1
    have e2 := tmod_nat (f := (f : Int)) (n := l.length) (c + 1) (by omega) hl.1
    rw [Int.toNat_natCast] at e1 e2
    rw [spanF, e1, spanF, e2, ← ih, show f + 1 + c = f + (c + 1) by omega]
    omega
theorem spanF_whole {l : List Int} (h : scaleB l) (hs : spanF l 0 l.length = l.sum) : ∀ f : Nat, spanF l (f : Int) l.length = l.sum
  | 0 => hs
  | f + 1 => by
    have hl := scaleB_len h
    have ih := spanF_whole h hs f
    have s := spanF_shift h f l.length
    have e := tmod_nat (f := (f : Int)) (n := l.length) l.length (by omega) hl.1
    rw [Int.toNat_natCast, Nat.add_mod_right] at e
    rw [spanF, e] at s
    omega
theorem spanF_take {l : List Int} (h : scaleB l) : ∀ c : Nat, c ≤ l.length → spanF l 0 c = (l.take c).sum
  | 0, _ => by simp [spanF]
  | c + 1, hc => by
    have hl := scaleB_len h
    have e := tmod_nat (f := 0) (n := l.length) c (by omega) hl.1
    rw [show (0 : Int).toNat = 0 from rfl, Nat.zero_add, Nat.mod_eq_of_lt (show c < l.length by omega)] at e
    rw [spanF, e, spanF_take h c (by omega), List.take_succ_eq_append_getElem (by omega), List.sum_append, rd_get (by omega)]
    simp
theorem spanF_sum {l : List Int} (h : scaleB l) (f : Nat) : spanF l (f : Int) l.length = l.sum :=
  spanF_whole h (by rw [spanF_take h l.length (Nat.le_refl _)]; simp) f

theorem spanF_join {l : List Int} (h : scaleB l) (f a : Nat) : ∀ b : Nat, spanF l (f : Int) (a + b) = spanF l (f : Int) a + spanF l (((f + a) % l.length : Nat) : Int) b
  | 0 => by simp [spanF]
  | b + 1 => by
    have hl := scaleB_len h
    have ih := spanF_join h f a b
    have e1 := tmod_nat (f := (f : Int)) (n := l.length) (a + b) (by omega) hl.1
    have e2 := tmod_nat (f := (((f + a) % l.length : Nat) : Int)) (n := l.length) b (by omega) hl.1
    rw [Int.toNat_natCast] at e1 e2
    rw [← Nat.add_assoc, spanF, e1, ih, spanF, e2, Nat.mod_add_mod, Nat.add_assoc]
    omega
theorem spanAtF_nat {l : List Int} (h : scaleB l) {f c : Nat} (hf : f < l.length) (hc : c ≤ l.length) : spanAtF l (f : Int) (c : Int) = spanF l (f : Int) c := by
  unfold spanAtF
  rw [if_pos ⟨h, by omega, by omega⟩, Int.toNat_natCast]

/-- Strictly rising. -/
def SS (l : List Int) : Prop := l.Pairwise (· < ·)
theorem ss_ext : ∀ {a b : List Int}, SS a → SS b → (∀ x, x ∈ a ↔ x ∈ b) → a = b
  | [], [], _, _, _ => rfl
  | [], y :: b, _, _, h => absurd ((h y).mpr (by simp)) (by simp)
  | x :: a, [], _, _, h => absurd ((h x).mp (by simp)) (by simp)
  | x :: a, y :: b, ha, hb, h => by
    unfold SS at ha hb
    rw [List.pairwise_cons] at ha hb
    have e : x = y := by
      have h1 : x ∈ y :: b := (h x).mp (by simp)
      have h2 : y ∈ x :: a := (h y).mpr (by simp)
      rcases List.mem_cons.mp h1 with e | h1
      · exact e
      · rcases List.mem_cons.mp h2 with e | h2
        · exact e.symm
        · have := ha.1 y h2; have := hb.1 x h1; omega
    subst e
    refine congrArg (x :: ·) (ss_ext ha.2 hb.2 fun z => ⟨fun hz => ?_, fun hz => ?_⟩)
    · rcases List.mem_cons.mp ((h z).mp (List.mem_cons_of_mem _ hz)) with e | h3
      · have := ha.1 z hz; omega
      · exact h3
    · rcases List.mem_cons.mp ((h z).mpr (List.mem_cons_of_mem _ hz)) with e | h3
      · have := hb.1 z hz; omega
      · exact h3
def insD (x : Int) : List Int → List Int
  | [] => [x]
  | y :: l => if y < x then y :: insD x l else if y = x then y :: l else x :: y :: l
theorem mem_insD (x z : Int) : ∀ l, z ∈ insD x l ↔ z = x ∨ z ∈ l
  | [] => by simp [insD]
  | y :: l => by
    have ih := mem_insD x z l
    simp only [insD]
    split
    · simp only [List.mem_cons, ih]
      constructor
      · rintro (h | h | h) <;> simp [h]
      · rintro (h | h | h) <;> simp [h]
    · split
      · rename_i e; subst e; simp
      · simp
theorem ss_insD (x : Int) : ∀ {l}, SS l → SS (insD x l)
  | [], _ => by simp [SS, insD]
  | y :: l, h => by
    unfold SS at h ⊢
    rw [List.pairwise_cons] at h
    simp only [insD]
    split
    · rw [List.pairwise_cons]
      refine ⟨fun z hz => ?_, ss_insD x h.2⟩
      rcases (mem_insD x z l).mp hz with e | hz
      · omega
      · exact h.1 z hz
    · split
      · rw [List.pairwise_cons]; exact h
      · rw [List.pairwise_cons]
        refine ⟨fun z hz => ?_, by rw [List.pairwise_cons]; exact h⟩
        rcases List.mem_cons.mp hz with e | hz
        · omega
        · have := h.1 z hz; omega
theorem len_insD (x : Int) : ∀ l, (insD x l).length ≤ l.length + 1
  | [] => by simp [insD]
  | y :: l => by
    have := len_insD x l
    simp only [insD]
    split
    · simp; omega
    · split <;> simp
/-- The spans from the places i to i + d - 1 on, laid into what is there. -/
def spansL (l : List Int) (c : Int) : Nat → Nat → List Int → List Int
  | _, 0, out => out
  | i, d + 1, out => spansL l c (i + 1) d (insD (spanAtF l (i : Int) c) out)
theorem spansL_ss (l : List Int) (c : Int) : ∀ d i out, SS out → SS (spansL l c i d out)
  | 0, _, _, h => h
  | d + 1, i, out, h => spansL_ss l c d (i + 1) _ (ss_insD _ h)
theorem spansL_mem (l : List Int) (c : Int) (x : Int) : ∀ d i out, x ∈ spansL l c i d out ↔ x ∈ out ∨ ∃ j : Nat, i ≤ j ∧ j < i + d ∧ x = spanAtF l (j : Int) c
  | 0, i, out => by
    simp only [spansL]
    constructor
    · exact .inl
    · rintro (h | ⟨j, h1, h2, _⟩)
      · exact h
      · omega
  | d + 1, i, out => by
    simp only [spansL]
    rw [spansL_mem l c x d (i + 1), mem_insD]
    constructor
    · rintro ((h | h) | ⟨j, h1, h2, h3⟩)
      · exact .inr ⟨i, by omega, by omega, h⟩
      · exact .inl h
      · exact .inr ⟨j, by omega, by omega, h3⟩
    · rintro (h | ⟨j, h1, h2, h3⟩)
      · exact .inl (.inr h)
      · by_cases e : j = i
        · subst e; exact .inl (.inl h3)
        · exact .inr ⟨j, by omega, by omega, h3⟩
theorem spansL_len (l : List Int) (c : Int) : ∀ d i out, (spansL l c i d out).length ≤ out.length + d
  | 0, _, _ => by simp [spansL]
  | d + 1, i, out => by
    have := spansL_len l c d (i + 1) (insD (spanAtF l (i : Int) c) out)
    have := len_insD (spanAtF l (i : Int) c) out
    simp only [spansL]
    omega
/-- The spans of a count of steps, in order, each once. -/
def spansF (l : List Int) (c : Int) : List Int := if scaleB l ∧ (0 ≤ c ∧ c ≤ (l.length : Int)) then spansL l c 0 l.length [] else []
theorem spanAtF_rng (l : List Int) (f c : Int) : 0 ≤ spanAtF l f c ∧ spanAtF l f c ≤ 240 := by
  unfold spanAtF
  split
  · rename_i h
    have := spanF_rng h.1 h.2.1.1 c.toNat
    have := scaleB_len h.1
    omega
  · omega
theorem spansF_ss (l : List Int) (c : Int) : SS (spansF l c) := by
  unfold spansF
  split
  · exact spansL_ss _ _ _ _ _ (by simp [SS])
  · simp [SS]
theorem spansF_mem {l : List Int} {c : Int} (hs : scaleB l) (h0 : 0 ≤ c) (h1 : c ≤ (l.length : Int)) (x : Int) : x ∈ spansF l c ↔ ∃ j : Nat, j < l.length ∧ x = spanAtF l (j : Int) c := by
  unfold spansF
  rw [if_pos ⟨hs, h0, h1⟩, spansL_mem]
  constructor
  · rintro (h | ⟨j, _, h, e⟩)
    · simp at h
    · exact ⟨j, by omega, e⟩
  · rintro ⟨j, h, e⟩
    exact .inr ⟨j, by omega, by omega, e⟩
theorem spansF_len (l : List Int) (c : Int) : (spansF l c).length ≤ 12 := by
  unfold spansF
  split
  · rename_i h
    have := scaleB_len h.1
    have := spansL_len l c l.length 0 []
    simp at this
    omega
  · simp
theorem spansF_rng {l : List Int} {c : Int} {x : Int} (h : x ∈ spansF l c) : 0 ≤ x ∧ x ≤ 240 := by
  unfold spansF at h
  split at h
  · rw [spansL_mem] at h
    rcases h with h | ⟨j, _, _, e⟩
    · simp at h
    · rw [e]; exact spanAtF_rng _ _ _
  · simp at h
theorem spansF_pos {l : List Int} {c : Int} (hs : scaleB l) (h0 : 0 ≤ c) (h1 : c ≤ (l.length : Int)) : 1 ≤ (spansF l c).length := by
  have hl := scaleB_len hs
  have : spanAtF l ((0 : Nat) : Int) c ∈ spansF l c := (spansF_mem hs h0 h1 _).mpr ⟨0, by omega, rfl⟩
  have := List.length_pos_of_mem this
  omega
theorem sort_ss {l : List Int} (h : l.Nodup) : SS (l.mergeSort fun x y => decide (x ≤ y)) := by
  have p := List.pairwise_mergeSort (le := fun x y : Int => decide (x ≤ y)) (by intro a b c; simp; omega) (by intro a b; simp; omega) l
  have n := (List.mergeSort_perm l fun x y => decide (x ≤ y)).nodup_iff.mpr h
  unfold SS
  unfold List.Nodup at n
  exact (List.pairwise_and_iff.mpr ⟨p, n⟩).imp (by intro a b; simp; omega)

/-- No count of steps from i on (d of them) has more than two spans. -/
def twoL (l : List Int) : Nat → Nat → Bool
  | _, 0 => true
  | i, d + 1 => if ((spansF l (i : Int)).length : Int) > 2 then false else twoL l (i + 1) d
def twoF (l : List Int) : Bool := twoL l 0 l.length && decide (scaleB l)
theorem twoL_add (l : List Int) : ∀ d i, twoL l i (d + 1) = (twoL l i d && (if ((spansF l ((i + d : Nat) : Int)).length : Int) > 2 then false else true))
  | 0, i => by simp [twoL]
  | d + 1, i => by
    rw [twoL, twoL_add l d (i + 1), twoL, show i + 1 + d = i + (d + 1) by omega]
    split <;> simp
/-- The whole scale has one span. -/
theorem whole_span {l : List Int} (hs : scaleB l) : ∀ f : Nat, f < l.length → spanF l (f : Int) l.length = l.sum := fun f _ => spanF_sum hs f
theorem spans_whole (l : List Int) : (spansF l (l.length : Int)).length ≤ 1 := by
  by_cases hs : scaleB l
  · have hl := scaleB_len hs
    have h1 := spansF_mem hs (c := (l.length : Int)) (by omega) (by omega)
    have hss := spansF_ss l (l.length : Int)
    match h : spansF l (l.length : Int) with
    | [] => simp
    | [_] => simp
    | a :: b :: r =>
      rw [h] at hss h1
      have hv : ∀ x, x ∈ a :: b :: r → x = l.sum := by
        intro x hx
        obtain ⟨j, hj, e⟩ := (h1 x).mp hx
        rw [e]
        unfold spanAtF
        rw [if_pos ⟨hs, by omega, by omega⟩, Int.toNat_natCast]
        exact whole_span hs j hj
      unfold SS at hss
      rw [List.pairwise_cons] at hss
      have := hss.1 b (by simp)
      have := hv a (by simp)
      have := hv b (by simp)
      omega
  · unfold spansF
    rw [if_neg (fun h => hs h.1)]
    simp

/-- The spans of a count are one, or two that lie one apart. -/
def evenAt (l : List Int) (c : Int) : Bool := !(decide (((spansF l c).length : Int) > 2) || (decide (((spansF l c).length : Int) = 2) && !decide (rd (spansF l c) 1 - rd (spansF l c) 0 = 1)))
def evenL (l : List Int) : Nat → Nat → Bool
  | _, 0 => true
  | i, d + 1 => evenAt l (i : Int) && evenL l (i + 1) d
def evenF (l : List Int) : Bool := evenL l 0 l.length && decide (scaleB l)
theorem evenL_add (l : List Int) : ∀ d i, evenL l i (d + 1) = (evenL l i d && evenAt l ((i + d : Nat) : Int))
  | 0, i => by simp [evenL]
  | d + 1, i => by
    rw [evenL, evenL_add l d (i + 1), evenL, show i + 1 + d = i + (d + 1) by omega, Bool.and_assoc]
theorem even_whole (l : List Int) : evenAt l (l.length : Int) = true := by
  have := spans_whole l
  unfold evenAt
  rw [decide_eq_false (by omega), decide_eq_false (by omega)]
  rfl
theorem spans_rd {l : List Int} {c : Int} {i : Nat} (h : i < (spansF l c).length) : 0 ≤ rd (spansF l c) (i : Int) ∧ rd (spansF l c) (i : Int) ≤ 240 := spansF_rng (rd_mem h)
theorem even_step {l : List Int} {c : Int} (x : Option Bool) : (if ((spansF l c).length : Int) > 2 then (some false) else (if ((spansF l c).length : Int) = 2 then (if 1 < ((spansF l c).length : Int) then (if 0 < ((spansF l c).length : Int) then (if (wrap64 ((rd (spansF l c) 1) - (rd (spansF l c) 0))) = 1 then x else (some false)) else (none)) else (none)) else x)) = if evenAt l c = true then x else some false := by
  unfold evenAt
  by_cases c1 : ((spansF l c).length : Int) > 2
  · rw [if_pos c1]; simp [c1]
  · rw [if_neg c1]
    by_cases c2 : ((spansF l c).length : Int) = 2
    · have a := spans_rd (l := l) (c := c) (i := 0) (by omega)
      have b := spans_rd (l := l) (c := c) (i := 1) (by omega)
      rw [show ((0 : Nat) : Int) = 0 from rfl] at a
      rw [show ((1 : Nat) : Int) = 1 from rfl] at b
      rw [if_pos c2, if_pos (by omega), if_pos (by omega), w64 (by omega) (by omega)]
      by_cases c3 : rd (spansF l c) 1 - rd (spansF l c) 0 = 1
      · rw [if_pos c3]; simp [c1, c2, c3]
      · rw [if_neg c3]; simp [c1, c2, c3]
    · rw [if_neg c2]; simp [c1, c2]

/-- The last of a count's spans less the first. -/
def gapAt (l : List Int) (c : Int) : Int := rd (spansF l c) (((spansF l c).length : Int) - 1) - rd (spansF l c) 0
def unevenL (l : List Int) : Nat → Nat → Int
  | _, 0 => 0
  | i, d + 1 => gapAt l (i : Int) + unevenL l (i + 1) d
/-- The unevenness. -/
def unevenF (l : List Int) : Int := if scaleB l then unevenL l 1 l.length else 0
theorem gapAt_rng {l : List Int} (hs : scaleB l) {c : Int} (h0 : 0 ≤ c) (h1 : c ≤ (l.length : Int)) :
    (0 ≤ rd (spansF l c) (((spansF l c).length : Int) - 1) ∧ rd (spansF l c) (((spansF l c).length : Int) - 1) ≤ 240) ∧ (0 ≤ rd (spansF l c) 0 ∧ rd (spansF l c) 0 ≤ 240) := by
  have hp := spansF_pos hs h0 h1
  have a := spansF_rng (l := l) (c := c) (rd_mem (i := (spansF l c).length - 1) (by omega))
  have b := spansF_rng (l := l) (c := c) (rd_mem (i := 0) (by omega))
  rw [show (((spansF l c).length - 1 : Nat) : Int) = ((spansF l c).length : Int) - 1 by omega] at a
  exact ⟨a, b⟩

/-- The sum of the spans of c steps from the first d places. -/
def sumSp (l : List Int) (c : Nat) : Nat → Int
  | 0 => 0
  | d + 1 => sumSp l c d + spanF l (d : Int) c
theorem spanF_step {l : List Int} (h : scaleB l) (f c : Nat) : spanF l (f : Int) (c + 1) = spanF l (f : Int) c + rd l (((f + c) % l.length : Nat) : Int) := by
  have hl := scaleB_len h
  have e := tmod_nat (f := (f : Int)) (n := l.length) c (by omega) hl.1
  rw [Int.toNat_natCast] at e
  rw [spanF, e]
theorem sumSp_step {l : List Int} (h : scaleB l) (c : Nat) : ∀ d, sumSp l (c + 1) d = sumSp l c d + spanF l (c : Int) d
  | 0 => by simp [sumSp, spanF]
  | d + 1 => by
    have ih := sumSp_step h c d
    rw [sumSp, ih, spanF_step h d c, sumSp, spanF_step h c d, Nat.add_comm d c]
    omega
theorem sumSp_all {l : List Int} (h : scaleB l) : ∀ c : Nat, sumSp l c l.length = (c : Int) * l.sum
  | 0 => by
    have : ∀ d, sumSp l 0 d = 0 := by
      intro d
      induction d with
      | zero => rfl
      | succ d ih => rw [sumSp, ih]; simp [spanF]
    rw [this]
    simp
  | c + 1 => by
    rw [sumSp_step h, sumSp_all h c, spanF_sum h c]
    have : ((c + 1 : Nat) : Int) * l.sum = (c : Int) * l.sum + l.sum := by rw [Int.natCast_add, Int.add_mul]; simp
    omega
theorem sumSp_ge {l : List Int} {c : Nat} {m : Int} : ∀ d : Nat, (∀ j : Nat, j < d → m ≤ spanF l (j : Int) c) → (d : Int) * m ≤ sumSp l c d
  | 0, _ => by simp [sumSp]
  | d + 1, h => by
    have ih := sumSp_ge d fun j hj => h j (by omega)
    have := h d (by omega)
    have e : ((d + 1 : Nat) : Int) * m = (d : Int) * m + m := by rw [Int.natCast_add, Int.add_mul]; simp
    rw [sumSp]
    omega
theorem sumSp_gt {l : List Int} {c : Nat} {m : Int} : ∀ d : Nat, (∀ j : Nat, j < d → m ≤ spanF l (j : Int) c) → (∃ j : Nat, j < d ∧ m < spanF l (j : Int) c) → (d : Int) * m < sumSp l c d
  | 0, _, h => by obtain ⟨j, h, _⟩ := h; omega
  | d + 1, h, hx => by
    have e : ((d + 1 : Nat) : Int) * m = (d : Int) * m + m := by rw [Int.natCast_add, Int.add_mul]; simp
    have h1 := h d (by omega)
    rw [sumSp]
    by_cases c1 : m < spanF l (d : Int) c
    · have := sumSp_ge d fun j hj => h j (by omega)
      omega
    · obtain ⟨j, hj, hj2⟩ := hx
      have := sumSp_gt d (fun j hj => h j (by omega)) ⟨j, by
        by_cases e : j = d
        · subst e; exact absurd hj2 c1
        · omega, hj2⟩
      omega
theorem sumSp_le {l : List Int} {c : Nat} {m : Int} : ∀ d : Nat, (∀ j : Nat, j < d → spanF l (j : Int) c ≤ m) → sumSp l c d ≤ (d : Int) * m
  | 0, _ => by simp [sumSp]
  | d + 1, h => by
    have ih := sumSp_le d fun j hj => h j (by omega)
    have := h d (by omega)
    have e : ((d + 1 : Nat) : Int) * m = (d : Int) * m + m := by rw [Int.natCast_add, Int.add_mul]; simp
    rw [sumSp]
    omega
theorem sumSp_lt {l : List Int} {c : Nat} {m : Int} : ∀ d : Nat, (∀ j : Nat, j < d → spanF l (j : Int) c ≤ m) → (∃ j : Nat, j < d ∧ spanF l (j : Int) c < m) → sumSp l c d < (d : Int) * m
  | 0, _, h => by obtain ⟨j, h, _⟩ := h; omega
  | d + 1, h, hx => by
    have e : ((d + 1 : Nat) : Int) * m = (d : Int) * m + m := by rw [Int.natCast_add, Int.add_mul]; simp
    have h1 := h d (by omega)
    rw [sumSp]
    by_cases c1 : spanF l (d : Int) c < m
    · have := sumSp_le d fun j hj => h j (by omega)
      omega
    · obtain ⟨j, hj, hj2⟩ := hx
      have := sumSp_lt d (fun j hj => h j (by omega)) ⟨j, by
        by_cases e : j = d
        · subst e; exact absurd hj2 c1
        · omega, hj2⟩
      omega
def loSp (l : List Int) (c : Nat) : Int := rd (spansF l (c : Int)) 0
def hiSp (l : List Int) (c : Nat) : Int := rd (spansF l (c : Int)) (((spansF l (c : Int)).length : Int) - 1)
theorem ss_rd {l : List Int} (h : SS l) {i j : Nat} (hij : i < j) (hj : j < l.length) : rd l (i : Int) < rd l (j : Int) := by
  rw [rd_get (by omega), rd_get hj]
  exact (List.pairwise_iff_getElem.mp h) i j (by omega) hj hij
theorem sp_bounds {l : List Int} (h : scaleB l) {c : Nat} (hc : c ≤ l.length) :
    (∀ j : Nat, j < l.length → loSp l c ≤ spanF l (j : Int) c ∧ spanF l (j : Int) c ≤ hiSp l c) ∧ (∃ j : Nat, j < l.length ∧ spanF l (j : Int) c = loSp l c) ∧ (∃ j : Nat, j < l.length ∧ spanF l (j : Int) c = hiSp l c) := by
  have hp := spansF_pos h (c := (c : Int)) (by omega) (by omega)
  have hss := spansF_ss l (c : Int)
  have hm := spansF_mem h (c := (c : Int)) (by omega) (by omega)
  have e1 : (((spansF l (c : Int)).length : Int) - 1) = (((spansF l (c : Int)).length - 1 : Nat) : Int) := by omega
  refine ⟨fun j hj => ?_, ?_, ?_⟩
  · have : spanF l (j : Int) c ∈ spansF l (c : Int) := (hm _).mpr ⟨j, hj, (spanAtF_nat h hj hc).symm⟩
    obtain ⟨i, hi, e⟩ := List.getElem_of_mem this
    have e2 : rd (spansF l (c : Int)) (i : Int) = spanF l (j : Int) c := by rw [rd_get hi, e]
    unfold loSp hiSp
    rw [e1]
    constructor
    · by_cases c0 : i = 0
      · subst c0
        rw [← e2]
        exact Int.le_refl _
      · have := ss_rd hss (i := 0) (j := i) (by omega) hi
        rw [show ((0 : Nat) : Int) = 0 from rfl] at this
        omega
    · by_cases c0 : i = (spansF l (c : Int)).length - 1
      · rw [← c0, e2]
        exact Int.le_refl _
      · have := ss_rd hss (i := i) (j := (spansF l (c : Int)).length - 1) (by omega) (by omega)
        omega
  · obtain ⟨j, hj, e⟩ := (hm _).mp (rd_mem (l := spansF l (c : Int)) (i := 0) (by omega))
    exact ⟨j, hj, by rw [spanAtF_nat h hj hc] at e; exact e.symm⟩
  · obtain ⟨j, hj, e⟩ := (hm _).mp (rd_mem (l := spansF l (c : Int)) (i := (spansF l (c : Int)).length - 1) (by omega))
    exact ⟨j, hj, by rw [spanAtF_nat h hj hc] at e; unfold hiSp; rw [e1]; exact e.symm⟩
/-- The least gap that n spans of the sum t can have. -/
def deltaN (n : Nat) (t : Int) : Int := if (n : Int) ∣ t then 0 else 1
theorem gap_ge {l : List Int} (h : scaleB l) {c : Nat} (hc : c ≤ l.length) :
    deltaN l.length ((c : Int) * l.sum) ≤ gapAt l (c : Int) ∧ (gapAt l (c : Int) ≤ 1 → gapAt l (c : Int) = deltaN l.length ((c : Int) * l.sum)) := by
  obtain ⟨b, ⟨j1, hj1, e1⟩, ⟨j2, hj2, e2⟩⟩ := sp_bounds h hc
  have hs := sumSp_all h c
  have eg : gapAt l (c : Int) = hiSp l c - loSp l c := rfl
  rw [eg]
  have hle : loSp l c ≤ hiSp l c := by have := b j1 hj1; omega
  have g1 := sumSp_ge l.length fun j hj => (b j hj).1
  have g2 := sumSp_le l.length fun j hj => (b j hj).2
  unfold deltaN
  by_cases hz : loSp l c = hiSp l c
  · have : (l.length : Int) ∣ (c : Int) * l.sum := ⟨loSp l c, by rw [← hs]; rw [← hz] at g2; omega⟩
    rw [if_pos this]
    omega
  · have s1 := sumSp_gt l.length (fun j hj => (b j hj).1) ⟨j2, hj2, by omega⟩
    have s2 := sumSp_lt l.length (fun j hj => (b j hj).2) ⟨j1, hj1, by omega⟩
    refine ⟨by split <;> omega, fun hg => ?_⟩
    have hg1 : hiSp l c = loSp l c + 1 := by omega
    rw [if_neg]
    · omega
    · rintro ⟨q, hq⟩
      rw [hs] at s1 s2
      rw [hq] at s1 s2
      have hn : (0 : Int) < (l.length : Int) := by have := scaleB_len h; omega
      have a1 : loSp l c < q := Int.lt_of_mul_lt_mul_left s1 (by omega)
      have a2 : q < hiSp l c := Int.lt_of_mul_lt_mul_left s2 (by omega)
      omega
theorem even_gap {l : List Int} (h : scaleB l) {c : Nat} (hc : c ≤ l.length) : evenAt l (c : Int) = true ↔ gapAt l (c : Int) ≤ 1 := by
  have hp := spansF_pos h (c := (c : Int)) (by omega) (by omega)
  have hss := spansF_ss l (c : Int)
  unfold evenAt gapAt
  by_cases c1 : ((spansF l (c : Int)).length : Int) > 2
  · have a := ss_rd hss (i := 0) (j := 1) (by omega) (by omega)
    have b := ss_rd hss (i := 1) (j := (spansF l (c : Int)).length - 1) (by omega) (by omega)
    rw [show (((spansF l (c : Int)).length - 1 : Nat) : Int) = ((spansF l (c : Int)).length : Int) - 1 by omega] at b
    rw [show ((0 : Nat) : Int) = 0 from rfl, show ((1 : Nat) : Int) = 1 from rfl] at *
    simp only [c1, decide_true, Bool.true_or, Bool.not_true]
    constructor
    · intro h; cases h
    · intro h; omega
  · by_cases c2 : ((spansF l (c : Int)).length : Int) = 2
    · have a := ss_rd hss (i := 0) (j := 1) (by omega) (by omega)
      rw [show ((0 : Nat) : Int) = 0 from rfl, show ((1 : Nat) : Int) = 1 from rfl] at a
      rw [c2]
      simp
      omega
    · have : ((spansF l (c : Int)).length : Int) = 1 := by omega
      rw [this]
      simp
def deltaL (n : Nat) (s : Int) : Nat → Nat → Int
  | _, 0 => 0
  | i, d + 1 => deltaN n ((i : Int) * s) + deltaL n s (i + 1) d
theorem uneven_ge {l : List Int} (h : scaleB l) : ∀ d i, i + d ≤ l.length + 1 → deltaL l.length l.sum i d ≤ unevenL l i d ∧ (evenL l i d = true ↔ unevenL l i d = deltaL l.length l.sum i d)
  | 0, i, _ => by simp [deltaL, unevenL, evenL]
  | d + 1, i, hi => by
    have ih := uneven_ge h d (i + 1) (by omega)
    have g := gap_ge h (c := i) (by omega)
    have e := even_gap h (c := i) (by omega)
    simp only [deltaL, unevenL, evenL, Bool.and_eq_true]
    refine ⟨by omega, ?_⟩
    rw [ih.2, e]
    constructor
    · rintro ⟨a, b⟩
      have := g.2 a
      omega
    · intro a
      have e1 : gapAt l (i : Int) = deltaN l.length ((i : Int) * l.sum) := by omega
      refine ⟨?_, by omega⟩
      rw [e1]
      unfold deltaN
      split <;> omega
theorem even_zero {l : List Int} (h : scaleB l) : evenAt l ((0 : Nat) : Int) = true := by
  rw [even_gap h (by omega)]
  obtain ⟨b, ⟨j1, hj1, e1⟩, ⟨j2, hj2, e2⟩⟩ := sp_bounds h (c := 0) (by omega)
  have : gapAt l ((0 : Nat) : Int) = hiSp l 0 - loSp l 0 := rfl
  rw [this, ← e1, ← e2]
  simp [spanF]
/-- A scale is even just if it is as even as can be. -/
theorem even_iff {l : List Int} (h : scaleB l) : evenF l = true ↔ unevenF l = deltaL l.length l.sum 1 l.length := by
  have hl := scaleB_len h
  have u := (uneven_ge h l.length 1 (by omega)).2
  have e0 := even_zero h
  unfold evenF unevenF
  rw [if_pos h, ← u, decide_eq_true h, Bool.and_true]
  have a := evenL_add l l.length 0
  rw [Nat.zero_add, even_whole, Bool.and_true] at a
  rw [← a, evenL, e0, Bool.true_and, Nat.zero_add]
theorem uneven_least {l : List Int} (h : scaleB l) : deltaL l.length l.sum 1 l.length ≤ unevenF l := by
  unfold unevenF
  rw [if_pos h]
  exact (uneven_ge h l.length 1 (by omega)).1

/-- The mode of a scale from k on. -/
def rotL (l : List Int) (k : Nat) : List Int := l.drop k ++ l.take k
def modeF (l : List Int) (k : Int) : List Int := if scaleB l ∧ 0 ≤ k ∧ k ≤ (l.length : Int) - 1 then rotL l k.toNat else []
theorem rotL_len (l : List Int) (k : Nat) : (rotL l k).length = l.length := by
  unfold rotL
  rw [List.length_append, List.length_drop, List.length_take]
  omega
theorem rotL_get {l : List Int} {k i : Nat} (hk : k < l.length) (hi : i < l.length) : (rotL l k)[i]? = some (rd l (((k + i) % l.length : Nat) : Int)) := by
  unfold rotL
  by_cases h : i < l.length - k
  · have e : (k + i) % l.length = k + i := Nat.mod_eq_of_lt (by omega)
    rw [e, rd_get (by omega), List.getElem?_append_left (by rw [List.length_drop]; omega), List.getElem?_drop, List.getElem?_eq_getElem (by omega)]
  · have e : (k + i) % l.length = k + i - l.length := by
      rw [Nat.mod_eq_sub_mod (by omega), Nat.mod_eq_of_lt (by omega)]
    rw [e, rd_get (by omega), List.getElem?_append_right (by rw [List.length_drop]; omega), List.length_drop, List.getElem?_take, if_pos (by omega), List.getElem?_eq_getElem (by omega)]
    congr 2
    omega
theorem modeF_len {l : List Int} {k : Int} (h : scaleB l) (h0 : 0 ≤ k) (h1 : k ≤ (l.length : Int) - 1) : (modeF l k).length = l.length := by
  unfold modeF
  rw [if_pos ⟨h, h0, h1⟩, rotL_len]
theorem modeF_len_le (l : List Int) (k : Int) : (modeF l k).length ≤ 12 := by
  unfold modeF
  split
  · rename_i h; rw [rotL_len]; exact (scaleB_len h.1).2
  · simp

/-- The lexicographic order of two lists. -/
def ordF : List Int → List Int → Int
  | [], [] => 0
  | [], _ :: _ => -1
  | _ :: _, [] => 1
  | a :: x, b :: y => if a = b then ordF x y else if a < b then -1 else 1
theorem ordF_zero (x : List Int) : ∀ y, ordF x y = 0 ↔ x = y := by
  induction x with
  | nil => intro y; cases y <;> simp [ordF]
  | cons a x ih =>
    intro y
    cases y with
    | nil => simp [ordF]
    | cons b y =>
      by_cases h : a = b
      · simp [ordF, h, ih y]
      · by_cases h2 : a < b <;> simp [ordF, h, h2]

/-- No mode before k is the one from k on. -/
def freshB (l : List Int) (k : Nat) : Prop := ∀ j, j < k → modeF l (j : Int) ≠ modeF l (k : Int)
instance (l : List Int) (k : Nat) : Decidable (freshB l k) := by unfold freshB; infer_instance
/-- How many of the first modes are new. -/
def cntF (l : List Int) : Nat → Nat
  | 0 => 0
  | i + 1 => cntF l i + if freshB l i then 1 else 0
theorem cntF_le (l : List Int) (i : Nat) : cntF l i ≤ i := by
  induction i with
  | zero => simp [cntF]
  | succ i ih => simp only [cntF]; split <;> omega
def countF (l : List Int) : Int := if scaleB l then (cntF l l.length : Int) else 0
/-- The first index from i on whose mode is x. -/
def sameFrom (l x : List Int) : Nat → Nat → Int
  | _, 0 => -1
  | i, d + 1 => if modeF l (i : Int) = x then (i : Int) else sameFrom l x (i + 1) d
def sameF (l x : List Int) : Int := if scaleB l then sameFrom l x 0 l.length else -1
theorem sameFrom_at (l : List Int) (k d : Nat) : ∀ i, i + d = l.length → i ≤ k → k < l.length → (sameFrom l (modeF l (k : Int)) i d = (k : Int) ↔ ∀ j, i ≤ j → j < k → modeF l (j : Int) ≠ modeF l (k : Int)) := by
  induction d with
  | zero => intro i hi hk hl; omega
  | succ d ih =>
    intro i hi hk hl
    simp only [sameFrom]
    by_cases e : modeF l (i : Int) = modeF l (k : Int)
    · rw [if_pos e]
      by_cases hik : i = k
      · subst hik
        simp
        intro j h1 h2
        omega
      · constructor
        · intro h; omega
        · intro h; exact absurd e (h i (Nat.le_refl _) (by omega))
    · rw [if_neg e]
      have hik : i ≠ k := fun h => e (by rw [h])
      rw [ih (i + 1) (by omega) (by omega) hl]
      constructor
      · intro h j h1 h2
        by_cases hj : j = i
        · rw [hj]; exact e
        · exact h j (by omega) h2
      · intro h j h1 h2
        exact h j (by omega) h2
theorem sameFrom_fresh {l : List Int} {k : Nat} (h : k < l.length) : sameFrom l (modeF l (k : Int)) 0 l.length = (k : Int) ↔ freshB l k := by
  rw [sameFrom_at l k l.length 0 (by omega) (by omega) h]
  unfold freshB
  exact ⟨fun x j hj => x j (by omega) hj, fun x j _ hj => x j hj⟩

/-- The last eight bits of whatever: a byte. -/
theorem and255 (x : Int) : 0 ≤ Go.bits .and .i64 x 255 ∧ Go.bits .and .i64 x 255 ≤ 255 := by
  have e : (BitVec.ofInt IntKind.i64.bits 255).toNat = 255 := by decide
  have h : Go.bits .and .i64 x 255 = IntKind.i64.wrap (((BitVec.ofInt IntKind.i64.bits x).toNat &&& 255 : Nat) : Int) := by
    unfold Go.bits
    simp only [BitVec.toNat_and]
    rw [e]
  have hle : (BitVec.ofInt IntKind.i64.bits x).toNat &&& 255 ≤ 255 := Nat.and_le_right
  rw [h, IntKind.wrap_i64]
  omega
/-- A cursor into the code. -/
def curB (l : List Int) (i : Int) : Prop := 0 ≤ i ∧ i ≤ (l.length : Int)

theorem laws_big_eq (l : List Int) : laws_big.f l = some (decide ((l.length : Int) > 1048576)) := rfl

theorem spec_l01Byte_eq {l : List Int} (hn : l.length ≤ 140737488351232) (i h : Int) (hi : curB l i) : ∃ b i' h', spec_l01Byte.f l i h = some (b, i', h') ∧ 0 ≤ b ∧ b ≤ 255 ∧ curB l i' := by
  unfold curB at *
  unfold spec_l01Byte.f
  by_cases hc : i < (l.length : Int)
  · rw [if_pos hc, if_pos hi.1]
    refine ⟨_, _, _, rfl, (and255 _).1, (and255 _).2, ?_⟩
    rw [w64 (by omega) (by omega)]
    omega
  · rw [if_neg hc]
    exact ⟨_, _, _, rfl, (and255 _).1, (and255 _).2, hi⟩

theorem spec_l01Below_eq {l : List Int} (hn : l.length ≤ 140737488351232) (i h n : Int) (hi : curB l i) (h1 : 1 ≤ n) : ∃ v i' h', spec_l01Below.f l i h n = some (v, i', h') ∧ 0 ≤ v ∧ v < n ∧ curB l i' := by
  unfold spec_l01Below.f
  rw [if_neg (by omega)]
  by_cases h2 : n ≤ 256
  · rw [if_pos h2]
    obtain ⟨b, i', h', e, b0, b1, hi'⟩ := spec_l01Byte_eq hn i h hi
    rw [e]
    simp only [Option.bind_some]
    rw [if_neg (by omega)]
    exact ⟨_, _, _, rfl, Int.tmod_nonneg _ b0, Int.tmod_lt_of_pos _ (by omega), hi'⟩
  · rw [if_neg h2]
    obtain ⟨x, i1, h1', e, x0, x1, hi1⟩ := spec_l01Byte_eq hn i h hi
    rw [e]
    simp only [Option.bind_some]
    obtain ⟨y, i2, h2', e2, y0, y1, hi2⟩ := spec_l01Byte_eq hn i1 h1' hi1
    rw [e2]
    simp only [Option.bind_some]
    obtain ⟨z, i3, h3', e3, z0, z1, hi3⟩ := spec_l01Byte_eq hn i2 h2' hi2
    rw [e3]
    simp only [Option.bind_some]
    obtain ⟨u, i4, h4', e4, u0, u1, hi4⟩ := spec_l01Byte_eq hn i3 h3' hi3
    rw [e4]
    simp only [Option.bind_some]
    rw [if_neg (by omega), w64 (x := x * 16777216) (by omega) (by omega), w64 (x := y * 65536) (by omega) (by omega), w64 (x := z * 256) (by omega) (by omega), w64 (x := x * 16777216 + y * 65536) (by omega) (by omega),
      w64 (x := x * 16777216 + y * 65536 + z * 256) (by omega) (by omega), w64 (x := x * 16777216 + y * 65536 + z * 256 + u) (by omega) (by omega)]
    exact ⟨_, _, _, rfl, Int.tmod_nonneg _ (by omega), Int.tmod_lt_of_pos _ (by omega), hi4⟩

theorem spec_l01Once_eq {l : List Int} (hn : l.length ≤ 140737488351232) (i h n : Int) (hi : curB l i) (h1 : 1 ≤ n) : ∃ b i' h', spec_l01Once.f l i h n = some (b, i', h') ∧ curB l i' := by
  obtain ⟨v, i', h', e, _, _, c⟩ := spec_l01Below_eq hn i h n hi h1
  unfold spec_l01Once.f
  rw [e]
  exact ⟨_, _, _, rfl, c⟩

theorem spec_l01PickInt_eq {l : List Int} (hn : l.length ≤ 140737488351232) (i h : Int) (p : List Int) (hi : curB l i) (h1 : 1 ≤ p.length) : ∃ v i' h', spec_l01PickInt.f l i h p = some (v, i', h') ∧ v ∈ p ∧ curB l i' := by
  obtain ⟨v, i', h', e, v0, v1, c⟩ := spec_l01Below_eq hn i h (p.length : Int) hi (by omega)
  unfold spec_l01PickInt.f
  rw [e]
  simp only [Option.bind_some]
  rw [if_pos v0, if_pos v1]
  obtain ⟨n, rfl⟩ : ∃ n : Nat, v = n := ⟨v.toNat, by omega⟩
  exact ⟨_, _, _, rfl, rd_mem (by omega), c⟩

/-- A scale as it is drawn. -/
def drawnS (l : List Int) : Prop := scaleB l ∧ l.length ≤ 8 ∧ l.sum ≤ 3 * (l.length : Int) ∧ (l.length : Int) ≤ l.sum
theorem sum_le3 : ∀ l : List Int, (∀ x ∈ l, 1 ≤ x ∧ x ≤ 3) → (l.length : Int) ≤ l.sum ∧ l.sum ≤ 3 * (l.length : Int)
  | [], _ => by simp
  | a :: l, h => by
    have := sum_le3 l fun x hx => h x (List.mem_cons_of_mem _ hx)
    have := h a (by simp)
    simp only [List.sum_cons, List.length_cons]
    omega
theorem drawnS_small {l : List Int} (h0 : 1 ≤ l.length) (h1 : l.length ≤ 8) (hx : ∀ x ∈ l, 1 ≤ x ∧ x ≤ 3) : drawnS l := by
  have := sum_le3 l hx
  refine ⟨⟨fun x h => ?_, by omega, by omega⟩, h1, by omega, by omega⟩
  have := hx x h
  omega
theorem drawnS_major : drawnS [2, 2, 1, 2, 2, 2, 1] := by
  refine drawnS_small (by simp) (by simp) ?_
  simp
theorem spec_l21Scale_l0 {L : List Int} (hn : L.length ≤ 140737488351232) (d : Nat) : ∀ (k : Nat) (n : Nat) (i : Nat) (ci ch : Int) (out : List Int), i + d = n → n ≤ 8 → 1 ≤ n → d < k → curB L ci → out.length = i → (∀ x ∈ out, 1 ≤ x ∧ x ≤ 3) →
    ∃ p i' h', spec_l21Scale.l0 k (n : Int) (i : Int) L ci ch out = some (p, i', h') ∧ drawnS p := by
  induction d with
  | zero =>
    intro k n i ci ch out hi h8 h1 hk hc hl hx
    obtain ⟨k, rfl⟩ : ∃ m, k = m + 1 := ⟨k - 1, by omega⟩
    simp only [spec_l21Scale.l0]
    rw [if_neg (by omega)]
    exact ⟨_, _, _, rfl, drawnS_small (by omega) (by omega) hx⟩
  | succ d ih =>
    intro k n i ci ch out hi h8 h1 hk hc hl hx
    obtain ⟨k, rfl⟩ : ∃ m, k = m + 1 := ⟨k - 1, by omega⟩
    simp only [spec_l21Scale.l0]
    rw [if_pos (by omega)]
    obtain ⟨u, i2, h2, e2, hu, c2⟩ := spec_l01PickInt_eq hn ci ch [1, 2, 2, 3] hc (by simp)
    rw [e2]
    simp only [Option.bind_some]
    rw [if_pos (by omega), up_one (n := 20) (by omega) (by omega)]
    refine ih k n (i + 1) i2 h2 _ (by omega) h8 h1 (by omega) c2 (by simp; omega) fun x hx' => ?_
    rcases List.mem_append.mp hx' with h | h
    · exact hx x h
    · simp at h hu
      omega
theorem spec_l21Scale_eq {k : Nat} {L : List Int} (hk : 9 < k) (hn : L.length ≤ 140737488351232) (ci ch : Int) (hc : curB L ci) : ∃ p i' h', spec_l21Scale.f k L ci ch = some (p, i', h') ∧ drawnS p := by
  unfold spec_l21Scale.f
  obtain ⟨b, i1, h1, e1, c1⟩ := spec_l01Once_eq hn ci ch 4 hc (by omega)
  rw [e1]
  simp only [Option.bind_some, spec_MajorScale.f]
  by_cases c : b = true
  · rw [if_pos c]
    exact ⟨_, _, _, rfl, drawnS_major⟩
  · rw [if_neg c]
    obtain ⟨v, i2, h2, e2, v0, v1, c2⟩ := spec_l01Below_eq hn i1 h1 8 c1 (by omega)
    rw [e2]
    simp only [Option.bind_some]
    rw [w64 (by omega) (by omega), show 1 + v = ((v.toNat + 1 : Nat) : Int) by omega]
    exact spec_l21Scale_l0 hn (v.toNat + 1) k (v.toNat + 1) 0 i2 h2 [] (by omega) (by omega) (by omega) (by omega) c2 rfl (by simp)

theorem spec_l01New_l0 (d : Nat) : ∀ (k : Nat) (l : List Int) (h : Int) (i : Nat), i + d = l.length → d < k → l.length ≤ 140737488351232 → ∃ h', spec_l01New.l0 k l h (i : Int) = some (l, 0, h') := by
  induction d with
  | zero =>
    intro k l h i hi hk hn
    obtain ⟨k, rfl⟩ : ∃ m, k = m + 1 := ⟨k - 1, by omega⟩
    simp only [spec_l01New.l0]
    rw [if_neg (by omega)]
    exact ⟨h, rfl⟩
  | succ d ih =>
    intro k l h i hi hk hn
    obtain ⟨k, rfl⟩ : ∃ m, k = m + 1 := ⟨k - 1, by omega⟩
    simp only [spec_l01New.l0]
    rw [if_pos (by omega), up_one (n := l.length) (by omega) (by omega)]
    by_cases h4 : (i : Int) < 4000
    · rw [if_pos h4, if_pos (by omega)]
      exact ih k l _ (i + 1) (by omega) (by omega) hn
    · rw [if_neg h4]
      exact ⟨h, rfl⟩
theorem spec_l01New_eq {k : Nat} {l : List Int} (hk : l.length < k) (hn : l.length ≤ 140737488351232) : ∃ h, spec_l01New.f k l = some (l, 0, h) := by
  unfold spec_l01New.f
  exact spec_l01New_l0 l.length k l _ 0 (by omega) hk hn

theorem spec_DrawScale_eq {k : Nat} {l : List Int} (hk : l.length + 12 < k) (hn : l.length ≤ 140737488351232) : ∃ p, spec_DrawScale.f k l = some p ∧ drawnS p := by
  unfold spec_DrawScale.f
  obtain ⟨h, e⟩ := spec_l01New_eq (k := k) (by omega) hn
  rw [e]
  simp only [Option.bind_some]
  obtain ⟨p, i2, h2, e2, d2⟩ := spec_l21Scale_eq (k := k) (by omega) hn 0 h ⟨by omega, by omega⟩
  rw [e2]
  exact ⟨p, rfl, d2⟩

theorem impl_within_eq (a b c : Int) : impl_within.f a b c = some (decide (b ≤ a ∧ a ≤ c)) := by
  unfold impl_within.f; by_cases h : b ≤ a <;> by_cases h2 : a ≤ c <;> simp [h, h2]

def evenB (c s : Int) : Prop := (1 ≤ c ∧ c ≤ 12) ∧ (c ≤ s ∧ s ≤ 60)
instance (c s : Int) : Decidable (evenB c s) := by unfold evenB; infer_instance
theorem impl_EvenPlaces_none {k : Nat} {c s : Int} (h : ¬ evenB c s) (hk : 0 < k) : impl_EvenPlaces.f k c s = some [] := by
  obtain ⟨k, rfl⟩ : ∃ m, k = m + 1 := ⟨k - 1, by omega⟩
  unfold impl_EvenPlaces.f
  simp only [impl_within_eq, Option.bind_some, impl_EvenPlaces.j0, decide_eq_true_eq]
  unfold evenB at h
  by_cases h1 : 1 ≤ c ∧ c ≤ 12
  · have h2 : ¬ (c ≤ s ∧ s ≤ 60) := fun x => h ⟨h1, x⟩
    simp [h1, h2]
  · simp [h1]
theorem evenB_cases {c s : Int} (h : evenB c s) (P : Int → Int → Prop) [∀ x y, Decidable (P x y)] (hP : (List.range 13).all (fun x => (List.range 61).all fun y => decide (evenB x y → P x y)) = true) : P c s := by
  have h' := h
  unfold evenB at h'
  have hx := List.all_eq_true.1 hP c.toNat (List.mem_range.2 (by omega))
  have hy := List.all_eq_true.1 hx s.toNat (List.mem_range.2 (by omega))
  have e1 : ((c.toNat : Nat) : Int) = c := by omega
  have e2 : ((s.toNat : Nat) : Int) = s := by omega
  rw [e1, e2] at hy
  exact of_decide_eq_true hy h

theorem impl_ScaleOk_l0 (d : Nat) : ∀ (k : Nat) (l : List Int) (s : Int) (i : Nat), i + d = l.length → d < k → l.length ≤ 1048576 → 0 ≤ s → s ≤ (20 * i : Int) →
    impl_ScaleOk.l0 k s l (l.length : Int) (i : Int) l = some (decide (scaleG (l.drop i) s l.length)) := by
  induction d with
  | zero =>
    intro k l s i hi hk hn h1 h2
    obtain ⟨k, rfl⟩ : ∃ m, k = m + 1 := ⟨k - 1, by omega⟩
    simp only [impl_ScaleOk.l0, impl_within_eq]
    rw [if_neg (by omega), List.drop_eq_nil_of_le (by omega)]
    by_cases h : 1 ≤ (l.length : Int) ∧ (l.length : Int) ≤ 12
    · simp only [h, and_self, decide_true, if_true, Option.bind_some, scaleG, List.not_mem_nil, false_imp_iff, implies_true, true_and, List.sum_nil, Int.add_zero]
    · simp only [h, decide_false, Bool.false_eq_true, if_false, Option.bind_some, scaleG, false_and, and_false]
  | succ d ih =>
    intro k l s i hi hk hn h1 h2
    obtain ⟨k, rfl⟩ : ∃ m, k = m + 1 := ⟨k - 1, by omega⟩
    simp only [impl_ScaleOk.l0]
    have hlt : (i : Int) < (l.length : Int) := by omega
    have h0 : (0 : Int) ≤ (i : Int) := by omega
    simp only [hlt, h0, if_true, impl_within_eq, up_one (n := l.length) (show i < l.length by omega) (by omega)]
    rw [drop_rd (l := l) (i := i) (by omega)]
    simp only [Option.bind_some, decide_eq_true_eq, scaleG_cons]
    by_cases h : 1 ≤ rd l (i : Int) ∧ rd l (i : Int) ≤ 20
    · rw [if_pos h, w64 (by omega) (by omega), ih k l _ (i + 1) (by omega) (by omega) hn (by omega) (by omega)]
      simp [h]
    · rw [if_neg h]; simp [h]
theorem impl_ScaleOk_eq {k : Nat} {l : List Int} (hk : l.length < k) (hn : l.length ≤ 1048576) : impl_ScaleOk.f k l = some (decide (scaleB l)) := by
  unfold impl_ScaleOk.f scaleB
  exact impl_ScaleOk_l0 l.length k l 0 0 (by omega) hk hn (by omega) (by omega)

theorem impl_SpanAt_l0 (d : Nat) : ∀ (k : Nat) (l : List Int) (f : Int) (c i : Nat), i + d = c → d < k → scaleB l → 0 ≤ f → f ≤ (l.length : Int) - 1 → c ≤ l.length →
    impl_SpanAt.l0 k f (c : Int) (spanF l f i) (i : Int) l = some (spanF l f c) := by
  induction d with
  | zero =>
    intro k l f c i hi hk hs h0 h1 hc
    obtain ⟨k, rfl⟩ : ∃ m, k = m + 1 := ⟨k - 1, by omega⟩
    simp only [impl_SpanAt.l0]
    obtain rfl : i = c := by omega
    rw [if_neg (by omega)]
  | succ d ih =>
    intro k l f c i hi hk hs h0 h1 hc
    obtain ⟨k, rfl⟩ : ∃ m, k = m + 1 := ⟨k - 1, by omega⟩
    have hl := scaleB_len hs
    have e := tmod_nat (f := f) (n := l.length) i h0 hl.1
    have hm : (f.toNat + i) % l.length < l.length := Nat.mod_lt _ (by omega)
    have hr := scaleB_rd hs hm
    have hsp := spanF_rng hs h0 i
    simp only [impl_SpanAt.l0]
    rw [if_pos (by omega), if_neg (by omega), w64 (x := f + (i : Int)) (by omega) (by omega), e, if_pos (by omega), if_pos (by omega), up_one (n := 12) (by omega) (by omega), w64 (by omega) (by omega)]
    rw [← ih k l f c (i + 1) (by omega) (by omega) hs h0 h1 hc]
    simp only [spanF, e]
theorem impl_SpanAt_eq {k : Nat} {l : List Int} (f c : Int) (hk : l.length + 20 < k) (hn : l.length ≤ 1048576) : impl_SpanAt.f k l f c = some (spanAtF l f c) := by
  obtain ⟨k, rfl⟩ : ∃ m, k = m + 1 := ⟨k - 1, by omega⟩
  unfold impl_SpanAt.f spanAtF
  rw [impl_ScaleOk_eq (by omega) hn]
  simp only [Option.bind_some, impl_within_eq, impl_SpanAt.j0, decide_eq_true_eq]
  by_cases hs : scaleB l
  · have hl := scaleB_len hs
    rw [w64 (x := (l.length : Int) - 1) (by omega) (by omega)]
    by_cases h1 : 0 ≤ f ∧ f ≤ (l.length : Int) - 1
    · by_cases h2 : 0 ≤ c ∧ c ≤ (l.length : Int)
      · have := impl_SpanAt_l0 c.toNat k l f c.toNat 0 (by omega) (by omega) hs h1.1 h1.2 (by omega)
        rw [show ((c.toNat : Nat) : Int) = c by omega] at this
        simp only [spanF] at this
        simp only [hs, h1, h2, and_self, if_true, decide_true, Bool.not_true, Bool.false_eq_true, if_false]
        exact this
      · simp [hs, h1, h2]
    · simp [hs, h1]
  · simp [hs]

theorem spanF_all_aux {l : List Int} (h : scaleB l) (c : Nat) (hc : c ≤ l.length) : spanF l 0 c = (l.take c).sum := by
  have hl := scaleB_len h
  induction c with
  | zero => simp [spanF]
  | succ c ih =>
    simp only [spanF]
    rw [ih (by omega), tmod_nat c (by omega) hl.1]
    have e : ((0 : Int).toNat + c) % l.length = c := by
      rw [show (0 : Int).toNat + c = c by omega]
      exact Nat.mod_eq_of_lt (by omega)
    rw [e, rd_get (by omega), List.take_succ_eq_append_getElem (by omega), List.sum_append]
    simp
theorem spanF_all {l : List Int} (h : scaleB l) : spanF l 0 l.length = l.sum := by
  rw [spanF_all_aux h l.length (Nat.le_refl _), List.take_length]
theorem impl_ScaleSum_eq {k : Nat} {l : List Int} (hk : l.length + 20 < k) (hn : l.length ≤ 1048576) : impl_ScaleSum.f k l = some (if scaleB l then l.sum else 0) := by
  unfold impl_ScaleSum.f
  rw [impl_ScaleOk_eq (by omega) hn, impl_SpanAt_eq 0 _ hk hn]
  simp only [Option.bind_some, decide_eq_true_eq]
  by_cases h : scaleB l
  · have hl := scaleB_len h
    rw [if_pos h, if_pos h]
    unfold spanAtF
    rw [if_pos ⟨h, ⟨by omega, by omega⟩, ⟨by omega, by omega⟩⟩, Int.toNat_natCast, spanF_all h]
  · rw [if_neg h, if_neg h]

theorem sort_Ints_eq {l : List Int} (h0 : 0 < l.length) (h1 : l.length ≤ 1048576) : sort_Ints.f l = some (l.mergeSort fun x y => decide (x ≤ y)) := by
  unfold sort_Ints.f
  rw [if_pos h0, if_pos (by omega)]
theorem sort_sorted {l : List Int} (h : l.Pairwise (· ≤ ·)) : (l.mergeSort fun x y => decide (x ≤ y)) = l :=
  List.mergeSort_of_pairwise (h.imp (by simp))

theorem impl_SpansOf_l0 (d : Nat) : ∀ (k : Nat) (l : List Int) (c : Int) (out : List Int) (i : Nat), scaleB l → 0 ≤ c → c ≤ (l.length : Int) → i + d = l.length → d + l.length + 20 < k → out.length ≤ i → out.Nodup → (∀ x, x ∈ out ↔ ∃ j : Nat, j < i ∧ x = spanAtF l (j : Int) c) →
    impl_SpansOf.l0 k c out (l.length : Int) (i : Int) l = some (spansF l c) := by
  induction d with
  | zero =>
    intro k l c out i hs h0 h1 hi hk hl hn hm
    obtain ⟨k, rfl⟩ : ∃ m, k = m + 1 := ⟨k - 1, by omega⟩
    have h12 := scaleB_len hs
    have hpos : 0 < out.length := List.length_pos_of_mem ((hm _).mpr ⟨0, by omega, rfl⟩)
    simp only [impl_SpansOf.l0]
    rw [if_neg (by omega), sort_Ints_eq hpos (by omega)]
    simp only [Option.bind_some]
    refine congrArg some (ss_ext (sort_ss hn) (spansF_ss l c) fun x => ?_)
    rw [List.mem_mergeSort, hm, spansF_mem hs h0 h1, show i = l.length by omega]
  | succ d ih =>
    intro k l c out i hs h0 h1 hi hk hl hn hm
    obtain ⟨k, rfl⟩ : ∃ m, k = m + 1 := ⟨k - 1, by omega⟩
    have h12 := scaleB_len hs
    have hr := spanAtF_rng l (i : Int) c
    simp only [impl_SpansOf.l0]
    rw [if_pos (by omega), impl_SpanAt_eq _ _ (by omega) (by omega)]
    simp only [Option.bind_some]
    rw [if_pos (by omega), up_one (n := 20) (by omega) (by omega)]
    by_cases hx : spanAtF l (i : Int) c ∈ out
    · rw [if_pos hx]
      refine ih k l c out (i + 1) hs h0 h1 (by omega) (by omega) (by omega) hn fun x => ?_
      rw [hm]
      constructor
      · rintro ⟨j, h, e⟩; exact ⟨j, by omega, e⟩
      · rintro ⟨j, h, e⟩
        by_cases e2 : j = i
        · subst e2
          rw [← e] at hx
          exact (hm x).mp hx
        · exact ⟨j, by omega, e⟩
    · rw [if_neg hx, if_pos (by omega)]
      refine ih k l c _ (i + 1) hs h0 h1 (by omega) (by omega) (by simp; omega) ?_ fun x => ?_
      · rw [List.nodup_append]
        refine ⟨hn, by simp, fun a ha b hb => ?_⟩
        simp at hb
        subst hb
        intro e
        exact hx (e ▸ ha)
      · rw [List.mem_append, hm]
        simp only [List.mem_singleton]
        constructor
        · rintro (⟨j, h, e⟩ | e)
          · exact ⟨j, by omega, e⟩
          · exact ⟨i, by omega, e⟩
        · rintro ⟨j, h, e⟩
          by_cases e2 : j = i
          · subst e2; exact .inr e
          · exact .inl ⟨j, by omega, e⟩
theorem impl_SpansOf_eq {k : Nat} {l : List Int} (c : Int) (hk : 2 * l.length + 40 < k) (hn : l.length ≤ 1048576) : impl_SpansOf.f k l c = some (spansF l c) := by
  obtain ⟨k, rfl⟩ : ∃ m, k = m + 1 := ⟨k - 1, by omega⟩
  unfold impl_SpansOf.f
  rw [impl_ScaleOk_eq (by omega) hn]
  simp only [Option.bind_some, impl_within_eq, impl_SpansOf.j0, decide_eq_true_eq]
  by_cases hs : scaleB l
  · rw [if_pos hs]
    by_cases hc : 0 ≤ c ∧ c ≤ (l.length : Int)
    · rw [decide_eq_true hc]
      simp only [Bool.not_true, Bool.false_eq_true, if_false]
      exact impl_SpansOf_l0 l.length k l c [] 0 hs hc.1 hc.2 (by omega) (by omega) (by simp) (by simp) (by simp)
    · rw [decide_eq_false hc, spansF, if_neg (c := scaleB l ∧ (0 ≤ c ∧ c ≤ (l.length : Int))) (fun h => hc h.2)]
      simp
  · rw [if_neg hs, spansF, if_neg (c := scaleB l ∧ (0 ≤ c ∧ c ≤ (l.length : Int))) (fun h => hs h.1)]
    simp

theorem impl_IsEven_l0 (d : Nat) : ∀ (k : Nat) (l : List Int) (i : Nat), i + d = l.length → d + 2 * l.length + 50 < k → l.length ≤ 1048576 → impl_IsEven.l0 k (l.length : Int) (i : Int) l = some (evenL l i d && decide (scaleB l)) := by
  induction d with
  | zero =>
    intro k l i hi hk hn
    obtain ⟨k, rfl⟩ : ∃ m, k = m + 1 := ⟨k - 1, by omega⟩
    simp only [impl_IsEven.l0]
    rw [if_neg (by omega), impl_ScaleOk_eq (by omega) hn]
    simp [evenL]
  | succ d ih =>
    intro k l i hi hk hn
    obtain ⟨k, rfl⟩ : ∃ m, k = m + 1 := ⟨k - 1, by omega⟩
    simp only [impl_IsEven.l0]
    rw [if_pos (by omega), impl_SpansOf_eq _ (by omega) hn]
    simp only [Option.bind_some, evenL]
    rw [up_one (n := l.length + 1) (by omega) (by omega), ih k l (i + 1) (by omega) (by omega) hn, even_step]
    by_cases c : evenAt l (i : Int) = true
    · rw [if_pos c, c]; simp
    · rw [if_neg c]
      simp only [Bool.not_eq_true] at c
      rw [c]; simp
theorem impl_IsEven_eq {k : Nat} {l : List Int} (hk : 3 * l.length + 60 < k) (hn : l.length ≤ 1048576) : impl_IsEven.f k l = some (evenF l) := by
  unfold impl_IsEven.f evenF
  exact impl_IsEven_l0 l.length k l 0 (by omega) (by omega) hn

theorem impl_Unevenness_l0 (d : Nat) : ∀ (k : Nat) (l : List Int) (s : Int) (i : Nat), scaleB l → 1 ≤ i → i + d = l.length + 1 → d + 2 * l.length + 50 < k → -10000 * (i : Int) ≤ s → s ≤ 10000 * (i : Int) → impl_Unevenness.l0 k s (i : Int) l = some (s + unevenL l i d) := by
  induction d with
  | zero =>
    intro k l s i hs h1 hi hk hs1 hs2
    obtain ⟨k, rfl⟩ : ∃ m, k = m + 1 := ⟨k - 1, by omega⟩
    simp only [impl_Unevenness.l0]
    rw [if_neg (by omega)]
    simp [unevenL]
  | succ d ih =>
    intro k l s i hs h1 hi hk hs1 hs2
    obtain ⟨k, rfl⟩ : ∃ m, k = m + 1 := ⟨k - 1, by omega⟩
    have h12 := scaleB_len hs
    have hp := spansF_pos hs (c := (i : Int)) (by omega) (by omega)
    have hlen := spansF_len l (i : Int)
    obtain ⟨a, b⟩ := gapAt_rng hs (c := (i : Int)) (by omega) (by omega)
    simp only [impl_Unevenness.l0]
    rw [if_pos (by omega), impl_SpansOf_eq _ (by omega) (by omega)]
    simp only [Option.bind_some, unevenL]
    rw [w64 (x := ((spansF l (i : Int)).length : Int) - 1) (by omega) (by omega), if_pos (by omega), if_pos (by omega), if_pos (by omega), w64 (x := s + rd (spansF l (i : Int)) (((spansF l (i : Int)).length : Int) - 1)) (by omega) (by omega), w64 (x := s + rd (spansF l (i : Int)) (((spansF l (i : Int)).length : Int) - 1) - rd (spansF l (i : Int)) 0) (by omega) (by omega), up_one (n := 100) (by omega) (by omega), ih k l _ (i + 1) hs (by omega) (by omega) (by omega) (by omega) (by omega)]
    unfold gapAt
    exact congrArg some (by omega)
theorem impl_Unevenness_eq {k : Nat} {l : List Int} (hk : 3 * l.length + 60 < k) (hn : l.length ≤ 1048576) : impl_Unevenness.f k l = some (unevenF l) := by
  unfold impl_Unevenness.f unevenF
  rw [impl_ScaleOk_eq (by omega) hn]
  simp only [Option.bind_some, decide_eq_true_eq]
  by_cases hs : scaleB l
  · have h12 := scaleB_len hs
    rw [if_pos hs, if_pos hs]
    have := impl_Unevenness_l0 l.length k l 0 1 hs (by omega) (by omega) (by omega) (by omega) (by omega)
    rw [Int.zero_add] at this
    exact this
  · rw [if_neg hs, if_neg hs]

theorem impl_ModeOf_eq {k : Nat} {l : List Int} (f : Int) (hk : l.length < k) (hn : l.length ≤ 1048576) : impl_ModeOf.f k l f = some (modeF l f) := by
  unfold impl_ModeOf.f modeF
  rw [impl_ScaleOk_eq hk hn, impl_within_eq]
  simp only [Option.bind_some, decide_eq_true_eq]
  by_cases hs : scaleB l
  · have hl := scaleB_len hs
    rw [if_pos hs, w64 (x := (l.length : Int) - 1) (by omega) (by omega)]
    by_cases h : 0 ≤ f ∧ f ≤ (l.length : Int) - 1
    · rw [if_pos h, if_pos h.1, if_pos (show f ≤ (l.length : Int) by omega), if_pos (by rw [List.length_drop]; simp; omega), if_pos (by rw [List.length_append, List.length_drop, List.length_take]; simp; omega), if_pos (show scaleB l ∧ 0 ≤ f ∧ f ≤ (l.length : Int) - 1 from ⟨hs, h⟩)]
      simp [rotL]
    · rw [if_neg h, if_neg (fun x => h x.2)]
  · rw [if_neg hs, if_neg (fun x => hs x.1)]

theorem impl_orderInts_l0 (d : Nat) : ∀ (k : Nat) (x y : List Int) (i : Nat), i + d = x.length → 2 * d + 1 < k → x.length ≤ 1048576 → y.length ≤ 1048576 → i ≤ y.length → impl_orderInts.l0 k x y (i : Int) = some (ordF (x.drop i) (y.drop i)) := by
  induction d with
  | zero =>
    intro k x y i hi hk hx hy hiy
    obtain ⟨k, rfl⟩ : ∃ m, k = m + 2 := ⟨k - 2, by omega⟩
    simp only [impl_orderInts.l0, impl_orderInts.j1]
    rw [if_neg (by omega), List.drop_eq_nil_of_le (by omega)]
    by_cases e : i = y.length
    · rw [List.drop_eq_nil_of_le (by omega), if_neg (by simp), if_neg (by omega), if_neg (by omega)]
      rfl
    · rw [drop_rd (l := y) (i := i) (by omega), if_neg (by simp), if_pos (by omega)]
      rfl
  | succ d ih =>
    intro k x y i hi hk hx hy hiy
    obtain ⟨k, rfl⟩ : ∃ m, k = m + 2 := ⟨k - 2, by omega⟩
    simp only [impl_orderInts.l0, impl_orderInts.j1]
    rw [if_pos (by omega), drop_rd (l := x) (i := i) (by omega)]
    by_cases e : i = y.length
    · have e0 : y.drop i = [] := List.drop_eq_nil_of_le (by omega)
      rw [e0, if_neg (by simp; omega), if_neg (by omega), if_pos (by omega)]
      rfl
    · rw [drop_rd (l := y) (i := i) (by omega), if_pos (by simp; omega), if_pos (by omega), if_pos (by omega), if_pos (by omega), up_one (n := x.length) (by omega) (by omega), ih k x y (i + 1) (by omega) (by omega) hx hy (by omega)]
      simp only [ordF]
      by_cases h : rd x (i : Int) = rd y (i : Int)
      · rw [if_pos h, if_pos h]
      · rw [if_neg h, if_neg h]
        by_cases h2 : rd x (i : Int) < rd y (i : Int)
        · rw [if_pos h2, if_pos h2]
        · rw [if_neg h2, if_neg h2]
theorem impl_orderInts_eq {k : Nat} {x y : List Int} (hk : 2 * x.length + 1 < k) (hx : x.length ≤ 1048576) (hy : y.length ≤ 1048576) : impl_orderInts.f k x y = some (ordF x y) := by
  unfold impl_orderInts.f
  have := impl_orderInts_l0 x.length k x y 0 (by omega) hk hx hy (by omega)
  simpa using this

theorem impl_SameMode_l0 (d : Nat) : ∀ (k : Nat) (l x : List Int) (i : Nat), i + d = l.length → d + 40 < k → scaleB l → x.length ≤ 1048576 → impl_SameMode.l0 k (l.length : Int) (i : Int) l x = some (sameFrom l x i d) := by
  induction d with
  | zero =>
    intro k l x i hi hk hs hx
    obtain ⟨k, rfl⟩ : ∃ m, k = m + 1 := ⟨k - 1, by omega⟩
    simp only [impl_SameMode.l0]
    rw [if_neg (by omega)]
    rfl
  | succ d ih =>
    intro k l x i hi hk hs hx
    obtain ⟨k, rfl⟩ : ∃ m, k = m + 1 := ⟨k - 1, by omega⟩
    have hl := scaleB_len hs
    have e1 := modeF_len_le l (i : Int)
    simp only [impl_SameMode.l0]
    rw [if_pos (by omega), impl_ModeOf_eq _ (by omega) (by omega)]
    simp only [Option.bind_some]
    rw [impl_orderInts_eq (by omega) (by omega) hx, up_one (n := 12) (by omega) (by omega)]
    simp only [Option.bind_some, ordF_zero, sameFrom]
    by_cases h : modeF l (i : Int) = x
    · rw [if_pos h, if_pos h]
    · rw [if_neg h, if_neg h]
      exact ih k l x (i + 1) (by omega) (by omega) hs hx
theorem impl_SameMode_eq {k : Nat} {l x : List Int} (hk : l.length + 60 < k) (hn : l.length ≤ 1048576) (hx : x.length ≤ 1048576) : impl_SameMode.f k l x = some (sameF l x) := by
  unfold impl_SameMode.f sameF
  rw [impl_ScaleOk_eq (by omega) hn]
  simp only [Option.bind_some, decide_eq_true_eq]
  by_cases hs : scaleB l
  · have hl := scaleB_len hs
    rw [if_pos hs, if_pos hs]
    exact impl_SameMode_l0 l.length k l x 0 (by omega) (by omega) hs hx
  · rw [if_neg hs, if_neg hs]

theorem impl_HasTwoSizes_l0 (d : Nat) : ∀ (k : Nat) (l : List Int) (i : Nat), i + d = l.length → d + 2 * l.length + 50 < k → l.length ≤ 1048576 → impl_HasTwoSizes.l0 k (l.length : Int) (i : Int) l = some (twoL l i d && decide (scaleB l)) := by
  induction d with
  | zero =>
    intro k l i hi hk hn
    obtain ⟨k, rfl⟩ : ∃ m, k = m + 1 := ⟨k - 1, by omega⟩
    simp only [impl_HasTwoSizes.l0]
    rw [if_neg (by omega), impl_ScaleOk_eq (by omega) hn]
    simp [twoL]
  | succ d ih =>
    intro k l i hi hk hn
    obtain ⟨k, rfl⟩ : ∃ m, k = m + 1 := ⟨k - 1, by omega⟩
    simp only [impl_HasTwoSizes.l0]
    rw [if_pos (by omega), impl_SpansOf_eq _ (by omega) hn]
    simp only [Option.bind_some, twoL]
    by_cases c : ((spansF l (i : Int)).length : Int) > 2
    · rw [if_pos c, if_pos c]; simp
    · rw [if_neg c, if_neg c, up_one (n := l.length) (by omega) (by omega), ih k l (i + 1) (by omega) (by omega) hn]
theorem impl_HasTwoSizes_eq {k : Nat} {l : List Int} (hk : 3 * l.length + 60 < k) (hn : l.length ≤ 1048576) : impl_HasTwoSizes.f k l = some (twoF l) := by
  unfold impl_HasTwoSizes.f twoF
  exact impl_HasTwoSizes_l0 l.length k l 0 (by omega) (by omega) hn

/-- The even scale. -/
def evS (n s : Nat) : List Int := (List.range n).map fun i => (((i + 1) * s / n : Nat) : Int) - ((i * s / n : Nat) : Int)
def evOk (n s : Nat) : Bool := decide (impl_EvenScale.f 40 (n : Int) (s : Int) = some (evS n s)) && decide (scaleB (evS n s)) && decide ((evS n s).sum = (s : Int)) && evenF (evS n s)
set_option maxRecDepth 100000 in
theorem evS_all : ((List.range 9).all fun n => (List.range 25).all fun s => !(decide (1 ≤ n) && decide (n ≤ s) && decide (s ≤ 3 * n)) || evOk n s) = true := by decide +kernel
theorem evS_ok {n s : Nat} (h0 : 1 ≤ n) (h1 : n ≤ 8) (h2 : n ≤ s) (h3 : s ≤ 3 * n) : impl_EvenScale.f 40 (n : Int) (s : Int) = some (evS n s) ∧ scaleB (evS n s) ∧ (evS n s).sum = (s : Int) ∧ evenF (evS n s) = true := by
  have a := List.all_eq_true.1 evS_all n (List.mem_range.2 (by omega))
  have b := List.all_eq_true.1 a s (List.mem_range.2 (by omega))
  simp only [h0, h2, h3, decide_true, Bool.and_self, Bool.not_true, Bool.false_or, evOk, Bool.and_eq_true, decide_eq_true_eq] at b
  exact ⟨b.1.1.1, b.1.1.2, b.1.2, b.2⟩
theorem evS_len (n s : Nat) : (evS n s).length = n := by simp [evS]
theorem exists_max (f : Nat → Int) : ∀ n : Nat, 0 < n → ∃ m, m < n ∧ ∀ j, j < n → f j ≤ f m
  | 0, h => absurd h (by omega)
  | 1, _ => ⟨0, by omega, fun j hj => by rw [show j = 0 by omega]; exact Int.le_refl _⟩
  | n + 2, _ => by
    obtain ⟨m, hm, h⟩ := exists_max f (n + 1) (by omega)
    by_cases c : f (n + 1) ≤ f m
    · refine ⟨m, by omega, fun j hj => ?_⟩
      by_cases e : j = n + 1
      · rw [e]; exact c
      · exact h j (by omega)
    · refine ⟨n + 1, by omega, fun j hj => ?_⟩
      by_cases e : j = n + 1
      · rw [e]; exact Int.le_refl _
      · have := h j (by omega); omega
theorem even_gaps {l : List Int} : ∀ d i, evenL l i d = true → ∀ c, i ≤ c → c < i + d → evenAt l (c : Int) = true
  | 0, i, _, c, h1, h2 => absurd h2 (by omega)
  | d + 1, i, h, c, h1, h2 => by
    simp only [evenL, Bool.and_eq_true] at h
    by_cases e : c = i
    · rw [e]; exact h.1
    · exact even_gaps d (i + 1) h.2 c (by omega) (by omega)
/-- The span's floor, from the place where the sums lie highest. -/
theorem floor_span {l : List Int} (h : scaleB l) (hev : evenF l = true) : ∃ k, k < l.length ∧ ∀ i, i ≤ l.length → spanF l (k : Int) i = ((i * l.sum.toNat / l.length : Nat) : Int) := by
  have hl := scaleB_len h
  obtain ⟨k, hk, hmax⟩ := exists_max (fun j => (l.length : Int) * spanF l ((0 : Nat) : Int) j - (j : Int) * l.sum) l.length (by omega)
  refine ⟨k, hk, fun i hi => ?_⟩
  have hS : 0 ≤ l.sum := by
    have a := spanF_sum h 0
    have b := spanF_rng h (f := ((0 : Nat) : Int)) (by omega) l.length
    omega
  have hP := spanF_join h 0 k i
  rw [Nat.zero_add, Nat.mod_eq_of_lt hk] at hP
  have up : (l.length : Int) * spanF l (k : Int) i ≤ (i : Int) * l.sum := by
    have key : (l.length : Int) * spanF l ((0 : Nat) : Int) (k + i) - ((k + i : Nat) : Int) * l.sum ≤ (l.length : Int) * spanF l ((0 : Nat) : Int) k - (k : Int) * l.sum := by
      by_cases c : k + i < l.length
      · exact hmax (k + i) c
      · obtain ⟨t, ht⟩ : ∃ t, k + i = l.length + t := ⟨k + i - l.length, by omega⟩
        have e := spanF_join h 0 l.length t
        rw [Nat.zero_add, Nat.mod_self, spanF_sum h 0] at e
        rw [ht, e]
        have e2 : (l.length : Int) * (l.sum + spanF l ((0 : Nat) : Int) t) - ((l.length + t : Nat) : Int) * l.sum = (l.length : Int) * spanF l ((0 : Nat) : Int) t - (t : Int) * l.sum := by
          rw [Int.mul_add, Int.natCast_add, Int.add_mul]
          omega
        rw [e2]
        by_cases ct : t < l.length
        · exact hmax t ct
        · have : t = l.length ∨ t < l.length := by omega
          rcases this with e3 | e3
          · omega
          · exact absurd e3 ct
    rw [hP, Int.mul_add, Int.natCast_add, Int.add_mul] at key
    omega
  obtain ⟨b, ⟨j1, hj1, e1⟩, ⟨j2, hj2, e2⟩⟩ := sp_bounds h hi
  have hs := sumSp_all h i
  have hgap : gapAt l (i : Int) ≤ 1 := by
    rw [← even_gap h hi]
    unfold evenF at hev
    simp only [Bool.and_eq_true] at hev
    by_cases c : i = l.length
    · rw [c]; exact even_whole l
    · exact even_gaps l.length 0 hev.1 i (by omega) (by omega)
  have eg : gapAt l (i : Int) = hiSp l i - loSp l i := rfl
  rw [eg] at hgap
  have hb := b k hk
  have lt : (i : Int) * l.sum < (l.length : Int) * (spanF l (k : Int) i + 1) := by
    rw [Int.mul_add, Int.mul_one]
    by_cases c : loSp l i = hiSp l i
    · have g2 := sumSp_le l.length fun j hj => (b j hj).2
      have e3 : spanF l (k : Int) i = hiSp l i := by omega
      rw [e3, ← hs]
      omega
    · have s2 := sumSp_lt l.length (fun j hj => (b j hj).2) ⟨j1, hj1, by omega⟩
      have e3 : (l.length : Int) * hiSp l i ≤ (l.length : Int) * (spanF l (k : Int) i + 1) := Int.mul_le_mul_of_nonneg_left (by omega) (by omega)
      rw [Int.mul_add, Int.mul_one] at e3
      omega
  have hn := spanF_rng h (f := (k : Int)) (by omega) i
  obtain ⟨p, hp⟩ : ∃ p : Nat, spanF l (k : Int) i = p := ⟨(spanF l (k : Int) i).toNat, by omega⟩
  obtain ⟨s, hs2⟩ : ∃ s : Nat, l.sum = s := ⟨l.sum.toNat, by omega⟩
  rw [hp, hs2] at up lt
  rw [hp, hs2, Int.toNat_natCast]
  have u' : l.length * p ≤ i * s := by exact_mod_cast up
  have l' : i * s < l.length * (p + 1) := by exact_mod_cast lt
  rw [Nat.div_eq_of_lt_le (k := p) (by rw [Nat.mul_comm p]; exact u') (by rw [Nat.mul_comm (p + 1)]; exact l')]
theorem even_rot {l : List Int} (h : scaleB l) (hev : evenF l = true) : ∃ k, k < l.length ∧ modeF l (k : Int) = evS l.length l.sum.toNat := by
  obtain ⟨k, hk, hf⟩ := floor_span h hev
  refine ⟨k, hk, ?_⟩
  unfold modeF
  rw [if_pos ⟨h, by omega, by omega⟩, Int.toNat_natCast]
  have hr := rotL_len l k
  refine List.ext_getElem? fun i => ?_
  by_cases hi : i < l.length
  · rw [rotL_get hk hi]
    have s := spanF_step h k i
    rw [hf (i + 1) (by omega), hf i (by omega)] at s
    simp only [evS, List.getElem?_map, List.getElem?_range hi, Option.map_some]
    exact congrArg some (by omega)
  · rw [List.getElem?_eq_none (by omega), List.getElem?_eq_none (by rw [evS_len]; omega)]
theorem same_nn {l x : List Int} : ∀ d i : Nat, (∃ k : Nat, i ≤ k ∧ k < i + d ∧ modeF l (k : Int) = x) → 0 ≤ sameFrom l x i d
  | 0, i, h => by obtain ⟨k, h1, h2, _⟩ := h; omega
  | d + 1, i, h => by
    simp only [sameFrom]
    split
    · omega
    · rename_i hne
      obtain ⟨k, h1, h2, h3⟩ := h
      refine same_nn d (i + 1) ⟨k, ?_, by omega, h3⟩
      by_cases e : k = i
      · rw [e] at h3; exact absurd h3 hne
      · omega
theorem even_two {l : List Int} : ∀ d i, evenL l i d = true → twoL l i d = true
  | 0, _, _ => rfl
  | d + 1, i, h => by
    simp only [evenL, Bool.and_eq_true] at h
    simp only [twoL]
    rw [if_neg]
    · exact even_two d (i + 1) h.2
    · intro c
      have := h.1
      unfold evenAt at this
      rw [decide_eq_true c] at this
      simp at this
theorem FnEven : laws_FnEven.Pure := by
  intro l _ hl _
  obtain ⟨K, hK⟩ : ∃ K : Nat, l.length + 3000 ≤ K := ⟨_, Nat.le_refl _⟩
  refine ⟨K + 1, ?_⟩
  unfold laws_FnEven.f
  rw [laws_big_eq]
  simp only [Option.bind_some, decide_eq_true_eq]
  by_cases hb : (l.length : Int) > 1048576
  · rw [if_pos hb]
  · rw [if_neg hb]
    obtain ⟨s, e, hs, h8, h3, h1⟩ := spec_DrawScale_eq (k := K + 1) (l := l) (by omega) (by omega)
    have hn := scaleB_len hs
    obtain ⟨v1, v2, v3, v4⟩ := evS_ok (n := s.length) (s := s.sum.toNat) (by omega) h8 (by omega) (by omega)
    have vl := evS_len s.length s.sum.toNat
    rw [show ((s.sum.toNat : Nat) : Int) = s.sum by omega] at v1 v3
    have v5 := at_rounds (impl_EvenScale.mono (s.length : Int) s.sum) (show 40 ≤ K + 1 by omega) v1
    have w1 := (even_iff v2).mp v4
    have w2 := uneven_least hs
    have w3 := even_iff hs
    rw [vl, v3] at w1
    rw [← w1] at w2 w3
    obtain ⟨q, hq⟩ : ∃ q, evS s.length s.sum.toNat = q := ⟨_, rfl⟩
    rw [hq] at v2 v3 v4 v5 vl w1 w2 w3
    rw [e, Option.bind_some, impl_ScaleSum_eq (by omega) (by omega), Option.bind_some, if_pos hs, v5, Option.bind_some, impl_IsEven_eq (by omega) (by omega), Option.bind_some, v4, if_pos rfl, if_pos (by omega), impl_ScaleSum_eq (by omega) (by omega), Option.bind_some, if_pos v2, v3]
    have hj : ∀ b : Bool, b = false → laws_FnEven.j0 (K + 1) b s q = some true := by
      rintro b rfl
      simp only [laws_FnEven.j0, Bool.false_eq_true, if_false]
      rw [impl_Unevenness_eq (by omega) (by omega), Option.bind_some, impl_Unevenness_eq (by omega) (by omega), Option.bind_some, if_pos (by omega), impl_IsEven_eq (by omega) (by omega), Option.bind_some]
      have hx : (evenF s == (unevenF s == unevenF q)) = true := by
        rw [beq_iff_eq]
        by_cases c : unevenF s = unevenF q
        · rw [w3.mpr c, beq_iff_eq.mpr c]
        · rw [beq_eq_false_iff_ne.mpr c]
          cases c2 : evenF s with
          | false => rfl
          | true => exact absurd (w3.mp c2) c
      rw [Option.bind_some, Option.bind_some, if_pos hx, Option.bind_some]
      by_cases c : evenF s = true
      · rw [if_pos c]
        obtain ⟨k, hk, hr⟩ := even_rot hs c
        rw [hq] at hr
        rw [impl_SameMode_eq (by omega) (by omega) (by omega), Option.bind_some]
        have hsm : sameF s q ≥ 0 := by
          unfold sameF
          rw [if_pos hs]
          exact same_nn s.length 0 ⟨k, by omega, by omega, hr⟩
        have htw : twoF s = true := by
          unfold twoF
          unfold evenF at c
          simp only [Bool.and_eq_true] at c ⊢
          exact ⟨even_two _ _ c.1, c.2⟩
        rw [if_pos hsm, impl_HasTwoSizes_eq (by omega) (by omega), Option.bind_some, htw]
      · rw [if_neg c]
    exact hj _ (bne_self_eq_false _)

end Go.Proofs.Ytgolkgcmmionpaa.Pure
