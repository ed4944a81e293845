/- Spans of a drawn scale can be joined, the whole span is the sum, and a span stands among the spans of its count: for every code the law returns true. No condition. -/
import Derived.Test.YtgolkgcmmionpaaPFnSpansx1
import Derived.Test.YtgolkgcmmionpaaPFnSpansx2
import Derived.Test.YtgolkgcmmionpaaPFnSpansx3
import Derived.Test.YtgolkgcmmionpaaPFnSpansx4
import Derived.OpenShut
namespace Go.Proofs.Ytgolkgcmmionpaa.Pure
open Go.RowKit Go.Proofs.Ytgolkgcmmionpaa.PFnSpans Go.Proofs.YtgolkgcmmionpaaW.PrintWords Go.Proofs.YtgolkgcmmionpaaW.PrintLast Go.Proofs.YtgolkgcmmionpaaW.PrintMore
set_option linter.unusedVariables false
set_option linter.unusedSimpArgs false
theorem w64 {x : Int} (h : -9223372036854775808 ≤ x) (h' : x ≤ 9223372036854775807) : wrap64 x = x := by unfold wrap64; omega
theorem wf64 {x : Int} (h : (Lit.int .i64 x).wf = true) : -9223372036854775808 ≤ x ∧ x ≤ 9223372036854775807 := by
  simp only [Lit.wf, IntKind.min, IntKind.max, IntKind.signed, IntKind.bits, Bool.and_eq_true, decide_eq_true_eq, if_true] at h
  omega
theorem wfu8 {x : Int} (h : (Lit.int .u8 x).wf = true) : 0 ≤ x ∧ x ≤ 255 := by
  simp [Lit.wf, IntKind.min, IntKind.max, IntKind.signed, IntKind.bits] at h
  omega
theorem mx_def (a b : Int) : mx a b = max a b := by unfold mx; omega
theorem mn_def (a b : Int) : mn a b = min a b := by unfold mn; omega
theorem fuel {n k : Nat} (h : n < k) : ∃ m, k = m + 1 ∧ n ≤ m := ⟨k - 1, by omega, by omega⟩
theorem gcd_tmod (a b : Int) : Int.gcd b (Int.tmod a b) = Int.gcd a b := by
  unfold Int.gcd
  rw [Int.natAbs_tmod, Nat.gcd_comm, ← Nat.gcd_rec, Nat.gcd_comm]
theorem tmod_lt (a : Int) {b : Int} (h : b ≠ 0) : (Int.tmod a b).natAbs < b.natAbs := by
  rw [Int.natAbs_tmod]
  exact Nat.mod_lt _ (by omega)
theorem drop_rd {l : List Int} {i : Nat} (h : i < l.length) : l.drop i = rd l (i : Int) :: l.drop (i + 1) := by
  rw [List.drop_eq_getElem_cons h]
  simp [rd, List.getD, List.getElem?_eq_getElem h]
theorem rd_get {l : List Int} {i : Nat} (h : i < l.length) : rd l (i : Int) = l[i] := by simp [rd, List.getD, List.getElem?_eq_getElem h]
theorem up_one {i n : Nat} (h : i < n) (hn : n ≤ 9223372036854775807) : wrap64 ((i : Int) + 1) = ((i + 1 : Nat) : Int) := by rw [w64 (by omega) (by omega)]; omega
theorem rd_mem {l : List Int} {i : Nat} (h : i < l.length) : rd l (i : Int) ∈ l := by rw [rd_get h]; exact List.getElem_mem h
theorem maxLen_le {n : Nat} (h : n ≤ maxLen) : (n : Int) ≤ 9223372036854775807 := by unfold maxLen at h; omega

def scaleG (l : List Int) (s : Int) (n : Nat) : Prop := (∀ x ∈ l, 1 ≤ x ∧ x ≤ 20) ∧ (1 ≤ (n : Int) ∧ (n : Int) ≤ 12) ∧ s + l.sum ≤ 60
theorem scaleG_cons (a : Int) (l : List Int) (s : Int) (n : Nat) : scaleG (a :: l) s n ↔ (1 ≤ a ∧ a ≤ 20) ∧ scaleG l (s + a) n := by
  unfold scaleG
  simp only [List.mem_cons, forall_eq_or_imp, List.sum_cons]
  constructor
  · rintro ⟨⟨h1, h2⟩, h3, h4⟩; exact ⟨h1, h2, h3, by omega⟩
  · rintro ⟨h1, h2, h3, h4⟩; exact ⟨⟨h1, h2⟩, h3, by omega⟩
instance (l : List Int) (s : Int) (n : Nat) : Decidable (scaleG l s n) := by unfold scaleG; infer_instance
/-- A valid scale. -/
def scaleB (l : List Int) : Prop := scaleG l 0 l.length
instance (l : List Int) : Decidable (scaleB l) := by unfold scaleB; infer_instance
theorem scaleB_len {l : List Int} (h : scaleB l) : 1 ≤ l.length ∧ l.length ≤ 12 := by have := h.2.1; omega
theorem scaleB_rd {l : List Int} (h : scaleB l) {i : Nat} (hi : i < l.length) : 1 ≤ rd l (i : Int) ∧ rd l (i : Int) ≤ 20 := h.1 _ (rd_mem hi)

/-- The sum of c steps from f on. -/
def spanF (l : List Int) (f : Int) : Nat → Int
  | 0 => 0
  | c + 1 => spanF l f c + rd l (Int.tmod (f + c) l.length)
theorem tmod_nat {f : Int} {n : Nat} (c : Nat) (h : 0 ≤ f) (hn : 1 ≤ n) : Int.tmod (f + c) n = (((f.toNat + c) % n : Nat) : Int) := by
  rw [Int.tmod_eq_emod_of_nonneg (by omega)]
  have : f + (c : Int) = ((f.toNat + c : Nat) : Int) := by omega
  rw [this]
  rfl
theorem spanF_rng {l : List Int} (h : scaleB l) {f : Int} (hf : 0 ≤ f) (c : Nat) : 0 ≤ spanF l f c ∧ spanF l f c ≤ 20 * (c : Int) := by
  have hl := scaleB_len h
  induction c with
  | zero => simp [spanF]
  | succ c ih =>
    simp only [spanF]
    rw [tmod_nat c hf hl.1]
    have := scaleB_rd h (i := (f.toNat + c) % l.length) (Nat.mod_lt _ (by omega))
    omega
def spanAtF (l : List Int) (f c : Int) : Int := if scaleB l ∧ (0 ≤ f ∧ f ≤ (l.length : Int) - 1) ∧ (0 ≤ c ∧ c ≤ (l.length : Int)) then spanF l f c.toNat else 0

theorem spanF_shift {l : List Int} (h : scaleB l) (f : Nat) : ∀ c : Nat, spanF l ((f + 1 : Nat) : Int) c + rd l ((f % l.length : Nat) : Int) = spanF l (f : Int) (c + 1)
  | 0 => by
    have hl := scaleB_len h
    have := tmod_nat (f := (f : Int)) (n := l.length) 0 (by omega) hl.1
    simp only [Int.toNat_natCast, Nat.add_zero] at this
    simp only [spanF]
    rw [this]
  | c + 1 => by
    have hl := scaleB_len h
    have ih := spanF_shift h f c
    have e1 := tmod_nat (f := ((f + 1 : Nat) : Int)) (n := l.length) c (by omega) hl.1
    have e2 := tmod_nat (f := (f : Int)) (n := l.length) (c + 1) (by omega) hl.1
    rw [Int.toNat_natCast] at e1 e2
    rw [spanF, e1, spanF, e2, ← ih, show f + 1 + c = f + (c + 1) by omega]
    omega
theorem spanF_whole {l : List Int} (h : scaleB l) (hs : spanF l 0 l.length = l.sum) : ∀ f : Nat, spanF l (f : Int) l.length = l.sum
  | 0 => hs
  | f + 1 => by
    have hl := scaleB_len h
    have ih := spanF_whole h hs f
    have s := spanF_shift h f l.length
    have e := tmod_nat (f := (f : Int)) (n := l.length) l.length (by omega) hl.1
    rw [Int.toNat_natCast, Nat.add_mod_right] at e
    rw [spanF, e] at s
    omega
theorem spanF_take {l : List Int} (h : scaleB l) : ∀ c : Nat, c ≤ l.length → spanF l 0 c = (l.take c).sum
  | 0, _ => by simp [spanF]
  | c + 1, hc => by
    have hl := scaleB_len h
    have e := tmod_nat (f := 0) (n := l.length) c (by omega) hl.1
    rw [show (0 : Int).toNat = 0 from rfl, Nat.zero_add, Nat.mod_eq_of_lt (show c < l.length by omega)] at e
    rw [spanF, e, spanF_take h c (by omega), List.take_succ_eq_append_getElem (by omega), List.sum_append, rd_get (by omega)]
    simp
theorem spanF_sum {l : List Int} (h : scaleB l) (f : Nat) : spanF l (f : Int) l.length = l.sum :=
  spanF_whole h (by rw [spanF_take h l.length (Nat.le_refl _)]; simp) f

theorem spanF_join {l : List Int} (h : scaleB l) (f a : Nat) : ∀ b : Nat, spanF l (f : Int) (a + b) = spanF l (f : Int) a + spanF l (((f + a) % l.length : Nat) : Int) b
  | 0 => by simp [spanF]
  | b + 1 => by
    have hl := scaleB_len h
    have ih := spanF_join h f a b
    have e1 := tmod_nat (f := (f : Int)) (n := l.length) (a + b) (by omega) hl.1
    have e2 := tmod_nat (f := (((f + a) % l.length : Nat) : Int)) (n := l.length) b (by omega) hl.1
    rw [Int.toNat_natCast] at e1 e2
    rw [← Nat.add_assoc, spanF, e1, ih, spanF, e2, Nat.mod_add_mod, Nat.add_assoc]
    omega
theorem spanAtF_nat {l : List Int} (h : scaleB l) {f c : Nat} (hf : f < l.length) (hc : c ≤ l.length) : spanAtF l (f : Int) (c : Int) = spanF l (f : Int) c := by
  unfold spanAtF
  rw [if_pos ⟨h, by omega, by omega⟩, Int.toNat_natCast]

/-- Strictly rising. -/
def SS (l : List Int) : Prop := l.Pairwise (· < ·)
theorem ss_ext : ∀ {a b : List Int}, SS a → SS b → (∀ x, x ∈ a ↔ x ∈ b) → a = b
  | [], [], _, _, _ => rfl
  | [], y :: b, _, _, h => absurd ((h y).mpr (by simp)) (by simp)
  | x :: a, [], _, _, h => absurd ((h x).mp (by simp)) (by simp)
  | x :: a, y :: b, ha, hb, h => by
    unfold SS at ha hb
    rw [List.pairwise_cons] at ha hb
    have e : x = y := by
      have h1 : x ∈ y :: b := (h x).mp (by simp)
      have h2 : y ∈ x :: a := (h y).mpr (by simp)
      rcases List.mem_cons.mp h1 with e | h1
      · exact e
      · rcases List.mem_cons.mp h2 with e | h2
        · exact e.symm
        · have := ha.1 y h2; have := hb.1 x h1; omega
    subst e
    refine congrArg (x :: ·) (ss_ext ha.2 hb.2 fun z => ⟨fun hz => ?_, fun hz => ?_⟩)
    · rcases List.mem_cons.mp ((h z).mp (List.mem_cons_of_mem _ hz)) with e | h3
      · have := ha.1 z hz; omega
      · exact h3
    · rcases List.mem_cons.mp ((h z).mpr (List.mem_cons_of_mem _ hz)) with e | h3
      · have := hb.1 z hz; omega
      · exact h3
def insD (x : Int) : List Int → List Int
  | [] => [x]
  | y :: l => if y < x then y :: insD x l else if y = x then y :: l else x :: y :: l
theorem mem_insD (x z : Int) : ∀ l, z ∈ insD x l ↔ z = x ∨ z ∈ l
  | [] => by simp [insD]
  | y :: l => by
    have ih := mem_insD x z l
    simp only [insD]
    split
    · simp only [List.mem_cons, ih]
      constructor
      · rintro (h | h | h) <;> simp [h]
      · rintro (h | h | h) <;> simp [h]
    · split
      · rename_i e; subst e; simp
      · simp
theorem ss_insD (x : Int) : ∀ {l}, SS l → SS (insD x l)
  | [], _ => by simp [SS, insD]
  | y :: l, h => by
    unfold SS at h ⊢
    rw [List.pairwise_cons] at h
    simp only [insD]
    split
    · rw [List.pairwise_cons]
      refine ⟨fun z hz => ?_, ss_insD x h.2⟩
      rcases (mem_insD x z l).mp hz with e | hz
      · omega
      · exact h.1 z hz
    · split
      · rw [List.pairwise_cons]; exact h
      · rw [List.pairwise_cons]
        refine ⟨fun z hz => ?_, by rw [List.pairwise_cons]; exact h⟩
        rcases List.mem_cons.mp hz with e | hz
        · omega
        · have := h.1 z hz; omega
theorem len_insD (x : Int) : ∀ l, (insD x l).length ≤ l.length + 1
  | [] => by simp [insD]
  | y :: l => by
    have := len_insD x l
    simp only [insD]
    split
    · simp; omega
    · split <;> simp
/-- The spans from the places i to i + d - 1 on, laid into what is there. -/
def spansL (l : List Int) (c : Int) : Nat → Nat → List Int → List Int
  | _, 0, out => out
  | i, d + 1, out => spansL l c (i + 1) d (insD (spanAtF l (i : Int) c) out)
theorem spansL_ss (l : List Int) (c : Int) : ∀ d i out, SS out → SS (spansL l c i d out)
  | 0, _, _, h => h
  | d + 1, i, out, h => spansL_ss l c d (i + 1) _ (ss_insD _ h)
theorem spansL_mem (l : List Int) (c : Int) (x : Int) : ∀ d i out, x ∈ spansL l c i d out ↔ x ∈ out ∨ ∃ j : Nat, i ≤ j ∧ j < i + d ∧ x = spanAtF l (j : Int) c
  | 0, i, out => by
    simp only [spansL]
    constructor
    · exact .inl
    · rintro (h | ⟨j, h1, h2, _⟩)
      · exact h
      · omega
  | d + 1, i, out => by
    simp only [spansL]
    rw [spansL_mem l c x d (i + 1), mem_insD]
    constructor
    · rintro ((h | h) | ⟨j, h1, h2, h3⟩)
      · exact .inr ⟨i, by omega, by omega, h⟩
      · exact .inl h
      · exact .inr ⟨j, by omega, by omega, h3⟩
    · rintro (h | ⟨j, h1, h2, h3⟩)
      · exact .inl (.inr h)
      · by_cases e : j = i
        · subst e; exact .inl (.inl h3)
        · exact .inr ⟨j, by omega, by omega, h3⟩
theorem spansL_len (l : List Int) (c : Int) : ∀ d i out, (spansL l c i d out).length ≤ out.length + d
  | 0, _, _ => by simp [spansL]
  | d + 1, i, out => by
    have := spansL_len l c d (i + 1) (insD (spanAtF l (i : Int) c) out)
    have := len_insD (spanAtF l (i : Int) c) out
    simp only [spansL]
    omega
/-- The spans of a count of steps, in order, each once. -/
def spansF (l : List Int) (c : Int) : List Int := if scaleB l ∧ (0 ≤ c ∧ c ≤ (l.length : Int)) then spansL l c 0 l.length [] else []
theorem spanAtF_rng (l : List Int) (f c : Int) : 0 ≤ spanAtF l f c ∧ spanAtF l f c ≤ 240 := by
  unfold spanAtF
  split
  · rename_i h
    have := spanF_rng h.1 h.2.1.1 c.toNat
    have := scaleB_len h.1
    omega
  · omega
theorem spansF_ss (l : List Int) (c : Int) : SS (spansF l c) := by
  unfold spansF
  split
  · exact spansL_ss _ _ _ _ _ (by simp [SS])
  · simp [SS]
theorem spansF_mem {l : List Int} {c : Int} (hs : scaleB l) (h0 : 0 ≤ c) (h1 : c ≤ (l.length : Int)) (x : Int) : x ∈ spansF l c ↔ ∃ j : Nat, j < l.length ∧ x = spanAtF l (j : Int) c := by
  unfold spansF
  rw [if_pos ⟨hs, h0, h1⟩, spansL_mem]
  constructor
  · rintro (h | ⟨j, _, h, e⟩)
    · simp at h
    · exact ⟨j, by omega, e⟩
  · rintro ⟨j, h, e⟩
    exact .inr ⟨j, by omega, by omega, e⟩
theorem spansF_len (l : List Int) (c : Int) : (spansF l c).length ≤ 12 := by
  unfold spansF
  split
  · rename_i h
    have := scaleB_len h.1
    have := spansL_len l c l.length 0 []
    simp at this
    omega
  · simp
theorem spansF_rng {l : List Int} {c : Int} {x : Int} (h : x ∈ spansF l c) : 0 ≤ x ∧ x ≤ 240 := by
  unfold spansF at h
  split at h
  · rw [spansL_mem] at h
    rcases h with h | ⟨j, _, _, e⟩
    · simp at h
    · rw [e]; exact spanAtF_rng _ _ _
  · simp at h
theorem spansF_pos {l : List Int} {c : Int} (hs : scaleB l) (h0 : 0 ≤ c) (h1 : c ≤ (l.length : Int)) : 1 ≤ (spansF l c).length := by
  have hl := scaleB_len hs
  have : spanAtF l ((0 : Nat) : Int) c ∈ spansF l c := (spansF_mem hs h0 h1 _).mpr ⟨0, by omega, rfl⟩
  have := List.length_pos_of_mem this
  omega
theorem sort_ss {l : List Int} (h : l.Nodup) : SS (l.mergeSort fun x y => decide (x ≤ y)) := by
  have p := List.pairwise_mergeSort (le := fun x y : Int => decide (x ≤ y)) (by intro a b c; simp; omega) (by intro a b; simp; omega) l
  have n := (List.mergeSort_perm l fun x y => decide (x ≤ y)).nodup_iff.mpr h
  unfold SS
  unfold List.Nodup at n
  exact (List.pairwise_and_iff.mpr ⟨p, n⟩).imp (by intro a b; simp; omega)

/-- No count of steps from i on (d of them) has more than two spans. -/
def twoL (l : List Int) : Nat → Nat → Bool
  | _, 0 => true
  | i, d + 1 => if ((spansF l (i : Int)).length : Int) > 2 then false else twoL l (i + 1) d
def twoF (l : List Int) : Bool := twoL l 0 l.length && decide (scaleB l)
theorem twoL_add (l : List Int) : ∀ d i, twoL l i (d + 1) = (twoL l i d && (if ((spansF l ((i + d : Nat) : Int)).length : Int) > 2 then false else true))
  | 0, i => by simp [twoL]
  | d + 1, i => by
    rw [twoL, twoL_add l d (i + 1), twoL, show i + 1 + d = i + (d + 1) by omega]
    split <;> simp
/-- The whole scale has one span. -/
theorem whole_span {l : List Int} (hs : scaleB l) : ∀ f : Nat, f < l.length → spanF l (f : Int) l.length = l.sum := fun f _ => spanF_sum hs f
theorem spans_whole (l : List Int) : (spansF l (l.length : Int)).length ≤ 1 := by
  by_cases hs : scaleB l
  · have hl := scaleB_len hs
    have h1 := spansF_mem hs (c := (l.length : Int)) (by omega) (by omega)
    have hss := spansF_ss l (l.length : Int)
    match h : spansF l (l.length : Int) with
    | [] => simp
    | [_] => simp
    | a :: b :: r =>
      rw [h] at hss h1
      have hv : ∀ x, x ∈ a :: b :: r → x = l.sum := by
        intro x hx
        obtain ⟨j, hj, e⟩ := (h1 x).mp hx
        rw [e]
        unfold spanAtF
        rw [if_pos ⟨hs, by omega, by omega⟩, Int.toNat_natCast]
        exact whole_span hs j hj
      unfold SS at hss
      rw [List.pairwise_cons] at hss
      have := hss.1 b (by simp)
      have := hv a (by simp)
      have := hv b (by simp)
      omega
  · unfold spansF
    rw [if_neg (fun h => hs h.1)]
    simp

/-- The last eight bits of whatever: a byte. -/
theorem and255 (x : Int) : 0 ≤ Go.bits .and .i64 x 255 ∧ Go.bits .and .i64 x 255 ≤ 255 := by
  have e : (BitVec.ofInt IntKind.i64.bits 255).toNat = 255 := by decide
  have h : Go.bits .and .i64 x 255 = IntKind.i64.wrap (((BitVec.ofInt IntKind.i64.bits x).toNat &&& 255 : Nat) : Int) := by
    unfold Go.bits
    simp only [BitVec.toNat_and]
    rw [e]
  have hle : (BitVec.ofInt IntKind.i64.bits x).toNat &&& 255 ≤ 255 := Nat.and_le_right
  rw [h, IntKind.wrap_i64]
  omega
/-- A cursor into the code. -/
def curB (l : List Int) (i : Int) : Prop := 0 ≤ i ∧ i ≤ (l.length : Int)

theorem laws_big_eq (l : List Int) : laws_big.f l = some (decide ((l.length : Int) > 1048576)) := rfl

theorem spec_l01Byte_eq {l : List Int} (hn : l.length ≤ 140737488351232) (i h : Int) (hi : curB l i) : ∃ b i' h', spec_l01Byte.f l i h = some (b, i', h') ∧ 0 ≤ b ∧ b ≤ 255 ∧ curB l i' := by
  unfold curB at *
  unfold spec_l01Byte.f
  by_cases hc : i < (l.length : Int)
  · rw [if_pos hc, if_pos hi.1]
    refine ⟨_, _, _, rfl, (and255 _).1, (and255 _).2, ?_⟩
    rw [w64 (by omega) (by omega)]
    omega
  · rw [if_neg hc]
    exact ⟨_, _, _, rfl, (and255 _).1, (and255 _).2, hi⟩

theorem spec_l01Below_eq {l : List Int} (hn : l.length ≤ 140737488351232) (i h n : Int) (hi : curB l i) (h1 : 1 ≤ n) : ∃ v i' h', spec_l01Below.f l i h n = some (v, i', h') ∧ 0 ≤ v ∧ v < n ∧ curB l i' := by
  unfold spec_l01Below.f
  rw [if_neg (by omega)]
  by_cases h2 : n ≤ 256
  · rw [if_pos h2]
    obtain ⟨b, i', h', e, b0, b1, hi'⟩ := spec_l01Byte_eq hn i h hi
    rw [e]
    simp only [Option.bind_some]
    rw [if_neg (by omega)]
    exact ⟨_, _, _, rfl, Int.tmod_nonneg _ b0, Int.tmod_lt_of_pos _ (by omega), hi'⟩
  · rw [if_neg h2]
    obtain ⟨x, i1, h1', e, x0, x1, hi1⟩ := spec_l01Byte_eq hn i h hi
    rw [e]
    simp only [Option.bind_some]
    obtain ⟨y, i2, h2', e2, y0, y1, hi2⟩ := spec_l01Byte_eq hn i1 h1' hi1
    rw [e2]
    simp only [Option.bind_some]
    obtain ⟨z, i3, h3', e3, z0, z1, hi3⟩ := spec_l01Byte_eq hn i2 h2' hi2
    rw [e3]
    simp only [Option.bind_some]
    obtain ⟨u, i4, h4', e4, u0, u1, hi4⟩ := spec_l01Byte_eq hn i3 h3' hi3
    rw [e4]
    simp only [Option.bind_some]
    rw [if_neg (by omega), w64 (x := x * 16777216) (by omega) (by omega), w64 (x := y * 65536) (by omega) (by omega), w64 (x := z * 256) (by omega) (by omega), w64 (x := x * 16777216 + y * 65536) (by omega) (by omega),
      w64 (x := x * 16777216 + y * 65536 + z * 256) (by omega) (by omega), w64 (x := x * 16777216 + y * 65536 + z * 256 + u) (by omega) (by omega)]
    exact ⟨_, _, _, rfl, Int.tmod_nonneg _ (by omega), Int.tmod_lt_of_pos _ (by omega), hi4⟩

theorem spec_l01Once_eq {l : List Int} (hn : l.length ≤ 140737488351232) (i h n : Int) (hi : curB l i) (h1 : 1 ≤ n) : ∃ b i' h', spec_l01Once.f l i h n = some (b, i', h') ∧ curB l i' := by
  obtain ⟨v, i', h', e, _, _, c⟩ := spec_l01Below_eq hn i h n hi h1
  unfold spec_l01Once.f
  rw [e]
  exact ⟨_, _, _, rfl, c⟩

theorem spec_l01PickInt_eq {l : List Int} (hn : l.length ≤ 140737488351232) (i h : Int) (p : List Int) (hi : curB l i) (h1 : 1 ≤ p.length) : ∃ v i' h', spec_l01PickInt.f l i h p = some (v, i', h') ∧ v ∈ p ∧ curB l i' := by
  obtain ⟨v, i', h', e, v0, v1, c⟩ := spec_l01Below_eq hn i h (p.length : Int) hi (by omega)
  unfold spec_l01PickInt.f
  rw [e]
  simp only [Option.bind_some]
  rw [if_pos v0, if_pos v1]
  obtain ⟨n, rfl⟩ : ∃ n : Nat, v = n := ⟨v.toNat, by omega⟩
  exact ⟨_, _, _, rfl, rd_mem (by omega), c⟩

/-- A scale as it is drawn. -/
def drawnS (l : List Int) : Prop := scaleB l ∧ l.length ≤ 8
theorem sum_le3 : ∀ l : List Int, (∀ x ∈ l, 1 ≤ x ∧ x ≤ 3) → (l.length : Int) ≤ l.sum ∧ l.sum ≤ 3 * (l.length : Int)
  | [], _ => by simp
  | a :: l, h => by
    have := sum_le3 l fun x hx => h x (List.mem_cons_of_mem _ hx)
    have := h a (by simp)
    simp only [List.sum_cons, List.length_cons]
    omega
theorem drawnS_small {l : List Int} (h0 : 1 ≤ l.length) (h1 : l.length ≤ 8) (hx : ∀ x ∈ l, 1 ≤ x ∧ x ≤ 3) : drawnS l := by
  have := sum_le3 l hx
  refine ⟨⟨fun x h => ?_, by omega, by omega⟩, h1⟩
  have := hx x h
  omega
theorem drawnS_major : drawnS [2, 2, 1, 2, 2, 2, 1] := by
  refine drawnS_small (by simp) (by simp) ?_
  simp
theorem spec_l21Scale_l0 {L : List Int} (hn : L.length ≤ 140737488351232) (d : Nat) : ∀ (k : Nat) (n : Nat) (i : Nat) (ci ch : Int) (out : List Int), i + d = n → n ≤ 8 → 1 ≤ n → d < k → curB L ci → out.length = i → (∀ x ∈ out, 1 ≤ x ∧ x ≤ 3) →
    ∃ p i' h', spec_l21Scale.l0 k (n : Int) (i : Int) L ci ch out = some (p, i', h') ∧ drawnS p := by
  induction d with
  | zero =>
    intro k n i ci ch out hi h8 h1 hk hc hl hx
    obtain ⟨k, rfl⟩ : ∃ m, k = m + 1 := ⟨k - 1, by omega⟩
    simp only [spec_l21Scale.l0]
    rw [if_neg (by omega)]
    exact ⟨_, _, _, rfl, drawnS_small (by omega) (by omega) hx⟩
  | succ d ih =>
    intro k n i ci ch out hi h8 h1 hk hc hl hx
    obtain ⟨k, rfl⟩ : ∃ m, k = m + 1 := ⟨k - 1, by omega⟩
    simp only [spec_l21Scale.l0]
    rw [if_pos (by omega)]
    obtain ⟨u, i2, h2, e2, hu, c2⟩ := spec_l01PickInt_eq hn ci ch [1, 2, 2, 3] hc (by simp)
    rw [e2]
    simp only [Option.bind_some]
    rw [if_pos (by omega), up_one (n := 20) (by omega) (by omega)]
    refine ih k n (i + 1) i2 h2 _ (by omega) h8 h1 (by omega) c2 (by simp; omega) fun x hx' => ?_
    rcases List.mem_append.mp hx' with h | h
    · exact hx x h
    · simp at h hu
      omega
theorem spec_l21Scale_eq {k : Nat} {L : List Int} (hk : 9 < k) (hn : L.length ≤ 140737488351232) (ci ch : Int) (hc : curB L ci) : ∃ p i' h', spec_l21Scale.f k L ci ch = some (p, i', h') ∧ drawnS p := by
  unfold spec_l21Scale.f
  obtain ⟨b, i1, h1, e1, c1⟩ := spec_l01Once_eq hn ci ch 4 hc (by omega)
  rw [e1]
  simp only [Option.bind_some, spec_MajorScale.f]
  by_cases c : b = true
  · rw [if_pos c]
    exact ⟨_, _, _, rfl, drawnS_major⟩
  · rw [if_neg c]
    obtain ⟨v, i2, h2, e2, v0, v1, c2⟩ := spec_l01Below_eq hn i1 h1 8 c1 (by omega)
    rw [e2]
    simp only [Option.bind_some]
    rw [w64 (by omega) (by omega), show 1 + v = ((v.toNat + 1 : Nat) : Int) by omega]
    exact spec_l21Scale_l0 hn (v.toNat + 1) k (v.toNat + 1) 0 i2 h2 [] (by omega) (by omega) (by omega) (by omega) c2 rfl (by simp)

theorem spec_l01New_l0 (d : Nat) : ∀ (k : Nat) (l : List Int) (h : Int) (i : Nat), i + d = l.length → d < k → l.length ≤ 140737488351232 → ∃ h', spec_l01New.l0 k l h (i : Int) = some (l, 0, h') := by
  induction d with
  | zero =>
    intro k l h i hi hk hn
    obtain ⟨k, rfl⟩ : ∃ m, k = m + 1 := ⟨k - 1, by omega⟩
    simp only [spec_l01New.l0]
    rw [if_neg (by omega)]
    exact ⟨h, rfl⟩
  | succ d ih =>
    intro k l h i hi hk hn
    obtain ⟨k, rfl⟩ : ∃ m, k = m + 1 := ⟨k - 1, by omega⟩
    simp only [spec_l01New.l0]
    rw [if_pos (by omega), up_one (n := l.length) (by omega) (by omega)]
    by_cases h4 : (i : Int) < 4000
    · rw [if_pos h4, if_pos (by omega)]
      exact ih k l _ (i + 1) (by omega) (by omega) hn
    · rw [if_neg h4]
      exact ⟨h, rfl⟩
theorem spec_l01New_eq {k : Nat} {l : List Int} (hk : l.length < k) (hn : l.length ≤ 140737488351232) : ∃ h, spec_l01New.f k l = some (l, 0, h) := by
  unfold spec_l01New.f
  exact spec_l01New_l0 l.length k l _ 0 (by omega) hk hn

theorem spec_DrawScale_eq {k : Nat} {l : List Int} (hk : l.length + 12 < k) (hn : l.length ≤ 140737488351232) : ∃ p, spec_DrawScale.f k l = some p ∧ drawnS p := by
  unfold spec_DrawScale.f
  obtain ⟨h, e⟩ := spec_l01New_eq (k := k) (by omega) hn
  rw [e]
  simp only [Option.bind_some]
  obtain ⟨p, i2, h2, e2, d2⟩ := spec_l21Scale_eq (k := k) (by omega) hn 0 h ⟨by omega, by omega⟩
  rw [e2]
  exact ⟨p, rfl, d2⟩

theorem impl_within_eq (a b c : Int) : impl_within.f a b c = some (decide (b ≤ a ∧ a ≤ c)) := by
  unfold impl_within.f; by_cases h : b ≤ a <;> by_cases h2 : a ≤ c <;> simp [h, h2]

theorem impl_ScaleOk_l0 (d : Nat) : ∀ (k : Nat) (l : List Int) (s : Int) (i : Nat), i + d = l.length → d < k → l.length ≤ 1048576 → 0 ≤ s → s ≤ (20 * i : Int) →
    impl_ScaleOk.l0 k s l (l.length : Int) (i : Int) l = some (decide (scaleG (l.drop i) s l.length)) := by
  induction d with
  | zero =>
    intro k l s i hi hk hn h1 h2
    obtain ⟨k, rfl⟩ : ∃ m, k = m + 1 := ⟨k - 1, by omega⟩
    simp only [impl_ScaleOk.l0, impl_within_eq]
    rw [if_neg (by omega), List.drop_eq_nil_of_le (by omega)]
    by_cases h : 1 ≤ (l.length : Int) ∧ (l.length : Int) ≤ 12
    · simp only [h, and_self, decide_true, if_true, Option.bind_some, scaleG, List.not_mem_nil, false_imp_iff, implies_true, true_and, List.sum_nil, Int.add_zero]
    · simp only [h, decide_false, Bool.false_eq_true, if_false, Option.bind_some, scaleG, false_and, and_false]
  | succ d ih =>
    intro k l s i hi hk hn h1 h2
    obtain ⟨k, rfl⟩ : ∃ m, k = m + 1 := ⟨k - 1, by omega⟩
    simp only [impl_ScaleOk.l0]
    have hlt : (i : Int) < (l.length : Int) := by omega
    have h0 : (0 : Int) ≤ (i : Int) := by omega
    simp only [hlt, h0, if_true, impl_within_eq, up_one (n := l.length) (show i < l.length by omega) (by omega)]
    rw [drop_rd (l := l) (i := i) (by omega)]
    simp only [Option.bind_some, decide_eq_true_eq, scaleG_cons]
    by_cases h : 1 ≤ rd l (i : Int) ∧ rd l (i : Int) ≤ 20
    · rw [if_pos h, w64 (by omega) (by omega), ih k l _ (i + 1) (by omega) (by omega) hn (by omega) (by omega)]
      simp [h]
    · rw [if_neg h]; simp [h]
theorem impl_ScaleOk_eq {k : Nat} {l : List Int} (hk : l.length < k) (hn : l.length ≤ 1048576) : impl_ScaleOk.f k l = some (decide (scaleB l)) := by
  unfold impl_ScaleOk.f scaleB
  exact impl_ScaleOk_l0 l.length k l 0 0 (by omega) hk hn (by omega) (by omega)

theorem impl_SpanAt_l0 (d : Nat) : ∀ (k : Nat) (l : List Int) (f : Int) (c i : Nat), i + d = c → d < k → scaleB l → 0 ≤ f → f ≤ (l.length : Int) - 1 → c ≤ l.length →
    impl_SpanAt.l0 k f (c : Int) (spanF l f i) (i : Int) l = some (spanF l f c) := by
  induction d with
  | zero =>
    intro k l f c i hi hk hs h0 h1 hc
    obtain ⟨k, rfl⟩ : ∃ m, k = m + 1 := ⟨k - 1, by omega⟩
    simp only [impl_SpanAt.l0]
    obtain rfl : i = c := by omega
    rw [if_neg (by omega)]
  | succ d ih =>
    intro k l f c i hi hk hs h0 h1 hc
    obtain ⟨k, rfl⟩ : ∃ m, k = m + 1 := ⟨k - 1, by omega⟩
    have hl := scaleB_len hs
    have e := tmod_nat (f := f) (n := l.length) i h0 hl.1
    have hm : (f.toNat + i) % l.length < l.length := Nat.mod_lt _ (by omega)
    have hr := scaleB_rd hs hm
    have hsp := spanF_rng hs h0 i
    simp only [impl_SpanAt.l0]
    rw [if_pos (by omega), if_neg (by omega), w64 (x := f + (i : Int)) (by omega) (by omega), e, if_pos (by omega), if_pos (by omega), up_one (n := 12) (by omega) (by omega), w64 (by omega) (by omega)]
    rw [← ih k l f c (i + 1) (by omega) (by omega) hs h0 h1 hc]
    simp only [spanF, e]
theorem impl_SpanAt_eq {k : Nat} {l : List Int} (f c : Int) (hk : l.length + 20 < k) (hn : l.length ≤ 1048576) : impl_SpanAt.f k l f c = some (spanAtF l f c) := by
  obtain ⟨k, rfl⟩ : ∃ m, k = m + 1 := ⟨k - 1, by omega⟩
  unfold impl_SpanAt.f spanAtF
  rw [impl_ScaleOk_eq (by omega) hn]
  simp only [Option.bind_some, impl_within_eq, impl_SpanAt.j0, decide_eq_true_eq]
  by_cases hs : scaleB l
  · have hl := scaleB_len hs
    rw [w64 (x := (l.length : Int) - 1) (by omega) (by omega)]
    by_cases h1 : 0 ≤ f ∧ f ≤ (l.length : Int) - 1
    · by_cases h2 : 0 ≤ c ∧ c ≤ (l.length : Int)
      · have := impl_SpanAt_l0 c.toNat k l f c.toNat 0 (by omega) (by omega) hs h1.1 h1.2 (by omega)
        rw [show ((c.toNat : Nat) : Int) = c by omega] at this
        simp only [spanF] at this
        simp only [hs, h1, h2, and_self, if_true, decide_true, Bool.not_true, Bool.false_eq_true, if_false]
        exact this
      · simp [hs, h1, h2]
    · simp [hs, h1]
  · simp [hs]

theorem spanF_all_aux {l : List Int} (h : scaleB l) (c : Nat) (hc : c ≤ l.length) : spanF l 0 c = (l.take c).sum := by
  have hl := scaleB_len h
  induction c with
  | zero => simp [spanF]
  | succ c ih =>
    simp only [spanF]
    rw [ih (by omega), tmod_nat c (by omega) hl.1]
    have e : ((0 : Int).toNat + c) % l.length = c := by
      rw [show (0 : Int).toNat + c = c by omega]
      exact Nat.mod_eq_of_lt (by omega)
    rw [e, rd_get (by omega), List.take_succ_eq_append_getElem (by omega), List.sum_append]
    simp
theorem spanF_all {l : List Int} (h : scaleB l) : spanF l 0 l.length = l.sum := by
  rw [spanF_all_aux h l.length (Nat.le_refl _), List.take_length]
theorem impl_ScaleSum_eq {k : Nat} {l : List Int} (hk : l.length + 20 < k) (hn : l.length ≤ 1048576) : impl_ScaleSum.f k l = some (if scaleB l then l.sum else 0) := by
  unfold impl_ScaleSum.f
  rw [impl_ScaleOk_eq (by omega) hn, impl_SpanAt_eq 0 _ hk hn]
  simp only [Option.bind_some, decide_eq_true_eq]
  by_cases h : scaleB l
  · have hl := scaleB_len h
    rw [if_pos h, if_pos h]
    unfold spanAtF
    rw [if_pos ⟨h, ⟨by omega, by omega⟩, ⟨by omega, by omega⟩⟩, Int.toNat_natCast, spanF_all h]
  · rw [if_neg h, if_neg h]

theorem sort_Ints_eq {l : List Int} (h0 : 0 < l.length) (h1 : l.length ≤ 1048576) : sort_Ints.f l = some (l.mergeSort fun x y => decide (x ≤ y)) := by
  unfold sort_Ints.f
  rw [if_pos h0, if_pos (by omega)]
theorem sort_sorted {l : List Int} (h : l.Pairwise (· ≤ ·)) : (l.mergeSort fun x y => decide (x ≤ y)) = l :=
  List.mergeSort_of_pairwise (h.imp (by simp))

theorem impl_SpansOf_l0 (d : Nat) : ∀ (k : Nat) (l : List Int) (c : Int) (out : List Int) (i : Nat), scaleB l → 0 ≤ c → c ≤ (l.length : Int) → i + d = l.length → d + l.length + 20 < k → out.length ≤ i → out.Nodup → (∀ x, x ∈ out ↔ ∃ j : Nat, j < i ∧ x = spanAtF l (j : Int) c) →
    impl_SpansOf.l0 k c out (l.length : Int) (i : Int) l = some (spansF l c) := by
  induction d with
  | zero =>
    intro k l c out i hs h0 h1 hi hk hl hn hm
    obtain ⟨k, rfl⟩ : ∃ m, k = m + 1 := ⟨k - 1, by omega⟩
    have h12 := scaleB_len hs
    have hpos : 0 < out.length := List.length_pos_of_mem ((hm _).mpr ⟨0, by omega, rfl⟩)
    simp only [impl_SpansOf.l0]
    rw [if_neg (by omega), sort_Ints_eq hpos (by omega)]
    simp only [Option.bind_some]
    refine congrArg some (ss_ext (sort_ss hn) (spansF_ss l c) fun x => ?_)
    rw [List.mem_mergeSort, hm, spansF_mem hs h0 h1, show i = l.length by omega]
  | succ d ih =>
    intro k l c out i hs h0 h1 hi hk hl hn hm
    obtain ⟨k, rfl⟩ : ∃ m, k = m + 1 := ⟨k - 1, by omega⟩
    have h12 := scaleB_len hs
    have hr := spanAtF_rng l (i : Int) c
    simp only [impl_SpansOf.l0]
    rw [if_pos (by omega), impl_SpanAt_eq _ _ (by omega) (by omega)]
    simp only [Option.bind_some]
    rw [if_pos (by omega), up_one (n := 20) (by omega) (by omega)]
    by_cases hx : spanAtF l (i : Int) c ∈ out
    · rw [if_pos hx]
      refine ih k l c out (i + 1) hs h0 h1 (by omega) (by omega) (by omega) hn fun x => ?_
      rw [hm]
      constructor
      · rintro ⟨j, h, e⟩; exact ⟨j, by omega, e⟩
      · rintro ⟨j, h, e⟩
        by_cases e2 : j = i
        · subst e2
          rw [← e] at hx
          exact (hm x).mp hx
        · exact ⟨j, by omega, e⟩
    · rw [if_neg hx, if_pos (by omega)]
      refine ih k l c _ (i + 1) hs h0 h1 (by omega) (by omega) (by simp; omega) ?_ fun x => ?_
      · rw [List.nodup_append]
        refine ⟨hn, by simp, fun a ha b hb => ?_⟩
        simp at hb
        subst hb
        intro e
        exact hx (e ▸ ha)
      · rw [List.mem_append, hm]
        simp only [List.mem_singleton]
        constructor
        · rintro (⟨j, h, e⟩ | e)
          · exact ⟨j, by omega, e⟩
          · exact ⟨i, by omega, e⟩
        · rintro ⟨j, h, e⟩
          by_cases e2 : j = i
          · subst e2; exact .inr e
          · exact .inl ⟨j, by omega, e⟩
theorem impl_SpansOf_eq {k : Nat} {l : List Int} (c : Int) (hk : 2 * l.length + 40 < k) (hn : l.length ≤ 1048576) : impl_SpansOf.f k l c = some (spansF l c) := by
  obtain ⟨k, rfl⟩ : ∃ m, k = m + 1 := ⟨k - 1, by omega⟩
  unfold impl_SpansOf.f
  rw [impl_ScaleOk_eq (by omega) hn]
  simp only [Option.bind_some, impl_within_eq, impl_SpansOf.j0, decide_eq_true_eq]
  by_cases hs : scaleB l
  · rw [if_pos hs]
    by_cases hc : 0 ≤ c ∧ c ≤ (l.length : Int)
    · rw [decide_eq_true hc]
      simp only [Bool.not_true, Bool.false_eq_true, if_false]
      exact impl_SpansOf_l0 l.length k l c [] 0 hs hc.1 hc.2 (by omega) (by omega) (by simp) (by simp) (by simp)
    · rw [decide_eq_false hc, spansF, if_neg (c := scaleB l ∧ (0 ≤ c ∧ c ≤ (l.length : Int))) (fun h => hc h.2)]
      simp
  · rw [if_neg hs, spansF, if_neg (c := scaleB l ∧ (0 ≤ c ∧ c ≤ (l.length : Int))) (fun h => hs h.1)]
    simp

theorem impl_HasTwoSizes_l0 (d : Nat) : ∀ (k : Nat) (l : List Int) (i : Nat), i + d = l.length → d + 2 * l.length + 50 < k → l.length ≤ 1048576 → impl_HasTwoSizes.l0 k (l.length : Int) (i : Int) l = some (twoL l i d && decide (scaleB l)) := by
  induction d with
  | zero =>
    intro k l i hi hk hn
    obtain ⟨k, rfl⟩ : ∃ m, k = m + 1 := ⟨k - 1, by omega⟩
    simp only [impl_HasTwoSizes.l0]
    rw [if_neg (by omega), impl_ScaleOk_eq (by omega) hn]
    simp [twoL]
  | succ d ih =>
    intro k l i hi hk hn
    obtain ⟨k, rfl⟩ : ∃ m, k = m + 1 := ⟨k - 1, by omega⟩
    simp only [impl_HasTwoSizes.l0]
    rw [if_pos (by omega), impl_SpansOf_eq _ (by omega) hn]
    simp only [Option.bind_some, twoL]
    by_cases c : ((spansF l (i : Int)).length : Int) > 2
    · rw [if_pos c, if_pos c]; simp
    · rw [if_neg c, if_neg c, up_one (n := l.length) (by omega) (by omega), ih k l (i + 1) (by omega) (by omega) hn]
theorem impl_HasTwoSizes_eq {k : Nat} {l : List Int} (hk : 3 * l.length + 60 < k) (hn : l.length ≤ 1048576) : impl_HasTwoSizes.f k l = some (twoF l) := by
  unfold impl_HasTwoSizes.f twoF
  exact impl_HasTwoSizes_l0 l.length k l 0 (by omega) (by omega) hn

theorem laws_at_eq {l : List Int} {a : Int} (hn : l.length ≤ 1048576) (h0 : 0 ≤ a) (h1 : a ≤ 100) (hx : ∀ x ∈ l, (Lit.int .u8 x).wf = true) : ∃ v, laws_at.f l a = some v ∧ 0 ≤ v ∧ v ≤ 255 := by
  unfold laws_at.f
  by_cases c : (l.length : Int) = 0
  · rw [if_pos c]
    exact ⟨0, rfl, by omega, by omega⟩
  · rw [if_neg c, w64 (x := a * 5) (by omega) (by omega), w64 (x := a * 5 + 1) (by omega) (by omega)]
    have p := Int.tmod_nonneg (a := a * 5 + 1) (l.length : Int) (by omega)
    have q : Int.tmod (a * 5 + 1) (l.length : Int) < l.length := by
      have := tmod_lt (a * 5 + 1) (b := (l.length : Int)) c
      omega
    generalize Int.tmod (a * 5 + 1) (l.length : Int) = t at p q ⊢
    rw [if_pos p, if_pos q]
    obtain ⟨n, rfl⟩ : ∃ n : Nat, t = n := ⟨t.toNat, by omega⟩
    have := wfu8 (hx _ (rd_mem (l := l) (i := n) (by omega)))
    rw [w64 (by omega) (by omega)]
    exact ⟨_, rfl, this.1, this.2⟩

theorem laws_has_l0 (d : Nat) : ∀ (k : Nat) (l : List Int) (x : Int) (i : Nat), i + d = l.length → d < k → l.length ≤ 1048576 → laws_has.l0 k l x (i : Int) = some (decide (x ∈ l.drop i)) := by
  induction d with
  | zero =>
    intro k l x i hi hk hn
    obtain ⟨k, rfl⟩ : ∃ m, k = m + 1 := ⟨k - 1, by omega⟩
    simp only [laws_has.l0]
    rw [if_neg (by omega), List.drop_eq_nil_of_le (by omega)]
    simp
  | succ d ih =>
    intro k l x i hi hk hn
    obtain ⟨k, rfl⟩ : ∃ m, k = m + 1 := ⟨k - 1, by omega⟩
    simp only [laws_has.l0]
    rw [if_pos (by omega), if_pos (by omega), up_one (n := l.length) (by omega) (by omega), ih k l x (i + 1) (by omega) (by omega) hn, drop_rd (l := l) (i := i) (by omega)]
    by_cases h : rd l (i : Int) = x
    · rw [if_pos h]; simp [h]
    · rw [if_neg h]; simp [Ne.symm h]
theorem laws_has_eq {k : Nat} {l : List Int} (x : Int) (hk : l.length < k) (hn : l.length ≤ 1048576) : laws_has.f k l x = some (decide (x ∈ l)) := by
  unfold laws_has.f
  have := laws_has_l0 l.length k l x 0 (by omega) hk hn
  simpa using this

theorem tmod_rng {x n : Int} (hx : 0 ≤ x) (hn : 0 < n) : 0 ≤ Int.tmod x n ∧ Int.tmod x n < n := by
  rw [Int.tmod_eq_emod_of_nonneg hx]
  exact ⟨Int.emod_nonneg _ (by omega), Int.emod_lt_of_pos _ hn⟩
theorem major_two : twoF [2, 2, 1, 2, 2, 2, 1] = true := by decide +kernel
theorem FnSpans : laws_FnSpans.Pure := by
  intro l _ hl hx
  obtain ⟨K, hK⟩ : ∃ K : Nat, l.length + 3000 ≤ K := ⟨_, Nat.le_refl _⟩
  refine ⟨K, ?_⟩
  unfold laws_FnSpans.f
  rw [laws_big_eq]
  simp only [Option.bind_some, decide_eq_true_eq]
  by_cases hb : (l.length : Int) > 1048576
  · rw [if_pos hb]
  · rw [if_neg hb]
    obtain ⟨s, e, hs, h8⟩ := spec_DrawScale_eq (k := K) (l := l) (by omega) (by omega)
    have hl1 := scaleB_len hs
    obtain ⟨u0, e0, u00, u01⟩ := laws_at_eq (l := l) (a := 0) (by omega) (by omega) (by omega) hx
    obtain ⟨u1, e1, u10, u11⟩ := laws_at_eq (l := l) (a := 1) (by omega) (by omega) (by omega) hx
    obtain ⟨u2, e2, u20, u21⟩ := laws_at_eq (l := l) (a := 2) (by omega) (by omega) (by omega) hx
    rw [e, Option.bind_some, e0, Option.bind_some, if_neg (by omega), e1, Option.bind_some, w64 (x := (s.length : Int) + 1) (by omega) (by omega), if_neg (by omega), e2, Option.bind_some]
    have r0 := tmod_rng (x := u0) (n := (s.length : Int)) u00 (by omega)
    have r1 := tmod_rng (x := u1) (n := (s.length : Int) + 1) u10 (by omega)
    obtain ⟨i, hi⟩ : ∃ i : Nat, Int.tmod u0 (s.length : Int) = i := ⟨(Int.tmod u0 (s.length : Int)).toNat, by omega⟩
    obtain ⟨a, ha⟩ : ∃ a : Nat, Int.tmod u1 ((s.length : Int) + 1) = a := ⟨(Int.tmod u1 ((s.length : Int) + 1)).toNat, by omega⟩
    rw [hi] at r0 ⊢
    rw [ha] at r1 ⊢
    rw [w64 (x := (s.length : Int) + 1 - a) (by omega) (by omega), if_neg (by omega)]
    have r2 := tmod_rng (x := u2) (n := (s.length : Int) + 1 - a) u20 (by omega)
    obtain ⟨b, hb2⟩ : ∃ b : Nat, Int.tmod u2 ((s.length : Int) + 1 - a) = b := ⟨(Int.tmod u2 ((s.length : Int) + 1 - a)).toNat, by omega⟩
    rw [hb2] at r2 ⊢
    have hm : Int.tmod (wrap64 ((i : Int) + a)) (s.length : Int) = (((i + a) % s.length : Nat) : Int) := by
      rw [w64 (by omega) (by omega), tmod_nat a (by omega) hl1.1, Int.toNat_natCast]
    have hml : (i + a) % s.length < s.length := Nat.mod_lt _ (by omega)
    rw [impl_SpansOf_eq _ (by omega) (by omega), Option.bind_some, impl_SpanAt_eq _ _ (by omega) (by omega), Option.bind_some, hm, impl_SpanAt_eq _ _ (by omega) (by omega), Option.bind_some, w64 (x := (a : Int) + b) (by omega) (by omega), impl_SpanAt_eq _ _ (by omega) (by omega), Option.bind_some]
    have q1 : spanAtF s (i : Int) (a : Int) = spanF s (i : Int) a := spanAtF_nat hs (by omega) (by omega)
    have q2 : spanAtF s (((i + a) % s.length : Nat) : Int) (b : Int) = spanF s (((i + a) % s.length : Nat) : Int) b := spanAtF_nat hs (by omega) (by omega)
    have q3 : spanAtF s (i : Int) ((a : Int) + b) = spanF s (i : Int) (a + b) := by
      rw [show (a : Int) + b = ((a + b : Nat) : Int) by omega]
      exact spanAtF_nat hs (by omega) (by omega)
    have q4 : spanAtF s (i : Int) (s.length : Int) = s.sum := by rw [spanAtF_nat hs (by omega) (Nat.le_refl _)]; exact spanF_sum hs i
    have g1 := spanAtF_rng s (i : Int) (a : Int)
    have g2 := spanAtF_rng s (((i + a) % s.length : Nat) : Int) (b : Int)
    have hj : wrap64 (spanAtF s (i : Int) (a : Int) + spanAtF s (((i + a) % s.length : Nat) : Int) (b : Int)) = spanAtF s (i : Int) ((a : Int) + b) := by
      rw [w64 (by omega) (by omega), q1, q2, q3]
      exact (spanF_join hs i a b).symm
    rw [if_pos hj, impl_SpanAt_eq _ _ (by omega) (by omega), Option.bind_some, impl_ScaleSum_eq (by omega) (by omega), Option.bind_some, if_pos (by rw [q4, if_pos hs]), Option.bind_some]
    have hsl := spansF_len s (a : Int)
    have hmem : spanAtF s (i : Int) (a : Int) ∈ spansF s (a : Int) := (spansF_mem hs (by omega) (by omega) _).mpr ⟨i, by omega, rfl⟩
    rw [laws_has_eq _ (by omega) (by omega), Option.bind_some, decide_eq_true hmem, if_pos rfl]
    simp only [impl_MajorScale.f, Option.bind_some]
    rw [impl_HasTwoSizes_eq (by simp; omega) (by simp), Option.bind_some, major_two, if_pos rfl, impl_SpansOf_eq _ (by omega) (by omega), Option.bind_some]
    have p1 := spans_whole s
    have p2 := spansF_pos hs (c := (s.length : Int)) (by omega) (by omega)
    refine congrArg some ?_
    rw [beq_iff_eq]
    omega

end Go.Proofs.Ytgolkgcmmionpaa.Pure
