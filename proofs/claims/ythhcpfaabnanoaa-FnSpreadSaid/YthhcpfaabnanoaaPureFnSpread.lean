/- A mistake reaches just the keys that follow, and no further than the bound says: for every code the law returns true. No condition. -/
import Derived.Test.YthhcpfaabnanoaaPFnSpreadx1
import Derived.Test.YthhcpfaabnanoaaPFnSpreadx2
import Derived.Test.YthhcpfaabnanoaaPFnSpreadx3
import Derived.Test.YthhcpfaabnanoaaPFnSpreadx4
import Derived.Test.YthhcpfaabnanoaaPFnSpreadx5
import Derived.Test.YthhcpfaabnanoaaPFnSpreadx6
import Derived.OpenShut
namespace Go.Proofs.Ythhcpfaabnanoaa.Pure
open Go.RowKit Go.Proofs.Ythhcpfaabnanoaa.PFnSpread Go.Proofs.YthhcpfaabnanoaaW.PrintWords Go.Proofs.YthhcpfaabnanoaaW.PrintLast Go.Proofs.YthhcpfaabnanoaaW.PrintMore
set_option linter.unusedVariables false
set_option linter.unusedSimpArgs false
theorem w64 {x : Int} (h : -9223372036854775808 ≤ x) (h' : x ≤ 9223372036854775807) : wrap64 x = x := by unfold wrap64; omega
theorem wf64 {x : Int} (h : (Lit.int .i64 x).wf = true) : -9223372036854775808 ≤ x ∧ x ≤ 9223372036854775807 := by
  simp only [Lit.wf, IntKind.min, IntKind.max, IntKind.signed, IntKind.bits, Bool.and_eq_true, decide_eq_true_eq, if_true] at h
  omega
theorem wfu8 {x : Int} (h : (Lit.int .u8 x).wf = true) : 0 ≤ x ∧ x ≤ 255 := by
  simp [Lit.wf, IntKind.min, IntKind.max, IntKind.signed, IntKind.bits] at h
  omega
theorem mx_def (a b : Int) : mx a b = max a b := by unfold mx; omega
theorem mn_def (a b : Int) : mn a b = min a b := by unfold mn; omega
theorem fuel {n k : Nat} (h : n < k) : ∃ m, k = m + 1 ∧ n ≤ m := ⟨k - 1, by omega, by omega⟩
theorem gcd_tmod (a b : Int) : Int.gcd b (Int.tmod a b) = Int.gcd a b := by
  unfold Int.gcd
  rw [Int.natAbs_tmod, Nat.gcd_comm, ← Nat.gcd_rec, Nat.gcd_comm]
theorem tmod_lt (a : Int) {b : Int} (h : b ≠ 0) : (Int.tmod a b).natAbs < b.natAbs := by
  rw [Int.natAbs_tmod]
  exact Nat.mod_lt _ (by omega)
theorem drop_rd {l : List Int} {i : Nat} (h : i < l.length) : l.drop i = rd l (i : Int) :: l.drop (i + 1) := by
  rw [List.drop_eq_getElem_cons h]
  simp [rd, List.getD, List.getElem?_eq_getElem h]
theorem rd_get {l : List Int} {i : Nat} (h : i < l.length) : rd l (i : Int) = l[i] := by simp [rd, List.getD, List.getElem?_eq_getElem h]
theorem up_one {i n : Nat} (h : i < n) (hn : n ≤ 9223372036854775807) : wrap64 ((i : Int) + 1) = ((i + 1 : Nat) : Int) := by rw [w64 (by omega) (by omega)]; omega
theorem rd_mem {l : List Int} {i : Nat} (h : i < l.length) : rd l (i : Int) ∈ l := by rw [rd_get h]; exact List.getElem_mem h
theorem maxLen_le {n : Nat} (h : n ≤ maxLen) : (n : Int) ≤ 9223372036854775807 := by unfold maxLen at h; omega

abbrev St := S32
theorem rdT_nat {x : List St} {i : Nat} (h : i < x.length) : rd_T32 x (i : Int) = x[i] := by simp [rd_T32, List.getD, List.getElem?_eq_getElem h]
theorem rdT_set {x : List St} {i : Nat} (h : i < x.length) (v : St) : rd_T32 (x.set i v) (i : Int) = v := by
  rw [rdT_nat (by simpa using h)]
  simp
theorem st_eta (s : St) : (⟨s.f0, s.f1, s.f2, s.f3⟩ : St) = s := rfl
theorem st_ext {s t : St} (h0 : s.f0 = t.f0) (h1 : s.f1 = t.f1) (h2 : s.f2 = t.f2) (h3 : s.f3 = t.f3) : s = t := by
  cases s; cases t; simp at h0 h1 h2 h3; subst h0 h1 h2 h3; rfl
def stB (s t : St) : Bool := decide (s.f0 = t.f0 ∧ s.f1 = t.f1 ∧ s.f2 = t.f2 ∧ s.f3 = t.f3)
theorem stB_iff (s t : St) : stB s t = true ↔ s = t := by
  unfold stB
  rw [decide_eq_true_eq]
  exact ⟨fun ⟨a, b, c, d⟩ => st_ext a b c d, fun h => by rw [h]; simp⟩
instance : DecidableEq St := fun s t => decidable_of_iff (stB s t = true) (stB_iff s t)
theorem drop_rdT {x : List St} {i : Nat} (h : i < x.length) : x.drop i = rd_T32 x (i : Int) :: x.drop (i + 1) := by
  rw [List.drop_eq_getElem_cons h, rdT_nat h]

/-- Step number i of a plan that runs key after key from key 0. -/
def stepOk (s : St) (i : Nat) : Bool := decide ((s.f2 = 1 ∨ s.f2 = 2) ∧ (0 ≤ s.f3 ∧ s.f3 ≤ 5000) ∧ s.f0 = i ∧ s.f1 = i + 1 ∧ i ≤ 10)
def planAt : List St → Nat → Bool
  | [], _ => true
  | s :: l, i => stepOk s i && planAt l (i + 1)
/-- A plan that holds. -/
def planB (l : List St) : Bool := planAt l 0
theorem planAt_len : ∀ (l : List St) (i : Nat), i ≤ 11 → planAt l i = true → i + l.length ≤ 11
  | [], i, hi, _ => by simpa using hi
  | s :: l, i, hi, h => by
    simp only [planAt, stepOk, Bool.and_eq_true, decide_eq_true_eq] at h
    have := planAt_len l (i + 1) (by omega) h.2
    simp only [List.length_cons]
    omega
theorem planAt_get : ∀ (l : List St) (i : Nat), planAt l i = true → ∀ (j : Nat) (h : j < l.length), stepOk l[j] (i + j) = true
  | [], _, _, j, h => absurd h (by simp)
  | s :: l, i, hp, j, h => by
    simp only [planAt, Bool.and_eq_true] at hp
    cases j with
    | zero => simpa using hp.1
    | succ j =>
      have := planAt_get l (i + 1) hp.2 j (by simpa using h)
      rw [show i + (j + 1) = i + 1 + j by omega]
      simpa using this
theorem planB_len {l : List St} (h : planB l = true) : l.length ≤ 11 := by have := planAt_len l 0 (by omega) h; omega
theorem planB_at {l : List St} (h : planB l = true) {j : Nat} (hj : j < l.length) :
    ((rd_T32 l (j : Int)).f2 = 1 ∨ (rd_T32 l (j : Int)).f2 = 2) ∧ (0 ≤ (rd_T32 l (j : Int)).f3 ∧ (rd_T32 l (j : Int)).f3 ≤ 5000) ∧ (rd_T32 l (j : Int)).f0 = j ∧ (rd_T32 l (j : Int)).f1 = (j : Int) + 1 := by
  have := planAt_get l 0 h j hj
  rw [rdT_nat hj]
  simp only [stepOk, decide_eq_true_eq, Nat.zero_add] at this
  exact ⟨this.1, this.2.1, this.2.2.1, this.2.2.2.1⟩
/-- Keys 0 to i are tuned. -/
def tuD (i : Nat) : List Bool := (List.range 12).map fun j => decide (j ≤ i)
theorem tuD_len (i : Nat) : (tuD i).length = 12 := by simp [tuD]
theorem tuD_at (i : Nat) {x : Int} (h0 : 0 ≤ x) (h1 : x ≤ 11) : rdOf false (tuD i) x = decide (x ≤ i) := by
  obtain ⟨n, rfl⟩ : ∃ n : Nat, x = n := ⟨x.toNat, by omega⟩
  unfold rdOf tuD
  simp [List.getD, List.getElem?_map, List.getElem?_range (show n < 12 by omega)]
theorem tuD_set : ∀ i, i < 11 → (tuD i).set (i + 1) true = tuD (i + 1) := by decide
theorem okD (s : St) {i : Nat} (hi : i ≤ 11) : decide ((s.f2 = 1 ∨ s.f2 = 2) ∧ (0 ≤ s.f3 ∧ s.f3 ≤ 5000) ∧ (0 ≤ s.f0 ∧ s.f0 ≤ 11) ∧ (0 ≤ s.f1 ∧ s.f1 ≤ 11) ∧ s.f1 = (s.f0 + 1) % 12 ∧ rdOf false (tuD i) s.f0 = true ∧ rdOf false (tuD i) s.f1 = false) = stepOk s i := by
  unfold stepOk
  by_cases h : (0 ≤ s.f0 ∧ s.f0 ≤ 11) ∧ (0 ≤ s.f1 ∧ s.f1 ≤ 11)
  · rw [tuD_at i h.1.1 h.1.2, tuD_at i h.2.1 h.2.2]
    refine decide_eq_decide.mpr ⟨fun ⟨a, b, _, _, e, f, g⟩ => ?_, fun ⟨a, b, c, d, e⟩ => ?_⟩
    · simp only [decide_eq_true_eq, decide_eq_false_iff_not] at f g
      refine ⟨a, b, ?_, ?_, ?_⟩ <;> omega
    · simp only [decide_eq_true_eq, decide_eq_false_iff_not]
      refine ⟨a, b, h.1, h.2, ?_, ?_, ?_⟩ <;> omega
  · refine decide_eq_decide.mpr ⟨fun ⟨a, b, c, d, _⟩ => absurd ⟨c, d⟩ h, fun ⟨a, b, c, d, e⟩ => absurd ⟨⟨?_, ?_⟩, ?_, ?_⟩ h⟩ <;> omega

theorem tdiv_nn {x : Int} (d : Int) (h : 0 ≤ x) : Int.tdiv x d = x / d := Int.tdiv_eq_ediv_of_nonneg h
/-- The pitch that a step comes to, before it is held against the bounds. -/
def tunedN (f kind b : Int) : Int :=
  if kind = 1 then max (3 * f - b) 0 / 2 else if kind = 2 then max (3 * f - b) 0 / 4
  else if kind = 3 ∧ b = 0 then 2 * f else if kind = 4 ∧ b = 0 then f / 2 else 0
def fineB (n : Int) : Prop := 1 ≤ n ∧ n ≤ 10000000
instance (n : Int) : Decidable (fineB n) := by unfold fineB; infer_instance
/-- The pitch that a step comes to. -/
def tunedF (f kind b : Int) : Int :=
  if fineB f ∧ 0 ≤ b ∧ b ≤ 100000 ∧ fineB (tunedN f kind b) then tunedN f kind b else 0
theorem tunedN_rng {f b : Int} (kind : Int) (hf : fineB f) (hb : 0 ≤ b ∧ b ≤ 100000) : 0 ≤ tunedN f kind b ∧ tunedN f kind b ≤ 20000000 := by
  unfold fineB at hf
  unfold tunedN
  (repeat' split) <;> omega
theorem pay3 {f b : Int} (hf : fineB f) (hb : 0 ≤ b ∧ b ≤ 100000) : wrap64 (wrap64 (3 * f) - b) = 3 * f - b := by
  unfold fineB at hf
  rw [w64 (x := 3 * f) (by omega) (by omega), w64 (by omega) (by omega)]
theorem pay3l {f b : Int} (hf : fineB f) (hb : 0 ≤ b ∧ b ≤ 100000) (d : Int) (hd : d = 2 ∨ d = 4) : wrap64 (Int.tdiv (mx 0 (wrap64 (wrap64 (3 * f) - b))) d) = max (3 * f - b) 0 / d := by
  rw [pay3 hf hb, mx_def, Int.max_comm, tdiv_nn d (by omega)]
  unfold fineB at hf
  rcases hd with rfl | rfl <;> exact w64 (by omega) (by omega)
theorem pay3r {f b : Int} (hf : fineB f) (hb : 0 ≤ b ∧ b ≤ 100000) (d : Int) (hd : d = 2 ∨ d = 4) : wrap64 (Int.tdiv (mx (wrap64 (wrap64 (3 * f) - b)) 0) d) = max (3 * f - b) 0 / d := by
  rw [pay3 hf hb, mx_def, tdiv_nn d (by omega)]
  unfold fineB at hf
  rcases hd with rfl | rfl <;> exact w64 (by omega) (by omega)
theorem payh {f : Int} (hf : fineB f) : wrap64 (Int.tdiv f 2) = f / 2 := by
  unfold fineB at hf
  rw [tdiv_nn 2 (by omega)]
  exact w64 (by omega) (by omega)
theorem payd {f : Int} (hf : fineB f) : wrap64 (2 * f) = 2 * f := by
  unfold fineB at hf
  exact w64 (by omega) (by omega)

/-- The pitches that a plan comes to, step by step; none where a step comes to no pitch. -/
def runL : List St → List Int → Option (List Int)
  | [], p => some p
  | s :: l, p => if tunedF (rd p s.f0) s.f2 s.f3 = 0 then none else runL l (p.set s.f1.toNat (tunedF (rd p s.f0) s.f2 s.f3))
def runF (start : Int) (l : List St) : List Int × Bool :=
  if planB l = true ∧ (1 ≤ start ∧ start ≤ 10000000) then (match runL l (start :: List.replicate 11 0) with | some p => (p, true) | none => ([], false)) else ([], false)
theorem runL_len : ∀ (l : List St) (p q : List Int), runL l p = some q → q.length = p.length
  | [], p, q, h => by simp [runL] at h; rw [h]
  | s :: l, p, q, h => by
    simp only [runL] at h
    split at h
    · simp at h
    · have := runL_len l _ q h
      simpa using this
theorem runF_len (start : Int) (l : List St) : (runF start l).1.length = 0 ∨ (runF start l).1.length = 12 := by
  unfold runF
  split
  · cases h : runL l (start :: List.replicate 11 0) with
    | none => simp
    | some p => right; have := runL_len l _ p h; simpa using this
  · simp
theorem runF_true {start : Int} {l : List St} (h : (runF start l).2 = true) : (runF start l).1.length = 12 := by
  unfold runF at h ⊢
  split
  · rename_i c
    rw [if_pos c] at h
    cases e : runL l (start :: List.replicate 11 0) with
    | none => rw [e] at h; simp at h
    | some p => have := runL_len l _ p e; simpa using this
  · rename_i c
    rw [if_neg c] at h
    simp at h
/-- What is heard between the last key and the first. -/
def closingF (a : Int) (l : List St) : Int :=
  if (runF a l).2 = true then (if rd (runF a l).1 11 = 0 then -1 else max (wrap64 (wrap64 (3 * rd (runF a l).1 11) - wrap64 (4 * rd (runF a l).1 0))) (wrap64 (wrap64 (4 * rd (runF a l).1 0) - wrap64 (3 * rd (runF a l).1 11)))) else -1

/-- How many steps lie under a key. -/
def depthF (l : List St) (a : Int) : Int := if planB l = true then (if 0 ≤ a ∧ a ≤ l.length then a else -1) else -1
theorem depthF_at {l : List St} (hp : planB l = true) {n : Nat} (h : n ≤ l.length) : depthF l (n : Int) = n := by
  unfold depthF
  rw [if_pos hp, if_pos (by omega)]
theorem depthF_out {l : List St} (hp : planB l = true) {n : Nat} (h : ¬ n ≤ l.length) : depthF l (n : Int) = -1 := by
  unfold depthF
  rw [if_pos hp, if_neg (by omega)]
theorem depthF_no {l : List St} (hp : ¬ planB l = true) (a : Int) : depthF l a = -1 := by
  unfold depthF
  rw [if_neg hp]

/-- What a key may be off by, when each step is off by no more than w; kinds of the steps from the key down. -/
def errN (l : List St) (w : Int) : Nat → Int
  | 0 => 0
  | n + 1 => (3 * errN l w n + w) / (2 * (rd_T32 l (n : Int)).f2) + 1
theorem errN_rng {l : List St} (hp : planB l = true) {w : Int} (h0 : 0 ≤ w) (h1 : w ≤ 5000) : ∀ n : Nat, n ≤ l.length → 0 ≤ errN l w n ∧ errN l w n ≤ 5001 * 2 ^ n
  | 0, _ => by simp [errN]
  | n + 1, hn => by
    have ih := errN_rng hp h0 h1 n (by omega)
    have hk := (planB_at hp (show n < l.length by omega)).1
    have p : (1 : Int) ≤ 2 ^ n := by have := Int.pow_pos (n := 2) (m := n) (by omega); omega
    have e : (2 : Int) ^ (n + 1) = 2 * 2 ^ n := by rw [Int.pow_succ]; omega
    rw [e]
    simp only [errN]
    generalize (2 : Int) ^ n = P at *
    rcases hk with hk | hk <;> rw [hk] <;> omega
theorem errN_small {l : List St} (hp : planB l = true) {w : Int} (h0 : 0 ≤ w) (h1 : w ≤ 5000) {n : Nat} (hn : n ≤ l.length) : 0 ≤ errN l w n ∧ errN l w n ≤ 20000000 := by
  have a := errN_rng hp h0 h1 n hn
  have b := planB_len hp
  have : (2 : Int) ^ n ≤ 2048 := by
    have h : n ≤ 11 := by omega
    revert h; clear a hn
    intro h
    have := Nat.pow_le_pow_right (n := 2) (by omega) h
    have e : ((2 ^ n : Nat) : Int) = 2 ^ n := by simp
    omega
  generalize (2 : Int) ^ n = P at *
  omega
/-- The bound. -/
def errF (l : List St) (a w : Int) : Int := if depthF l a < 0 ∨ ¬ (0 ≤ w ∧ w ≤ 5000) then -1 else errN l w a.toNat

/-- The keys 0 to n. -/
def keysL (n : Nat) : List Int := (List.range (n + 1)).map Int.ofNat
theorem keysL_len (n : Nat) : (keysL n).length = n + 1 := by simp [keysL]
theorem keysL_succ (n : Nat) : keysL n ++ [((n : Int) + 1)] = keysL (n + 1) := by
  simp [keysL, List.range_succ]
theorem keysL_sorted (n : Nat) : (keysL n).Pairwise (· ≤ ·) := by
  unfold keysL
  rw [List.pairwise_map]
  exact List.pairwise_lt_range.imp (by intro a b h; simp; omega)
theorem keysL_rd {n i : Nat} (h : i ≤ n) : rd (keysL n) (i : Int) = i := by
  rw [rd_get (by rw [keysL_len]; omega)]
  simp [keysL]
/-- The keys that a plan tunes, in order. -/
def keysF (l : List St) : List Int := if planB l = true then keysL l.length else []
theorem keysF_len (l : List St) : (keysF l).length ≤ 12 := by
  unfold keysF
  split
  · rename_i h; have := planB_len h; rw [keysL_len]; omega
  · simp
/-- The keys from i on, of e, that are no more than n. -/
def tailK (n : Nat) : Nat → Nat → List Int
  | _, 0 => []
  | i, e + 1 => if i ≤ n then (i : Int) :: tailK n (i + 1) e else tailK n (i + 1) e
theorem tailK_all : ∀ n, n < 12 → tailK n 0 12 = keysL n := by decide
theorem tailK_len (n : Nat) : ∀ e i, (tailK n i e).length ≤ e
  | 0, _ => by simp [tailK]
  | e + 1, i => by
    have := tailK_len n e (i + 1)
    simp only [tailK]
    split <;> simp <;> omega

/-- The deepest key. -/
def deepF (l : List St) : Int := if planB l = true then (l.length : Int) else -1

def mistL (l : List St) (i c : Int) : List St := l.set i.toNat (⟨(rd_T32 l i).f0, (rd_T32 l i).f1, (rd_T32 l i).f2, wrap64 ((rd_T32 l i).f3 + c)⟩ : St)
/-- A plan in which one step's beats are changed. -/
def mistF (l : List St) (i c : Int) : List St × Bool :=
  if planB l = true ∧ (0 ≤ i ∧ i ≤ (l.length : Int) - 1) ∧ (-5000 ≤ c ∧ c ≤ 5000) then (if planB (mistL l i c) = true then (mistL l i c, true) else (l, false)) else (l, false)
theorem mistF_len (l : List St) (i c : Int) : (mistF l i c).1.length = l.length := by
  unfold mistF mistL
  split
  · split <;> simp
  · rfl

/-- Keys i to j are hit. -/
def hitD (a n : Nat) : List Bool := (List.range 12).map fun j => decide (a ≤ j ∧ j ≤ n)
theorem hitD_len (a n : Nat) : (hitD a n).length = 12 := by simp [hitD]
theorem hitD_at (a n : Nat) {x : Nat} (h : x ≤ 11) : rdOf false (hitD a n) (x : Int) = decide (a ≤ x ∧ x ≤ n) := by
  unfold rdOf hitD
  simp [List.getD, List.getElem?_map, List.getElem?_range (show x < 12 by omega)]
theorem hitD_start : ∀ a, a < 12 → (List.replicate 12 false).set a true = hitD a a := by decide
theorem hitD_set : ∀ a, a < 12 → ∀ n, n < 11 → a ≤ n + 1 → (hitD a n).set (n + 1) true = hitD a (n + 1) := by decide
/-- a key that is hit already. -/
theorem hitD_again : ∀ a, a < 12 → ∀ x, x < 12 → (hitD a a).set a true = hitD a a := by decide
/-- Which keys are hit behind i steps, when step at hits key at + 1. -/
def hitAt (at_ i : Nat) : List Bool := hitD (at_ + 1) (max i (at_ + 1))
theorem hitAt_len (a i : Nat) : (hitAt a i).length = 12 := hitD_len _ _
theorem hit_step : ∀ a, a < 11 → ∀ i, i < 11 → (if rdOf false (hitAt a i) (i : Int) = true then (hitAt a i).set (i + 1) true else hitAt a i) = hitAt a (i + 1) := by decide
theorem hit_stepS : ∀ a, a < 11 → ∀ i, i < 11 → (if rdOf false (hitAt a i) ((i + 1 : Nat) : Int) = true then (hitAt a i).set (i + 1) true else (hitAt a i).set (i + 1) (rdOf false (hitAt a i) (i : Int))) = hitAt a (i + 1) := by decide
theorem hit_start : ∀ a, a < 11 → (List.replicate 12 false).set (a + 1) true = hitAt a 0 := by decide
/-- The keys from i on, of e, that are hit. -/
def hitK (tu : List Bool) : Nat → Nat → List Int
  | _, 0 => []
  | i, e + 1 => if rdOf false tu (i : Int) = true then (i : Int) :: hitK tu (i + 1) e else hitK tu (i + 1) e
theorem hitK_len (tu : List Bool) : ∀ e i, (hitK tu i e).length ≤ e
  | 0, _ => by simp [hitK]
  | e + 1, i => by
    have := hitK_len tu e (i + 1)
    simp only [hitK]
    split <;> simp <;> omega
theorem hitK_ge (tu : List Bool) : ∀ e i, ∀ x ∈ hitK tu i e, (i : Int) ≤ x
  | 0, _, x, h => by simp [hitK] at h
  | e + 1, i, x, h => by
    have ih := hitK_ge tu e (i + 1)
    simp only [hitK] at h
    split at h
    · rcases List.mem_cons.mp h with h | h
      · omega
      · have := ih x h; omega
    · have := ih x h; omega
theorem hitK_sorted (tu : List Bool) : ∀ e i, (hitK tu i e).Pairwise (· ≤ ·)
  | 0, _ => by simp [hitK]
  | e + 1, i => by
    have ih := hitK_sorted tu e (i + 1)
    simp only [hitK]
    split
    · rw [List.pairwise_cons]
      refine ⟨fun x h => ?_, ih⟩
      have := hitK_ge tu e (i + 1) x h
      omega
    · exact ih
/-- The keys that a wrong step reaches. -/
def affF (l : List St) (a : Int) : List Int := if planB l = true ∧ (0 ≤ a ∧ a ≤ (l.length : Int) - 1) then hitK (hitAt a.toNat l.length) 0 12 else []
theorem affF_len (l : List St) (a : Int) : (affF l a).length ≤ 12 := by
  unfold affF
  split
  · exact hitK_len _ _ _
  · simp
theorem hit_pos : ∀ a, a < 11 → ∀ n, n < 12 → 0 < (hitK (hitAt a n) 0 12).length := by decide

def usualL (b : Int) : List St := [⟨0, 1, 1, b⟩, ⟨1, 2, 2, b⟩, ⟨2, 3, 1, b⟩, ⟨3, 4, 2, b⟩, ⟨4, 5, 1, b⟩, ⟨5, 6, 2, b⟩, ⟨6, 7, 2, b⟩, ⟨7, 8, 1, b⟩, ⟨8, 9, 2, b⟩, ⟨9, 10, 1, b⟩, ⟨10, 11, 2, b⟩]
/-- The usual plan. -/
def usualF (b : Int) : List St := if 0 ≤ b ∧ b ≤ 5000 then usualL b else []
theorem usualF_len (b : Int) : (usualF b).length ≤ 11 := by unfold usualF usualL; split <;> simp

/-- A step as it is drawn. -/
def dOk (s : St) (i : Nat) : Prop := stepOk s i = true ∧ s.f3 ≤ 1499 ∧ (s.f2 = 1 → i = 0 ∨ i = 2 ∨ i = 4 ∨ i = 7 ∨ i = 9)
def drawn (l : List St) : Prop := ∀ (j : Nat) (h : j < l.length), dOk l[j] j
theorem planAt_of : ∀ (l : List St) (i : Nat), (∀ (j : Nat) (h : j < l.length), stepOk l[j] (i + j) = true) → planAt l i = true
  | [], _, _ => rfl
  | s :: l, i, h => by
    simp only [planAt, Bool.and_eq_true]
    refine ⟨h 0 (by simp), planAt_of l (i + 1) fun j hj => ?_⟩
    have := h (j + 1) (by simpa using hj)
    rw [show i + 1 + j = i + (j + 1) by omega]
    simpa using this
theorem drawn_plan {l : List St} (h : drawn l) : planB l = true := planAt_of l 0 fun j hj => by simpa using (h j hj).1
theorem drawn_set {l : List St} (h : drawn l) {i : Nat} {s : St} (hs : dOk s i) : drawn (l.set i s) := by
  intro j hj
  have hj' : j < l.length := by simpa using hj
  rw [List.getElem_set]
  split
  · rename_i e; subst e; exact hs
  · exact h j hj'
theorem drawn_take {l : List St} (h : drawn l) (n : Nat) : drawn (l.take n) := by
  intro j hj
  have hj' : j < l.length := by simp at hj; omega
  rw [List.getElem_take]
  exact h j hj'
theorem drawn_usual : drawn (usualF 0) := by
  intro j hj
  have hj' : j < 11 := by simpa [usualF, usualL] using hj
  revert hj
  have : ∀ j, j < 11 → ∀ (hj : j < (usualF 0).length), dOk (usualF 0)[j] j := by
    intro j h hj
    simp only [usualF, usualL, dOk, stepOk]
    match j, h with
    | 0, _ => simp
    | 1, _ => simp
    | 2, _ => simp
    | 3, _ => simp
    | 4, _ => simp
    | 5, _ => simp
    | 6, _ => simp
    | 7, _ => simp
    | 8, _ => simp
    | 9, _ => simp
    | 10, _ => simp
  exact this j hj'
theorem drawn_at {l : List St} (h : drawn l) {i : Nat} (hi : i < l.length) : dOk (rd_T32 l (i : Int)) i := by
  rw [rdT_nat hi]
  exact h i hi

theorem rd_set {q : List Int} {n : Nat} (h : n < q.length) (t : Int) (m : Nat) : rd (q.set n t) (m : Int) = if n = m then t else rd q (m : Int) := by
  simp only [rd, List.getD, Int.toNat_natCast, List.getElem?_set]
  by_cases e : n = m
  · subst e; simp [h]
  · simp [e]
def upB (i : Nat) : Bool := i == 0 || i == 2 || i == 4 || i == 7 || i == 9
/-- A step that can be run at its place. -/
def dRun (s : St) (i : Nat) : Prop := stepOk s i = true ∧ s.f3 ≤ 1600 ∧ (s.f2 = 1 → upB i = true)
def runnable (l : List St) : Prop := ∀ (j : Nat) (h : j < l.length), dRun l[j] j
theorem drawn_run {l : List St} (h : drawn l) : runnable l := fun j hj => by
  obtain ⟨a, b, c⟩ := h j hj
  refine ⟨a, by omega, fun e => ?_⟩
  have := c e
  simp only [upB, Bool.or_eq_true, beq_iff_eq]
  omega
theorem runnable_plan {l : List St} (h : runnable l) : planB l = true := planAt_of l 0 fun j hj => by simpa using (h j hj).1
theorem runnable_at {l : List St} (h : runnable l) {i : Nat} (hi : i < l.length) : dRun (rd_T32 l (i : Int)) i := by
  rw [rdT_nat hi]
  exact h i hi
def loT : Nat → Int
  | 0 => 200000
  | i + 1 => (3 * loT i - 1600) / 4
def hiT : Nat → Int
  | 0 => 300000
  | i + 1 => if upB i = true then 3 * hiT i / 2 else 3 * hiT i / 4
theorem loT_ge : ∀ i, i < 12 → 4000 ≤ loT i := by decide
theorem hiT_le : ∀ i, i < 12 → hiT i ≤ 10000000 := by decide
/-- The pitch behind a step, in its bounds. -/
theorem tuned_step {s : St} {i : Nat} (h : dRun s i) (hi : i ≤ 10) {f : Int} (hf : loT i ≤ f ∧ f ≤ hiT i) :
    tunedF f s.f2 s.f3 = (3 * f - s.f3) / (2 * s.f2) ∧ (s.f2 = 1 ∨ s.f2 = 2) ∧ (0 ≤ s.f3 ∧ s.f3 ≤ 1600) ∧ loT (i + 1) ≤ tunedF f s.f2 s.f3 ∧ tunedF f s.f2 s.f3 ≤ hiT (i + 1) ∧ tunedF f s.f2 s.f3 ≠ 0 := by
  obtain ⟨a, b, c⟩ := h
  simp only [stepOk, decide_eq_true_eq] at a
  obtain ⟨a1, a2, a3, a4, a5⟩ := a
  have l1 := loT_ge i (by omega)
  have l2 := loT_ge (i + 1) (by omega)
  have h1 := hiT_le i (by omega)
  have h2 := hiT_le (i + 1) (by omega)
  have el : loT (i + 1) = (3 * loT i - 1600) / 4 := rfl
  have eh : hiT (i + 1) = if upB i = true then 3 * hiT i / 2 else 3 * hiT i / 4 := rfl
  have key : tunedF f s.f2 s.f3 = (3 * f - s.f3) / (2 * s.f2) ∧ loT (i + 1) ≤ (3 * f - s.f3) / (2 * s.f2) ∧ (3 * f - s.f3) / (2 * s.f2) ≤ hiT (i + 1) := by
    rcases a1 with e | e
    · rw [e]
      rw [if_pos (c e)] at eh
      have hN : tunedN f 1 s.f3 = (3 * f - s.f3) / (2 * 1) := by
        unfold tunedN
        rw [if_pos rfl]
        omega
      refine ⟨?_, by omega, by omega⟩
      unfold tunedF fineB
      rw [hN, if_pos (by omega)]
    · rw [e]
      have hN : tunedN f 2 s.f3 = (3 * f - s.f3) / (2 * 2) := by
        unfold tunedN
        rw [if_neg (by omega), if_pos rfl]
        omega
      have hh : 3 * hiT i / 4 ≤ hiT (i + 1) := by rw [eh]; split <;> omega
      refine ⟨?_, by omega, by omega⟩
      unfold tunedF fineB
      rw [hN, if_pos (by omega)]
  obtain ⟨k1, k2, k3⟩ := key
  rw [k1]
  exact ⟨rfl, a1, ⟨a2.1, b⟩, k2, k3, by omega⟩
/-- What stands after i steps. -/
structure RunOk (p : List St) (s : Int) (i : Nat) (q : List Int) : Prop where
  len : q.length = 12
  first : rd q ((0 : Nat) : Int) = s
  rng : ∀ j : Nat, j ≤ i → loT j ≤ rd q (j : Int) ∧ rd q (j : Int) ≤ hiT j
  step : ∀ j : Nat, j < i → rd q ((j + 1 : Nat) : Int) = tunedF (rd q (j : Int)) (rd_T32 p (j : Int)).f2 (rd_T32 p (j : Int)).f3
  rest : ∀ j : Nat, i < j → j < 12 → rd q (j : Int) = 0
theorem runL_ok (p : List St) (s : Int) (hp : runnable p) (d : Nat) : ∀ (i : Nat) (q : List Int), i + d = p.length → RunOk p s i q → ∃ q', runL (p.drop i) q = some q' ∧ RunOk p s p.length q' := by
  have h11 := planB_len (runnable_plan hp)
  induction d with
  | zero =>
    intro i q hi hq
    obtain rfl : i = p.length := by omega
    rw [List.drop_eq_nil_of_le (by omega)]
    exact ⟨q, rfl, hq⟩
  | succ d ih =>
    intro i q hi hq
    have hs := planB_at (runnable_plan hp) (show i < p.length by omega)
    rw [drop_rdT (show i < p.length by omega)]
    simp only [runL]
    rw [hs.2.2.1, hs.2.2.2]
    obtain ⟨t1, t2, t3, t4, t5, t6⟩ := tuned_step (runnable_at hp (show i < p.length by omega)) (by omega) (hq.rng i (Nat.le_refl _))
    rw [if_neg t6, show ((i : Int) + 1).toNat = i + 1 by omega]
    have hl := hq.len
    have hset := fun t m => rd_set (q := q) (n := i + 1) (by omega) t m
    refine ih (i + 1) _ (by omega) ⟨by simpa using hl, ?_, fun j hj => ?_, fun j hj => ?_, fun j hj hj2 => ?_⟩
    · rw [hset, if_neg (by omega)]
      exact hq.first
    · rw [hset]
      by_cases e : i + 1 = j
      · rw [if_pos e, ← e]
        exact ⟨t4, t5⟩
      · rw [if_neg e]
        exact hq.rng j (by omega)
    · rw [hset, hset]
      by_cases e : i = j
      · subst e
        rw [if_pos rfl, if_neg (by omega)]
      · rw [if_neg (by omega), if_neg (by omega)]
        exact hq.step j (by omega)
    · rw [hset, if_neg (by omega)]
      exact hq.rest j (by omega) hj2
theorem runF_ok {p : List St} {s : Int} (hp : runnable p) (h0 : 200000 ≤ s) (h1 : s < 300000) : ∃ q, runF s p = (q, true) ∧ RunOk p s p.length q := by
  have hz : ∀ j : Nat, 0 < j → j < 12 → rd (s :: List.replicate 11 0) (j : Int) = 0 := by
    intro j hj hj2
    obtain ⟨j, rfl⟩ : ∃ m, j = m + 1 := ⟨j - 1, by omega⟩
    simp only [rd, List.getD, Int.toNat_natCast, List.getElem?_cons_succ]
    rw [List.getElem?_replicate]
    split <;> rfl
  have hq : RunOk p s 0 (s :: List.replicate 11 0) := ⟨by simp, by simp [rd], fun j hj => by
    obtain rfl : j = 0 := by omega
    have : rd (s :: List.replicate 11 0) ((0 : Nat) : Int) = s := by simp [rd]
    rw [this]
    simp only [loT, hiT]
    omega, fun j hj => absurd hj (by omega), hz⟩
  obtain ⟨q', e, hq'⟩ := runL_ok p s hp p.length 0 _ (by omega) hq
  refine ⟨q', ?_, hq'⟩
  unfold runF
  rw [if_pos ⟨runnable_plan hp, by omega, by omega⟩]
  rw [List.drop_zero] at e
  rw [e]

/-- The last eight bits of whatever: a byte. -/
theorem and255 (x : Int) : 0 ≤ Go.bits .and .i64 x 255 ∧ Go.bits .and .i64 x 255 ≤ 255 := by
  have e : (BitVec.ofInt IntKind.i64.bits 255).toNat = 255 := by decide
  have h : Go.bits .and .i64 x 255 = IntKind.i64.wrap (((BitVec.ofInt IntKind.i64.bits x).toNat &&& 255 : Nat) : Int) := by
    unfold Go.bits
    simp only [BitVec.toNat_and]
    rw [e]
  have hle : (BitVec.ofInt IntKind.i64.bits x).toNat &&& 255 ≤ 255 := Nat.and_le_right
  rw [h, IntKind.wrap_i64]
  omega
/-- A cursor into the code. -/
def curB (l : List Int) (i : Int) : Prop := 0 ≤ i ∧ i ≤ (l.length : Int)

theorem laws_big_eq (l : List Int) : laws_big.f l = some (decide ((l.length : Int) > 1048576)) := rfl

theorem spec_l01New_l0 (d : Nat) : ∀ (k : Nat) (l : List Int) (h : Int) (i : Nat), i + d = l.length → d < k → l.length ≤ 140737488351232 → ∃ h', spec_l01New.l0 k l h (i : Int) = some (l, 0, h') := by
  induction d with
  | zero =>
    intro k l h i hi hk hn
    obtain ⟨k, rfl⟩ : ∃ m, k = m + 1 := ⟨k - 1, by omega⟩
    simp only [spec_l01New.l0]
    rw [if_neg (by omega)]
    exact ⟨h, rfl⟩
  | succ d ih =>
    intro k l h i hi hk hn
    obtain ⟨k, rfl⟩ : ∃ m, k = m + 1 := ⟨k - 1, by omega⟩
    simp only [spec_l01New.l0]
    rw [if_pos (by omega), up_one (n := l.length) (by omega) (by omega)]
    by_cases h4 : (i : Int) < 4000
    · rw [if_pos h4, if_pos (by omega)]
      exact ih k l _ (i + 1) (by omega) (by omega) hn
    · rw [if_neg h4]
      exact ⟨h, rfl⟩
theorem spec_l01New_eq {k : Nat} {l : List Int} (hk : l.length < k) (hn : l.length ≤ 140737488351232) : ∃ h, spec_l01New.f k l = some (l, 0, h) := by
  unfold spec_l01New.f
  exact spec_l01New_l0 l.length k l _ 0 (by omega) hk hn

theorem spec_l01Byte_eq {l : List Int} (hn : l.length ≤ 140737488351232) (i h : Int) (hi : curB l i) : ∃ b i' h', spec_l01Byte.f l i h = some (b, i', h') ∧ 0 ≤ b ∧ b ≤ 255 ∧ curB l i' := by
  unfold curB at *
  unfold spec_l01Byte.f
  by_cases hc : i < (l.length : Int)
  · rw [if_pos hc, if_pos hi.1]
    refine ⟨_, _, _, rfl, (and255 _).1, (and255 _).2, ?_⟩
    rw [w64 (by omega) (by omega)]
    omega
  · rw [if_neg hc]
    exact ⟨_, _, _, rfl, (and255 _).1, (and255 _).2, hi⟩

theorem spec_l01Below_eq {l : List Int} (hn : l.length ≤ 140737488351232) (i h n : Int) (hi : curB l i) (h1 : 1 ≤ n) : ∃ v i' h', spec_l01Below.f l i h n = some (v, i', h') ∧ 0 ≤ v ∧ v < n ∧ curB l i' := by
  unfold spec_l01Below.f
  rw [if_neg (by omega)]
  by_cases h2 : n ≤ 256
  · rw [if_pos h2]
    obtain ⟨b, i', h', e, b0, b1, hi'⟩ := spec_l01Byte_eq hn i h hi
    rw [e]
    simp only [Option.bind_some]
    rw [if_neg (by omega)]
    exact ⟨_, _, _, rfl, Int.tmod_nonneg _ b0, Int.tmod_lt_of_pos _ (by omega), hi'⟩
  · rw [if_neg h2]
    obtain ⟨x, i1, h1', e, x0, x1, hi1⟩ := spec_l01Byte_eq hn i h hi
    rw [e]
    simp only [Option.bind_some]
    obtain ⟨y, i2, h2', e2, y0, y1, hi2⟩ := spec_l01Byte_eq hn i1 h1' hi1
    rw [e2]
    simp only [Option.bind_some]
    obtain ⟨z, i3, h3', e3, z0, z1, hi3⟩ := spec_l01Byte_eq hn i2 h2' hi2
    rw [e3]
    simp only [Option.bind_some]
    obtain ⟨u, i4, h4', e4, u0, u1, hi4⟩ := spec_l01Byte_eq hn i3 h3' hi3
    rw [e4]
    simp only [Option.bind_some]
    rw [if_neg (by omega), w64 (x := x * 16777216) (by omega) (by omega), w64 (x := y * 65536) (by omega) (by omega), w64 (x := z * 256) (by omega) (by omega), w64 (x := x * 16777216 + y * 65536) (by omega) (by omega),
      w64 (x := x * 16777216 + y * 65536 + z * 256) (by omega) (by omega), w64 (x := x * 16777216 + y * 65536 + z * 256 + u) (by omega) (by omega)]
    exact ⟨_, _, _, rfl, Int.tmod_nonneg _ (by omega), Int.tmod_lt_of_pos _ (by omega), hi4⟩

theorem spec_l01In_eq (a b c : Int) : spec_l01In.f a b c = some (decide (b ≤ a ∧ a ≤ c)) := by
  unfold spec_l01In.f; by_cases h : a ≥ b <;> by_cases h2 : a ≤ c <;> simp [h, h2]; all_goals omega

theorem spec_UsualPlan_eq {k : Nat} (b : Int) (hk : 12 ≤ k) : spec_UsualPlan.f k b = some (usualF b) := by
  obtain ⟨k, rfl⟩ : ∃ m, k = m + 12 := ⟨k - 12, by omega⟩
  unfold spec_UsualPlan.f usualF
  by_cases h : 0 ≤ b ∧ b ≤ 5000
  · rw [if_pos h]
    simp [spec_UsualPlan.l0, spec_l01In_eq, h, wrap64, usualL, rd]
  · rw [if_neg h]
    simp [spec_UsualPlan.l0, spec_l01In_eq, h]

theorem spec_l01Once_eq {l : List Int} (hn : l.length ≤ 140737488351232) (i h n : Int) (hi : curB l i) (h1 : 1 ≤ n) : ∃ b i' h', spec_l01Once.f l i h n = some (b, i', h') ∧ curB l i' := by
  obtain ⟨v, i', h', e, _, _, c⟩ := spec_l01Below_eq hn i h n hi h1
  unfold spec_l01Once.f
  rw [e]
  exact ⟨_, _, _, rfl, c⟩

theorem spec_l01PickInt_eq {l : List Int} (hn : l.length ≤ 140737488351232) (i h : Int) (p : List Int) (hi : curB l i) (h1 : 1 ≤ p.length) : ∃ v i' h', spec_l01PickInt.f l i h p = some (v, i', h') ∧ v ∈ p ∧ curB l i' := by
  obtain ⟨v, i', h', e, v0, v1, c⟩ := spec_l01Below_eq hn i h (p.length : Int) hi (by omega)
  unfold spec_l01PickInt.f
  rw [e]
  simp only [Option.bind_some]
  rw [if_pos v0, if_pos v1]
  obtain ⟨n, rfl⟩ : ∃ n : Nat, v = n := ⟨v.toNat, by omega⟩
  exact ⟨_, _, _, rfl, rd_mem (by omega), c⟩

theorem spec_l19Plan_l0 {L : List Int} (hn : L.length ≤ 140737488351232) (d : Nat) : ∀ (k : Nat) (x : List St) (i : Nat) (ci ch : Int), drawn x → x.length = 11 → i + d = 11 → d < k → curB L ci →
    ∃ p i' h', spec_l19Plan.l0 k x (i : Int) L ci ch = some (p, i', h') ∧ drawn p ∧ p.length ≤ 11 := by
  induction d with
  | zero =>
    intro k x i ci ch hx hl hi hk hc
    obtain ⟨k, rfl⟩ : ∃ m, k = m + 1 := ⟨k - 1, by omega⟩
    simp only [spec_l19Plan.l0]
    rw [if_neg (by omega)]
    obtain ⟨v, i1, h1, e1, v0, v1, c1⟩ := spec_l01Below_eq hn ci ch 12 hc (by omega)
    rw [e1]
    simp only [Option.bind_some]
    obtain ⟨u, i2, h2, e2, hu, c2⟩ := spec_l01PickInt_eq hn i1 h1 [11, 11, 11, v] c1 (by simp)
    rw [e2]
    simp only [Option.bind_some]
    have hu' : 0 ≤ u ∧ u ≤ 11 := by
      simp at hu
      omega
    rw [if_pos hu'.1, if_pos (by omega)]
    exact ⟨_, _, _, rfl, drawn_take hx _, by simp; omega⟩
  | succ d ih =>
    intro k x i ci ch hx hl hi hk hc
    obtain ⟨k, rfl⟩ : ∃ m, k = m + 1 := ⟨k - 1, by omega⟩
    simp only [spec_l19Plan.l0]
    rw [if_pos (by omega)]
    obtain ⟨v, i1, h1, e1, v0, v1, c1⟩ := spec_l01Below_eq hn ci ch 1500 hc (by omega)
    rw [e1]
    simp only [Option.bind_some]
    rw [if_pos (by omega)]
    obtain ⟨b, i2, h2, e2, c2⟩ := spec_l01Once_eq hn i1 h1 5 c1 (by omega)
    rw [e2]
    simp only [Option.bind_some, Int.toNat_natCast]
    have ho := drawn_at hx (show i < x.length by omega)
    obtain ⟨s1, s2, s3⟩ := ho
    simp only [stepOk, decide_eq_true_eq] at s1
    have hb : dOk ⟨(rd_T32 x (i : Int)).f0, (rd_T32 x (i : Int)).f1, (rd_T32 x (i : Int)).f2, v⟩ i := by
      refine ⟨?_, by simp only; omega, s3⟩
      simp only [stepOk, decide_eq_true_eq]
      omega
    rw [up_one (n := 20) (by omega) (by omega), rdT_set (by omega)]
    by_cases c : b = true
    · rw [if_pos c]
      refine ih k _ (i + 1) i2 h2 (drawn_set (drawn_set hx hb) ⟨?_, by simp only; omega, fun h => absurd h (by simp)⟩) (by simpa using hl) (by omega) (by omega) c2
      simp only [stepOk, decide_eq_true_eq]
      exact ⟨.inr trivial, ⟨by omega, by omega⟩, s1.2.2.1, s1.2.2.2.1, s1.2.2.2.2⟩
    · rw [if_neg c]
      exact ih k _ (i + 1) i2 h2 (drawn_set hx hb) (by simpa using hl) (by omega) (by omega) c2
theorem spec_l19Plan_eq {k : Nat} {L : List Int} (hk : 12 ≤ k) (hn : L.length ≤ 140737488351232) (ci ch : Int) (hc : curB L ci) : ∃ p i' h', spec_l19Plan.f k L ci ch = some (p, i', h') ∧ drawn p ∧ p.length ≤ 11 := by
  unfold spec_l19Plan.f
  rw [spec_UsualPlan_eq 0 hk]
  simp only [Option.bind_some]
  exact spec_l19Plan_l0 hn 11 k _ 0 ci ch drawn_usual (by simp [usualF, usualL]) (by omega) (by omega) hc

theorem spec_DrawPlan_eq {k : Nat} {l : List Int} (hk : l.length + 12 < k) (hn : l.length ≤ 140737488351232) : ∃ s p, spec_DrawPlan.f k l = some (s, p) ∧ 200000 ≤ s ∧ s < 300000 ∧ drawn p ∧ p.length ≤ 11 := by
  unfold spec_DrawPlan.f
  obtain ⟨h, e⟩ := spec_l01New_eq (k := k) (by omega) hn
  rw [e]
  simp only [Option.bind_some]
  obtain ⟨a, i1, h1, e1, a0, a1, c1⟩ := spec_l01Below_eq hn 0 h 100000 ⟨by omega, by omega⟩ (by omega)
  rw [e1]
  simp only [Option.bind_some]
  obtain ⟨p, i2, h2, e2, d2, l2⟩ := spec_l19Plan_eq (k := k) (by omega) hn i1 h1 c1
  rw [e2]
  simp only [Option.bind_some]
  refine ⟨_, _, rfl, ?_, ?_, d2, l2⟩ <;> rw [w64 (by omega) (by omega)] <;> omega

theorem impl_within_eq (a b c : Int) : impl_within.f a b c = some (decide (b ≤ a ∧ a ≤ c)) := by
  unfold impl_within.f; by_cases h : b ≤ a <;> by_cases h2 : a ≤ c <;> simp [h, h2]

theorem impl_PlanOk_l0 (d : Nat) : ∀ (k : Nat) (l : List St) (i : Nat), i + d = l.length → d < k → i ≤ 11 → impl_PlanOk.l0 k l (tuD i) (i : Int) = some (planAt (l.drop i) i) := by
  induction d with
  | zero =>
    intro k l i hi hk h11
    obtain ⟨k, rfl⟩ : ∃ m, k = m + 1 := ⟨k - 1, by omega⟩
    simp only [impl_PlanOk.l0]
    rw [if_neg (by omega), List.drop_eq_nil_of_le (by omega)]
    have : (l.length : Int) ≤ 11 := by omega
    simp [planAt, this]
  | succ d ih =>
    intro k l i hi hk h11
    obtain ⟨k, rfl⟩ : ∃ m, k = m + 1 := ⟨k - 1, by omega⟩
    simp only [impl_PlanOk.l0]
    rw [if_pos (by omega), if_pos (by omega), drop_rdT (by omega)]
    simp only [planAt]
    have e : impl_PlanOk.ok (rd_T32 l (i : Int)) (tuD i) = stepOk (rd_T32 l (i : Int)) i := okD _ h11
    rw [e]
    cases c : stepOk (rd_T32 l (i : Int)) i with
    | false => simp
    | true =>
      have c' := c
      simp only [stepOk, decide_eq_true_eq] at c'
      rw [if_pos rfl, show ((rd_T32 l (i : Int)).f1).toNat = i + 1 by omega, tuD_set i (by omega), show wrap64 ((i : Int) + 1) = ((i + 1 : Nat) : Int) by rw [w64 (by omega) (by omega)]; omega, ih k l (i + 1) (by omega) (by omega) (by omega)]
      simp
theorem impl_PlanOk_eq {k : Nat} {l : List St} (hk : l.length < k) : impl_PlanOk.f k l = some (planB l) := by
  unfold impl_PlanOk.f
  by_cases c : (l.length : Int) > 11
  · rw [if_pos c]
    cases h : planB l with
    | false => rfl
    | true => exact absurd (planB_len h) (by omega)
  · rw [if_neg c]
    exact impl_PlanOk_l0 l.length k l 0 (by omega) hk (by omega)

theorem sort_Ints_eq {l : List Int} (h0 : 0 < l.length) (h1 : l.length ≤ 1048576) : sort_Ints.f l = some (l.mergeSort fun x y => decide (x ≤ y)) := by
  unfold sort_Ints.f
  rw [if_pos h0, if_pos (by omega)]
theorem sort_sorted {l : List Int} (h : l.Pairwise (· ≤ ·)) : (l.mergeSort fun x y => decide (x ≤ y)) = l :=
  List.mergeSort_of_pairwise (h.imp (by simp))

theorem impl_KeysTuned_l0 (d : Nat) : ∀ (k : Nat) (l : List St) (i : Nat), planB l = true → i + d = l.length → d < k →
    impl_KeysTuned.l0 k (keysL i) l (l.length : Int) (i : Int) = some (keysL l.length) := by
  induction d with
  | zero =>
    intro k l i hp hi hk
    obtain ⟨k, rfl⟩ : ∃ m, k = m + 1 := ⟨k - 1, by omega⟩
    have h11 := planB_len hp
    have hl := keysL_len i
    simp only [impl_KeysTuned.l0]
    rw [if_neg (by omega), sort_Ints_eq (by omega) (by omega), sort_sorted (keysL_sorted i)]
    simp only [Option.bind_some]
    rw [show i = l.length by omega]
  | succ d ih =>
    intro k l i hp hi hk
    obtain ⟨k, rfl⟩ : ∃ m, k = m + 1 := ⟨k - 1, by omega⟩
    have h11 := planB_len hp
    have hl := keysL_len i
    simp only [impl_KeysTuned.l0]
    rw [if_pos (by omega), if_pos (by omega), if_pos (by omega), if_pos (by omega), (planB_at hp (show i < l.length by omega)).2.2.2, keysL_succ, up_one (n := l.length) (by omega) (by omega), ih k l (i + 1) hp (by omega) (by omega)]
theorem impl_KeysTuned_eq {k : Nat} {l : List St} (hk : l.length < k) : impl_KeysTuned.f k l = some (keysF l) := by
  unfold impl_KeysTuned.f keysF
  rw [impl_PlanOk_eq hk]
  simp only [Option.bind_some]
  by_cases hp : planB l = true
  · rw [if_pos hp, if_pos hp]
    exact impl_KeysTuned_l0 l.length k l 0 hp (by omega) hk
  · rw [if_neg hp, if_neg hp]

theorem impl_stepTo_l0 (d : Nat) : ∀ (k : Nat) (l : List St) (a : Int) (i : Nat), planB l = true → i + d = l.length → d < k →
    impl_stepTo.l0 k a l (l.length : Int) (i : Int) = some (if (i : Int) + 1 ≤ a ∧ a ≤ l.length then a - 1 else -1) := by
  induction d with
  | zero =>
    intro k l a i hp hi hk
    obtain ⟨k, rfl⟩ : ∃ m, k = m + 1 := ⟨k - 1, by omega⟩
    simp only [impl_stepTo.l0]
    rw [if_neg (by omega), if_neg (by omega)]
  | succ d ih =>
    intro k l a i hp hi hk
    obtain ⟨k, rfl⟩ : ∃ m, k = m + 1 := ⟨k - 1, by omega⟩
    have hl := planB_len hp
    simp only [impl_stepTo.l0]
    rw [if_pos (by omega), if_pos (by omega), if_pos (by omega), (planB_at hp (show i < l.length by omega)).2.2.2]
    by_cases c : (i : Int) + 1 = a
    · rw [if_pos c, if_pos (by omega)]
      exact congrArg some (by omega)
    · rw [if_neg c, up_one (n := l.length) (by omega) (by omega), ih k l a (i + 1) hp (by omega) (by omega)]
      by_cases c2 : ((i + 1 : Nat) : Int) + 1 ≤ a ∧ a ≤ l.length
      · rw [if_pos c2, if_pos (by omega)]
      · rw [if_neg c2, if_neg (by omega)]
theorem impl_stepTo_eq {k : Nat} {l : List St} (a : Int) (hp : planB l = true) (hk : l.length < k) : impl_stepTo.f k l a = some (if 1 ≤ a ∧ a ≤ l.length then a - 1 else -1) := by
  have := impl_stepTo_l0 l.length k l a 0 hp (by omega) hk
  unfold impl_stepTo.f
  simpa using this

theorem impl_DepthOf_nat (l : List St) (hp : planB l = true) : ∀ (n k : Nat) (c : Int), n ≤ l.length → l.length + n + 1 < k → 0 ≤ c → c + n ≤ 100 → impl_DepthOf.l0 k l (n : Int) c = some (c + n) := by
  have hl := planB_len hp
  intro n
  induction n with
  | zero =>
    intro k c hn hk hc hc2
    obtain ⟨k, rfl⟩ : ∃ m, k = m + 1 := ⟨k - 1, by omega⟩
    simp only [impl_DepthOf.l0]
    simp
  | succ n ih =>
    intro k c hn hk hc hc2
    obtain ⟨k, rfl⟩ : ∃ m, k = m + 1 := ⟨k - 1, by omega⟩
    simp only [impl_DepthOf.l0]
    rw [if_neg (by omega), impl_stepTo_eq _ hp (by omega), if_pos (by omega)]
    simp only [Option.bind_some]
    rw [if_neg (by omega), if_pos (by omega), if_pos (by omega), show (((n + 1 : Nat) : Int) - 1) = (n : Int) by omega, (planB_at hp (show n < l.length by omega)).2.2.1, w64 (by omega) (by omega), ih k (c + 1) (by omega) (by omega) (by omega) (by omega)]
    exact congrArg some (by omega)
theorem impl_DepthOf_eq {k : Nat} {l : List St} (a : Int) (hk : l.length + 13 < k) : impl_DepthOf.f k l a = some (depthF l a) := by
  unfold depthF impl_DepthOf.f
  rw [impl_PlanOk_eq (by omega)]
  simp only [Option.bind_some]
  by_cases hp : planB l = true
  · have hl := planB_len hp
    rw [if_pos hp, if_pos hp]
    by_cases c : 0 ≤ a ∧ a ≤ l.length
    · rw [if_pos c]
      obtain ⟨n, rfl⟩ : ∃ n : Nat, a = n := ⟨a.toNat, by omega⟩
      rw [impl_DepthOf_nat l hp n k 0 (by omega) (by omega) (by omega) (by omega)]
      simp
    · rw [if_neg c]
      obtain ⟨k, rfl⟩ : ∃ m, k = m + 1 := ⟨k - 1, by omega⟩
      simp only [impl_DepthOf.l0]
      rw [if_neg (by omega), impl_stepTo_eq _ hp (by omega), if_neg (by omega)]
      simp
  · rw [if_neg hp, if_neg hp]

theorem impl_DeepestKey_l0 (d : Nat) : ∀ (k : Nat) (l : List St) (i : Nat), planB l = true → i + d = l.length + 1 → l.length + d + 20 < k →
    impl_DeepestKey.l0 k l (((i - 1 : Nat) : Int)) (keysL l.length) ((keysL l.length).length : Int) (i : Int) = some (l.length : Int) := by
  induction d with
  | zero =>
    intro k l i hp hi hk
    obtain ⟨k, rfl⟩ : ∃ m, k = m + 1 := ⟨k - 1, by omega⟩
    have hl := keysL_len l.length
    simp only [impl_DeepestKey.l0]
    rw [if_neg (by omega)]
    exact congrArg some (by omega)
  | succ d ih =>
    intro k l i hp hi hk
    obtain ⟨k, rfl⟩ : ∃ m, k = m + 1 := ⟨k - 1, by omega⟩
    have h11 := planB_len hp
    have hl := keysL_len l.length
    simp only [impl_DeepestKey.l0]
    rw [if_pos (by omega), if_pos (by omega), if_pos (by omega), keysL_rd (by omega), impl_DepthOf_eq _ (by omega)]
    simp only [Option.bind_some]
    rw [impl_DepthOf_eq _ (by omega)]
    simp only [Option.bind_some]
    rw [depthF_at hp (by omega), depthF_at hp (by omega), up_one (n := 20) (by omega) (by omega)]
    have := ih k l (i + 1) hp (by omega) (by omega)
    rw [show i + 1 - 1 = i by omega] at this
    by_cases c : i = 0
    · subst c
      rw [if_neg (by omega)]
      exact this
    · rw [if_pos (by omega), this]
theorem impl_DeepestKey_eq {k : Nat} {l : List St} (hk : 2 * l.length + 30 < k) : impl_DeepestKey.f k l = some (deepF l) := by
  unfold impl_DeepestKey.f deepF
  rw [impl_PlanOk_eq (by omega)]
  simp only [Option.bind_some]
  by_cases hp : planB l = true
  · rw [if_pos hp, if_pos hp, impl_KeysTuned_eq (by omega), keysF, if_pos hp]
    exact impl_DeepestKey_l0 (l.length + 1) k l 0 hp (by omega) (by omega)
  · rw [if_neg hp, if_neg hp]

theorem laws_at_eq {l : List Int} {a : Int} (hn : l.length ≤ 1048576) (h0 : 0 ≤ a) (h1 : a ≤ 100) (hx : ∀ x ∈ l, (Lit.int .u8 x).wf = true) : ∃ v, laws_at.f l a = some v ∧ 0 ≤ v ∧ v ≤ 255 := by
  unfold laws_at.f
  by_cases c : (l.length : Int) = 0
  · rw [if_pos c]
    exact ⟨0, rfl, by omega, by omega⟩
  · rw [if_neg c, w64 (x := a * 5) (by omega) (by omega), w64 (x := a * 5 + 1) (by omega) (by omega)]
    have p := Int.tmod_nonneg (a := a * 5 + 1) (l.length : Int) (by omega)
    have q : Int.tmod (a * 5 + 1) (l.length : Int) < l.length := by
      have := tmod_lt (a * 5 + 1) (b := (l.length : Int)) c
      omega
    generalize Int.tmod (a * 5 + 1) (l.length : Int) = t at p q ⊢
    rw [if_pos p, if_pos q]
    obtain ⟨n, rfl⟩ : ∃ n : Nat, t = n := ⟨t.toNat, by omega⟩
    have := wfu8 (hx _ (rd_mem (l := l) (i := n) (by omega)))
    rw [w64 (by omega) (by omega)]
    exact ⟨_, rfl, this.1, this.2⟩

theorem impl_copyPlan_eq {l : List St} (h : l.length ≤ 1048576) : impl_copyPlan.f l = some l := by
  unfold impl_copyPlan.f
  simp only [Option.bind_some, List.length_nil, List.nil_append]
  rw [if_pos (by omega)]

theorem impl_Mistune_eq {k : Nat} {l : List St} (i c : Int) (hk : l.length + 2 < k) (hn : l.length ≤ 1048576) : impl_Mistune.f k l i c = some (mistF l i c) := by
  obtain ⟨k, rfl⟩ : ∃ m, k = m + 1 := ⟨k - 1, by omega⟩
  unfold impl_Mistune.f mistF
  rw [impl_copyPlan_eq hn, impl_PlanOk_eq (by omega)]
  simp only [Option.bind_some, impl_within_eq, impl_Mistune.j0]
  rw [w64 (x := (l.length : Int) - 1) (by omega) (by omega)]
  by_cases hp : planB l = true
  · rw [if_pos hp]
    by_cases hi : 0 ≤ i ∧ i ≤ (l.length : Int) - 1
    · rw [decide_eq_true hi, if_pos rfl]
      by_cases hc : -5000 ≤ c ∧ c ≤ 5000
      · rw [if_pos (c := planB l = true ∧ (0 ≤ i ∧ i ≤ (l.length : Int) - 1) ∧ (-5000 ≤ c ∧ c ≤ 5000)) ⟨hp, hi, hc⟩, decide_eq_true hc]
        simp only [Bool.not_true, Bool.false_eq_true, if_false]
        rw [if_pos (by omega), if_pos (by omega)]
        change ((impl_PlanOk.f k (mistL l i c)).bind fun t => if t = true then some (mistL l i c, true) else (impl_copyPlan.f l).bind fun u => some (u, false)) = _
        rw [impl_PlanOk_eq (by unfold mistL; simp; omega)]
        simp only [Option.bind_some]
        split
        · rfl
        · rw [impl_copyPlan_eq hn]
          rfl
      · rw [if_neg (c := planB l = true ∧ (0 ≤ i ∧ i ≤ (l.length : Int) - 1) ∧ (-5000 ≤ c ∧ c ≤ 5000)) (fun h => hc h.2.2), decide_eq_false hc]
        simp
    · rw [if_neg (c := planB l = true ∧ (0 ≤ i ∧ i ≤ (l.length : Int) - 1) ∧ (-5000 ≤ c ∧ c ≤ 5000)) (fun h => hi h.2.1), decide_eq_false hi]
      simp
  · rw [if_neg (c := planB l = true ∧ (0 ≤ i ∧ i ≤ (l.length : Int) - 1) ∧ (-5000 ≤ c ∧ c ≤ 5000)) (fun h => hp h.1), if_neg hp]
    simp

theorem impl_isFine_eq (a : Int) : impl_isFine.f a = some (decide (1 ≤ a ∧ a ≤ 10000000)) := by
  unfold impl_isFine.f; rw [impl_within_eq]; simp

theorem impl_TunedPitch_eq {k : Nat} (hk : 0 < k) (f kind b : Int) : impl_TunedPitch.f k f kind b = some (tunedF f kind b) := by
  obtain ⟨k, rfl⟩ : ∃ m, k = m + 1 := ⟨k - 1, by omega⟩
  unfold impl_TunedPitch.f tunedF
  simp only [impl_isFine_eq, impl_within_eq, Option.bind_some, impl_TunedPitch.j0]
  by_cases hf : fineB f
  · have hf' : 1 ≤ f ∧ f ≤ 10000000 := hf
    by_cases hb : 0 ≤ b ∧ b ≤ 100000
    · rw [pay3r hf hb 2 (.inl rfl), pay3r hf hb 4 (.inr rfl), payh hf, payd hf]
      simp only [hf', hb, and_self, decide_true, if_true, hf, true_and]
      by_cases k1 : kind = 1
      · subst k1
        have e : tunedN f 1 b = max (3 * f - b) 0 / 2 := by simp [tunedN]
        rw [e]
        by_cases b0 : b = 0 <;> by_cases hn : fineB (max (3 * f - b) 0 / 2) <;> (unfold fineB at hn; simp_all [fineB]) <;> (split <;> rename_i hh <;> simp [hh])
      by_cases k2 : kind = 2
      · subst k2
        have e : tunedN f 2 b = max (3 * f - b) 0 / 4 := by simp [tunedN]
        rw [e]
        by_cases b0 : b = 0 <;> by_cases hn : fineB (max (3 * f - b) 0 / 4) <;> (unfold fineB at hn; simp_all [fineB]) <;> (split <;> rename_i hh <;> simp [hh])
      by_cases k3 : kind = 3
      · subst k3
        by_cases b0 : b = 0
        · have e : tunedN f 3 b = 2 * f := by simp [tunedN, b0]
          rw [e]
          by_cases hn : fineB (2 * f) <;> (unfold fineB at hn; simp_all [fineB]) <;> (split <;> rename_i hh <;> simp [hh])
        · have e : tunedN f 3 b = 0 := by simp [tunedN, b0]
          rw [e]; simp [b0]
      by_cases k4 : kind = 4
      · subst k4
        by_cases b0 : b = 0
        · have e : tunedN f 4 b = f / 2 := by simp [tunedN, b0]
          rw [e]
          by_cases hn : fineB (f / 2) <;> (unfold fineB at hn; simp_all [fineB]) <;> (split <;> rename_i hh <;> simp [hh])
        · have e : tunedN f 4 b = 0 := by simp [tunedN, b0]
          rw [e]; simp [b0]
      have e : tunedN f kind b = 0 := by simp [tunedN, k1, k2, k3, k4]
      rw [e]
      by_cases b0 : b = 0 <;> simp [b0, k1, k2, k3, k4]
    · have hn : ¬ (0 ≤ b ∧ b ≤ 100000 ∧ fineB (tunedN f kind b)) := fun h => hb ⟨h.1, h.2.1⟩
      simp [hf', hb, hn]
  · have hf' : ¬ (1 ≤ f ∧ f ≤ 10000000) := hf
    simp [hf, hf']

theorem impl_RunPlan_l0 (d : Nat) : ∀ (k : Nat) (l : List St) (p : List Int) (i : Nat), planB l = true → p.length = 12 → i + d = l.length → d < k →
    impl_RunPlan.l0 k p l (l.length : Int) (i : Int) = some (match runL (l.drop i) p with | some q => (q, true) | none => ([], false)) := by
  induction d with
  | zero =>
    intro k l p i hp hl hi hk
    obtain ⟨k, rfl⟩ : ∃ m, k = m + 1 := ⟨k - 1, by omega⟩
    simp only [impl_RunPlan.l0]
    rw [if_neg (by omega), List.drop_eq_nil_of_le (by omega)]
    simp [runL]
  | succ d ih =>
    intro k l p i hp hl hi hk
    obtain ⟨k, rfl⟩ : ∃ m, k = m + 1 := ⟨k - 1, by omega⟩
    have hs := planB_at hp (show i < l.length by omega)
    have h11 := planB_len hp
    simp only [impl_RunPlan.l0]
    rw [if_pos (by omega), if_pos (by omega), if_pos (by omega), if_pos (by omega), if_pos (by omega)]
    rw [drop_rdT (by omega)]
    simp only [runL]
    by_cases hk0 : 0 < k
    · rw [impl_TunedPitch_eq hk0]
      simp only [Option.bind_some]
      rw [if_pos (by omega), if_pos (by omega)]
      by_cases c : tunedF (rd p (rd_T32 l (i : Int)).f0) (rd_T32 l (i : Int)).f2 (rd_T32 l (i : Int)).f3 = 0
      · rw [if_pos c, if_pos c]
      · rw [if_neg c, if_neg c, show wrap64 ((i : Int) + 1) = ((i + 1 : Nat) : Int) by rw [w64 (by omega) (by omega)]; omega, ih k l _ (i + 1) hp (by simpa using hl) (by omega) (by omega)]
    · omega
theorem impl_RunPlan_eq {k : Nat} {l : List St} (a : Int) (hk : l.length + 3 < k) : impl_RunPlan.f k a l = some (runF a l) := by
  obtain ⟨k, rfl⟩ : ∃ m, k = m + 1 := ⟨k - 1, by omega⟩
  unfold impl_RunPlan.f runF
  rw [impl_PlanOk_eq (by omega)]
  simp only [Option.bind_some, impl_isFine_eq, impl_RunPlan.j0]
  by_cases hp : planB l = true
  · rw [if_pos hp]
    by_cases hs : 1 ≤ a ∧ a ≤ 10000000
    · rw [if_pos (c := planB l = true ∧ (1 ≤ a ∧ a ≤ 10000000)) ⟨hp, hs⟩, decide_eq_true hs]
      have := impl_RunPlan_l0 l.length k l (a :: List.replicate 11 0) 0 hp (by simp) (by omega) (by omega)
      simp only [Bool.not_true, Bool.false_eq_true, if_false]
      rw [if_pos (by omega), if_pos (by simp)]
      exact this
    · rw [if_neg (c := planB l = true ∧ (1 ≤ a ∧ a ≤ 10000000)) (fun h => hs h.2), decide_eq_false hs]
      simp
  · rw [if_neg (c := planB l = true ∧ (1 ≤ a ∧ a ≤ 10000000)) (fun h => hp h.1), if_neg hp]
    simp

theorem impl_AffectedKeys_l1 (tu : List Bool) (e : Nat) : ∀ (k : Nat) (p : List Int) (i : Nat), i + e = 12 → e < k → p.length ≤ i → impl_AffectedKeys.l1 k p (i : Int) tu = sort_Ints.f (p ++ hitK tu i e) := by
  induction e with
  | zero =>
    intro k p i hi hk hl
    obtain ⟨k, rfl⟩ : ∃ m, k = m + 1 := ⟨k - 1, by omega⟩
    simp only [impl_AffectedKeys.l1, hitK]
    rw [if_neg (by omega), List.append_nil]
    cases sort_Ints.f p <;> rfl
  | succ e ih =>
    intro k p i hi hk hl
    obtain ⟨k, rfl⟩ : ∃ m, k = m + 1 := ⟨k - 1, by omega⟩
    simp only [impl_AffectedKeys.l1, hitK]
    rw [if_pos (by omega), if_pos (by omega), up_one (n := 20) (by omega) (by omega)]
    by_cases c : rdOf false tu (i : Int) = true
    · rw [if_pos c, if_pos c, if_pos (by omega), ih k _ (i + 1) (by omega) (by omega) (by simp; omega)]
      simp
    · rw [if_neg c, if_neg c, ih k _ (i + 1) (by omega) (by omega) (by omega)]
theorem impl_AffectedKeys_l0 (a : Nat) (ha : a < 11) (d : Nat) : ∀ (k : Nat) (l : List St) (i : Nat), planB l = true → i + d = l.length → d + 20 < k →
    impl_AffectedKeys.l0 k l (l.length : Int) (i : Int) (hitAt a i) = sort_Ints.f (hitK (hitAt a l.length) 0 12) := by
  induction d with
  | zero =>
    intro k l i hp hi hk
    obtain ⟨k, rfl⟩ : ∃ m, k = m + 1 := ⟨k - 1, by omega⟩
    simp only [impl_AffectedKeys.l0]
    rw [if_neg (by omega), show i = l.length by omega]
    have := impl_AffectedKeys_l1 (hitAt a l.length) 12 k [] 0 (by omega) (by omega) (by simp)
    simpa using this
  | succ d ih =>
    intro k l i hp hi hk
    obtain ⟨k, rfl⟩ : ∃ m, k = m + 1 := ⟨k - 1, by omega⟩
    have h11 := planB_len hp
    have hs := planB_at hp (show i < l.length by omega)
    simp only [impl_AffectedKeys.l0]
    rw [if_pos (by omega), if_pos (by omega), if_pos (by omega), hs.2.2.1, hs.2.2.2, if_pos (by omega), if_pos (by omega), if_pos (by omega), if_pos (by omega), up_one (n := 20) (by omega) (by omega), show ((i : Int) + 1).toNat = i + 1 by omega]
    have st := hit_step a ha i (by omega)
    by_cases c : rdOf false (hitAt a i) (i : Int) = true
    · rw [if_pos c] at st ⊢
      rw [st]
      exact ih k l (i + 1) hp (by omega) (by omega)
    · rw [if_neg c] at st ⊢
      rw [st]
      exact ih k l (i + 1) hp (by omega) (by omega)
theorem impl_AffectedKeys_eq {k : Nat} {l : List St} (a : Int) (hk : l.length + 40 < k) (hn : l.length ≤ 1048576) : impl_AffectedKeys.f k l a = some (affF l a) := by
  obtain ⟨k, rfl⟩ : ∃ m, k = m + 1 := ⟨k - 1, by omega⟩
  unfold impl_AffectedKeys.f affF
  rw [impl_PlanOk_eq (by omega)]
  simp only [Option.bind_some, impl_within_eq, impl_AffectedKeys.j0]
  rw [w64 (x := (l.length : Int) - 1) (by omega) (by omega)]
  by_cases hp : planB l = true
  · rw [if_pos hp]
    by_cases hi : 0 ≤ a ∧ a ≤ (l.length : Int) - 1
    · have h11 := planB_len hp
      rw [decide_eq_true hi, if_pos (c := planB l = true ∧ (0 ≤ a ∧ a ≤ (l.length : Int) - 1)) ⟨hp, hi⟩]
      simp only [Bool.not_true, Bool.false_eq_true, if_false]
      obtain ⟨n, rfl⟩ : ∃ n : Nat, a = n := ⟨a.toNat, by omega⟩
      have hs := planB_at hp (show n < l.length by omega)
      have e := impl_AffectedKeys_l0 n (by omega) l.length k l 0 hp (by omega) (by omega)
      have hl := hitK_len (hitAt n l.length) 12 0
      rw [if_pos (by omega), if_pos (by omega), hs.2.2.2, if_pos (by omega), if_pos (by omega), show ((n : Int) + 1).toNat = n + 1 by omega, hit_start n (by omega), Int.toNat_natCast]
      refine e.trans ?_
      rw [sort_Ints_eq (hit_pos n (by omega) l.length (by omega)) (by omega), sort_sorted (hitK_sorted _ _ _)]
    · rw [decide_eq_false hi, if_neg (c := planB l = true ∧ (0 ≤ a ∧ a ≤ (l.length : Int) - 1)) (fun h => hi h.2)]
      simp
  · rw [if_neg hp, if_neg (c := planB l = true ∧ (0 ≤ a ∧ a ≤ (l.length : Int) - 1)) (fun h => hp h.1)]
    simp

theorem laws_has_l0 (d : Nat) : ∀ (k : Nat) (l : List Int) (x : Int) (i : Nat), i + d = l.length → d < k → l.length ≤ 1048576 → laws_has.l0 k l x (i : Int) = some (decide (x ∈ l.drop i)) := by
  induction d with
  | zero =>
    intro k l x i hi hk hn
    obtain ⟨k, rfl⟩ : ∃ m, k = m + 1 := ⟨k - 1, by omega⟩
    simp only [laws_has.l0]
    rw [if_neg (by omega), List.drop_eq_nil_of_le (by omega)]
    simp
  | succ d ih =>
    intro k l x i hi hk hn
    obtain ⟨k, rfl⟩ : ∃ m, k = m + 1 := ⟨k - 1, by omega⟩
    simp only [laws_has.l0]
    rw [if_pos (by omega), if_pos (by omega), up_one (n := l.length) (by omega) (by omega), ih k l x (i + 1) (by omega) (by omega) hn, drop_rd (l := l) (i := i) (by omega)]
    by_cases h : rd l (i : Int) = x
    · rw [if_pos h]; simp [h]
    · rw [if_neg h]; simp [Ne.symm h]
theorem laws_has_eq {k : Nat} {l : List Int} (x : Int) (hk : l.length < k) (hn : l.length ≤ 1048576) : laws_has.f k l x = some (decide (x ∈ l)) := by
  unfold laws_has.f
  have := laws_has_l0 l.length k l x 0 (by omega) hk hn
  simpa using this

theorem impl_ErrorBound_nat (l : List St) (w : Int) (hp : planB l = true) (h0 : 0 ≤ w) (h1 : w ≤ 5000) : ∀ (n k : Nat), n ≤ l.length → l.length + 15 + 2 * n + 1 < k → impl_ErrorBound.f k l (n : Int) w = some (errN l w n) := by
  have hl := planB_len hp
  intro n
  induction n with
  | zero =>
    intro k hn hk
    obtain ⟨k, rfl⟩ : ∃ m, k = m + 2 := ⟨k - 2, by omega⟩
    unfold impl_ErrorBound.f
    rw [impl_DepthOf_eq _ (by omega), depthF, if_pos hp, if_pos (by omega)]
    simp only [Option.bind_some]
    rw [if_neg (by omega), impl_within_eq, decide_eq_true (⟨h0, h1⟩ : 0 ≤ w ∧ w ≤ 5000)]
    simp [impl_ErrorBound.j0, errN]
  | succ n ih =>
    intro k hn hk
    obtain ⟨k, rfl⟩ : ∃ m, k = m + 2 := ⟨k - 2, by omega⟩
    unfold impl_ErrorBound.f
    rw [impl_DepthOf_eq _ (by omega), depthF, if_pos hp, if_pos (by omega)]
    simp only [Option.bind_some]
    rw [if_neg (by omega), impl_within_eq, decide_eq_true (⟨h0, h1⟩ : 0 ≤ w ∧ w ≤ 5000)]
    simp only [Option.bind_some, impl_ErrorBound.j0, Bool.not_true, Bool.false_eq_true, if_false]
    rw [if_neg (by omega), impl_stepTo_eq _ hp (by omega), if_pos (by omega)]
    simp only [Option.bind_some]
    have hs := planB_at hp (show n < l.length by omega)
    rw [if_pos (by omega), if_pos (by omega), show (((n + 1 : Nat) : Int) - 1) = (n : Int) by omega, hs.2.2.1, ih k (by omega) (by omega)]
    simp only [Option.bind_some]
    have hb := errN_small hp h0 h1 (show n ≤ l.length by omega)
    rw [w64 (x := 3 * errN l w n) (by omega) (by omega), w64 (x := 3 * errN l w n + w) (by omega) (by omega)]
    have t2 : Int.tdiv (3 * errN l w n + w) 2 = (3 * errN l w n + w) / 2 := Int.tdiv_eq_ediv_of_nonneg (by omega)
    have t4 : Int.tdiv (3 * errN l w n + w) 4 = (3 * errN l w n + w) / 4 := Int.tdiv_eq_ediv_of_nonneg (by omega)
    simp only [errN]
    rcases hs.1 with hk | hk <;> rw [hk]
    · rw [if_pos rfl, t2, w64 (x := (3 * errN l w n + w) / 2) (by omega) (by omega), w64 (by omega) (by omega)]
      simp
    · rw [if_neg (by omega), t4, w64 (x := (3 * errN l w n + w) / 4) (by omega) (by omega), w64 (by omega) (by omega)]
      simp
theorem impl_ErrorBound_eq {k : Nat} {l : List St} (a w : Int) (hk : l.length + 60 < k) : impl_ErrorBound.f k l a w = some (errF l a w) := by
  unfold errF
  by_cases c : depthF l a < 0 ∨ ¬ (0 ≤ w ∧ w ≤ 5000)
  · rw [if_pos c]
    obtain ⟨k, rfl⟩ : ∃ m, k = m + 2 := ⟨k - 2, by omega⟩
    unfold impl_ErrorBound.f
    rw [impl_DepthOf_eq _ (by omega)]
    simp only [Option.bind_some]
    by_cases d : depthF l a < 0
    · rw [if_pos d]
      simp [impl_ErrorBound.j0]
    · rw [if_neg d, impl_within_eq, decide_eq_false (c.resolve_left d)]
      simp [impl_ErrorBound.j0]
  · rw [if_neg c]
    have d := fun h => c (Or.inl h)
    have e : 0 ≤ w ∧ w ≤ 5000 := Classical.not_not.mp fun h => c (Or.inr h)
    unfold depthF at d
    by_cases hp : planB l = true
    · rw [if_pos hp] at d
      have hl := planB_len hp
      by_cases c3 : 0 ≤ a ∧ a ≤ l.length
      · obtain ⟨n, rfl⟩ : ∃ n : Nat, a = n := ⟨a.toNat, by omega⟩
        exact impl_ErrorBound_nat l w hp e.1 e.2 n k (by omega) (by omega)
      · rw [if_neg c3] at d
        exact absurd (by omega) d
    · rw [if_neg hp] at d
      exact absurd (by omega) d

theorem tmod_rng {x n : Int} (hx : 0 ≤ x) (hn : 0 < n) : 0 ≤ Int.tmod x n ∧ Int.tmod x n < n := by
  rw [Int.tmod_eq_emod_of_nonneg hx]
  exact ⟨Int.emod_nonneg _ (by omega), Int.emod_lt_of_pos _ hn⟩
theorem mem_keys {n m : Nat} : ((m : Int) ∈ keysL n) ↔ m ≤ n := by
  unfold keysL
  simp only [List.mem_map, List.mem_range]
  constructor
  · rintro ⟨a, h, e⟩
    have : (a : Int) = m := e
    omega
  · intro h
    exact ⟨m, by omega, rfl⟩
theorem mem_hitK (tu : List Bool) (j : Nat) : ∀ e i, (j : Int) ∈ hitK tu i e ↔ (i ≤ j ∧ j < i + e ∧ rdOf false tu (j : Int) = true)
  | 0, i => by simp [hitK]; omega
  | e + 1, i => by
    have ih := mem_hitK tu j e (i + 1)
    simp only [hitK]
    by_cases c : rdOf false tu (i : Int) = true
    · rw [if_pos c, List.mem_cons, ih]
      constructor
      · rintro (h | ⟨h1, h2, h3⟩)
        · have : j = i := by omega
          rw [this]
          exact ⟨Nat.le_refl _, by omega, c⟩
        · exact ⟨by omega, by omega, h3⟩
      · rintro ⟨h1, h2, h3⟩
        by_cases e : j = i
        · left; rw [e]
        · right; exact ⟨by omega, by omega, h3⟩
    · rw [if_neg c, ih]
      constructor
      · rintro ⟨h1, h2, h3⟩
        exact ⟨by omega, by omega, h3⟩
      · rintro ⟨h1, h2, h3⟩
        by_cases e : j = i
        · rw [e] at h3; exact absurd h3 c
        · exact ⟨by omega, by omega, h3⟩
theorem mem_aff {l : List St} (hp : planB l = true) {a j : Nat} (ha : a < l.length) (hj : j < 12) : ((j : Int) ∈ affF l (a : Int)) ↔ (a + 1 ≤ j ∧ j ≤ l.length) := by
  unfold affF
  rw [if_pos ⟨hp, by omega, by omega⟩, mem_hitK, Int.toNat_natCast, hitAt, hitD_at _ _ (by omega), decide_eq_true_eq]
  omega
/-- The plan with the mistake. -/
theorem bad_ok {p : List St} (hd : drawn p) {a : Nat} (ha : a < p.length) {n : Int} (h0 : 0 ≤ n) (h1 : n < 50) :
    mistF p (a : Int) n = (mistL p (a : Int) n, true) ∧ runnable (mistL p (a : Int) n) ∧ (mistL p (a : Int) n).length = p.length ∧
    (∀ j : Nat, j < p.length → (rd_T32 (mistL p (a : Int) n) (j : Int)).f2 = (rd_T32 p (j : Int)).f2 ∧ (rd_T32 (mistL p (a : Int) n) (j : Int)).f3 = (rd_T32 p (j : Int)).f3 + (if j = a then n else 0)) := by
  have ho := drawn_at hd ha
  have hr := drawn_run hd
  obtain ⟨s1, s2, s3⟩ := ho
  have s1' := s1
  simp only [stepOk, decide_eq_true_eq] at s1'
  have hw : wrap64 ((rd_T32 p (a : Int)).f3 + n) = (rd_T32 p (a : Int)).f3 + n := w64 (by omega) (by omega)
  have hl : (mistL p (a : Int) n).length = p.length := by simp [mistL]
  have hX : mistL p (a : Int) n = p.set a ⟨(rd_T32 p (a : Int)).f0, (rd_T32 p (a : Int)).f1, (rd_T32 p (a : Int)).f2, (rd_T32 p (a : Int)).f3 + n⟩ := by
    unfold mistL
    rw [hw, Int.toNat_natCast]
  have z := (drawn_run hd a ha)
  rw [← rdT_nat ha] at z
  have hrun : runnable (mistL p (a : Int) n) := by
    rw [hX]
    intro j hj
    have hj' : j < p.length := by simpa using hj
    rw [List.getElem_set]
    split
    · rename_i e
      subst e
      refine ⟨?_, by simp only; omega, z.2.2⟩
      simp only [stepOk, decide_eq_true_eq]
      exact ⟨s1'.1, ⟨by omega, by omega⟩, s1'.2.2.1, s1'.2.2.2.1, s1'.2.2.2.2⟩
    · exact hr j hj'
  refine ⟨?_, hrun, hl, fun j hj => ?_⟩
  · unfold mistF
    rw [if_pos ⟨drawn_plan hd, ⟨by omega, by omega⟩, by omega, by omega⟩, if_pos (runnable_plan hrun)]
  · rw [hX]
    by_cases e : a = j
    · subst e
      rw [rdT_set ha, if_pos rfl]
      exact ⟨rfl, rfl⟩
    · have : rd_T32 (p.set a ⟨(rd_T32 p (a : Int)).f0, (rd_T32 p (a : Int)).f1, (rd_T32 p (a : Int)).f2, (rd_T32 p (a : Int)).f3 + n⟩) (j : Int) = rd_T32 p (j : Int) := by
        rw [rdT_nat (by simpa using hj), rdT_nat hj, List.getElem_set, if_neg e]
      rw [this, if_neg (Ne.symm e)]
      exact ⟨rfl, by omega⟩
theorem spread_bound {p b : List St} {s n : Int} {a : Nat} {q r : List Int} (hp : runnable p) (hb : runnable b) (hl : b.length = p.length) (h0 : 0 ≤ n) (h1 : n < 50)
    (hs : ∀ j : Nat, j < p.length → (rd_T32 b (j : Int)).f2 = (rd_T32 p (j : Int)).f2 ∧ (rd_T32 b (j : Int)).f3 = (rd_T32 p (j : Int)).f3 + (if j = a then n else 0))
    (hq : RunOk p s p.length q) (hr : RunOk b s b.length r) : ∀ j : Nat, j ≤ p.length → (j ≤ a → rd q (j : Int) = rd r (j : Int)) ∧ rd q (j : Int) - rd r (j : Int) ≤ errN p n j ∧ rd r (j : Int) - rd q (j : Int) ≤ errN p n j
  | 0, _ => by
    rw [hq.first, hr.first]
    simp [errN]
  | j + 1, hj => by
    have ih := spread_bound hp hb hl h0 h1 hs hq hr j (by omega)
    have h11 := planB_len (runnable_plan hp)
    obtain ⟨t1, t2, t3, _⟩ := tuned_step (runnable_at hp (show j < p.length by omega)) (by omega) (hq.rng j (by omega))
    obtain ⟨u1, u2, u3, _⟩ := tuned_step (runnable_at hb (show j < b.length by omega)) (by omega) (hr.rng j (by omega))
    have e1 := hq.step j (by omega)
    have e2 := hr.step j (by omega)
    obtain ⟨g1, g2⟩ := hs j (by omega)
    rw [t1] at e1
    rw [u1, g1, g2] at e2
    rw [e1, e2]
    simp only [errN]
    obtain ⟨i1, i2, i3⟩ := ih
    by_cases c : j = a
    · rw [if_pos c]
      refine ⟨fun h => absurd h (by omega), ?_⟩
      rcases t2 with k | k <;> rw [k] <;> omega
    · rw [if_neg c]
      refine ⟨fun h => by rw [i1 (by omega), Int.add_zero], ?_⟩
      rcases t2 with k | k <;> rw [k] <;> omega
theorem spread_l0 {p b : List St} {s n : Int} {a : Nat} {q r : List Int} (hp : runnable p) (hb : runnable b) (hl : b.length = p.length) (ha : a < p.length) (h0 : 0 ≤ n) (h1 : n < 50)
    (hs : ∀ j : Nat, j < p.length → (rd_T32 b (j : Int)).f2 = (rd_T32 p (j : Int)).f2 ∧ (rd_T32 b (j : Int)).f3 = (rd_T32 p (j : Int)).f3 + (if j = a then n else 0))
    (hq : RunOk p s p.length q) (hr : RunOk b s b.length r) (e : Nat) : ∀ (k i : Nat), i + e = 12 → e + 200 < k → laws_FnSpread.l0 k p (a : Int) n q r (affF p (a : Int)) (i : Int) = some true := by
  have hB := runnable_plan hp
  have h11 := planB_len hB
  have hkl := keysF_len p
  have hal := affF_len p (a : Int)
  have hql := hq.len
  have hrl := hr.len
  induction e with
  | zero =>
    intro k i hi hk
    obtain ⟨k, rfl⟩ : ∃ m, k = m + 1 := ⟨k - 1, by omega⟩
    simp only [laws_FnSpread.l0]
    rw [if_neg (by omega), if_pos (by omega), if_pos (by omega), (planB_at hB ha).2.2.2, show (a : Int) + 1 = ((a + 1 : Nat) : Int) by omega, laws_has_eq _ (by omega) (by omega), Option.bind_some, decide_eq_true ((mem_aff hB ha (by omega)).mpr ⟨by omega, by omega⟩)]
  | succ e ih =>
    intro k i hi hk
    obtain ⟨k, rfl⟩ : ∃ m, k = m + 1 := ⟨k - 1, by omega⟩
    have hi2 := ih k (i + 1) (by omega) (by omega)
    have hm : ((i : Int) ∈ keysF p) ↔ i ≤ p.length := by
      unfold keysF
      rw [if_pos hB]
      exact mem_keys
    have hma := mem_aff hB ha (j := i) (by omega)
    have hE : i ≤ p.length → impl_ErrorBound.f k p (i : Int) n = some (errN p n i) := by
      intro h
      rw [impl_ErrorBound_eq _ _ (by omega), errF, if_neg (by rw [depthF_at hB h]; omega), Int.toNat_natCast]
    have hv : mx (wrap64 (rd q (i : Int) - rd r (i : Int))) (wrap64 (rd r (i : Int) - rd q (i : Int))) = max (rd q (i : Int) - rd r (i : Int)) (rd r (i : Int) - rd q (i : Int)) := by
      have z : (0 ≤ rd q (i : Int) ∧ rd q (i : Int) ≤ 10000000) ∧ (0 ≤ rd r (i : Int) ∧ rd r (i : Int) ≤ 10000000) := by
        by_cases c : i ≤ p.length
        · have x1 := hq.rng i c
          have x2 := hr.rng i (by omega)
          have x3 := loT_ge i (by omega)
          have x4 := hiT_le i (by omega)
          omega
        · have x1 := hq.rest i (by omega) (by omega)
          have x2 := hr.rest i (by omega) (by omega)
          omega
      rw [mx_def, w64 (by omega) (by omega), w64 (by omega) (by omega)]
    simp only [laws_FnSpread.l0]
    rw [if_pos (by omega), if_pos (by omega), if_pos (by omega), if_pos (by omega), laws_has_eq _ (by omega) (by omega), Option.bind_some, hv, up_one (n := 20) (by omega) (by omega), impl_KeysTuned_eq (by omega), Option.bind_some, laws_has_eq _ (by omega) (by omega), Option.bind_some, hi2]
    by_cases c : a + 1 ≤ i ∧ i ≤ p.length
    · have sb := spread_bound hp hb hl h0 h1 hs hq hr i c.2
      rw [decide_eq_true (hma.mpr c), if_pos rfl, decide_eq_true (hm.mpr c.2), if_pos rfl, hE c.2, Option.bind_some, if_neg (by omega)]
    · rw [decide_eq_false (fun h => c (hma.mp h)), if_neg (by simp)]
      by_cases c2 : i ≤ p.length
      · have sb := spread_bound hp hb hl h0 h1 hs hq hr i c2
        have e0 := sb.1 (by omega)
        rw [if_pos (by omega), decide_eq_true (hm.mpr c2), if_pos rfl, hE c2, Option.bind_some, if_neg (by omega)]
      · have x1 := hq.rest i (by omega) (by omega)
        have x2 := hr.rest i (by omega) (by omega)
        rw [if_pos (by omega), decide_eq_false (fun h => c2 (hm.mp h)), if_neg (by simp)]
theorem FnSpread : laws_FnSpread.Pure := by
  intro l _ hl hx
  obtain ⟨K, hK⟩ : ∃ K : Nat, l.length + 3000 ≤ K := ⟨_, Nat.le_refl _⟩
  refine ⟨K + 1, ?_⟩
  unfold laws_FnSpread.f
  rw [laws_big_eq]
  simp only [Option.bind_some, decide_eq_true_eq]
  by_cases hb : (l.length : Int) > 1048576
  · rw [if_pos hb]
  · rw [if_neg hb]
    obtain ⟨s, p, e, s0, s1, hd, h11⟩ := spec_DrawPlan_eq (k := K + 1) (l := l) (by omega) (by omega)
    have hp := drawn_run hd
    have hB := drawn_plan hd
    rw [e, Option.bind_some]
    dsimp only
    by_cases c0 : (p.length : Int) = 0
    · rw [if_pos c0, impl_DeepestKey_eq (by omega), Option.bind_some, deepF, if_pos hB, c0]
      rfl
    · rw [if_neg c0]
      obtain ⟨u0, e0, u00, u01⟩ := laws_at_eq (l := l) (a := 0) (by omega) (by omega) (by omega) hx
      obtain ⟨u1, e1, u10, u11⟩ := laws_at_eq (l := l) (a := 1) (by omega) (by omega) (by omega) hx
      rw [e0, Option.bind_some, e1, Option.bind_some]
      have r0 := tmod_rng (x := u0) (n := (p.length : Int)) u00 (by omega)
      have r1 := tmod_rng (x := u1) (n := 50) u10 (by omega)
      generalize Int.tmod u1 50 = n at r1 ⊢
      obtain ⟨a, ha⟩ : ∃ a : Nat, Int.tmod u0 (p.length : Int) = a := ⟨(Int.tmod u0 (p.length : Int)).toNat, by omega⟩
      rw [ha] at r0 ⊢
      obtain ⟨m1, m2, m3, m4⟩ := bad_ok hd (show a < p.length by omega) r1.1 r1.2
      obtain ⟨q, hq1, hq⟩ := runF_ok hp s0 s1
      obtain ⟨r, hr1, hr⟩ := runF_ok m2 s0 s1
      have hql := hq.len
      have hrl := hr.len
      have hz := spread_l0 hp m2 m3 (show a < p.length by omega) r1.1 r1.2 m4 hq hr 12 K 0 (by omega) (by omega)
      have hj : ∀ b : Bool, b = false → laws_FnSpread.j0 (K + 1) p (a : Int) n q r b = some true := by
        rintro b rfl
        simp only [laws_FnSpread.j0, Bool.false_eq_true, if_false]
        rw [impl_AffectedKeys_eq _ (by omega) (by omega), Option.bind_some]
        exact hz
      rw [impl_Mistune_eq _ _ (by omega) (by omega), Option.bind_some, m1]
      dsimp only
      rw [if_pos rfl, impl_RunPlan_eq _ (by omega), Option.bind_some, hq1]
      dsimp only
      rw [impl_RunPlan_eq _ (by omega), Option.bind_some, hr1]
      dsimp only
      rw [if_pos rfl, if_pos rfl, if_pos (by omega)]
      refine hj _ ?_
      rw [hrl]
      rfl

end Go.Proofs.Ythhcpfaabnanoaa.Pure
