/- Each key is one step deeper than the one it is tuned from: for every code the law returns true. No condition. -/
import Derived.Test.YthhcpfaabnanoaaPFnDepthsx1
import Derived.Test.YthhcpfaabnanoaaPFnDepthsx2
import Derived.Test.YthhcpfaabnanoaaPFnDepthsx3
import Derived.OpenShut
namespace Go.Proofs.Ythhcpfaabnanoaa.Pure
open Go.RowKit Go.Proofs.Ythhcpfaabnanoaa.PFnDepths Go.Proofs.YthhcpfaabnanoaaW.PrintWords Go.Proofs.YthhcpfaabnanoaaW.PrintLast Go.Proofs.YthhcpfaabnanoaaW.PrintMore
set_option linter.unusedVariables false
set_option linter.unusedSimpArgs false
theorem w64 {x : Int} (h : -9223372036854775808 ≤ x) (h' : x ≤ 9223372036854775807) : wrap64 x = x := by unfold wrap64; omega
theorem wf64 {x : Int} (h : (Lit.int .i64 x).wf = true) : -9223372036854775808 ≤ x ∧ x ≤ 9223372036854775807 := by
  simp only [Lit.wf, IntKind.min, IntKind.max, IntKind.signed, IntKind.bits, Bool.and_eq_true, decide_eq_true_eq, if_true] at h
  omega
theorem wfu8 {x : Int} (h : (Lit.int .u8 x).wf = true) : 0 ≤ x ∧ x ≤ 255 := by
  simp [Lit.wf, IntKind.min, IntKind.max, IntKind.signed, IntKind.bits] at h
  omega
theorem mx_def (a b : Int) : mx a b = max a b := by unfold mx; omega
theorem mn_def (a b : Int) : mn a b = min a b := by unfold mn; omega
theorem fuel {n k : Nat} (h : n < k) : ∃ m, k = m + 1 ∧ n ≤ m := ⟨k - 1, by omega, by omega⟩
theorem gcd_tmod (a b : Int) : Int.gcd b (Int.tmod a b) = Int.gcd a b := by
  unfold Int.gcd
  rw [Int.natAbs_tmod, Nat.gcd_comm, ← Nat.gcd_rec, Nat.gcd_comm]
theorem tmod_lt (a : Int) {b : Int} (h : b ≠ 0) : (Int.tmod a b).natAbs < b.natAbs := by
  rw [Int.natAbs_tmod]
  exact Nat.mod_lt _ (by omega)
theorem drop_rd {l : List Int} {i : Nat} (h : i < l.length) : l.drop i = rd l (i : Int) :: l.drop (i + 1) := by
  rw [List.drop_eq_getElem_cons h]
  simp [rd, List.getD, List.getElem?_eq_getElem h]
theorem rd_get {l : List Int} {i : Nat} (h : i < l.length) : rd l (i : Int) = l[i] := by simp [rd, List.getD, List.getElem?_eq_getElem h]
theorem up_one {i n : Nat} (h : i < n) (hn : n ≤ 9223372036854775807) : wrap64 ((i : Int) + 1) = ((i + 1 : Nat) : Int) := by rw [w64 (by omega) (by omega)]; omega
theorem rd_mem {l : List Int} {i : Nat} (h : i < l.length) : rd l (i : Int) ∈ l := by rw [rd_get h]; exact List.getElem_mem h
theorem maxLen_le {n : Nat} (h : n ≤ maxLen) : (n : Int) ≤ 9223372036854775807 := by unfold maxLen at h; omega

abbrev St := S32
theorem rdT_nat {x : List St} {i : Nat} (h : i < x.length) : rd_T32 x (i : Int) = x[i] := by simp [rd_T32, List.getD, List.getElem?_eq_getElem h]
theorem rdT_set {x : List St} {i : Nat} (h : i < x.length) (v : St) : rd_T32 (x.set i v) (i : Int) = v := by
  rw [rdT_nat (by simpa using h)]
  simp
theorem st_eta (s : St) : (⟨s.f0, s.f1, s.f2, s.f3⟩ : St) = s := rfl
theorem st_ext {s t : St} (h0 : s.f0 = t.f0) (h1 : s.f1 = t.f1) (h2 : s.f2 = t.f2) (h3 : s.f3 = t.f3) : s = t := by
  cases s; cases t; simp at h0 h1 h2 h3; subst h0 h1 h2 h3; rfl
def stB (s t : St) : Bool := decide (s.f0 = t.f0 ∧ s.f1 = t.f1 ∧ s.f2 = t.f2 ∧ s.f3 = t.f3)
theorem stB_iff (s t : St) : stB s t = true ↔ s = t := by
  unfold stB
  rw [decide_eq_true_eq]
  exact ⟨fun ⟨a, b, c, d⟩ => st_ext a b c d, fun h => by rw [h]; simp⟩
instance : DecidableEq St := fun s t => decidable_of_iff (stB s t = true) (stB_iff s t)
theorem drop_rdT {x : List St} {i : Nat} (h : i < x.length) : x.drop i = rd_T32 x (i : Int) :: x.drop (i + 1) := by
  rw [List.drop_eq_getElem_cons h, rdT_nat h]

/-- Step number i of a plan that runs key after key from key 0. -/
def stepOk (s : St) (i : Nat) : Bool := decide ((s.f2 = 1 ∨ s.f2 = 2) ∧ (0 ≤ s.f3 ∧ s.f3 ≤ 5000) ∧ s.f0 = i ∧ s.f1 = i + 1 ∧ i ≤ 10)
def planAt : List St → Nat → Bool
  | [], _ => true
  | s :: l, i => stepOk s i && planAt l (i + 1)
/-- A plan that holds. -/
def planB (l : List St) : Bool := planAt l 0
theorem planAt_len : ∀ (l : List St) (i : Nat), i ≤ 11 → planAt l i = true → i + l.length ≤ 11
  | [], i, hi, _ => by simpa using hi
  | s :: l, i, hi, h => by
    simp only [planAt, stepOk, Bool.and_eq_true, decide_eq_true_eq] at h
    have := planAt_len l (i + 1) (by omega) h.2
    simp only [List.length_cons]
    omega
theorem planAt_get : ∀ (l : List St) (i : Nat), planAt l i = true → ∀ (j : Nat) (h : j < l.length), stepOk l[j] (i + j) = true
  | [], _, _, j, h => absurd h (by simp)
  | s :: l, i, hp, j, h => by
    simp only [planAt, Bool.and_eq_true] at hp
    cases j with
    | zero => simpa using hp.1
    | succ j =>
      have := planAt_get l (i + 1) hp.2 j (by simpa using h)
      rw [show i + (j + 1) = i + 1 + j by omega]
      simpa using this
theorem planB_len {l : List St} (h : planB l = true) : l.length ≤ 11 := by have := planAt_len l 0 (by omega) h; omega
theorem planB_at {l : List St} (h : planB l = true) {j : Nat} (hj : j < l.length) :
    ((rd_T32 l (j : Int)).f2 = 1 ∨ (rd_T32 l (j : Int)).f2 = 2) ∧ (0 ≤ (rd_T32 l (j : Int)).f3 ∧ (rd_T32 l (j : Int)).f3 ≤ 5000) ∧ (rd_T32 l (j : Int)).f0 = j ∧ (rd_T32 l (j : Int)).f1 = (j : Int) + 1 := by
  have := planAt_get l 0 h j hj
  rw [rdT_nat hj]
  simp only [stepOk, decide_eq_true_eq, Nat.zero_add] at this
  exact ⟨this.1, this.2.1, this.2.2.1, this.2.2.2.1⟩
/-- Keys 0 to i are tuned. -/
def tuD (i : Nat) : List Bool := (List.range 12).map fun j => decide (j ≤ i)
theorem tuD_len (i : Nat) : (tuD i).length = 12 := by simp [tuD]
theorem tuD_at (i : Nat) {x : Int} (h0 : 0 ≤ x) (h1 : x ≤ 11) : rdOf false (tuD i) x = decide (x ≤ i) := by
  obtain ⟨n, rfl⟩ : ∃ n : Nat, x = n := ⟨x.toNat, by omega⟩
  unfold rdOf tuD
  simp [List.getD, List.getElem?_map, List.getElem?_range (show n < 12 by omega)]
theorem tuD_set : ∀ i, i < 11 → (tuD i).set (i + 1) true = tuD (i + 1) := by decide
theorem okD (s : St) {i : Nat} (hi : i ≤ 11) : decide ((s.f2 = 1 ∨ s.f2 = 2) ∧ (0 ≤ s.f3 ∧ s.f3 ≤ 5000) ∧ (0 ≤ s.f0 ∧ s.f0 ≤ 11) ∧ (0 ≤ s.f1 ∧ s.f1 ≤ 11) ∧ s.f1 = (s.f0 + 1) % 12 ∧ rdOf false (tuD i) s.f0 = true ∧ rdOf false (tuD i) s.f1 = false) = stepOk s i := by
  unfold stepOk
  by_cases h : (0 ≤ s.f0 ∧ s.f0 ≤ 11) ∧ (0 ≤ s.f1 ∧ s.f1 ≤ 11)
  · rw [tuD_at i h.1.1 h.1.2, tuD_at i h.2.1 h.2.2]
    refine decide_eq_decide.mpr ⟨fun ⟨a, b, _, _, e, f, g⟩ => ?_, fun ⟨a, b, c, d, e⟩ => ?_⟩
    · simp only [decide_eq_true_eq, decide_eq_false_iff_not] at f g
      refine ⟨a, b, ?_, ?_, ?_⟩ <;> omega
    · simp only [decide_eq_true_eq, decide_eq_false_iff_not]
      refine ⟨a, b, h.1, h.2, ?_, ?_, ?_⟩ <;> omega
  · refine decide_eq_decide.mpr ⟨fun ⟨a, b, c, d, _⟩ => absurd ⟨c, d⟩ h, fun ⟨a, b, c, d, e⟩ => absurd ⟨⟨?_, ?_⟩, ?_, ?_⟩ h⟩ <;> omega

/-- How many steps lie under a key. -/
def depthF (l : List St) (a : Int) : Int := if planB l = true then (if 0 ≤ a ∧ a ≤ l.length then a else -1) else -1
theorem depthF_at {l : List St} (hp : planB l = true) {n : Nat} (h : n ≤ l.length) : depthF l (n : Int) = n := by
  unfold depthF
  rw [if_pos hp, if_pos (by omega)]
theorem depthF_out {l : List St} (hp : planB l = true) {n : Nat} (h : ¬ n ≤ l.length) : depthF l (n : Int) = -1 := by
  unfold depthF
  rw [if_pos hp, if_neg (by omega)]
theorem depthF_no {l : List St} (hp : ¬ planB l = true) (a : Int) : depthF l a = -1 := by
  unfold depthF
  rw [if_neg hp]

/-- What a key may be off by, when each step is off by no more than w; kinds of the steps from the key down. -/
def errN (l : List St) (w : Int) : Nat → Int
  | 0 => 0
  | n + 1 => (3 * errN l w n + w) / (2 * (rd_T32 l (n : Int)).f2) + 1
theorem errN_rng {l : List St} (hp : planB l = true) {w : Int} (h0 : 0 ≤ w) (h1 : w ≤ 5000) : ∀ n : Nat, n ≤ l.length → 0 ≤ errN l w n ∧ errN l w n ≤ 5001 * 2 ^ n
  | 0, _ => by simp [errN]
  | n + 1, hn => by
    have ih := errN_rng hp h0 h1 n (by omega)
    have hk := (planB_at hp (show n < l.length by omega)).1
    have p : (1 : Int) ≤ 2 ^ n := by have := Int.pow_pos (n := 2) (m := n) (by omega); omega
    have e : (2 : Int) ^ (n + 1) = 2 * 2 ^ n := by rw [Int.pow_succ]; omega
    rw [e]
    simp only [errN]
    generalize (2 : Int) ^ n = P at *
    rcases hk with hk | hk <;> rw [hk] <;> omega
theorem errN_small {l : List St} (hp : planB l = true) {w : Int} (h0 : 0 ≤ w) (h1 : w ≤ 5000) {n : Nat} (hn : n ≤ l.length) : 0 ≤ errN l w n ∧ errN l w n ≤ 20000000 := by
  have a := errN_rng hp h0 h1 n hn
  have b := planB_len hp
  have : (2 : Int) ^ n ≤ 2048 := by
    have h : n ≤ 11 := by omega
    revert h; clear a hn
    intro h
    have := Nat.pow_le_pow_right (n := 2) (by omega) h
    have e : ((2 ^ n : Nat) : Int) = 2 ^ n := by simp
    omega
  generalize (2 : Int) ^ n = P at *
  omega
/-- The bound. -/
def errF (l : List St) (a w : Int) : Int := if depthF l a < 0 ∨ ¬ (0 ≤ w ∧ w ≤ 5000) then -1 else errN l w a.toNat

/-- The keys 0 to n. -/
def keysL (n : Nat) : List Int := (List.range (n + 1)).map Int.ofNat
theorem keysL_len (n : Nat) : (keysL n).length = n + 1 := by simp [keysL]
theorem keysL_succ (n : Nat) : keysL n ++ [((n : Int) + 1)] = keysL (n + 1) := by
  simp [keysL, List.range_succ]
theorem keysL_sorted (n : Nat) : (keysL n).Pairwise (· ≤ ·) := by
  unfold keysL
  rw [List.pairwise_map]
  exact List.pairwise_lt_range.imp (by intro a b h; simp; omega)
theorem keysL_rd {n i : Nat} (h : i ≤ n) : rd (keysL n) (i : Int) = i := by
  rw [rd_get (by rw [keysL_len]; omega)]
  simp [keysL]
/-- The keys that a plan tunes, in order. -/
def keysF (l : List St) : List Int := if planB l = true then keysL l.length else []
theorem keysF_len (l : List St) : (keysF l).length ≤ 12 := by
  unfold keysF
  split
  · rename_i h; have := planB_len h; rw [keysL_len]; omega
  · simp
/-- The keys from i on, of e, that are no more than n. -/
def tailK (n : Nat) : Nat → Nat → List Int
  | _, 0 => []
  | i, e + 1 => if i ≤ n then (i : Int) :: tailK n (i + 1) e else tailK n (i + 1) e
theorem tailK_all : ∀ n, n < 12 → tailK n 0 12 = keysL n := by decide
theorem tailK_len (n : Nat) : ∀ e i, (tailK n i e).length ≤ e
  | 0, _ => by simp [tailK]
  | e + 1, i => by
    have := tailK_len n e (i + 1)
    simp only [tailK]
    split <;> simp <;> omega

/-- The deepest key. -/
def deepF (l : List St) : Int := if planB l = true then (l.length : Int) else -1

def usualL (b : Int) : List St := [⟨0, 1, 1, b⟩, ⟨1, 2, 2, b⟩, ⟨2, 3, 1, b⟩, ⟨3, 4, 2, b⟩, ⟨4, 5, 1, b⟩, ⟨5, 6, 2, b⟩, ⟨6, 7, 2, b⟩, ⟨7, 8, 1, b⟩, ⟨8, 9, 2, b⟩, ⟨9, 10, 1, b⟩, ⟨10, 11, 2, b⟩]
/-- The usual plan. -/
def usualF (b : Int) : List St := if 0 ≤ b ∧ b ≤ 5000 then usualL b else []
theorem usualF_len (b : Int) : (usualF b).length ≤ 11 := by unfold usualF usualL; split <;> simp

/-- A step as it is drawn. -/
def dOk (s : St) (i : Nat) : Prop := stepOk s i = true ∧ s.f3 ≤ 1499 ∧ (s.f2 = 1 → i = 0 ∨ i = 2 ∨ i = 4 ∨ i = 7 ∨ i = 9)
def drawn (l : List St) : Prop := ∀ (j : Nat) (h : j < l.length), dOk l[j] j
theorem planAt_of : ∀ (l : List St) (i : Nat), (∀ (j : Nat) (h : j < l.length), stepOk l[j] (i + j) = true) → planAt l i = true
  | [], _, _ => rfl
  | s :: l, i, h => by
    simp only [planAt, Bool.and_eq_true]
    refine ⟨h 0 (by simp), planAt_of l (i + 1) fun j hj => ?_⟩
    have := h (j + 1) (by simpa using hj)
    rw [show i + 1 + j = i + (j + 1) by omega]
    simpa using this
theorem drawn_plan {l : List St} (h : drawn l) : planB l = true := planAt_of l 0 fun j hj => by simpa using (h j hj).1
theorem drawn_set {l : List St} (h : drawn l) {i : Nat} {s : St} (hs : dOk s i) : drawn (l.set i s) := by
  intro j hj
  have hj' : j < l.length := by simpa using hj
  rw [List.getElem_set]
  split
  · rename_i e; subst e; exact hs
  · exact h j hj'
theorem drawn_take {l : List St} (h : drawn l) (n : Nat) : drawn (l.take n) := by
  intro j hj
  have hj' : j < l.length := by simp at hj; omega
  rw [List.getElem_take]
  exact h j hj'
theorem drawn_usual : drawn (usualF 0) := by
  intro j hj
  have hj' : j < 11 := by simpa [usualF, usualL] using hj
  revert hj
  have : ∀ j, j < 11 → ∀ (hj : j < (usualF 0).length), dOk (usualF 0)[j] j := by
    intro j h hj
    simp only [usualF, usualL, dOk, stepOk]
    match j, h with
    | 0, _ => simp
    | 1, _ => simp
    | 2, _ => simp
    | 3, _ => simp
    | 4, _ => simp
    | 5, _ => simp
    | 6, _ => simp
    | 7, _ => simp
    | 8, _ => simp
    | 9, _ => simp
    | 10, _ => simp
  exact this j hj'
theorem drawn_at {l : List St} (h : drawn l) {i : Nat} (hi : i < l.length) : dOk (rd_T32 l (i : Int)) i := by
  rw [rdT_nat hi]
  exact h i hi

/-- The last eight bits of whatever: a byte. -/
theorem and255 (x : Int) : 0 ≤ Go.bits .and .i64 x 255 ∧ Go.bits .and .i64 x 255 ≤ 255 := by
  have e : (BitVec.ofInt IntKind.i64.bits 255).toNat = 255 := by decide
  have h : Go.bits .and .i64 x 255 = IntKind.i64.wrap (((BitVec.ofInt IntKind.i64.bits x).toNat &&& 255 : Nat) : Int) := by
    unfold Go.bits
    simp only [BitVec.toNat_and]
    rw [e]
  have hle : (BitVec.ofInt IntKind.i64.bits x).toNat &&& 255 ≤ 255 := Nat.and_le_right
  rw [h, IntKind.wrap_i64]
  omega
/-- A cursor into the code. -/
def curB (l : List Int) (i : Int) : Prop := 0 ≤ i ∧ i ≤ (l.length : Int)

theorem laws_big_eq (l : List Int) : laws_big.f l = some (decide ((l.length : Int) > 1048576)) := rfl

theorem spec_l01New_l0 (d : Nat) : ∀ (k : Nat) (l : List Int) (h : Int) (i : Nat), i + d = l.length → d < k → l.length ≤ 140737488351232 → ∃ h', spec_l01New.l0 k l h (i : Int) = some (l, 0, h') := by
  induction d with
  | zero =>
    intro k l h i hi hk hn
    obtain ⟨k, rfl⟩ : ∃ m, k = m + 1 := ⟨k - 1, by omega⟩
    simp only [spec_l01New.l0]
    rw [if_neg (by omega)]
    exact ⟨h, rfl⟩
  | succ d ih =>
    intro k l h i hi hk hn
    obtain ⟨k, rfl⟩ : ∃ m, k = m + 1 := ⟨k - 1, by omega⟩
    simp only [spec_l01New.l0]
    rw [if_pos (by omega), up_one (n := l.length) (by omega) (by omega)]
    by_cases h4 : (i : Int) < 4000
    · rw [if_pos h4, if_pos (by omega)]
      exact ih k l _ (i + 1) (by omega) (by omega) hn
    · rw [if_neg h4]
      exact ⟨h, rfl⟩
theorem spec_l01New_eq {k : Nat} {l : List Int} (hk : l.length < k) (hn : l.length ≤ 140737488351232) : ∃ h, spec_l01New.f k l = some (l, 0, h) := by
  unfold spec_l01New.f
  exact spec_l01New_l0 l.length k l _ 0 (by omega) hk hn

theorem spec_l01Byte_eq {l : List Int} (hn : l.length ≤ 140737488351232) (i h : Int) (hi : curB l i) : ∃ b i' h', spec_l01Byte.f l i h = some (b, i', h') ∧ 0 ≤ b ∧ b ≤ 255 ∧ curB l i' := by
  unfold curB at *
  unfold spec_l01Byte.f
  by_cases hc : i < (l.length : Int)
  · rw [if_pos hc, if_pos hi.1]
    refine ⟨_, _, _, rfl, (and255 _).1, (and255 _).2, ?_⟩
    rw [w64 (by omega) (by omega)]
    omega
  · rw [if_neg hc]
    exact ⟨_, _, _, rfl, (and255 _).1, (and255 _).2, hi⟩

theorem spec_l01Below_eq {l : List Int} (hn : l.length ≤ 140737488351232) (i h n : Int) (hi : curB l i) (h1 : 1 ≤ n) : ∃ v i' h', spec_l01Below.f l i h n = some (v, i', h') ∧ 0 ≤ v ∧ v < n ∧ curB l i' := by
  unfold spec_l01Below.f
  rw [if_neg (by omega)]
  by_cases h2 : n ≤ 256
  · rw [if_pos h2]
    obtain ⟨b, i', h', e, b0, b1, hi'⟩ := spec_l01Byte_eq hn i h hi
    rw [e]
    simp only [Option.bind_some]
    rw [if_neg (by omega)]
    exact ⟨_, _, _, rfl, Int.tmod_nonneg _ b0, Int.tmod_lt_of_pos _ (by omega), hi'⟩
  · rw [if_neg h2]
    obtain ⟨x, i1, h1', e, x0, x1, hi1⟩ := spec_l01Byte_eq hn i h hi
    rw [e]
    simp only [Option.bind_some]
    obtain ⟨y, i2, h2', e2, y0, y1, hi2⟩ := spec_l01Byte_eq hn i1 h1' hi1
    rw [e2]
    simp only [Option.bind_some]
    obtain ⟨z, i3, h3', e3, z0, z1, hi3⟩ := spec_l01Byte_eq hn i2 h2' hi2
    rw [e3]
    simp only [Option.bind_some]
    obtain ⟨u, i4, h4', e4, u0, u1, hi4⟩ := spec_l01Byte_eq hn i3 h3' hi3
    rw [e4]
    simp only [Option.bind_some]
    rw [if_neg (by omega), w64 (x := x * 16777216) (by omega) (by omega), w64 (x := y * 65536) (by omega) (by omega), w64 (x := z * 256) (by omega) (by omega), w64 (x := x * 16777216 + y * 65536) (by omega) (by omega),
      w64 (x := x * 16777216 + y * 65536 + z * 256) (by omega) (by omega), w64 (x := x * 16777216 + y * 65536 + z * 256 + u) (by omega) (by omega)]
    exact ⟨_, _, _, rfl, Int.tmod_nonneg _ (by omega), Int.tmod_lt_of_pos _ (by omega), hi4⟩

theorem spec_l01In_eq (a b c : Int) : spec_l01In.f a b c = some (decide (b ≤ a ∧ a ≤ c)) := by
  unfold spec_l01In.f; by_cases h : a ≥ b <;> by_cases h2 : a ≤ c <;> simp [h, h2]; all_goals omega

theorem spec_UsualPlan_eq {k : Nat} (b : Int) (hk : 12 ≤ k) : spec_UsualPlan.f k b = some (usualF b) := by
  obtain ⟨k, rfl⟩ : ∃ m, k = m + 12 := ⟨k - 12, by omega⟩
  unfold spec_UsualPlan.f usualF
  by_cases h : 0 ≤ b ∧ b ≤ 5000
  · rw [if_pos h]
    simp [spec_UsualPlan.l0, spec_l01In_eq, h, wrap64, usualL, rd]
  · rw [if_neg h]
    simp [spec_UsualPlan.l0, spec_l01In_eq, h]

theorem spec_l01Once_eq {l : List Int} (hn : l.length ≤ 140737488351232) (i h n : Int) (hi : curB l i) (h1 : 1 ≤ n) : ∃ b i' h', spec_l01Once.f l i h n = some (b, i', h') ∧ curB l i' := by
  obtain ⟨v, i', h', e, _, _, c⟩ := spec_l01Below_eq hn i h n hi h1
  unfold spec_l01Once.f
  rw [e]
  exact ⟨_, _, _, rfl, c⟩

theorem spec_l01PickInt_eq {l : List Int} (hn : l.length ≤ 140737488351232) (i h : Int) (p : List Int) (hi : curB l i) (h1 : 1 ≤ p.length) : ∃ v i' h', spec_l01PickInt.f l i h p = some (v, i', h') ∧ v ∈ p ∧ curB l i' := by
  obtain ⟨v, i', h', e, v0, v1, c⟩ := spec_l01Below_eq hn i h (p.length : Int) hi (by omega)
  unfold spec_l01PickInt.f
  rw [e]
  simp only [Option.bind_some]
  rw [if_pos v0, if_pos v1]
  obtain ⟨n, rfl⟩ : ∃ n : Nat, v = n := ⟨v.toNat, by omega⟩
  exact ⟨_, _, _, rfl, rd_mem (by omega), c⟩

theorem spec_l19Plan_l0 {L : List Int} (hn : L.length ≤ 140737488351232) (d : Nat) : ∀ (k : Nat) (x : List St) (i : Nat) (ci ch : Int), drawn x → x.length = 11 → i + d = 11 → d < k → curB L ci →
    ∃ p i' h', spec_l19Plan.l0 k x (i : Int) L ci ch = some (p, i', h') ∧ drawn p ∧ p.length ≤ 11 := by
  induction d with
  | zero =>
    intro k x i ci ch hx hl hi hk hc
    obtain ⟨k, rfl⟩ : ∃ m, k = m + 1 := ⟨k - 1, by omega⟩
    simp only [spec_l19Plan.l0]
    rw [if_neg (by omega)]
    obtain ⟨v, i1, h1, e1, v0, v1, c1⟩ := spec_l01Below_eq hn ci ch 12 hc (by omega)
    rw [e1]
    simp only [Option.bind_some]
    obtain ⟨u, i2, h2, e2, hu, c2⟩ := spec_l01PickInt_eq hn i1 h1 [11, 11, 11, v] c1 (by simp)
    rw [e2]
    simp only [Option.bind_some]
    have hu' : 0 ≤ u ∧ u ≤ 11 := by
      simp at hu
      omega
    rw [if_pos hu'.1, if_pos (by omega)]
    exact ⟨_, _, _, rfl, drawn_take hx _, by simp; omega⟩
  | succ d ih =>
    intro k x i ci ch hx hl hi hk hc
    obtain ⟨k, rfl⟩ : ∃ m, k = m + 1 := ⟨k - 1, by omega⟩
    simp only [spec_l19Plan.l0]
    rw [if_pos (by omega)]
    obtain ⟨v, i1, h1, e1, v0, v1, c1⟩ := spec_l01Below_eq hn ci ch 1500 hc (by omega)
    rw [e1]
    simp only [Option.bind_some]
    rw [if_pos (by omega)]
    obtain ⟨b, i2, h2, e2, c2⟩ := spec_l01Once_eq hn i1 h1 5 c1 (by omega)
    rw [e2]
    simp only [Option.bind_some, Int.toNat_natCast]
    have ho := drawn_at hx (show i < x.length by omega)
    obtain ⟨s1, s2, s3⟩ := ho
    simp only [stepOk, decide_eq_true_eq] at s1
    have hb : dOk ⟨(rd_T32 x (i : Int)).f0, (rd_T32 x (i : Int)).f1, (rd_T32 x (i : Int)).f2, v⟩ i := by
      refine ⟨?_, by simp only; omega, s3⟩
      simp only [stepOk, decide_eq_true_eq]
      omega
    rw [up_one (n := 20) (by omega) (by omega), rdT_set (by omega)]
    by_cases c : b = true
    · rw [if_pos c]
      refine ih k _ (i + 1) i2 h2 (drawn_set (drawn_set hx hb) ⟨?_, by simp only; omega, fun h => absurd h (by simp)⟩) (by simpa using hl) (by omega) (by omega) c2
      simp only [stepOk, decide_eq_true_eq]
      exact ⟨.inr trivial, ⟨by omega, by omega⟩, s1.2.2.1, s1.2.2.2.1, s1.2.2.2.2⟩
    · rw [if_neg c]
      exact ih k _ (i + 1) i2 h2 (drawn_set hx hb) (by simpa using hl) (by omega) (by omega) c2
theorem spec_l19Plan_eq {k : Nat} {L : List Int} (hk : 12 ≤ k) (hn : L.length ≤ 140737488351232) (ci ch : Int) (hc : curB L ci) : ∃ p i' h', spec_l19Plan.f k L ci ch = some (p, i', h') ∧ drawn p ∧ p.length ≤ 11 := by
  unfold spec_l19Plan.f
  rw [spec_UsualPlan_eq 0 hk]
  simp only [Option.bind_some]
  exact spec_l19Plan_l0 hn 11 k _ 0 ci ch drawn_usual (by simp [usualF, usualL]) (by omega) (by omega) hc

theorem spec_DrawPlan_eq {k : Nat} {l : List Int} (hk : l.length + 12 < k) (hn : l.length ≤ 140737488351232) : ∃ s p, spec_DrawPlan.f k l = some (s, p) ∧ 200000 ≤ s ∧ s < 300000 ∧ drawn p ∧ p.length ≤ 11 := by
  unfold spec_DrawPlan.f
  obtain ⟨h, e⟩ := spec_l01New_eq (k := k) (by omega) hn
  rw [e]
  simp only [Option.bind_some]
  obtain ⟨a, i1, h1, e1, a0, a1, c1⟩ := spec_l01Below_eq hn 0 h 100000 ⟨by omega, by omega⟩ (by omega)
  rw [e1]
  simp only [Option.bind_some]
  obtain ⟨p, i2, h2, e2, d2, l2⟩ := spec_l19Plan_eq (k := k) (by omega) hn i1 h1 c1
  rw [e2]
  simp only [Option.bind_some]
  refine ⟨_, _, rfl, ?_, ?_, d2, l2⟩ <;> rw [w64 (by omega) (by omega)] <;> omega

theorem impl_within_eq (a b c : Int) : impl_within.f a b c = some (decide (b ≤ a ∧ a ≤ c)) := by
  unfold impl_within.f; by_cases h : b ≤ a <;> by_cases h2 : a ≤ c <;> simp [h, h2]

theorem impl_PlanOk_l0 (d : Nat) : ∀ (k : Nat) (l : List St) (i : Nat), i + d = l.length → d < k → i ≤ 11 → impl_PlanOk.l0 k l (tuD i) (i : Int) = some (planAt (l.drop i) i) := by
  induction d with
  | zero =>
    intro k l i hi hk h11
    obtain ⟨k, rfl⟩ : ∃ m, k = m + 1 := ⟨k - 1, by omega⟩
    simp only [impl_PlanOk.l0]
    rw [if_neg (by omega), List.drop_eq_nil_of_le (by omega)]
    have : (l.length : Int) ≤ 11 := by omega
    simp [planAt, this]
  | succ d ih =>
    intro k l i hi hk h11
    obtain ⟨k, rfl⟩ : ∃ m, k = m + 1 := ⟨k - 1, by omega⟩
    simp only [impl_PlanOk.l0]
    rw [if_pos (by omega), if_pos (by omega), drop_rdT (by omega)]
    simp only [planAt]
    have e : impl_PlanOk.ok (rd_T32 l (i : Int)) (tuD i) = stepOk (rd_T32 l (i : Int)) i := okD _ h11
    rw [e]
    cases c : stepOk (rd_T32 l (i : Int)) i with
    | false => simp
    | true =>
      have c' := c
      simp only [stepOk, decide_eq_true_eq] at c'
      rw [if_pos rfl, show ((rd_T32 l (i : Int)).f1).toNat = i + 1 by omega, tuD_set i (by omega), show wrap64 ((i : Int) + 1) = ((i + 1 : Nat) : Int) by rw [w64 (by omega) (by omega)]; omega, ih k l (i + 1) (by omega) (by omega) (by omega)]
      simp
theorem impl_PlanOk_eq {k : Nat} {l : List St} (hk : l.length < k) : impl_PlanOk.f k l = some (planB l) := by
  unfold impl_PlanOk.f
  by_cases c : (l.length : Int) > 11
  · rw [if_pos c]
    cases h : planB l with
    | false => rfl
    | true => exact absurd (planB_len h) (by omega)
  · rw [if_neg c]
    exact impl_PlanOk_l0 l.length k l 0 (by omega) hk (by omega)

theorem sort_Ints_eq {l : List Int} (h0 : 0 < l.length) (h1 : l.length ≤ 1048576) : sort_Ints.f l = some (l.mergeSort fun x y => decide (x ≤ y)) := by
  unfold sort_Ints.f
  rw [if_pos h0, if_pos (by omega)]
theorem sort_sorted {l : List Int} (h : l.Pairwise (· ≤ ·)) : (l.mergeSort fun x y => decide (x ≤ y)) = l :=
  List.mergeSort_of_pairwise (h.imp (by simp))

theorem impl_KeysTuned_l0 (d : Nat) : ∀ (k : Nat) (l : List St) (i : Nat), planB l = true → i + d = l.length → d < k →
    impl_KeysTuned.l0 k (keysL i) l (l.length : Int) (i : Int) = some (keysL l.length) := by
  induction d with
  | zero =>
    intro k l i hp hi hk
    obtain ⟨k, rfl⟩ : ∃ m, k = m + 1 := ⟨k - 1, by omega⟩
    have h11 := planB_len hp
    have hl := keysL_len i
    simp only [impl_KeysTuned.l0]
    rw [if_neg (by omega), sort_Ints_eq (by omega) (by omega), sort_sorted (keysL_sorted i)]
    simp only [Option.bind_some]
    rw [show i = l.length by omega]
  | succ d ih =>
    intro k l i hp hi hk
    obtain ⟨k, rfl⟩ : ∃ m, k = m + 1 := ⟨k - 1, by omega⟩
    have h11 := planB_len hp
    have hl := keysL_len i
    simp only [impl_KeysTuned.l0]
    rw [if_pos (by omega), if_pos (by omega), if_pos (by omega), if_pos (by omega), (planB_at hp (show i < l.length by omega)).2.2.2, keysL_succ, up_one (n := l.length) (by omega) (by omega), ih k l (i + 1) hp (by omega) (by omega)]
theorem impl_KeysTuned_eq {k : Nat} {l : List St} (hk : l.length < k) : impl_KeysTuned.f k l = some (keysF l) := by
  unfold impl_KeysTuned.f keysF
  rw [impl_PlanOk_eq hk]
  simp only [Option.bind_some]
  by_cases hp : planB l = true
  · rw [if_pos hp, if_pos hp]
    exact impl_KeysTuned_l0 l.length k l 0 hp (by omega) hk
  · rw [if_neg hp, if_neg hp]

theorem impl_stepTo_l0 (d : Nat) : ∀ (k : Nat) (l : List St) (a : Int) (i : Nat), planB l = true → i + d = l.length → d < k →
    impl_stepTo.l0 k a l (l.length : Int) (i : Int) = some (if (i : Int) + 1 ≤ a ∧ a ≤ l.length then a - 1 else -1) := by
  induction d with
  | zero =>
    intro k l a i hp hi hk
    obtain ⟨k, rfl⟩ : ∃ m, k = m + 1 := ⟨k - 1, by omega⟩
    simp only [impl_stepTo.l0]
    rw [if_neg (by omega), if_neg (by omega)]
  | succ d ih =>
    intro k l a i hp hi hk
    obtain ⟨k, rfl⟩ : ∃ m, k = m + 1 := ⟨k - 1, by omega⟩
    have hl := planB_len hp
    simp only [impl_stepTo.l0]
    rw [if_pos (by omega), if_pos (by omega), if_pos (by omega), (planB_at hp (show i < l.length by omega)).2.2.2]
    by_cases c : (i : Int) + 1 = a
    · rw [if_pos c, if_pos (by omega)]
      exact congrArg some (by omega)
    · rw [if_neg c, up_one (n := l.length) (by omega) (by omega), ih k l a (i + 1) hp (by omega) (by omega)]
      by_cases c2 : ((i + 1 : Nat) : Int) + 1 ≤ a ∧ a ≤ l.length
      · rw [if_pos c2, if_pos (by omega)]
      · rw [if_neg c2, if_neg (by omega)]
theorem impl_stepTo_eq {k : Nat} {l : List St} (a : Int) (hp : planB l = true) (hk : l.length < k) : impl_stepTo.f k l a = some (if 1 ≤ a ∧ a ≤ l.length then a - 1 else -1) := by
  have := impl_stepTo_l0 l.length k l a 0 hp (by omega) hk
  unfold impl_stepTo.f
  simpa using this

theorem impl_DepthOf_nat (l : List St) (hp : planB l = true) : ∀ (n k : Nat) (c : Int), n ≤ l.length → l.length + n + 1 < k → 0 ≤ c → c + n ≤ 100 → impl_DepthOf.l0 k l (n : Int) c = some (c + n) := by
  have hl := planB_len hp
  intro n
  induction n with
  | zero =>
    intro k c hn hk hc hc2
    obtain ⟨k, rfl⟩ : ∃ m, k = m + 1 := ⟨k - 1, by omega⟩
    simp only [impl_DepthOf.l0]
    simp
  | succ n ih =>
    intro k c hn hk hc hc2
    obtain ⟨k, rfl⟩ : ∃ m, k = m + 1 := ⟨k - 1, by omega⟩
    simp only [impl_DepthOf.l0]
    rw [if_neg (by omega), impl_stepTo_eq _ hp (by omega), if_pos (by omega)]
    simp only [Option.bind_some]
    rw [if_neg (by omega), if_pos (by omega), if_pos (by omega), show (((n + 1 : Nat) : Int) - 1) = (n : Int) by omega, (planB_at hp (show n < l.length by omega)).2.2.1, w64 (by omega) (by omega), ih k (c + 1) (by omega) (by omega) (by omega) (by omega)]
    exact congrArg some (by omega)
theorem impl_DepthOf_eq {k : Nat} {l : List St} (a : Int) (hk : l.length + 13 < k) : impl_DepthOf.f k l a = some (depthF l a) := by
  unfold depthF impl_DepthOf.f
  rw [impl_PlanOk_eq (by omega)]
  simp only [Option.bind_some]
  by_cases hp : planB l = true
  · have hl := planB_len hp
    rw [if_pos hp, if_pos hp]
    by_cases c : 0 ≤ a ∧ a ≤ l.length
    · rw [if_pos c]
      obtain ⟨n, rfl⟩ : ∃ n : Nat, a = n := ⟨a.toNat, by omega⟩
      rw [impl_DepthOf_nat l hp n k 0 (by omega) (by omega) (by omega) (by omega)]
      simp
    · rw [if_neg c]
      obtain ⟨k, rfl⟩ : ∃ m, k = m + 1 := ⟨k - 1, by omega⟩
      simp only [impl_DepthOf.l0]
      rw [if_neg (by omega), impl_stepTo_eq _ hp (by omega), if_neg (by omega)]
      simp
  · rw [if_neg hp, if_neg hp]

theorem impl_DeepestKey_l0 (d : Nat) : ∀ (k : Nat) (l : List St) (i : Nat), planB l = true → i + d = l.length + 1 → l.length + d + 20 < k →
    impl_DeepestKey.l0 k l (((i - 1 : Nat) : Int)) (keysL l.length) ((keysL l.length).length : Int) (i : Int) = some (l.length : Int) := by
  induction d with
  | zero =>
    intro k l i hp hi hk
    obtain ⟨k, rfl⟩ : ∃ m, k = m + 1 := ⟨k - 1, by omega⟩
    have hl := keysL_len l.length
    simp only [impl_DeepestKey.l0]
    rw [if_neg (by omega)]
    exact congrArg some (by omega)
  | succ d ih =>
    intro k l i hp hi hk
    obtain ⟨k, rfl⟩ : ∃ m, k = m + 1 := ⟨k - 1, by omega⟩
    have h11 := planB_len hp
    have hl := keysL_len l.length
    simp only [impl_DeepestKey.l0]
    rw [if_pos (by omega), if_pos (by omega), if_pos (by omega), keysL_rd (by omega), impl_DepthOf_eq _ (by omega)]
    simp only [Option.bind_some]
    rw [impl_DepthOf_eq _ (by omega)]
    simp only [Option.bind_some]
    rw [depthF_at hp (by omega), depthF_at hp (by omega), up_one (n := 20) (by omega) (by omega)]
    have := ih k l (i + 1) hp (by omega) (by omega)
    rw [show i + 1 - 1 = i by omega] at this
    by_cases c : i = 0
    · subst c
      rw [if_neg (by omega)]
      exact this
    · rw [if_pos (by omega), this]
theorem impl_DeepestKey_eq {k : Nat} {l : List St} (hk : 2 * l.length + 30 < k) : impl_DeepestKey.f k l = some (deepF l) := by
  unfold impl_DeepestKey.f deepF
  rw [impl_PlanOk_eq (by omega)]
  simp only [Option.bind_some]
  by_cases hp : planB l = true
  · rw [if_pos hp, if_pos hp, impl_KeysTuned_eq (by omega), keysF, if_pos hp]
    exact impl_DeepestKey_l0 (l.length + 1) k l 0 hp (by omega) (by omega)
  · rw [if_neg hp, if_neg hp]

theorem impl_ErrorBound_nat (l : List St) (w : Int) (hp : planB l = true) (h0 : 0 ≤ w) (h1 : w ≤ 5000) : ∀ (n k : Nat), n ≤ l.length → l.length + 15 + 2 * n + 1 < k → impl_ErrorBound.f k l (n : Int) w = some (errN l w n) := by
  have hl := planB_len hp
  intro n
  induction n with
  | zero =>
    intro k hn hk
    obtain ⟨k, rfl⟩ : ∃ m, k = m + 2 := ⟨k - 2, by omega⟩
    unfold impl_ErrorBound.f
    rw [impl_DepthOf_eq _ (by omega), depthF, if_pos hp, if_pos (by omega)]
    simp only [Option.bind_some]
    rw [if_neg (by omega), impl_within_eq, decide_eq_true (⟨h0, h1⟩ : 0 ≤ w ∧ w ≤ 5000)]
    simp [impl_ErrorBound.j0, errN]
  | succ n ih =>
    intro k hn hk
    obtain ⟨k, rfl⟩ : ∃ m, k = m + 2 := ⟨k - 2, by omega⟩
    unfold impl_ErrorBound.f
    rw [impl_DepthOf_eq _ (by omega), depthF, if_pos hp, if_pos (by omega)]
    simp only [Option.bind_some]
    rw [if_neg (by omega), impl_within_eq, decide_eq_true (⟨h0, h1⟩ : 0 ≤ w ∧ w ≤ 5000)]
    simp only [Option.bind_some, impl_ErrorBound.j0, Bool.not_true, Bool.false_eq_true, if_false]
    rw [if_neg (by omega), impl_stepTo_eq _ hp (by omega), if_pos (by omega)]
    simp only [Option.bind_some]
    have hs := planB_at hp (show n < l.length by omega)
    rw [if_pos (by omega), if_pos (by omega), show (((n + 1 : Nat) : Int) - 1) = (n : Int) by omega, hs.2.2.1, ih k (by omega) (by omega)]
    simp only [Option.bind_some]
    have hb := errN_small hp h0 h1 (show n ≤ l.length by omega)
    rw [w64 (x := 3 * errN l w n) (by omega) (by omega), w64 (x := 3 * errN l w n + w) (by omega) (by omega)]
    have t2 : Int.tdiv (3 * errN l w n + w) 2 = (3 * errN l w n + w) / 2 := Int.tdiv_eq_ediv_of_nonneg (by omega)
    have t4 : Int.tdiv (3 * errN l w n + w) 4 = (3 * errN l w n + w) / 4 := Int.tdiv_eq_ediv_of_nonneg (by omega)
    simp only [errN]
    rcases hs.1 with hk | hk <;> rw [hk]
    · rw [if_pos rfl, t2, w64 (x := (3 * errN l w n + w) / 2) (by omega) (by omega), w64 (by omega) (by omega)]
      simp
    · rw [if_neg (by omega), t4, w64 (x := (3 * errN l w n + w) / 4) (by omega) (by omega), w64 (by omega) (by omega)]
      simp
theorem impl_ErrorBound_eq {k : Nat} {l : List St} (a w : Int) (hk : l.length + 60 < k) : impl_ErrorBound.f k l a w = some (errF l a w) := by
  unfold errF
  by_cases c : depthF l a < 0 ∨ ¬ (0 ≤ w ∧ w ≤ 5000)
  · rw [if_pos c]
    obtain ⟨k, rfl⟩ : ∃ m, k = m + 2 := ⟨k - 2, by omega⟩
    unfold impl_ErrorBound.f
    rw [impl_DepthOf_eq _ (by omega)]
    simp only [Option.bind_some]
    by_cases d : depthF l a < 0
    · rw [if_pos d]
      simp [impl_ErrorBound.j0]
    · rw [if_neg d, impl_within_eq, decide_eq_false (c.resolve_left d)]
      simp [impl_ErrorBound.j0]
  · rw [if_neg c]
    have d := fun h => c (Or.inl h)
    have e : 0 ≤ w ∧ w ≤ 5000 := Classical.not_not.mp fun h => c (Or.inr h)
    unfold depthF at d
    by_cases hp : planB l = true
    · rw [if_pos hp] at d
      have hl := planB_len hp
      by_cases c3 : 0 ≤ a ∧ a ≤ l.length
      · obtain ⟨n, rfl⟩ : ∃ n : Nat, a = n := ⟨a.toNat, by omega⟩
        exact impl_ErrorBound_nat l w hp e.1 e.2 n k (by omega) (by omega)
      · rw [if_neg c3] at d
        exact absurd (by omega) d
    · rw [if_neg hp] at d
      exact absurd (by omega) d

theorem depths_l0 (d : Nat) : ∀ (k : Nat) (p : List St) (i : Nat), planB p = true → i + d = p.length → d + 100 < k → laws_FnDepths.l0 k p (p.length : Int) (i : Int) = some true := by
  induction d with
  | zero =>
    intro k p i hp hi hk
    obtain ⟨k, rfl⟩ : ∃ m, k = m + 1 := ⟨k - 1, by omega⟩
    have h11 := planB_len hp
    simp only [laws_FnDepths.l0]
    rw [if_neg (by omega), impl_DepthOf_eq _ (by omega)]
    simp only [Option.bind_some]
    rw [show (0 : Int) = ((0 : Nat) : Int) from rfl, depthF_at hp (by omega), if_pos rfl, impl_DepthOf_eq _ (by omega)]
    simp only [Option.bind_some]
    rw [depthF_at hp (by omega)]
    simp
  | succ d ih =>
    intro k p i hp hi hk
    obtain ⟨k, rfl⟩ : ∃ m, k = m + 1 := ⟨k - 1, by omega⟩
    have h11 := planB_len hp
    have hs := planB_at hp (show i < p.length by omega)
    simp only [laws_FnDepths.l0]
    rw [if_pos (by omega), if_pos (by omega), hs.2.2.2, hs.2.2.1, show (i : Int) + 1 = ((i + 1 : Nat) : Int) by omega, impl_DepthOf_eq _ (by omega)]
    simp only [Option.bind_some]
    rw [depthF_at hp (by omega), impl_DepthOf_eq _ (by omega)]
    simp only [Option.bind_some]
    rw [depthF_at hp (by omega), up_one (n := 20) (by omega) (by omega), if_pos rfl, impl_DepthOf_eq _ (by omega)]
    simp only [Option.bind_some]
    rw [depthF_at hp (by omega), if_neg (by omega), impl_ErrorBound_eq _ _ (by omega)]
    simp only [Option.bind_some]
    have he : ¬ errF p ((i + 1 : Nat) : Int) 0 < 1 := by
      unfold errF
      rw [if_neg (by rw [depthF_at hp (by omega)]; omega), Int.toNat_natCast]
      have := errN_small hp (w := 0) (by omega) (by omega) (show i ≤ p.length by omega)
      simp only [errN]
      rcases hs.1 with h | h <;> rw [h] <;> omega
    rw [if_neg he, w64 (by omega) (by omega)]
    exact ih k p (i + 1) hp (by omega) (by omega)
theorem FnDepths : laws_FnDepths.Pure := by
  intro l _ hl _
  refine ⟨l.length + 300, ?_⟩
  unfold laws_FnDepths.f
  rw [laws_big_eq]
  simp only [Option.bind_some, decide_eq_true_eq]
  by_cases hb : (l.length : Int) > 1048576
  · rw [if_pos hb]
  · rw [if_neg hb]
    obtain ⟨s, p, e, s0, s1, hd, h11⟩ := spec_DrawPlan_eq (k := l.length + 300) (l := l) (by omega) (by omega)
    have hp := drawn_plan hd
    rw [e]
    simp only [Option.bind_some]
    rw [impl_DeepestKey_eq (by omega), deepF, if_pos hp]
    exact depths_l0 p.length _ p 0 hp (by omega) (by omega)

end Go.Proofs.Ythhcpfaabnanoaa.Pure
