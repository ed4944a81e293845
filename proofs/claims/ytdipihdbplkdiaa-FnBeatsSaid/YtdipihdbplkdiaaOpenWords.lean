-- The openers of this session's rows: a struct of one slice, a slice of structs of four numbers, by value.
import Derived.OpenShut
import Derived.ChangeOld
import Derived.SizedLaws
import Derived.Lib.SmallJoins
import Derived.Deep.Slices
import Derived.Test.YtdipihdbplkdiaaWMore
namespace Go.Proofs.Ytdipihdbplkdiaa.Own
open Go.ChangeShapes Go.WideShapes Go.ChangeAt Go.RowKit Go.Deep Go.Proofs.YtdipihdbplkdiaaW.PrintWords Go.Proofs.YtdipihdbplkdiaaW.PrintLast
set_option linter.unusedVariables false
section
variable {H : Type} {enc : TypeId × Value → H} {P : Program} {w : World} {base : Nat} {spare : Nat → Bool} {held : Bool}
theorem own_array1 {α : Type} {cs : Array α} (h : cs.size = 1) : ∃ c0, cs = #[c0] := by
  obtain ⟨l⟩ := cs
  match l, h with
  | [c0], _ => exact ⟨c0, rfl⟩
/-- A struct of one field of one cell, by value, opened. -/
theorem own_agg1 {r : Reach} {b0 : Nat} {t : TypeId} {f0 : Field} {v : Value} {d : DataW H} {p : List MemPlace} (hs : P.underlying t = some (.struct #[f0])) (hone : oneCellFields P #[f0] = true) (hC : P.cellsOf t = 1)
    (hv : Value.okWide P w r b0 t v) (h : DataW.Trod enc P w base spare held t v d p) :
    ∃ (v0 : Value) (y0 : DataW H × List MemPlace) (n : Nat), v = .agg #[v0] ∧ d = .agg [y0.1] ∧ p = y0.2 ∧ DataW.trod enc P w base spare held n f0.type [v0] = some y0 := by
  obtain ⟨cs, rfl, hsz⟩ := okWide_struct hs hv
  obtain ⟨c0, rfl⟩ := own_array1 (hsz.trans hC)
  obtain ⟨fuel, hf⟩ := h
  obtain ⟨xs, n, _, hx, hl, hlen, hfl⟩ := DataW.trod_struct hs hf
  match xs, hlen with
  | [y0], _ =>
    have h0 := hfl 0 f0 rfl
    obtain ⟨o0, k0⟩ := hone_of hone 0 f0 rfl
    simp only [Prod.mk.injEq] at hx
    exact ⟨c0, y0, n, rfl, by simpa using hx.1, by simpa using hx.2, by simpa [Value.cells, o0, k0] using h0⟩
/-- A slice of whole numbers, as the walk reads it. -/
theorem own_ints {t e : TypeId} {k : IntKind} {fuel : Nat} {v : Value} {x : DataW H × List MemPlace} (ht : P.underlying t = some (.slice e)) (he : P.underlying e = some (.int k)) (hc : P.cellsOf e = 1)
    (hf : DataW.trod enc P w base spare held fuel t [v] = some x) :
    ∃ (a : Option Addr) (c : Nat) (l : List Int), v = .slice a l.length c ∧ Kd.C (Kd.int k) w a l.length l ∧ l.length ≤ maxLen ∧ (∀ x ∈ l, (Lit.int k x).wf = true) ∧ l.length ≤ c := by
  rcases open_ints ht he hc hf with ⟨hcs, _⟩ | ⟨x, len, c, zs, hcs, _, hl, hm, hz, _, hcell, hwz⟩
  · obtain ⟨l, hl, hr, hm, hw, hc⟩ := ReadsInt.ofRowC (k := k) (w := w) (a := none) (len := 0) (cap := 0) (zs := []) (.inl ⟨rfl, rfl, rfl, rfl⟩)
    refine ⟨none, 0, l, ?_, Kd.C_of_reads (d := (0 : Int)) (h1 := fun _ => rfl) hr, hm, hw, hc⟩
    rw [← hl]
    simpa using hcs
  · have hv : v = .slice (some x) len c := by simpa using hcs
    by_cases hsp : spare x.block = true
    · obtain ⟨l, hl, hr, hm, hw, hc⟩ := ReadsInt.ofRowC (k := k) (w := w) (a := some x) (len := len) (cap := c) (zs := zs) (.inr ⟨x, rfl, hl, hm, by simpa [hsp] using hz, hcell, hwz⟩)
      exact ⟨some x, c, l, by rw [hv, hl], Kd.C_of_reads (d := (0 : Int)) (h1 := fun _ => rfl) hr, hm, hw, hc⟩
    · have hz' : zs.length = len := by simpa [hsp] using hz
      obtain ⟨l, hl', hr, hm', hw, hc⟩ := ReadsInt.ofRowC (k := k) (w := w) (a := some x) (len := len) (cap := len) (zs := zs) (.inr ⟨x, rfl, Nat.le_refl _, Nat.le_trans hl hm, hz', hcell, hwz⟩)
      exact ⟨some x, c, l, by rw [hv, hl'], Kd.C_of_reads (d := (0 : Int)) (h1 := fun _ => rfl) hr, hm', hw, by omega⟩
/-- A slice of structs of four whole numbers, as the walk reads it. -/
theorem own_fours {α : Type} {D : Kd α} {mk : Int → Int → Int → Int → α} (hsz : D.sz = 4) (hK : ∀ (w : World) (a b c d : Int), D.K w (mk a b c d) [.int .i64 a, .int .i64 b, .int .i64 c, .int .i64 d]) (Q : α → Prop)
    (hQ : ∀ a b c d : Int, (Lit.int .i64 a).wf = true → (Lit.int .i64 b).wf = true → (Lit.int .i64 c).wf = true → (Lit.int .i64 d).wf = true → Q (mk a b c d))
    {t e : TypeId} {f0 f1 f2 f3 : Field} {fuel : Nat} {v : Value} {x : DataW H × List MemPlace} (ht : P.underlying t = some (.slice e)) (he : P.underlying e = some (.struct #[f0, f1, f2, f3])) (hone : oneCellFields P #[f0, f1, f2, f3] = true) (hC : P.cellsOf e = 4)
    (h0 : P.underlying f0.type = some (.int .i64)) (h1 : P.underlying f1.type = some (.int .i64)) (h2 : P.underlying f2.type = some (.int .i64)) (h3 : P.underlying f3.type = some (.int .i64))
    (hf : DataW.trod enc P w base spare held fuel t [v] = some x) :
    ∃ (a : Option Addr) (c : Nat) (l : List α), v = .slice a l.length c ∧ Kd.C D w a l.length l ∧ l.length ≤ maxLen ∧ (∀ x ∈ l, Q x) ∧ l.length ≤ c := by
  rcases open_slice ht hf with ⟨hcs, _⟩ | ⟨ad, len, c, m, n, Dd, Pl, hcs, _, hl, hm, hmm, _, hx⟩
  · refine ⟨none, 0, [], by simpa using hcs, ?_, by simp, by simp, by simp⟩
    exact ⟨rfl, by simp, fun h => absurd h (by simp)⟩
  · have hv : v = .slice (some ad) len c := by simpa using hcs
    have hlm : len ≤ m := by rw [hmm]; split <;> omega
    have each : ∀ i, i < len → ∃ y : Int × Int × Int × Int, (∀ j u, [Value.int .i64 y.1, Value.int .i64 y.2.1, Value.int .i64 y.2.2.1, Value.int .i64 y.2.2.2][j]? = some u → w.cell? (ad.add (i * 4 + j)) = some u) ∧ Q (mk y.1 y.2.1 y.2.2.1 y.2.2.2) := by
      intro i hi
      obtain ⟨cs, hcells, htr⟩ := hx i (by omega)
      rw [hC] at hcells
      obtain ⟨y0, y1, y2, y3, n', _, _, t0, t1, t2, t3⟩ := Go.Joins.trod_struct4 he htr
      obtain ⟨_, hlen, hget⟩ := World.cells?_some hcells
      obtain ⟨o0, k0⟩ := hone_of hone 0 f0 rfl
      obtain ⟨o1, k1⟩ := hone_of hone 1 f1 rfl
      obtain ⟨o2, k2⟩ := hone_of hone 2 f2 rfl
      obtain ⟨o3, k3⟩ := hone_of hone 3 f3 rfl
      match cs, hlen with
      | [c0, c1, c2, c3], _ =>
        simp only [o0, k0, o1, k1, o2, k2, o3, k3, List.drop_zero, List.take_succ_cons, List.take_zero, List.drop_succ_cons] at t0 t1 t2 t3
        obtain ⟨n0, e0, _, w0⟩ := DataW.trod_int h0 t0
        obtain ⟨n1, e1, _, w1⟩ := DataW.trod_int h1 t1
        obtain ⟨n2, e2, _, w2⟩ := DataW.trod_int h2 t2
        obtain ⟨n3, e3, _, w3⟩ := DataW.trod_int h3 t3
        refine ⟨(n0, n1, n2, n3), fun j u hu => ?_, hQ _ _ _ _ w0 w1 w2 w3⟩
        have hj : j < 4 := by
          rcases Nat.lt_or_ge j 4 with h | h
          · exact h
          · rw [List.getElem?_eq_none (by simpa using h)] at hu; cases hu
        have hg := hget j hj
        rw [Deep.add_add] at hg
        simp only [List.cons.injEq, and_true] at e0 e1 e2 e3
        rw [hg, e0, e1, e2, e3]
        exact hu
    obtain ⟨F, hF⟩ := choose_lt (α := Int × Int × Int × Int) each
    refine ⟨some ad, c, (List.range len).map fun i => mk (F i).1 (F i).2.1 (F i).2.2.1 (F i).2.2.2, by simpa using hv, ⟨rfl, by simp; unfold maxLen at hm; omega, fun _ => ⟨ad, rfl, fun j p hp => ?_⟩⟩, by simpa using Nat.le_trans hl hm, ?_, by simpa using hl⟩
    · have hj : j < len := by
        rcases Nat.lt_or_ge j len with h | h
        · exact h
        · rw [List.getElem?_eq_none (by simpa using h)] at hp; cases hp
      rw [List.getElem?_map, List.getElem?_range hj] at hp
      obtain rfl := Option.some.inj hp
      refine ⟨_, ?_, hK w _ _ _ _, fun i u hu => ?_⟩
      · rw [hsz]; rfl
      rw [hsz]
      exact (hF j hj).1 i u hu
    · intro y hy
      obtain ⟨i, hi, rfl⟩ := List.mem_map.1 hy
      exact (hF i (List.mem_range.1 hi)).2
end
end Go.Proofs.Ytdipihdbplkdiaa.Own
