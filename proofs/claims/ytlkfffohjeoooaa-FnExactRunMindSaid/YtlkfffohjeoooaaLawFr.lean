
/- A law's argument that is a frame. -/
import Derived.Test.YtlkfffohjeoooaaLaw
import Derived.Test.YtlkfffohjeoooaaFrA
namespace Go.Proofs.Ytlkfffohjeoooaa
open Go.ChangeShapes Go.WideShapes Go.ChangeAt Go.RowKit Go.Deep Go.Joins
set_option linter.unusedVariables false
section
variable {H : Type} {enc : TypeId × Value → H} {P : Program}
/-- a struct of three one-cell fields, by its cells -/
theorem open_three {w : World} {base : Nat} {spare : Nat → Bool} {held : Bool} {t : TypeId} {f0 f1 f2 : Field} {fuel : Nat} {cs : List Value} {x : DataW H × List MemPlace} (hs : P.underlying t = some (.struct #[f0, f1, f2])) (hone : oneCellFields P #[f0, f1, f2] = true) (hC : P.cellsOf t = 3)
    (h : DataW.trod enc P w base spare held fuel t cs = some x) :
    ∃ (v0 v1 v2 : Value) (y0 y1 y2 : DataW H × List MemPlace) (n : Nat), cs = [v0, v1, v2] ∧
      DataW.trod enc P w base spare held n f0.type [v0] = some y0 ∧ DataW.trod enc P w base spare held n f1.type [v1] = some y1 ∧ DataW.trod enc P w base spare held n f2.type [v2] = some y2 := by
  obtain ⟨xs, n, _, _, hlen, hxl, hg⟩ := DataW.trod_struct hs h
  obtain ⟨o0, k0⟩ := hone_of hone 0 f0 rfl
  obtain ⟨o1, k1⟩ := hone_of hone 1 f1 rfl
  obtain ⟨o2, k2⟩ := hone_of hone 2 f2 rfl
  match cs, hlen.trans hC with
  | [c0, c1, c2], _ =>
    match xs, hxl with
    | [y0, y1, y2], _ =>
      exact ⟨c0, c1, c2, y0, y1, y2, n, rfl, by simpa [o0, k0] using hg 0 f0 rfl, by simpa [o1, k1] using hg 1 f1 rfl, by simpa [o2, k2] using hg 2 f2 rfl⟩
/-- a slice of arrays of two ints -/
theorem open_rods {w : World} {base : Nat} {spare : Nat → Bool} {held : Bool} {t e z : TypeId} {fuel : Nat} {cs : List Value} {x : DataW H × List MemPlace} (ht : P.underlying t = some (.slice e)) (he : P.underlying e = some (.array 2 z)) (hz : P.underlying z = some (.int .i64)) (hC : P.cellsOf e = 2) (hZ : P.cellsOf z = 1)
    (h : DataW.trod enc P w base spare held fuel t cs = some x) :
    ∃ (A : Option Addr) (n c : Nat) (l : List R2), cs = [.slice A n c] ∧ n ≤ maxLen ∧ Reads w w.heap.size 2 A n (rowsV2 l) := by
  rcases open_slice ht h with ⟨hcs, _⟩ | ⟨a, len, cap, m, k, D, Pl, hcs, hb, hl, hm, hmm, hx, hi⟩
  · exact ⟨none, 0, 0, [], hcs, Nat.zero_le _, ⟨by simp [rowsV2], fun h => absurd h (by omega)⟩⟩
  · have hlm : len ≤ m := by rw [hmm]; split <;> omega
    have hex : ∀ i, i < len → ∃ G : Nat → Int, ∀ j, j < 2 → w.cell? (a.add (i * 2 + j)) = some (.int .i64 (G j)) := fun i hi' => by
      obtain ⟨cs', hc, ht'⟩ := hi i (by omega)
      rw [hC] at hc
      obtain ⟨xs, n', _, _, hlen, hxl, hg⟩ := DataW.trod_array he ht'
      obtain ⟨_, hcl, hat⟩ := World.cells?_some hc
      refine choose_lt (p := fun j (q : Int) => w.cell? (a.add (i * 2 + j)) = some (.int .i64 q)) fun j hj => ?_
      have h1 := hg j hj
      rw [hZ] at h1
      have hcell := hat j hj
      have hv : cs'[j]? = some (cs'[j]'(by omega)) := List.getElem?_eq_getElem (by omega)
      have hone' : (cs'.drop (j * 1)).take 1 = [cs'[j]'(by omega)] := by
        rw [Nat.mul_one, List.drop_eq_getElem_cons (by omega)]
        rfl
      rw [hone'] at h1
      have hys : xs[j]? = some (xs[j]'(by omega)) := List.getElem?_eq_getElem (by omega)
      obtain ⟨q, e0, _, wq⟩ := DataW.trod_int hz (h1.trans hys)
      simp only [List.cons.injEq, and_true] at e0
      refine ⟨q, ?_⟩
      rw [← Go.Deep.add_add, hcell, hv, e0]
    obtain ⟨G, hG⟩ := choose_lt hex
    have hr := reads_of_fn (w := w) (a := a) (len := len) (K := 2) (V := fun i j => .int .i64 (G i j)) (by omega) (fun i hi j hj => hG i hi j hj)
    refine ⟨some a, len, cap, (List.range len).map fun i => ⟨G i 0, G i 1⟩, hcs, by omega, ?_⟩
    have e : rowsV2 ((List.range len).map fun i => (⟨G i 0, G i 1⟩ : R2)) = (List.range len).flatMap fun i => (List.range 2).map fun j => .int .i64 (G i j) := by
      simp [rowsV2, List.flatMap_map, R2.cells, List.range_succ]
    rw [e]
    exact hr
end
set_option maxRecDepth 100000 in
theorem open_frame {H : Type} {enc : TypeId × Value → H} {w : World} {base b0 : Nat} {spare : Nat → Bool} {held : Bool} {r : Reach} {v : Value} {d : DataW H} {p : List MemPlace}
    (hv : Value.okWide Try.prog w r b0 24 v) (h : DataW.Trod enc Try.prog w base spare held 24 v d p) :
    ∃ (u lo : Int) (A : Option Addr) (n c : Nat) (l : List R2), v = frV u lo A n c ∧ n ≤ maxLen ∧ Reads w w.heap.size 2 A n (rowsV2 l) := by
  obtain ⟨cs, rfl, hsz⟩ := okWide_struct Try.underlying24 hv
  obtain ⟨fuel, hf⟩ := h
  obtain ⟨c0, c1, c2, y0, y1, y2, m, e, t0, t1, t2⟩ := open_three Try.underlying24 (by kernel_rfl) (by kernel_rfl) hf
  obtain ⟨u, e0, _, w0⟩ := DataW.trod_int Try.underlying3 t0
  obtain ⟨lo, e1, _, w1⟩ := DataW.trod_int Try.underlying3 t1
  obtain ⟨A, n, c, l, e2, hn, hr⟩ := open_rods Try.underlying22 Try.underlying155 Try.underlying3 (by kernel_rfl) (by kernel_rfl) t2
  simp at e0 e1 e2
  subst e0 e1 e2
  obtain ⟨cl⟩ := cs
  have e : cl = [.int .i64 u, .int .i64 lo, .slice A n c] := e
  subst e
  exact ⟨u, lo, A, n, c, l, rfl, hn, hr⟩
set_option maxRecDepth 100000 in
/-- an int comes as an int -/
theorem open_int {H : Type} {enc : TypeId × Value → H} {w : World} {base b0 : Nat} {spare : Nat → Bool} {held : Bool} {r : Reach} {v : Value} {d : DataW H} {p : List MemPlace}
    (hv : Value.okWide Try.prog w r b0 3 v) (h : DataW.Trod enc Try.prog w base spare held 3 v d p) : ∃ z : Int, v = .int .i64 z ∧ -9223372036854775808 ≤ z ∧ z ≤ 9223372036854775807 := by
  obtain ⟨z, rfl⟩ := okWide_int Try.underlying3 hv
  obtain ⟨fuel, hf⟩ := h
  obtain ⟨z', e0, _, wz⟩ := DataW.trod_int Try.underlying3 hf
  simp [Value.cells] at e0
  subst e0
  exact ⟨z, rfl, by simpa [Lit.wf, IntKind.min, IntKind.max, IntKind.signed, IntKind.bits] using wz⟩
end Go.Proofs.Ytlkfffohjeoooaa
