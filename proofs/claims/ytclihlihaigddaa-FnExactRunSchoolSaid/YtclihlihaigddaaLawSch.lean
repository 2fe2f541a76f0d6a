
/- A law's argument that is a school or a console. -/
import Derived.Test.YtclihlihaigddaaLaw
import Derived.Test.YtclihlihaigddaaRows5
import Derived.Test.YtclihlihaigddaaScO
namespace Go.Proofs.Ytclihlihaigddaa
open Go.ChangeShapes Go.WideShapes Go.ChangeAt Go.RowKit Go.Deep Go.Joins
set_option linter.unusedVariables false
section
variable {H : Type} {enc : TypeId × Value → H} {P : Program}
theorem open_int_structs_t {w : World} {base : Nat} {spare : Nat → Bool} {held : Bool} {t e : TypeId} {fs : Array Field} {fuel : Nat} {cs : List Value} {x : DataW H × List MemPlace} (ht : P.underlying t = some (.slice e)) (he : P.underlying e = some (.struct fs))
    (hone : oneCellFields P fs = true) (hC : P.cellsOf e = fs.size) (hK : 0 < fs.size) (hint : ∀ (j : Nat) (f : Field), fs[j]? = some f → P.underlying f.type = some (.int .i64)) (h : DataW.trod enc P w base spare held fuel t cs = some x) :
    ∃ (A : Option Addr) (len cap : Nat) (F : Nat → Nat → Int), cs = [.slice A len cap] ∧ len ≤ maxLen ∧ SlOk A len cap ∧ Reads w w.heap.size fs.size A len ((List.range len).flatMap fun i => (List.range fs.size).map fun j => .int .i64 (F i j)) := by
  rcases open_slice_fields ht he hone hC h with ⟨hcs, _⟩ | ⟨a, len, cap, m, D, Pl, hcs, hb, hl, hm, hmm, hx, hi⟩
  · exact ⟨none, 0, 0, fun _ _ => 0, hcs, Nat.zero_le _, fun _ => ⟨rfl, rfl⟩, ⟨by simp, fun h => absurd h (by omega)⟩⟩
  · have hlm : len ≤ m := by rw [hmm]; split <;> omega
    have hex : ∀ i, i < len → ∃ G : Nat → Int, ∀ j, j < fs.size → w.cell? (a.add (i * fs.size + j)) = some (.int .i64 (G j)) := fun i hi' => by
      obtain ⟨ys, n, _, _, _, hf⟩ := hi i (by omega)
      refine choose_lt (p := fun j (z : Int) => w.cell? (a.add (i * fs.size + j)) = some (.int .i64 z)) fun j hj => by
        obtain ⟨v, y, hc, _, ht⟩ := hf j fs[j] (by simp [hj])
        obtain ⟨q, e0, _, wq⟩ := DataW.trod_int (hint j fs[j] (by simp [hj])) ht
        simp at e0
        subst e0
        exact ⟨q, hc⟩
    obtain ⟨G, hG⟩ := choose_lt hex
    refine ⟨some a, len, cap, G, hcs, by omega, (fun h => by cases h), reads_of_fn hK (fun i hi j hj => hG i hi j hj)⟩
/-- a struct of four one-cell fields, by its cells -/
theorem open_cells4 {w : World} {base : Nat} {spare : Nat → Bool} {held : Bool} {t : TypeId} {f0 f1 f2 f3 : Field} {fuel : Nat} {cs : List Value} {x : DataW H × List MemPlace} (hs : P.underlying t = some (.struct #[f0, f1, f2, f3])) (hone : oneCellFields P #[f0, f1, f2, f3] = true) (hC : P.cellsOf t = 4)
    (h : DataW.trod enc P w base spare held fuel t cs = some x) :
    ∃ (v0 v1 v2 v3 : Value) (y0 y1 y2 y3 : DataW H × List MemPlace) (n : Nat), cs = [v0, v1, v2, v3] ∧
      DataW.trod enc P w base spare held n f0.type [v0] = some y0 ∧ DataW.trod enc P w base spare held n f1.type [v1] = some y1 ∧ DataW.trod enc P w base spare held n f2.type [v2] = some y2 ∧ DataW.trod enc P w base spare held n f3.type [v3] = some y3 := by
  obtain ⟨xs, n, _, _, hlen, hxl, hg⟩ := DataW.trod_struct hs h
  obtain ⟨o0, k0⟩ := hone_of hone 0 f0 rfl
  obtain ⟨o1, k1⟩ := hone_of hone 1 f1 rfl
  obtain ⟨o2, k2⟩ := hone_of hone 2 f2 rfl
  obtain ⟨o3, k3⟩ := hone_of hone 3 f3 rfl
  match cs, hlen.trans hC with
  | [c0, c1, c2, c3], _ =>
    match xs, hxl with
    | [y0, y1, y2, y3], _ =>
      exact ⟨c0, c1, c2, c3, y0, y1, y2, y3, n, rfl, by simpa [o0, k0] using hg 0 f0 rfl, by simpa [o1, k1] using hg 1 f1 rfl, by simpa [o2, k2] using hg 2 f2 rfl, by simpa [o3, k3] using hg 3 f3 rfl⟩
theorem open_cells3 {w : World} {base : Nat} {spare : Nat → Bool} {held : Bool} {t : TypeId} {f0 f1 f2 : Field} {fuel : Nat} {cs : List Value} {x : DataW H × List MemPlace} (hs : P.underlying t = some (.struct #[f0, f1, f2])) (hone : oneCellFields P #[f0, f1, f2] = true) (hC : P.cellsOf t = 3)
    (h : DataW.trod enc P w base spare held fuel t cs = some x) :
    ∃ (v0 v1 v2 : Value) (y0 y1 y2 : DataW H × List MemPlace) (n : Nat), cs = [v0, v1, v2] ∧
      DataW.trod enc P w base spare held n f0.type [v0] = some y0 ∧ DataW.trod enc P w base spare held n f1.type [v1] = some y1 ∧ DataW.trod enc P w base spare held n f2.type [v2] = some y2 := by
  obtain ⟨xs, n, _, _, hlen, hxl, hg⟩ := DataW.trod_struct hs h
  obtain ⟨o0, k0⟩ := hone_of hone 0 f0 rfl
  obtain ⟨o1, k1⟩ := hone_of hone 1 f1 rfl
  obtain ⟨o2, k2⟩ := hone_of hone 2 f2 rfl
  match cs, hlen.trans hC with
  | [c0, c1, c2], _ =>
    match xs, hxl with
    | [y0, y1, y2], _ =>
      exact ⟨c0, c1, c2, y0, y1, y2, n, rfl, by simpa [o0, k0] using hg 0 f0 rfl, by simpa [o1, k1] using hg 1 f1 rfl, by simpa [o2, k2] using hg 2 f2 rfl⟩
/-- a struct of two structs: four cells and three -/
theorem open_cells43 {w : World} {base : Nat} {spare : Nat → Bool} {held : Bool} {t : TypeId} {f0 f1 : Field} {fuel : Nat} {cs : List Value} {x : DataW H × List MemPlace} (hs : P.underlying t = some (.struct #[f0, f1])) (o0 : f0.offset = 0) (k0 : P.cellsOf f0.type = 4) (o1 : f1.offset = 4) (k1 : P.cellsOf f1.type = 3) (hC : P.cellsOf t = 7)
    (h : DataW.trod enc P w base spare held fuel t cs = some x) :
    ∃ (cs0 cs1 : List Value) (y0 y1 : DataW H × List MemPlace) (n : Nat), cs = cs0 ++ cs1 ∧
      DataW.trod enc P w base spare held n f0.type cs0 = some y0 ∧ DataW.trod enc P w base spare held n f1.type cs1 = some y1 := by
  obtain ⟨xs, n, _, _, hlen, hxl, hg⟩ := DataW.trod_struct hs h
  match cs, hlen.trans hC with
  | [c0, c1, c2, c3, c4, c5, c6], _ =>
    match xs, hxl with
    | [y0, y1], _ =>
      exact ⟨[c0, c1, c2, c3], [c4, c5, c6], y0, y1, n, rfl, by simpa [o0, k0] using hg 0 f0 rfl, by simpa [o1, k1] using hg 1 f1 rfl⟩
end
theorem open_school_cells {H : Type} {enc : TypeId × Value → H} {w : World} {base : Nat} {spare : Nat → Bool} {held : Bool} {fuel : Nat} {cs : List Value} {x : DataW H × List MemPlace} (h : DataW.trod enc Try.prog w base spare held fuel 36 cs = some x) :
    ∃ (day pa le : Int) (A : Option Addr) (n c : Nat) (l : List R5), cs = [.int .i64 day, .slice A n c, .int .i64 pa, .int .i64 le] ∧ n ≤ maxLen ∧ SlOk A n c ∧ Reads w w.heap.size 5 A n (rowsV l) := by
  obtain ⟨c0, c1, c2, c3, y0, y1, y2, y3, m, rfl, t0, t1, t2, t3⟩ := open_cells4 Try.underlying36 (by kernel_rfl) (by kernel_rfl) h
  obtain ⟨day, e0, _, w0⟩ := DataW.trod_int Try.underlying3 t0
  obtain ⟨pa, e2, _, w2⟩ := DataW.trod_int Try.underlying3 t2
  obtain ⟨le, e3, _, w3⟩ := DataW.trod_int Try.underlying3 t3
  obtain ⟨A, len, cap, F, e1, hl, hsl, hr⟩ := open_int_structs_t Try.underlying34 Try.underlying162 (by kernel_rfl) (by kernel_rfl) (by decide) (fun j f hj => by
    match j, hj with
    | 0, hj => simp at hj; subst hj; exact Try.underlying3
    | 1, hj => simp at hj; subst hj; exact Try.underlying3
    | 2, hj => simp at hj; subst hj; exact Try.underlying3
    | 3, hj => simp at hj; subst hj; exact Try.underlying3
    | 4, hj => simp at hj; subst hj; exact Try.underlying3
    | j + 5, hj => simp at hj) t1
  simp at e0 e1 e2 e3
  subst e0 e1 e2 e3
  refine ⟨day, pa, le, A, len, cap, (List.range len).map fun i => ⟨F i 0, F i 1, F i 2, F i 3, F i 4⟩, rfl, hl, hsl, ?_⟩
  have e : rowsV ((List.range len).map fun i => (⟨F i 0, F i 1, F i 2, F i 3, F i 4⟩ : R5)) = (List.range len).flatMap fun i => (List.range 5).map fun j => .int .i64 (F i j) := by
    simp [rowsV, List.flatMap_map, R5.cells, List.range_succ]
  rw [e]
  exact hr
set_option maxRecDepth 100000 in
theorem open_school {H : Type} {enc : TypeId × Value → H} {w : World} {base b0 : Nat} {spare : Nat → Bool} {held : Bool} {r : Reach} {v : Value} {d : DataW H} {p : List MemPlace}
    (hv : Value.okWide Try.prog w r b0 36 v) (h : DataW.Trod enc Try.prog w base spare held 36 v d p) :
    ∃ (day pa le : Int) (A : Option Addr) (n c : Nat) (l : List R5), v = schV day A n c pa le ∧ n ≤ maxLen ∧ SlOk A n c ∧ Reads w w.heap.size 5 A n (rowsV l) := by
  obtain ⟨cs, rfl, hsz⟩ := okWide_struct Try.underlying36 hv
  obtain ⟨fuel, hf⟩ := h
  obtain ⟨day, pa, le, A, n, c, l, e, h1, h2, h3⟩ := open_school_cells hf
  obtain ⟨cl⟩ := cs
  have e : cl = [.int .i64 day, .slice A n c, .int .i64 pa, .int .i64 le] := e
  subst e
  exact ⟨day, pa, le, A, n, c, l, rfl, h1, h2, h3⟩
set_option maxRecDepth 100000 in
theorem open_console {H : Type} {enc : TypeId × Value → H} {w : World} {base b0 : Nat} {spare : Nat → Bool} {held : Bool} {r : Reach} {v : Value} {d : DataW H} {p : List MemPlace}
    (hv : Value.okWide Try.prog w r b0 39 v) (h : DataW.Trod enc Try.prog w base spare held 39 v d p) :
    ∃ (day pa le : Int) (D Q : ByteArray) (z : Int) (A : Option Addr) (n c : Nat) (l : List R5), v = .agg #[.int .i64 day, .slice A n c, .int .i64 pa, .int .i64 le, .string D, .string Q, .int .i64 z] ∧ n ≤ maxLen ∧ D.size ≤ maxLen ∧ Q.size ≤ maxLen ∧ SlOk A n c ∧ Reads w w.heap.size 5 A n (rowsV l) := by
  obtain ⟨cs, rfl, hsz⟩ := okWide_struct Try.underlying39 hv
  obtain ⟨fuel, hf⟩ := h
  obtain ⟨cs0, cs1, y0, y1, m, e, t0, t1⟩ := open_cells43 Try.underlying39 (by kernel_rfl) (by kernel_rfl) (by kernel_rfl) (by kernel_rfl) (by kernel_rfl) hf
  obtain ⟨day, pa, le, A, n, c, l, rfl, h1, h2, h3⟩ := open_school_cells t0
  obtain ⟨c4, c5, c6, y4, y5, y6, m2, rfl, t4, t5, t6⟩ := open_cells3 Try.underlying37 (by kernel_rfl) (by kernel_rfl) t1
  obtain ⟨D, e4, _, w4⟩ := DataW.trod_string Try.underlying9 t4
  obtain ⟨Q, e5, _, w5⟩ := DataW.trod_string Try.underlying9 t5
  obtain ⟨z, e6, _, w6⟩ := DataW.trod_int Try.underlying3 t6
  simp at e4 e5 e6
  subst e4 e5 e6
  obtain ⟨cl⟩ := cs
  have e : cl = [.int .i64 day, .slice A n c, .int .i64 pa, .int .i64 le] ++ [.string D, .string Q, .int .i64 z] := e
  subst e
  exact ⟨day, pa, le, D, Q, z, A, n, c, l, rfl, h1, w4, w5, h2, h3⟩
end Go.Proofs.Ytclihlihaigddaa
