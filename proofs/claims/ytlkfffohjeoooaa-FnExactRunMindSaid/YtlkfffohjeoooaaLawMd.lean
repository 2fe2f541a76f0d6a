
/- A law's argument that is a mind. -/
import Derived.Test.YtlkfffohjeoooaaLaw
import Derived.Test.YtlkfffohjeoooaaLawFr
import Derived.Test.YtlkfffohjeoooaaMdA
namespace Go.Proofs.Ytlkfffohjeoooaa
open Go.ChangeShapes Go.WideShapes Go.ChangeAt Go.RowKit Go.Deep Go.Joins
set_option linter.unusedVariables false
section
variable {H : Type} {enc : TypeId × Value → H} {P : Program}
/-- a slice of ints -/
theorem open_ints_t {w : World} {base : Nat} {spare : Nat → Bool} {held : Bool} {t e : TypeId} {fuel : Nat} {cs : List Value} {x : DataW H × List MemPlace} (ht : P.underlying t = some (.slice e)) (he : P.underlying e = some (.int .i64)) (hC : P.cellsOf e = 1)
    (h : DataW.trod enc P w base spare held fuel t cs = some x) :
    ∃ (A : Option Addr) (n c : Nat) (l : List Int), cs = [.slice A n c] ∧ n ≤ maxLen ∧ Reads w w.heap.size 1 A n (intsV l) := by
  rcases open_slice ht h with ⟨hcs, _⟩ | ⟨a, len, cap, m, k, D, Pl, hcs, hb, hl, hm, hmm, hx, hi⟩
  · exact ⟨none, 0, 0, [], hcs, Nat.zero_le _, ⟨by simp [intsV], fun h => absurd h (by omega)⟩⟩
  · have hlm : len ≤ m := by rw [hmm]; split <;> omega
    have hex : ∀ i, i < len → ∃ q : Int, w.cell? (a.add (i * 1 + 0)) = some (.int .i64 q) := fun i hi' => by
      obtain ⟨cs', hc, ht'⟩ := hi i (by omega)
      rw [hC] at hc
      obtain ⟨_, hcl, hat⟩ := World.cells?_some hc
      obtain ⟨q, e0, _, wq⟩ := DataW.trod_int he ht'
      have hcell := hat 0 (by omega)
      refine ⟨q, ?_⟩
      rw [← Go.Deep.add_add, hcell, e0]
      rfl
    obtain ⟨G, hG⟩ := choose_lt hex
    have hr := reads_of_fn (w := w) (a := a) (len := len) (K := 1) (V := fun i _ => .int .i64 (G i)) (by omega) (fun i hi j hj => by cases (show j = 0 by omega); exact hG i hi)
    refine ⟨some a, len, cap, (List.range len).map G, hcs, by omega, ?_⟩
    have e : intsV ((List.range len).map G) = (List.range len).flatMap fun i => (List.range 1).map fun _ => .int .i64 (G i) := by
      simp [intsV, List.flatMap_def, List.range_succ, Function.comp_def]
      induction (List.range len) with
      | nil => rfl
      | cons x xs ih => simp [ih]
    rw [e]
    exact hr
/-- a struct: a struct of three cells and four fields of one cell -/
theorem open_cells31 {w : World} {base : Nat} {spare : Nat → Bool} {held : Bool} {t : TypeId} {f0 f1 f2 f3 f4 : Field} {fuel : Nat} {cs : List Value} {x : DataW H × List MemPlace} (hs : P.underlying t = some (.struct #[f0, f1, f2, f3, f4])) (o0 : f0.offset = 0) (k0 : P.cellsOf f0.type = 3) (o1 : f1.offset = 3) (k1 : P.cellsOf f1.type = 1) (o2 : f2.offset = 4) (k2 : P.cellsOf f2.type = 1) (o3 : f3.offset = 5) (k3 : P.cellsOf f3.type = 1) (o4 : f4.offset = 6) (k4 : P.cellsOf f4.type = 1) (hC : P.cellsOf t = 7)
    (h : DataW.trod enc P w base spare held fuel t cs = some x) :
    ∃ (cs0 : List Value) (v1 v2 v3 v4 : Value) (y0 y1 y2 y3 y4 : DataW H × List MemPlace) (n : Nat), cs = cs0 ++ [v1, v2, v3, v4] ∧
      DataW.trod enc P w base spare held n f0.type cs0 = some y0 ∧ DataW.trod enc P w base spare held n f1.type [v1] = some y1 ∧ DataW.trod enc P w base spare held n f2.type [v2] = some y2 ∧ DataW.trod enc P w base spare held n f3.type [v3] = some y3 ∧ DataW.trod enc P w base spare held n f4.type [v4] = some y4 := by
  obtain ⟨xs, n, _, _, hlen, hxl, hg⟩ := DataW.trod_struct hs h
  match cs, hlen.trans hC with
  | [c0, c1, c2, c3, c4, c5, c6], _ =>
    match xs, hxl with
    | [y0, y1, y2, y3, y4], _ =>
      exact ⟨[c0, c1, c2], c3, c4, c5, c6, y0, y1, y2, y3, y4, n, rfl, by simpa [o0, k0] using hg 0 f0 rfl, by simpa [o1, k1] using hg 1 f1 rfl, by simpa [o2, k2] using hg 2 f2 rfl, by simpa [o3, k3] using hg 3 f3 rfl, by simpa [o4, k4] using hg 4 f4 rfl⟩
end
set_option maxRecDepth 100000 in
theorem open_mind {H : Type} {enc : TypeId × Value → H} {w : World} {base b0 : Nat} {spare : Nat → Bool} {held : Bool} {r : Reach} {v : Value} {d : DataW H} {p : List MemPlace}
    (hv : Value.okWide Try.prog w r b0 42 v) (h : DataW.Trod enc Try.prog w base spare held 42 v d p) :
    ∃ (u lo : Int) (A : Option Addr) (n c : Nat) (l : List R2) (K : Option Addr) (k kc : Nat) (cl : List Int) (I : Option Addr) (m ic : Nat) (im : List Int) (be gu : Int), v = mdV u lo A n c K k kc I m ic be gu ∧ n ≤ maxLen ∧ k ≤ maxLen ∧ m ≤ maxLen ∧ Reads w w.heap.size 2 A n (rowsV2 l) ∧ Reads w w.heap.size 1 K k (intsV cl) ∧ Reads w w.heap.size 1 I m (intsV im) := by
  obtain ⟨cs, rfl, hsz⟩ := okWide_struct Try.underlying42 hv
  obtain ⟨fuel, hf⟩ := h
  obtain ⟨cs0, c1, c2, c3, c4, y0, y1, y2, y3, y4, mm, e, t0, t1, t2, t3, t4⟩ := open_cells31 Try.underlying42 (by kernel_rfl) (by kernel_rfl) (by kernel_rfl) (by kernel_rfl) (by kernel_rfl) (by kernel_rfl) (by kernel_rfl) (by kernel_rfl) (by kernel_rfl) (by kernel_rfl) (by kernel_rfl) hf
  obtain ⟨a0, a1, a2, z0, z1, z2, m2, rfl, s0, s1, s2⟩ := open_three Try.underlying24 (by kernel_rfl) (by kernel_rfl) t0
  obtain ⟨u, e0, _, w0⟩ := DataW.trod_int Try.underlying3 s0
  obtain ⟨lo, e1, _, w1⟩ := DataW.trod_int Try.underlying3 s1
  obtain ⟨A, n, c, l, e2, hn, hr⟩ := open_rods Try.underlying22 Try.underlying155 Try.underlying3 (by kernel_rfl) (by kernel_rfl) s2
  obtain ⟨K, k, kc, cl, e3, hk, hc⟩ := open_ints_t Try.underlying40 Try.underlying3 (by kernel_rfl) t1
  obtain ⟨I, m, ic, im, e4, hm, hi⟩ := open_ints_t Try.underlying40 Try.underlying3 (by kernel_rfl) t2
  obtain ⟨be, e5, _, w5⟩ := DataW.trod_int Try.underlying3 t3
  obtain ⟨gu, e6, _, w6⟩ := DataW.trod_int Try.underlying3 t4
  simp at e0 e1 e2 e3 e4 e5 e6
  subst e0 e1 e2 e3 e4 e5 e6
  obtain ⟨cl'⟩ := cs
  have e : cl' = [.int .i64 u, .int .i64 lo, .slice A n c, .slice K k kc, .slice I m ic, .int .i64 be, .int .i64 gu] := e
  subst e
  exact ⟨u, lo, A, n, c, l, K, k, kc, cl, I, m, ic, im, be, gu, rfl, hn, hk, hm, hr, hc, hi⟩
end Go.Proofs.Ytlkfffohjeoooaa
