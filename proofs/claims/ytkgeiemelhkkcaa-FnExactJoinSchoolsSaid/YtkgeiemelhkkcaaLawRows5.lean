/- A law's argument that is a slice of rows, as the list of them. -/
import Derived.Test.YtkgeiemelhkkcaaLaw
import Derived.Test.YtkgeiemelhkkcaaRows5
namespace Go.Proofs.Ytkgeiemelhkkcaa
open Go.ChangeShapes Go.WideShapes Go.ChangeAt Go.RowKit Go.Deep Go.Joins
theorem open_rows {H : Type} {enc : TypeId × Value → H} {w : World} {base b0 : Nat} {spare : Nat → Bool} {held : Bool} {r : Reach} {v : Value} {d : DataW H} {p : List MemPlace}
    (hv : Value.okWide Try.prog w r b0 28 v) (h : DataW.Trod enc Try.prog w base spare held 28 v d p) :
    ∃ A len cap l, v = .slice A len cap ∧ len ≤ maxLen ∧ Reads w w.heap.size 5 A len (rowsV l) := by
  obtain ⟨A, len, cap, F, rfl, hl, hr, _⟩ := open_int_structs Try.underlying28 Try.underlying23 (by kernel_rfl) (by kernel_rfl) (by decide) (fun j f hj => by
    match j, hj with
    | 0, hj => simp at hj; subst hj; exact Try.underlying3
    | 1, hj => simp at hj; subst hj; exact Try.underlying3
    | 2, hj => simp at hj; subst hj; exact Try.underlying3
    | 3, hj => simp at hj; subst hj; exact Try.underlying3
    | 4, hj => simp at hj; subst hj; exact Try.underlying3
    | j + 5, hj => simp at hj) hv h
  refine ⟨A, len, cap, (List.range len).map fun i => ⟨F i 0, F i 1, F i 2, F i 3, F i 4⟩, rfl, hl, ?_⟩
  have e : rowsV ((List.range len).map fun i => (⟨F i 0, F i 1, F i 2, F i 3, F i 4⟩ : R5)) = (List.range len).flatMap fun i => (List.range 5).map fun j => .int .i64 (F i j) := by
    simp [rowsV, List.flatMap_map, R5.cells, List.range_succ]
  rw [e]
  exact hr
end Go.Proofs.Ytkgeiemelhkkcaa
