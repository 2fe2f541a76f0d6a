
/- A law's argument that is a list of moves. -/
import Derived.Test.YtbmagojomckkmaaLaw
import Derived.Test.YtbmagojomckkmaaRows3
namespace Go.Proofs.Ytbmagojomckkmaa
open Go.ChangeShapes Go.WideShapes Go.ChangeAt Go.RowKit Go.Deep Go.Joins
set_option linter.unusedVariables false
set_option maxRecDepth 100000 in
theorem open_moves {H : Type} {enc : TypeId × Value → H} {w : World} {base b0 : Nat} {spare : Nat → Bool} {held : Bool} {r : Reach} {v : Value} {d : DataW H} {p : List MemPlace}
    (hv : Value.okWide Try.prog w r b0 43 v) (h : DataW.Trod enc Try.prog w base spare held 43 v d p) :
    ∃ A len cap l, v = .slice A len cap ∧ len ≤ maxLen ∧ Reads w w.heap.size 3 A len (rowsV3 l) := by
  obtain ⟨A, len, cap, F, rfl, hl, hr, hw⟩ := open_int_structs Try.underlying43 Try.underlying116 (by kernel_rfl) (by kernel_rfl) (by decide) (fun j f hj => by
    match j, hj with
    | 0, hj => simp at hj; subst hj; exact Try.underlying3
    | 1, hj => simp at hj; subst hj; exact Try.underlying3
    | 2, hj => simp at hj; subst hj; exact Try.underlying3
    | j + 3, hj => simp at hj) hv h
  refine ⟨A, len, cap, (List.range len).map fun i => ⟨F i 0, F i 1, F i 2⟩, rfl, hl, ?_⟩
  have e : rowsV3 ((List.range len).map fun i => (⟨F i 0, F i 1, F i 2⟩ : R3)) = (List.range len).flatMap fun i => (List.range 3).map fun j => .int .i64 (F i j) := by
    simp [rowsV3, List.flatMap_map, R3.cells, List.range_succ]
  rw [e]
  exact hr
end Go.Proofs.Ytbmagojomckkmaa
