
/- A row of three numbers, and a slice of rows as its cells. -/
import Derived.Test.YtlkfffohjeoooaaBase
namespace Go.Proofs.Ytlkfffohjeoooaa
open Go.RowKit
set_option linter.unusedVariables false
set_option linter.unusedSimpArgs false
structure R3 where
  a : Int
  b : Int
  c : Int
theorem R3.eq_iff (r s : R3) : r = s ↔ (r.a = s.a ∧ r.b = s.b ∧ r.c = s.c) := by
  cases r; cases s; simp
instance : DecidableEq R3 := fun r s => decidable_of_iff _ (R3.eq_iff r s).symm
def eq3 (r s : R3) : Bool := decide (r = s)
def R3.cells (r : R3) : List Value := [.int .i64 r.a, .int .i64 r.b, .int .i64 r.c]
abbrev R3.val (r : R3) : Value := .agg #[.int .i64 r.a, .int .i64 r.b, .int .i64 r.c]
def rowsV3 (l : List R3) : List Value := l.flatMap R3.cells
theorem rowsV_len3 (l : List R3) : (rowsV3 l).length = l.length * 3 := flat_len R3.cells 3 (fun _ => rfl) l
theorem rowsV_get3 {l : List R3} {k : Nat} {r : R3} (h : l[k]? = some r) :
    (rowsV3 l)[k * 3 + 0]? = some (.int .i64 r.a) ∧ (rowsV3 l)[k * 3 + 1]? = some (.int .i64 r.b) ∧ (rowsV3 l)[k * 3 + 2]? = some (.int .i64 r.c) :=
  ⟨flat_get R3.cells 3 (fun _ => rfl) l k 0 r h (by omega), flat_get R3.cells 3 (fun _ => rfl) l k 1 r h (by omega), flat_get R3.cells 3 (fun _ => rfl) l k 2 r h (by omega)⟩
theorem rows_at3 {w : World} {B n : Nat} {A : Option Addr} {l : List R3} (h : Reads w B 3 A n (rowsV3 l)) {k : Nat} {r : R3} (hr : l[k]? = some r) :
    ∃ b o, A = some ⟨b, o, none⟩ ∧ b < B ∧ w.cell? ⟨b, o + k * 3, none⟩ = some (.int .i64 r.a) ∧ w.cell? ⟨b, o + k * 3 + 1, none⟩ = some (.int .i64 r.b) ∧ w.cell? ⟨b, o + k * 3 + 2, none⟩ = some (.int .i64 r.c) := by
  have hk : k < l.length := (List.getElem?_eq_some_iff.1 hr).1
  have hn : l.length * 3 = n * 3 := by rw [← rowsV_len3]; exact h.1
  obtain ⟨b, o, hA, hb, hc⟩ := h.2 (by omega)
  obtain ⟨h0, h1, h2⟩ := rowsV_get3 hr
  exact ⟨b, o, hA, hb, hc _ _ h0, hc _ _ h1, hc _ _ h2⟩
theorem rows_len3 {w : World} {B n : Nat} {A : Option Addr} {l : List R3} (h : Reads w B 3 A n (rowsV3 l)) : l.length = n := by
  have := h.1; rw [rowsV_len3] at this; omega
end Go.Proofs.Ytlkfffohjeoooaa
