
/- A row of two numbers, and a slice of rows as its cells. -/
import Derived.Test.YtlkfffohjeoooaaBase
namespace Go.Proofs.Ytlkfffohjeoooaa
open Go.RowKit
set_option linter.unusedVariables false
set_option linter.unusedSimpArgs false
structure R2 where
  a : Int
  b : Int
theorem R2.eq_iff (r s : R2) : r = s ↔ (r.a = s.a ∧ r.b = s.b) := by
  cases r; cases s; simp
instance : DecidableEq R2 := fun r s => decidable_of_iff _ (R2.eq_iff r s).symm
def eq2 (r s : R2) : Bool := decide (r = s)
def R2.cells (r : R2) : List Value := [.int .i64 r.a, .int .i64 r.b]
abbrev R2.val (r : R2) : Value := .agg #[.int .i64 r.a, .int .i64 r.b]
def rowsV2 (l : List R2) : List Value := l.flatMap R2.cells
theorem rowsV_len2 (l : List R2) : (rowsV2 l).length = l.length * 2 := flat_len R2.cells 2 (fun _ => rfl) l
theorem rowsV_get2 {l : List R2} {k : Nat} {r : R2} (h : l[k]? = some r) :
    (rowsV2 l)[k * 2 + 0]? = some (.int .i64 r.a) ∧ (rowsV2 l)[k * 2 + 1]? = some (.int .i64 r.b) :=
  ⟨flat_get R2.cells 2 (fun _ => rfl) l k 0 r h (by omega), flat_get R2.cells 2 (fun _ => rfl) l k 1 r h (by omega)⟩
theorem rows_at2 {w : World} {B n : Nat} {A : Option Addr} {l : List R2} (h : Reads w B 2 A n (rowsV2 l)) {k : Nat} {r : R2} (hr : l[k]? = some r) :
    ∃ b o, A = some ⟨b, o, none⟩ ∧ b < B ∧ w.cell? ⟨b, o + k * 2, none⟩ = some (.int .i64 r.a) ∧ w.cell? ⟨b, o + k * 2 + 1, none⟩ = some (.int .i64 r.b) := by
  have hk : k < l.length := (List.getElem?_eq_some_iff.1 hr).1
  have hn : l.length * 2 = n * 2 := by rw [← rowsV_len2]; exact h.1
  obtain ⟨b, o, hA, hb, hc⟩ := h.2 (by omega)
  obtain ⟨h0, h1⟩ := rowsV_get2 hr
  exact ⟨b, o, hA, hb, hc _ _ h0, hc _ _ h1⟩
theorem rows_len2 {w : World} {B n : Nat} {A : Option Addr} {l : List R2} (h : Reads w B 2 A n (rowsV2 l)) : l.length = n := by
  have := h.1; rw [rowsV_len2] at this; omega
end Go.Proofs.Ytlkfffohjeoooaa
