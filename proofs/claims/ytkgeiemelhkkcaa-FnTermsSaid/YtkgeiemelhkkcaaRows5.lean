
/- A report's row as five numbers, and a slice of rows as its cells. -/
import Derived.Test.YtkgeiemelhkkcaaBase
namespace Go.Proofs.Ytkgeiemelhkkcaa
open Go.RowKit
set_option linter.unusedVariables false
set_option linter.unusedSimpArgs false
structure R5 where
  a : Int
  b : Int
  c : Int
  d : Int
  e : Int
theorem R5.eq_iff (r s : R5) : r = s ↔ (r.a = s.a ∧ r.b = s.b ∧ r.c = s.c ∧ r.d = s.d ∧ r.e = s.e) := by
  cases r; cases s; simp
instance : DecidableEq R5 := fun r s => decidable_of_iff _ (R5.eq_iff r s).symm
def eq5 (r s : R5) : Bool := decide (r = s)
def R5.cells (r : R5) : List Value := [.int .i64 r.a, .int .i64 r.b, .int .i64 r.c, .int .i64 r.d, .int .i64 r.e]
abbrev R5.val (r : R5) : Value := .agg #[.int .i64 r.a, .int .i64 r.b, .int .i64 r.c, .int .i64 r.d, .int .i64 r.e]
def rowsV (l : List R5) : List Value := l.flatMap R5.cells
theorem rowsV_len (l : List R5) : (rowsV l).length = l.length * 5 := flat_len R5.cells 5 (fun _ => rfl) l
theorem rowsV_get {l : List R5} {k : Nat} {r : R5} (h : l[k]? = some r) :
    (rowsV l)[k * 5 + 0]? = some (.int .i64 r.a) ∧ (rowsV l)[k * 5 + 1]? = some (.int .i64 r.b) ∧ (rowsV l)[k * 5 + 2]? = some (.int .i64 r.c) ∧ (rowsV l)[k * 5 + 3]? = some (.int .i64 r.d) ∧ (rowsV l)[k * 5 + 4]? = some (.int .i64 r.e) :=
  ⟨flat_get R5.cells 5 (fun _ => rfl) l k 0 r h (by omega), flat_get R5.cells 5 (fun _ => rfl) l k 1 r h (by omega), flat_get R5.cells 5 (fun _ => rfl) l k 2 r h (by omega), flat_get R5.cells 5 (fun _ => rfl) l k 3 r h (by omega), flat_get R5.cells 5 (fun _ => rfl) l k 4 r h (by omega)⟩
/-- row k of a slice of rows: its address and its five cells -/
theorem rows_at {w : World} {B n : Nat} {A : Option Addr} {l : List R5} (h : Reads w B 5 A n (rowsV l)) {k : Nat} {r : R5} (hr : l[k]? = some r) :
    ∃ b o, A = some ⟨b, o, none⟩ ∧ b < B ∧ w.cell? ⟨b, o + k * 5, none⟩ = some (.int .i64 r.a) ∧ w.cell? ⟨b, o + k * 5 + 1, none⟩ = some (.int .i64 r.b) ∧ w.cell? ⟨b, o + k * 5 + 2, none⟩ = some (.int .i64 r.c) ∧ w.cell? ⟨b, o + k * 5 + 3, none⟩ = some (.int .i64 r.d) ∧ w.cell? ⟨b, o + k * 5 + 4, none⟩ = some (.int .i64 r.e) := by
  have hk : k < l.length := (List.getElem?_eq_some_iff.1 hr).1
  have hn : l.length * 5 = n * 5 := by rw [← rowsV_len]; exact h.1
  obtain ⟨b, o, hA, hb, hc⟩ := h.2 (by omega)
  obtain ⟨h0, h1, h2, h3, h4⟩ := rowsV_get hr
  exact ⟨b, o, hA, hb, hc _ _ h0, hc _ _ h1, hc _ _ h2, hc _ _ h3, hc _ _ h4⟩
theorem rows_len {w : World} {B n : Nat} {A : Option Addr} {l : List R5} (h : Reads w B 5 A n (rowsV l)) : l.length = n := by
  have := h.1; rw [rowsV_len] at this; omega
end Go.Proofs.Ytkgeiemelhkkcaa
