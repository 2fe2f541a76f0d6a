
/- What marking leaves; equal prefixes. -/
import Derived.Test.YtlkfffohjeoooaaLawAid
namespace Go.Proofs.Ytlkfffohjeoooaa
open Go.RowKit
set_option linter.unusedVariables false
set_option linter.unusedSimpArgs false
theorem take_eq_succ {α : Type} {l m : List α} {k : Nat} {r s : α} (h : l.take k = m.take k) (hr : l[k]? = some r) (hs : m[k]? = some s) : l.take (k + 1) = m.take (k + 1) ↔ r = s := by
  rw [List.take_add_one, List.take_add_one, hr, hs, h]; simp
/-- what marking leaves in the cells -/
def marks (k0 : Int) (n : Nat) : List Value := (List.range n).map fun (i : Nat) => Value.int .i64 (k0 + (i : Int))
theorem marks_len (k0 : Int) (n : Nat) : (marks k0 n).length = n := by simp [marks]
theorem marks_get {k0 : Int} {n j : Nat} (h : j < n) : (marks k0 n)[j]? = some (.int .i64 (k0 + (j : Int))) := by simp [marks, h]
theorem marks_set {k0 : Int} {k : Nat} {xs : List Value} (h : k < xs.length) : (marks k0 k ++ xs.drop k).set k (.int .i64 (k0 + (k : Int))) = marks k0 (k + 1) ++ xs.drop (k + 1) := by
  rw [List.set_append_right _ _ (by rw [marks_len]; exact Nat.le_refl _), marks_len, Nat.sub_self, List.drop_eq_getElem_cons h, List.set_cons_zero]
  simp [marks, List.range_succ]
theorem marks_set' {k0 z : Int} {k : Nat} {xs : List Value} (h : k < xs.length) (hz : z = k0 + (k : Int)) : (marks k0 k ++ xs.drop k).set k (.int .i64 z) = marks k0 (k + 1) ++ xs.drop (k + 1) := by
  rw [hz]; exact marks_set h
end Go.Proofs.Ytlkfffohjeoooaa
