
/- RunMind, plainly. -/
import Derived.Test.YtlkfffohjeoooaaMdV
namespace Go.Proofs.Ytlkfffohjeoooaa
open Go.RowKit
set_option linter.unusedVariables false
set_option linter.unusedSimpArgs false
/-- the mind behind the first j steps, and how many were possible -/
def runMi (q : Md) (l : List R2) : Nat → Md × Nat
  | 0 => (q, 0)
  | j + 1 => match l[j]? with
    | none => runMi q l j
    | some s => match stM (runMi q l j).1 s.a s.b with
      | some q' => (q', (runMi q l j).2 + 1)
      | none => runMi q l j
theorem runMi_next {q q1 : Md} {l : List R2} {j c : Nat} {s : R2} (h : runMi q l j = (q1, c)) (hs : l[j]? = some s) : runMi q l (j + 1) = match stM q1 s.a s.b with | some q' => (q', c + 1) | none => (q1, c) := by
  show (match l[j]? with | none => runMi q l j | some s => match stM (runMi q l j).1 s.a s.b with | some q' => (q', (runMi q l j).2 + 1) | none => runMi q l j) = _
  rw [hs, h]
theorem runMi_ok {q : Md} (h : mdOK q = true) (l : List R2) : ∀ j, mdOK (runMi q l j).1 = true := by
  intro j
  induction j with
  | zero => exact h
  | succ j ih =>
    cases hs : l[j]? with
    | none => rw [show runMi q l (j + 1) = runMi q l j by simp only [runMi, hs]]; exact ih
    | some s =>
      rw [runMi_next (c := (runMi q l j).2) (q1 := (runMi q l j).1) rfl hs]
      cases hst : stM (runMi q l j).1 s.a s.b with
      | none => exact ih
      | some q' => exact st_ok hst
def runO (q : Md) (l : List R2) : Option (Md × Nat) := if mdOK q = true ∧ l.length ≤ 40 then some (runMi q l l.length) else none
def RetRu (w : World) (o : Option (Md × Nat)) (e : Ending) (w' : World) : Prop := match o with
  | none => e = .returned (.tuple #[mdV 0 0 none 0 0 none 0 0 none 0 0 0 0, .int .i64 0, .bool false]) ∧ Below w.heap.size w w'
  | some (q, cnt) => ∃ h c g kc i ic, e = .returned (.tuple #[mdV q.u q.lo (some ⟨h, 0, none⟩) q.l.length c (some ⟨g, 0, none⟩) q.l.length kc (some ⟨i, 0, none⟩) q.l.length ic q.be q.gu, .int .i64 cnt, .bool true]) ∧
    w'.ownsRow w.heap.size 155 2 (.slice (some ⟨h, 0, none⟩) q.l.length c) q.l.length (rowsV2 q.l) ∧ w'.ownsRow w.heap.size 3 1 (.slice (some ⟨g, 0, none⟩) q.l.length kc) q.l.length (intsV q.cl) ∧ w'.ownsRow w.heap.size 3 1 (.slice (some ⟨i, 0, none⟩) q.l.length ic) q.l.length (intsV q.im) ∧ g ≠ i ∧ Below w.heap.size w w'
end Go.Proofs.Ytlkfffohjeoooaa
