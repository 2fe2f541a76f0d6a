
/- A step of a school, plainly. -/
import Derived.Test.YtclihlihaigddaaScF
namespace Go.Proofs.Ytclihlihaigddaa
open Go.RowKit
set_option linter.unusedVariables false
set_option linter.unusedSimpArgs false
/-- where a new student is put: ahead of the first with a number not less -/
def insK (l : List R5) (id : Int) : Nat := (l.takeWhile fun r => decide (r.a < id)).length
def insS (l : List R5) (id v day : Int) : List R5 := l.take (insK l id) ++ ⟨id, v, 0, day, 0⟩ :: l.drop (insK l id)
theorem insK_le (l : List R5) (id : Int) : insK l id ≤ l.length := (List.takeWhile_sublist _).length_le
theorem insS_len (l : List R5) (id v day : Int) : (insS l id v day).length = l.length + 1 := by
  have := insK_le l id
  simp [insS]; omega
/-- what the loop that looks for the place knows -/
def lowTo (l : List R5) (id : Int) (k : Nat) : Prop := ∀ i r, i < k → l[i]? = some r → r.a < id
theorem lowTo_zero (l : List R5) (id : Int) : lowTo l id 0 := fun i r h => absurd h (by omega)
theorem lowTo_succ {l : List R5} {id : Int} {k : Nat} {r : R5} (h : lowTo l id k) (hr : l[k]? = some r) (hlt : r.a < id) : lowTo l id (k + 1) := by
  intro i s hi hs
  by_cases e : i = k
  · subst e; rw [hr] at hs; injection hs with hs; rw [← hs]; exact hlt
  · exact h i s (by omega) hs
theorem insK_of : ∀ (l : List R5) (id : Int) (k : Nat), lowTo l id k → k ≤ l.length → (∀ r, l[k]? = some r → ¬ r.a < id) → insK l id = k := by
  intro l
  induction l with
  | nil => intro id k _ hk _; simp at hk; subst hk; rfl
  | cons x l ih =>
    intro id k h hk hend
    rcases k with _ | k
    · have := hend x (by simp)
      simp [insK, List.takeWhile_cons, this]
    · have hx := h 0 x (by omega) (by simp)
      have := ih id k (fun i r hi hr => h (i + 1) r (by omega) (by simpa using hr)) (by simpa using hk) (fun r hr => hend r (by simpa using hr))
      unfold insK at this ⊢
      simp [List.takeWhile_cons, hx, this]
/-- a student who is there, after a step: the students, how many passed, how many left -/
def teach (day pa le : Int) (l : List R5) (i : Nat) (r : R5) (k v : Int) : Option (List R5 × Int × Int) :=
  if k = 3 then (if r.d < day ∨ inB v 1 20 = false then none else some (l.set i { r with c := r.c + v }, pa, le))
  else if k = 4 then (if r.d < day ∨ r.b = 10 ∨ inB v 0 100 = false then none else if 70 ≤ v ∧ 10 + 5 * r.b ≤ r.c then some (l.set i ⟨r.a, r.b + 1, 0, r.d, 0⟩, pa + 1, le) else some (l.set i { r with e := r.e + 1 }, pa, le))
  else if k = 5 then (if inB v 1 365 = false then none else some (l.set i { r with d := (if day < r.d then r.d else day) + v }, pa, le))
  else (if v ≠ 0 then none else some (l.eraseIdx i, pa, le + 1))
/-- a step, ahead of the question whether the school is valid then -/
def tryS (day pa le : Int) (l : List R5) (k id v : Int) : Option (Int × List R5 × Int × Int) :=
  if k = 1 then (if id ≠ 0 ∨ v < 1 then none else some (day + v, l, pa, le))
  else if k = 2 then (if 0 ≤ findI l id ∨ inB v 0 5 = false then none else some (day, insS l id v day, pa, le))
  else if k = 3 ∨ k = 4 ∨ k = 5 ∨ k = 6 then (if findI l id < 0 then none else match l[(findI l id).toNat]? with | none => none | some r => (teach day pa le l (findI l id).toNat r k v).map fun q => (day, q.1, q.2.1, q.2.2))
  else none
/-- a step of a valid school -/
def stepS (day pa le : Int) (l : List R5) (k id v : Int) : Option (Int × List R5 × Int × Int) :=
  (tryS day pa le l k id v).filter fun q => schB q.1 q.2.1 q.2.2.1 q.2.2.2
end Go.Proofs.Ytclihlihaigddaa
