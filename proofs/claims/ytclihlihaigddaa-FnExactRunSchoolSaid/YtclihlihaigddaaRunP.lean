
/- Running steps, plainly: the school behind the first k steps, and how many were made. -/
import Derived.Test.YtclihlihaigddaaScSg
import Derived.Test.YtclihlihaigddaaRows3
namespace Go.Proofs.Ytclihlihaigddaa
open Go.RowKit
set_option linter.unusedVariables false
set_option linter.unusedSimpArgs false
def runStep (q : Sch4 × Nat) (x : R3) : Sch4 × Nat := match stepS q.1.1 q.1.2.2.1 q.1.2.2.2 q.1.2.1 x.a x.b x.c with | none => q | some s => (s, q.2 + 1)
def runTo (q0 : Sch4) (xs : List R3) (k : Nat) : Sch4 × Nat := (xs.take k).foldl runStep (q0, 0)
theorem runTo_zero (q0 : Sch4) (xs : List R3) : runTo q0 xs 0 = (q0, 0) := by simp [runTo]
theorem runTo_succ {q0 : Sch4} {xs : List R3} {k : Nat} {x : R3} (h : xs[k]? = some x) : runTo q0 xs (k + 1) = runStep (runTo q0 xs k) x := by
  unfold runTo
  rw [List.take_add_one, h, List.foldl_append]
  rfl
def schQ (q : Sch4) : Bool := schB q.1 q.2.1 q.2.2.1 q.2.2.2
theorem stepS_ok {day pa le : Int} {l : List R5} {k id v : Int} {s : Sch4} (h : stepS day pa le l k id v = some s) : schQ s = true := by
  unfold stepS at h
  rcases ht : tryS day pa le l k id v with _ | q
  · rw [ht] at h; cases h
  · rw [ht, Option.filter_some] at h
    split at h
    · rename_i hs; injection h with h; rw [← h]; exact hs
    · cases h
theorem runStep_ok {q : Sch4 × Nat} (h : schQ q.1 = true) (x : R3) : schQ (runStep q x).1 = true := by
  unfold runStep
  rcases hs : stepS q.1.1 q.1.2.2.1 q.1.2.2.2 q.1.2.1 x.a x.b x.c with _ | s
  · exact h
  · exact stepS_ok hs
theorem runTo_ok {q0 : Sch4} (h : schQ q0 = true) (xs : List R3) : ∀ k, k ≤ xs.length → schQ (runTo q0 xs k).1 = true ∧ (runTo q0 xs k).2 ≤ k := by
  intro k
  induction k with
  | zero => intro _; rw [runTo_zero]; exact ⟨h, Nat.le_refl _⟩
  | succ k ih =>
    intro hk
    obtain ⟨x, hx⟩ := list_split (l := xs) (k := k) (by omega)
    obtain ⟨h1, h2⟩ := ih (by omega)
    rw [runTo_succ hx]
    refine ⟨runStep_ok h1 x, ?_⟩
    unfold runStep
    split
    · omega
    · simp only []; omega
theorem run_no {q0 : Sch4} {xs : List R3} {k m : Nat} {x : R3} {d p q : Int} {L : List R5} (h : runTo q0 xs k = ((d, L, p, q), m)) (hx : xs[k]? = some x) (hs : stepS d p q L x.a x.b x.c = none) : runTo q0 xs (k + 1) = ((d, L, p, q), m) := by
  rw [runTo_succ hx, h]
  simp only [runStep, hs]
theorem run_yes {q0 : Sch4} {xs : List R3} {k m : Nat} {x : R3} {d p q : Int} {L : List R5} {s : Sch4} (h : runTo q0 xs k = ((d, L, p, q), m)) (hx : xs[k]? = some x) (hs : stepS d p q L x.a x.b x.c = some s) : runTo q0 xs (k + 1) = (s, m + 1) := by
  rw [runTo_succ hx, h]
  simp only [runStep, hs]
theorem run_ok {q0 : Sch4} {xs : List R3} {k m : Nat} {d p q : Int} {L : List R5} (h : runTo q0 xs k = ((d, L, p, q), m)) (h0 : schQ q0 = true) (hk : k ≤ xs.length) : schB d L p q = true ∧ m ≤ k := by
  have := runTo_ok h0 xs k hk
  rw [h] at this
  exact this
/-- what RunSchool answers -/
def runB (q0 : Sch4) (xs : List R3) : Option (Sch4 × Nat) := if schQ q0 = true ∧ xs.length ≤ 40 then some (runTo q0 xs xs.length) else none
/-- a school of the call's own, a number and a bool come back, whatever the answer -/
def rD (o : Option (Sch4 × Nat)) : Int := match o with | none => 0 | some ((d, _, _, _), _) => d
def rL (o : Option (Sch4 × Nat)) : List R5 := match o with | none => [] | some ((_, l, _, _), _) => l
def rP (o : Option (Sch4 × Nat)) : Int := match o with | none => 0 | some ((_, _, p, _), _) => p
def rQ (o : Option (Sch4 × Nat)) : Int := match o with | none => 0 | some ((_, _, _, q), _) => q
def rM (o : Option (Sch4 × Nat)) : Int := match o with | none => 0 | some (_, m) => m
def RetRun (D P Q M : Int) (N : Nat) (L : List R5) (ok : Bool) (w : World) (e : Ending) (w' : World) : Prop :=
  ∃ A c, e = .returned (.tuple #[schV D A N c P Q, .int .i64 M, .bool ok]) ∧ w'.ownsRow w.heap.size 109 5 (.slice A N c) N (rowsV L) ∧ Below w.heap.size w w'
theorem rL_len (q0 : Sch4) (xs : List R3) : (rL (runB q0 xs)).length ≤ 8 := by
  unfold runB
  split
  · rename_i h
    obtain ⟨h1, _⟩ := runTo_ok h.1 xs xs.length (Nat.le_refl _)
    exact schB_len h1
  · simp [rL]
end Go.Proofs.Ytclihlihaigddaa
