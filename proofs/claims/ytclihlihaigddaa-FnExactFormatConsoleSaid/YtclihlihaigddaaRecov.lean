/- The records at the start of a log: the plain law. -/
import Derived.Test.YtclihlihaigddaaDecode
namespace Go.Proofs.Ytclihlihaigddaa
open Go.RowKit
set_option linter.unusedVariables false
set_option linter.unusedSimpArgs false
theorem tw_facts (p : UInt8 → Bool) : ∀ t : List UInt8, (∀ i c, i < (t.takeWhile p).length → t[i]? = some c → p c = true) ∧ (∀ c, t[(t.takeWhile p).length]? = some c → p c = false) ∧ t.take (t.takeWhile p).length = t.takeWhile p := by
  intro t
  induction t with
  | nil => simp
  | cons x t ih =>
    obtain ⟨h1, h2, h3⟩ := ih
    rcases hx : p x with _ | _
    · simp [List.takeWhile_cons, hx]
    · refine ⟨?_, ?_, ?_⟩
      · intro i c hi hc
        rcases i with _ | i
        · simp at hc; rw [← hc]; exact hx
        · simp only [List.takeWhile_cons, hx, if_true, List.length_cons] at hi
          exact h1 i c (by omega) (by simpa using hc)
      · intro c hc
        simp only [List.takeWhile_cons, hx, if_true, List.length_cons, List.getElem?_cons_succ] at hc
        exact h2 c hc
      · simp [List.takeWhile_cons, hx, h3]
/-- the line that begins at a place, and where it ends -/
def ln (s : ByteArray) (at_ : Nat) : ByteArray := cutB (s.extract at_ s.size) 10
def lnEnd (s : ByteArray) (at_ : Nat) : Nat := at_ + (ln s at_).size
theorem ln_bl (s : ByteArray) (a : Nat) : bl (ln s a) = ((bl s).drop a).takeWhile (· != 10) := by
  rw [ln, cutB, bl_str, bl_extract, ← bl_size, List.take_length]
theorem ln_size (s : ByteArray) (a : Nat) : (ln s a).size = (((bl s).drop a).takeWhile (· != 10)).length := by rw [← bl_size, ln_bl]
theorem lnEnd_le {s : ByteArray} {a : Nat} (h : a ≤ s.size) : lnEnd s a ≤ s.size := by
  have h1 := cutB_size (s.extract a s.size) 10
  rw [extract_size _ _ _ (Nat.le_refl _)] at h1
  unfold lnEnd ln
  omega
theorem ln_miss {s : ByteArray} {a j : Nat} (h1 : a ≤ j) (h2 : j < lnEnd s a) (hj : j < s.size) : s[j] ≠ 10 := by
  have := (tw_facts (· != 10) ((bl s).drop a)).1 (j - a) s[j] (by rw [← ln_size]; unfold lnEnd at h2; omega) (by rw [List.getElem?_drop, show a + (j - a) = j from by omega]; exact bl_get hj)
  simpa using this
theorem ln_hit {s : ByteArray} {a : Nat} (hj : lnEnd s a < s.size) : s[lnEnd s a] = 10 := by
  have := (tw_facts (· != 10) ((bl s).drop a)).2.1 s[lnEnd s a] (by rw [← ln_size, List.getElem?_drop]; exact bl_get hj)
  simpa using this
theorem ln_extract (s : ByteArray) (a : Nat) : s.extract a (lnEnd s a) = ln s a := by
  apply bl_inj
  have h := (tw_facts (· != 10) ((bl s).drop a)).2.2
  rw [← ln_size, ← ln_bl] at h
  rw [bl_extract, ← h, List.take_drop]
  rfl
/-- how many pieces: two or more where there is a newline -/
theorem ln_pieces {s : ByteArray} {a : Nat} (h : a ≤ s.size) : oneB (s.extract a s.size) 10 < 2 ↔ lnEnd s a = s.size := by
  have e1 : bl (s.extract a s.size) = (bl s).drop a := by rw [bl_extract, ← bl_size, List.take_length]
  have e2 : oneB (s.extract a s.size) 10 = 1 + ((bl s).drop a).count 10 := by
    show (splitL 10 (bl (s.extract a s.size))).length = _
    rw [splitL_len, e1]
  rw [e2]
  have hle := lnEnd_le h
  constructor
  · intro hlt
    have h0 : ((bl s).drop a).count 10 = 0 := by omega
    by_cases he : lnEnd s a = s.size
    · exact he
    · have hl : lnEnd s a < s.size := by omega
      have h10 := ln_hit hl
      have hm : (10 : UInt8) ∈ (bl s).drop a := by
        rw [List.mem_iff_getElem?]
        exact ⟨lnEnd s a - a, by rw [List.getElem?_drop, show a + (lnEnd s a - a) = lnEnd s a from by unfold lnEnd; omega, bl_get hl, h10]⟩
      exact absurd hm (List.count_eq_zero.1 h0)
  · intro he
    have : ((bl s).drop a).count 10 = 0 := by
      rw [List.count_eq_zero]
      intro hm
      obtain ⟨i, hi⟩ := List.mem_iff_getElem?.1 hm
      have hlt : i < ((bl s).drop a).length := (List.getElem?_eq_some_iff.1 hi).1
      rw [List.length_drop, bl_size] at hlt
      rw [List.getElem?_drop, bl_get (by omega)] at hi
      exact ln_miss (s := s) (a := a) (j := a + i) (by omega) (by omega) (by omega) (by simpa using hi)
    omega
/-- one more record from a place on, with a number -/
def stepB (s : ByteArray) (a k : Nat) : Bool := decide (lnEnd s a < s.size) && dOk k (ln s a)
def recF (s : ByteArray) : Nat → Nat → Nat → List (ByteArray × ByteArray) × Nat
  | 0, a, _ => ([], a)
  | f + 1, a, k => if stepB s a k = true then let r := recF s f (lnEnd s a + 1) (k + 1); ((dC k (ln s a), dR k (ln s a)) :: r.1, r.2) else ([], a)
def recL (s : ByteArray) : List (ByteArray × ByteArray) := (recF s 60 0 0).1
def recE (s : ByteArray) : Nat := (recF s 60 0 0).2
theorem recF_end (s : ByteArray) : ∀ (f a k : Nat), a ≤ s.size → a ≤ (recF s f a k).2 ∧ (recF s f a k).2 ≤ s.size ∧ (recF s f a k).1.length ≤ f := by
  intro f
  induction f with
  | zero => intro a k h; simp [recF, h]
  | succ f ih =>
    intro a k h
    unfold recF
    split
    · rename_i hs
      simp only [stepB, Bool.and_eq_true, decide_eq_true_eq] at hs
      have := ih (lnEnd s a + 1) (k + 1) (by omega)
      have h2 : a ≤ lnEnd s a := by unfold lnEnd; omega
      refine ⟨by simp only []; omega, by simp only []; omega, by simp only [List.length_cons]; omega⟩
    · exact ⟨Nat.le_refl _, h, by simp⟩
end Go.Proofs.Ytclihlihaigddaa
