
/- Texts as lists of bytes: splitting at a byte, checksums. No program in sight. -/
import Derived.Test.YtkgeiemelhkkcaaBase
namespace Go.Proofs.Ytkgeiemelhkkcaa
open Go.RowKit
set_option linter.unusedVariables false
set_option linter.unusedSimpArgs false
def str (l : List UInt8) : ByteArray := ⟨l.toArray⟩
def bl (s : ByteArray) : List UInt8 := s.data.toList
theorem str_bl (s : ByteArray) : str (bl s) = s := by simp [str, bl]
theorem bl_str (l : List UInt8) : bl (str l) = l := by simp [str, bl]
theorem bl_size (s : ByteArray) : (bl s).length = s.size := by unfold bl; rw [Array.length_toList]; rfl
theorem bl_append (a b : ByteArray) : bl (a ++ b) = bl a ++ bl b := by unfold bl; rw [ByteArray.data_append, Array.toList_append]
theorem bl_inj {a b : ByteArray} (h : bl a = bl b) : a = b := by rw [← str_bl a, ← str_bl b, h]
theorem bl_get {s : ByteArray} {k : Nat} (h : k < s.size) : (bl s)[k]? = some s[k] := by
  rw [List.getElem?_eq_getElem (by rw [bl_size]; exact h)]
  rfl
theorem bl_extract (s : ByteArray) (a b : Nat) : bl (s.extract a b) = ((bl s).take b).drop a := by
  simp [bl, List.extract_eq_take_drop, List.take_drop]
  by_cases h : a ≤ b
  · rw [show a + (b - a) = b from by omega]
  · rw [show a + (b - a) = a from by omega, List.drop_of_length_le (by simp; omega), List.drop_of_length_le (by simp; omega)]
def splitL (b : UInt8) : List UInt8 → List (List UInt8)
  | [] => [[]]
  | c :: l => if c = b then [] :: splitL b l else match splitL b l with | [] => [[c]] | h :: t => (c :: h) :: t
def glue (pre : List UInt8) (P : List (List UInt8)) : List (List UInt8) := match P with | [] => [pre] | h :: t => (pre ++ h) :: t
theorem splitL_ne (b : UInt8) (l : List UInt8) : splitL b l ≠ [] := by
  cases l with
  | nil => simp [splitL]
  | cons c l =>
    simp only [splitL]
    split
    · simp
    · split <;> simp
theorem splitL_miss {b c : UInt8} {l : List UInt8} (h : c ≠ b) : splitL b (c :: l) = glue [c] (splitL b l) := by
  simp only [splitL, if_neg h, glue]
  split <;> simp_all
theorem splitL_hit (b : UInt8) (l : List UInt8) : splitL b (b :: l) = [] :: splitL b l := by simp [splitL]
theorem glue_glue (p q : List UInt8) {P : List (List UInt8)} (h : P ≠ []) : glue p (glue q P) = glue (p ++ q) P := by
  cases P with
  | nil => exact absurd rfl h
  | cons x t => simp [glue]
theorem glue_nil {P : List (List UInt8)} (h : P ≠ []) : glue [] P = P := by
  cases P with
  | nil => exact absurd rfl h
  | cons x t => simp [glue]
theorem splitL_len (b : UInt8) (l : List UInt8) : (splitL b l).length = 1 + l.count b := by
  induction l with
  | nil => simp [splitL]
  | cons c l ih =>
    by_cases h : c = b
    · subst h; rw [splitL_hit]; simp [ih]; omega
    · rw [splitL_miss h]
      have : (glue [c] (splitL b l)).length = (splitL b l).length := by
        cases hs : splitL b l with
        | nil => exact absurd hs (splitL_ne b l)
        | cons x t => simp [glue]
      rw [this, ih, List.count_cons_of_ne h]
theorem splitL_one (b : UInt8) (l : List UInt8) : ((splitL b l).length = 1) ↔ b ∉ l := by
  rw [splitL_len, ← List.count_eq_zero]; omega
theorem splitL_head (b : UInt8) (l : List UInt8) : (splitL b l)[0]? = some (l.takeWhile (· != b)) := by
  induction l with
  | nil => simp [splitL]
  | cons c l ih =>
    by_cases h : c = b
    · subst h; rw [splitL_hit]; simp
    · rw [splitL_miss h]
      cases hs : splitL b l with
      | nil => exact absurd hs (splitL_ne b l)
      | cons x t =>
        rw [hs] at ih
        simp at ih
        simp [glue, h, ih]
/-- the state of the loop that splits: P has been cut off, 'pre' is what stands since the last cut -/
def splitAt (b : UInt8) (l : List UInt8) (P : List (List UInt8)) (f i : Nat) : Prop := f ≤ i ∧ i ≤ l.length ∧ P.length ≤ f ∧ P ++ glue ((l.take i).drop f) (splitL b (l.drop i)) = splitL b l
theorem splitAt_start (b : UInt8) (l : List UInt8) : splitAt b l [] 0 0 := ⟨Nat.le_refl _, Nat.zero_le _, by simp, by simp [glue_nil (splitL_ne b l)]⟩
theorem splitAt_hit {b : UInt8} {l : List UInt8} {P : List (List UInt8)} {f i : Nat} (h : splitAt b l P f i) (hc : l[i]? = some b) : splitAt b l (P ++ [(l.take i).drop f]) (i + 1) (i + 1) := by
  obtain ⟨h1, h2, h4, h3⟩ := h
  have hi : i < l.length := (List.getElem?_eq_some_iff.1 hc).1
  refine ⟨Nat.le_refl _, hi, by simp; omega, ?_⟩
  have hd : l.drop i = b :: l.drop (i + 1) := by
    rw [List.drop_eq_getElem_cons hi]
    have := List.getElem?_eq_some_iff.1 hc
    rw [this.2]
  rw [hd, splitL_hit] at h3
  have e : (l.take (i + 1)).drop (i + 1) = [] := by simp
  rw [e, glue_nil (splitL_ne _ _), ← h3]
  simp [glue]
theorem splitAt_miss {b c : UInt8} {l : List UInt8} {P : List (List UInt8)} {f i : Nat} (h : splitAt b l P f i) (hc : l[i]? = some c) (hne : c ≠ b) : splitAt b l P f (i + 1) := by
  obtain ⟨h1, h2, h4, h3⟩ := h
  have hi : i < l.length := (List.getElem?_eq_some_iff.1 hc).1
  refine ⟨by omega, hi, h4, ?_⟩
  have hd : l.drop i = c :: l.drop (i + 1) := by
    rw [List.drop_eq_getElem_cons hi]
    have := List.getElem?_eq_some_iff.1 hc
    rw [this.2]
  rw [hd, splitL_miss hne, glue_glue _ _ (splitL_ne _ _)] at h3
  rw [← h3]
  congr 2
  rw [List.take_add_one, hc, List.drop_append_of_le_length (by simp; omega)]
  rfl
theorem splitAt_end {b : UInt8} {l : List UInt8} {P : List (List UInt8)} {f i : Nat} (h : splitAt b l P f i) (hi : i = l.length) : P ++ [(l.take i).drop f] = splitL b l := by
  obtain ⟨_, _, _, h3⟩ := h
  subst hi
  rw [← h3]
  simp [splitL, glue]
def strsV (P : List (List UInt8)) : List Value := P.map fun x => Value.string (str x)
end Go.Proofs.Ytkgeiemelhkkcaa
