/- The log, plainly: how long what is read can be, what a valid log is. -/
import Derived.Test.YtclihlihaigddaaRecov
namespace Go.Proofs.Ytclihlihaigddaa
open Go.RowKit
set_option linter.unusedVariables false
set_option linter.unusedSimpArgs false
theorem dOk_parts {k : Nat} {l : ByteArray} (h : dOk k l = true) : dAt k l = true ∧ recB (dCmd k l) (dRep k l) = true ∧ lineB k (dCmd k l) (dRep k l) = l ++ ⟨#[10]⟩ := by
  simp only [dOk, Bool.and_eq_true, decide_eq_true_eq] at h
  exact ⟨h.1.1, h.1.2, h.2⟩
theorem dOk_size {k : Nat} {l : ByteArray} (h : dOk k l = true) : l.size + 1 ≤ 405 := by
  obtain ⟨_, h2, h3⟩ := dOk_parts h
  have h4 := rec_parts h2
  have h5 := lineB_size (k : Int) (dCmd k l) (dRep k l)
  have h6 : (l ++ ⟨#[10]⟩ : ByteArray).size = l.size + 1 := by rw [ByteArray.size_append]; rfl
  rw [h3, h6] at h5
  omega
theorem stepB_parts {s : ByteArray} {a k : Nat} (h : stepB s a k = true) : lnEnd s a < s.size ∧ dOk k (ln s a) = true := by
  simpa [stepB] using h
theorem recF_size (s : ByteArray) : ∀ (f a k : Nat), (recF s f a k).2 ≤ a + f * 405 := by
  intro f
  induction f with
  | zero => intro a k; simp [recF]
  | succ f ih =>
    intro a k
    unfold recF
    split
    · rename_i hs
      have h1 := dOk_size (stepB_parts hs).2
      have h2 := ih (lnEnd s a + 1) (k + 1)
      simp only []
      unfold lnEnd at h2 ⊢
      omega
    · simp
theorem recE_small (s : ByteArray) : recE s ≤ 24300 := by have := recF_size s 60 0 0; unfold recE; omega
theorem recE_le (s : ByteArray) : recE s ≤ s.size := (recF_end s 60 0 0 (Nat.zero_le _)).2.1
theorem recL_len (s : ByteArray) : (recL s).length ≤ 60 := (recF_end s 60 0 0 (Nat.zero_le _)).2.2
/-- a log is valid: durable bytes, pending bytes, how many records -/
def logB (d p : ByteArray) (z : Int) : Bool := decide ((recE (d ++ p) : Int) = d.size + p.size) && decide ((recE d : Int) = d.size) && decide (z = ((recL (d ++ p)).length : Int))
theorem logB_parts {d p : ByteArray} {z : Int} (h : logB d p z = true) : recE (d ++ p) = d.size + p.size ∧ recE d = d.size ∧ z = ((recL (d ++ p)).length : Int) := by
  simp only [logB, Bool.and_eq_true, decide_eq_true_eq] at h
  exact ⟨by omega, by omega, h.2⟩
theorem logB_size {d p : ByteArray} {z : Int} (h : logB d p z = true) : d.size + p.size ≤ 24300 := by
  have h1 := recE_small (d ++ p)
  have := (logB_parts h).1
  omega
theorem logB_count {d p : ByteArray} {z : Int} (h : logB d p z = true) : 0 ≤ z ∧ z ≤ 60 := by
  have h1 := recL_len (d ++ p)
  have := (logB_parts h).2.2
  omega
abbrev logV (d p : ByteArray) (z : Int) : Value := .agg #[.string d, .string p, .int .i64 z]
end Go.Proofs.Ytclihlihaigddaa
