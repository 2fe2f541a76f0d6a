/- The records at the start of a log, plainly: bytes behind, bytes left away. -/
import Derived.Test.YtdielldikdmjpaaLg
namespace Go.Proofs.Ytdielldikdmjpaa
open Go.RowKit
set_option linter.unusedVariables false
set_option linter.unusedSimpArgs false
theorem drop_append' {α : Type} (t u : List α) {a : Nat} (h : a ≤ t.length) : (t ++ u).drop a = t.drop a ++ u := by
  rw [List.drop_append, Nat.sub_eq_zero_of_le h, List.drop_zero]
/-- a line that ends within the first part is the same line whatever stands behind -/
theorem ln_append {t u : ByteArray} {a : Nat} (h : a ≤ t.size) (he : lnEnd t a < t.size) : ln (t ++ u) a = ln t a := by
  apply bl_inj
  have h10 := ln_hit he
  have hm : ∃ x ∈ (bl t).drop a, ¬ ((x != 10) = true) := by
    refine ⟨10, ?_, by decide⟩
    rw [List.mem_iff_getElem?]
    exact ⟨lnEnd t a - a, by rw [List.getElem?_drop, show a + (lnEnd t a - a) = lnEnd t a from by unfold lnEnd; omega, bl_get he, h10]⟩
  rw [ln_bl, ln_bl, bl_append, drop_append' _ _ (by rw [bl_size]; exact h), List.takeWhile_append, if_neg ?_]
  intro e
  obtain ⟨x, hx, hn⟩ := hm
  have h2 : ((bl t).drop a).takeWhile (· != 10) = (bl t).drop a := (List.takeWhile_sublist _).eq_of_length e
  rw [← h2] at hx
  exact hn (List.all_eq_true.1 (List.all_takeWhile) x hx)
theorem lnEnd_append {t u : ByteArray} {a : Nat} (h : a ≤ t.size) (he : lnEnd t a < t.size) : lnEnd (t ++ u) a = lnEnd t a := by
  unfold lnEnd; rw [ln_append h he]
theorem stepB_append {t u : ByteArray} {a k : Nat} (h : a ≤ t.size) (hs : stepB t a k = true) : stepB (t ++ u) a k = true := by
  obtain ⟨h1, h2⟩ := stepB_parts hs
  have h3 := lnEnd_append (u := u) h h1
  have h4 := ln_append (u := u) h h1
  simp [stepB, h3, h4, h2, ByteArray.size_append]
  omega
/-- records that fill a text are the first records of a longer one -/
theorem recF_append {t u : ByteArray} : ∀ (f a k : Nat), a ≤ t.size → (recF t f a k).2 = t.size →
    recF (t ++ u) f a k = ((recF t f a k).1 ++ (recF (t ++ u) (f - (recF t f a k).1.length) t.size (k + (recF t f a k).1.length)).1, (recF (t ++ u) (f - (recF t f a k).1.length) t.size (k + (recF t f a k).1.length)).2) := by
  intro f
  induction f with
  | zero => intro a k h he; simp [recF] at he ⊢; exact he
  | succ f ih =>
    intro a k h he
    by_cases hs : stepB t a k = true
    · have hs2 := stepB_append (u := u) h hs
      obtain ⟨h1, h2⟩ := stepB_parts hs
      rw [recF, if_pos hs] at he
      have h3 := ih (lnEnd t a + 1) (k + 1) (by omega) he
      rw [recF, if_pos hs2, lnEnd_append h h1, ln_append h h1]
      simp only [recF, if_pos hs, List.length_cons]
      rw [h3]
      simp only [List.cons_append, Prod.mk.injEq]
      rw [show f + 1 - ((recF t f (lnEnd t a + 1) (k + 1)).1.length + 1) = f - (recF t f (lnEnd t a + 1) (k + 1)).1.length from by omega, show k + ((recF t f (lnEnd t a + 1) (k + 1)).1.length + 1) = k + 1 + (recF t f (lnEnd t a + 1) (k + 1)).1.length from by omega]
      exact ⟨rfl, rfl⟩
    · have hs' : stepB t a k = false := by simpa using hs
      rw [recF, if_neg hs] at he
      simp only [] at he
      subst he
      simp [recF, hs']
/-- what is read of the first bytes of a text is read of the whole text too -/
theorem recF_prefix {t u : ByteArray} : ∀ (f a k : Nat), a ≤ t.size → ∃ m, (recF (t ++ u) f a k).1 = (recF t f a k).1 ++ m := by
  intro f
  induction f with
  | zero => intro a k h; exact ⟨[], by simp [recF]⟩
  | succ f ih =>
    intro a k h
    by_cases hs : stepB t a k = true
    · have hs2 := stepB_append (u := u) h hs
      obtain ⟨h1, h2⟩ := stepB_parts hs
      obtain ⟨m, hm⟩ := ih (lnEnd t a + 1) (k + 1) (by omega)
      refine ⟨m, ?_⟩
      rw [recF, if_pos hs2, lnEnd_append h h1, ln_append h h1]
      simp only [recF, if_pos hs]
      rw [hm]; rfl
    · exact ⟨(recF (t ++ u) (f + 1) a k).1, by rw [show (recF t (f + 1) a k) = ([], a) from by simp [recF, hs]]; rfl⟩
theorem ba_split (s : ByteArray) {e : Nat} (h : e ≤ s.size) : s = s.extract 0 e ++ s.extract e s.size := by
  apply bl_inj
  rw [bl_append, bl_extract, bl_extract, List.drop_zero, List.take_of_length_le (Nat.le_of_eq (bl_size s)), List.take_append_drop]
/-- the bytes that were read, alone: the same records -/
theorem recF_fix {s : ByteArray} {e : Nat} (he : e ≤ s.size) : ∀ (f a k : Nat), a ≤ e → (recF s f a k).2 = e → recF (s.extract 0 e) f a k = recF s f a k := by
  have hsp := ba_split s he
  obtain ⟨t, ht⟩ : ∃ t, t = s.extract 0 e := ⟨_, rfl⟩
  obtain ⟨u, hu⟩ : ∃ u, u = s.extract e s.size := ⟨_, rfl⟩
  have hz : t.size = e := by rw [ht, extract_size _ _ _ he]; omega
  rw [← ht]
  rw [← ht, ← hu] at hsp
  intro f
  induction f with
  | zero => intro a k ha h; simp [recF]
  | succ f ih =>
    intro a k ha h
    by_cases hs : stepB s a k = true
    · obtain ⟨h1, h2⟩ := stepB_parts hs
      have h3 : lnEnd s a + 1 ≤ e := by
        rw [recF, if_pos hs] at h
        have := (recF_end s f (lnEnd s a + 1) (k + 1) (by omega)).1
        simp only [] at h
        omega
      have h4 : lnEnd t a < t.size := by
        by_cases hc : lnEnd t a < t.size
        · exact hc
        · exfalso
          have h5 := lnEnd_le (s := t) (a := a) (by omega)
          have h6 : lnEnd t a = t.size := by omega
          have hj : lnEnd s a < t.size := by omega
          have h7 := ln_miss (s := t) (a := a) (j := lnEnd s a) (by unfold lnEnd; omega) (by omega) hj
          have h8 := bl_get h1
          rw [ln_hit h1, hsp, bl_append, ← hsp, List.getElem?_append_left (by rw [bl_size]; exact hj), bl_get hj] at h8
          exact h7 (by simpa using h8)
      have h9 := ln_append (u := u) (t := t) (a := a) (by omega) h4
      have h10 := lnEnd_append (u := u) (t := t) (a := a) (by omega) h4
      rw [← hsp] at h9 h10
      have hs2 : stepB t a k = true := by simp [stepB, ← h9, h2]; omega
      rw [recF, if_pos hs] at h
      rw [recF, if_pos hs2, recF, if_pos hs, ← h9, ← h10]
      rw [ih _ _ h3 h]
    · have hs' : stepB s a k = false := by simpa using hs
      have h0 : a = e := by rw [recF, if_neg hs] at h; exact h
      subst h0
      have h1 : stepB t a k = false := by
        have := lnEnd_le (s := t) (a := a) (by omega)
        have h3 : a ≤ lnEnd t a := by unfold lnEnd; omega
        rw [stepB, decide_eq_false (by omega)]; rfl
      simp [recF, hs', h1]
theorem rec_fix (s : ByteArray) : recL (s.extract 0 (recE s)) = recL s ∧ recE (s.extract 0 (recE s)) = recE s := by
  have := recF_fix (recE_le s) 60 0 0 (Nat.zero_le _) rfl
  unfold recL recE at *
  rw [this]; exact ⟨rfl, rfl⟩
/-- a byte more that is no newline: nothing more is read -/
theorem recF_torn {t u : ByteArray} {x : UInt8} (hx : x ≠ 10) (hu : bl u = [x]) : ∀ (f a k : Nat), a ≤ t.size → recF (t ++ u) f a k = recF t f a k := by
  intro f
  induction f with
  | zero => intro a k h; simp [recF]
  | succ f ih =>
    intro a k h
    by_cases hs : stepB t a k = true
    · obtain ⟨h1, h2⟩ := stepB_parts hs
      rw [recF, if_pos (stepB_append h hs), recF, if_pos hs, lnEnd_append h h1, ln_append h h1, ih _ _ (by omega)]
    · have hs' : stepB t a k = false := by simpa using hs
      have h1 : stepB (t ++ u) a k = false := by
        rw [Bool.eq_false_iff]
        intro h2
        obtain ⟨h3, h4⟩ := stepB_parts h2
        have hz : (t ++ u : ByteArray).size = t.size + 1 := by rw [ByteArray.size_append, ← bl_size u, hu]; rfl
        have h5 := ln_hit h3
        have h6 := bl_get h3
        rw [h5, bl_append] at h6
        have h7 : lnEnd (t ++ u) a < t.size := by
          by_cases hc : lnEnd (t ++ u) a < t.size
          · exact hc
          · exfalso
            rw [List.getElem?_append_right (by rw [bl_size]; omega), bl_size, show lnEnd (t ++ u) a - t.size = 0 from by omega] at h6
            rw [hu] at h6
            simp at h6
            exact hx h6
        have h8 : lnEnd t a < t.size := by
          by_cases hc : lnEnd t a < t.size
          · exact hc
          · exfalso
            have h9 := ln_miss (s := t) (a := a) (j := lnEnd (t ++ u) a) (by unfold lnEnd; omega) (by omega) h7
            rw [List.getElem?_append_left (by rw [bl_size]; exact h7), bl_get h7] at h6
            exact h9 (by simpa using h6)
        have : stepB t a k = true := by
          rw [ln_append h h8] at h4
          simp [stepB, h4, h8]
        rw [this] at hs'; cases hs'
      simp [recF, hs', h1]
end Go.Proofs.Ytdielldikdmjpaa
