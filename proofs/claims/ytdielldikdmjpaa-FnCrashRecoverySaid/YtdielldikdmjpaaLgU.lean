/- What a crash leaves of a log, plainly. -/
import Derived.Test.YtdielldikdmjpaaLgP
import Derived.Test.YtdielldikdmjpaaLgC
namespace Go.Proofs.Ytdielldikdmjpaa
open Go.RowKit
set_option linter.unusedVariables false
set_option linter.unusedSimpArgs false
theorem line_high {k : Nat} {c r : ByteArray} (h : recB c r = true) {x : UInt8} (hx : 126 < x.toNat) : standsB (lineB (k : Int) c r) x = false := by
  obtain ⟨_, _, _, hc, hr, _⟩ := rec_parts h
  have hb : okByte x = false := by simp [okByte]; omega
  have hl : ∀ y : UInt8, y.toNat ≤ 126 → standsB ⟨[y].toArray⟩ x = false := fun y hy => by
    rw [stands_lit]
    simp
    intro e
    rw [e] at hx
    omega
  rw [lineB_eq, lineL, sealB, bodyB, decI_nat]
  simp only [stands_append]
  rw [stands_dec (.inr (by omega)), stands_dec (.inr (by omega)), stands_printed hc hb, stands_printed hr hb]
  rw [hl 32 (by decide), hl 64 (by decide), hl 35 (by decide), hl 10 (by decide)]
  rfl
/-- what was read has low bytes alone -/
theorem recF_low {s : ByteArray} : ∀ (f a k : Nat), a ≤ s.size → ∀ i x, a ≤ i → i < (recF s f a k).2 → (bl s)[i]? = some x → x.toNat ≤ 126 := by
  intro f
  induction f with
  | zero => intro a k h i x h1 h2; simp [recF] at h2; omega
  | succ f ih =>
    intro a k h i x h1 h2 hx
    by_cases hs : stepB s a k = true
    · obtain ⟨h3, h4⟩ := stepB_parts hs
      rw [recF_yes hs] at h2
      simp only [] at h2
      by_cases hi : lnEnd s a + 1 ≤ i
      · exact ih _ _ (by omega) i x hi h2 hx
      · obtain ⟨_, h5, h6⟩ := dOk_parts h4
        rcases Nat.lt_or_ge 126 x.toNat with hh | hh
        · exfalso
          have h7 := line_high (k := k) h5 hh
          rw [h6] at h7
          simp only [standsB, decide_eq_false_iff_not] at h7
          apply h7
          rw [bl_append, List.mem_append]
          by_cases he : i = lnEnd s a
          · right
            subst he
            rw [bl_get h3, ln_hit h3] at hx
            simp [bl]
            simpa using hx.symm
          · left
            have h8 : lnEnd s a = a + (ln s a).size := rfl
            rw [← ln_extract, bl_extract]
            rw [List.mem_iff_getElem?]
            exact ⟨i - a, by rw [List.getElem?_drop, List.getElem?_take, if_pos (by omega), show a + (i - a) = i from by omega]; exact hx⟩
        · exact hh
    · rw [recF_no (by simpa using hs)] at h2
      simp only [] at h2
      omega
theorem cut_split (p : ByteArray) {K : Nat} (h : K ≤ p.size) : p = p.extract 0 K ++ p.extract K p.size := ba_split p h
theorem crash_plain {d p : ByteArray} {z : Int} (hl : logB d p z = true) {K : Nat} (hK : K ≤ p.size) : (∃ m, recL (d ++ p) = recL (d ++ p.extract 0 K) ++ m) ∧ d.size ≤ recE (d ++ p.extract 0 K) := by
  obtain ⟨h1, h2, h3⟩ := logB_parts hl
  constructor
  · obtain ⟨m, hm⟩ := recF_prefix (t := d ++ p.extract 0 K) (u := p.extract K p.size) 60 0 0 (Nat.zero_le _)
    rw [ByteArray.append_assoc, ← cut_split p hK] at hm
    exact ⟨m, hm⟩
  · have h4 := recF_append (t := d) (u := p.extract 0 K) 60 0 0 (Nat.zero_le _) h2
    unfold recE
    rw [h4]
    exact (recF_end _ _ _ _ (by rw [ByteArray.size_append]; omega)).1
theorem crash_facts {d p : ByteArray} {z : Int} (hl : logB d p z = true) {K : Nat} (hK : K ≤ p.size) (torn : Bool) :
    (∃ m, recL (d ++ p) = recL (crashT d p K torn) ++ m) ∧ d.size ≤ recE (crashT d p K torn) ∧ (crashT d p K torn).size ≤ 24300 := by
  have hsz := logB_size hl
  have hz : (crashT d p K torn).size = d.size + K := by
    unfold crashT
    split
    · rw [ByteArray.size_append, ← bl_size (str _), bl_str, flipL_len, bl_size, extract_size _ _ _ hK]; omega
    · rw [ByteArray.size_append, extract_size _ _ _ hK]; omega
  refine ⟨?_, ?_, by omega⟩
  all_goals
    by_cases ht : torn = true ∧ 0 < K
    · rw [crashT, if_pos ht]
      obtain ⟨_, h0⟩ := ht
      have hb : (bl (p.extract 0 K)) = bl (p.extract 0 (K - 1)) ++ [(bl p)[K - 1]'(by rw [bl_size]; omega)] := by
        have h9 := List.take_succ_eq_append_getElem (l := bl p) (i := K - 1) (by rw [bl_size]; omega)
        rw [Nat.sub_add_cancel h0] at h9
        rw [bl_extract, bl_extract, List.drop_zero, List.drop_zero]
        exact h9
      obtain ⟨x, hx⟩ : ∃ x, (bl p)[K - 1]'(by rw [bl_size]; omega) = x := ⟨_, rfl⟩
      rw [hx] at hb
      have hlow : x.toNat ≤ 126 := by
        obtain ⟨h1, h2, h3⟩ := logB_parts hl
        refine recF_low (s := d ++ p) 60 0 0 (Nat.zero_le _) (d.size + (K - 1)) x (Nat.zero_le _) (by unfold recE at h1; omega) ?_
        rw [bl_append, List.getElem?_append_right (by rw [bl_size]; omega), bl_size, Nat.add_sub_cancel_left, List.getElem?_eq_getElem (by rw [bl_size]; omega), hx]
      have hf : d ++ str (flipL (bl (p.extract 0 K))) = (d ++ p.extract 0 (K - 1)) ++ str [255 - x] := by
        apply bl_inj
        rw [hb, flipL_append _ (by simp), bl_append, bl_str, bl_append, bl_append, bl_str, List.append_assoc]
        congr 2
      have hne : (255 - x : UInt8) ≠ 10 := by
        intro e
        have h5 := u8_flip x
        rw [e] at h5
        have : (10 : UInt8).toNat = 10 := rfl
        omega
      have hr := recF_torn (t := d ++ p.extract 0 (K - 1)) (u := str [255 - x]) hne (by rw [bl_str]) 60 0 0 (Nat.zero_le _)
      obtain ⟨q1, q2⟩ := crash_plain hl (K := K - 1) (by omega)
      rw [hf]
      unfold recL recE at *
      rw [hr]
      first | exact q1 | exact q2
    · rw [crashT, if_neg ht]
      first | exact (crash_plain hl hK).1 | exact (crash_plain hl hK).2
end Go.Proofs.Ytdielldikdmjpaa
