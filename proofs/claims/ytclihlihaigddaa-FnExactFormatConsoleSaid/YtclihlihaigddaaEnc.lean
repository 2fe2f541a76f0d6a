
/- The encoding of a record; the laws of IsValidRecord and EncodeRecord, walked. -/
import Derived.Test.YtclihlihaigddaaRec
namespace Go.Proofs.Ytclihlihaigddaa
open Go.RowKit
set_option linter.unusedVariables false
set_option linter.unusedSimpArgs false
theorem decF_digits : ∀ (f n : Nat) (c : UInt8), c ∈ decF f n → 48 ≤ c.toNat ∧ c.toNat ≤ 57 := by
  intro f
  induction f with
  | zero => intro n c h; simp [decF] at h
  | succ f ih =>
    intro n c h
    rw [decF] at h
    split at h
    · simp at h
      subst h
      unfold dig
      rw [UInt8.toNat_ofNat']
      omega
    · rw [List.mem_append] at h
      rcases h with h | h
      · exact ih _ _ h
      · simp at h
        subst h
        unfold dig
        rw [UInt8.toNat_ofNat']
        omega
theorem bl_dec (n : Nat) : bl (dec n) = decF 20 n := by simp [bl, dec]
theorem stands_append (a b : ByteArray) (c : UInt8) : standsB (a ++ b) c = (standsB a c || standsB b c) := by
  rw [Bool.eq_iff_iff]; simp [standsB, bl_append]
theorem stands_lit (l : List UInt8) (c : UInt8) : standsB ⟨l.toArray⟩ c = decide (c ∈ l) := by rw [Bool.eq_iff_iff, standsB, decide_eq_true_iff, decide_eq_true_iff]; simp [bl]
theorem stands_dec {n : Nat} {c : UInt8} (h : c.toNat < 48 ∨ 57 < c.toNat) : standsB (dec n) c = false := by
  rw [standsB, bl_dec, decide_eq_false_iff_not]
  intro hc
  have := decF_digits _ _ _ hc
  omega
theorem stands_printed {s : ByteArray} (h : printedB s = true) {c : UInt8} (hc : okByte c = false) : standsB s c = false := by
  rw [standsB, decide_eq_false_iff_not]
  intro hm
  rw [printedB, List.all_eq_true] at h
  have := h c hm
  rw [hc] at this
  cases this
def bodyB (k : Int) (c r : ByteArray) : ByteArray := decI k ++ ⟨#[32]⟩ ++ c ++ ⟨#[64]⟩ ++ r
def lineB (k : Int) (c r : ByteArray) : ByteArray := sealB (bodyB k c r) ++ ⟨#[10]⟩
theorem rec_parts {c r : ByteArray} (h : recB c r = true) : 1 ≤ c.size ∧ c.size ≤ 160 ∧ r.size ≤ 200 ∧ printedB c = true ∧ printedB r = true ∧ standsB c 64 = false := by
  simp only [recB, Bool.and_eq_true, decide_eq_true_eq, Bool.not_eq_true'] at h
  obtain ⟨⟨⟨⟨⟨h1, h2⟩, h3⟩, h4⟩, h5⟩, h6⟩ := h
  exact ⟨h1, h2, h3, h4, h5, h6⟩
theorem body_size (k : Int) (c r : ByteArray) : (bodyB k c r).size ≤ c.size + r.size + 23 := by
  have := decI_size k
  unfold bodyB
  simp [ByteArray.size_append, lit_size]
  omega
theorem body_ok {n : Nat} {c r : ByteArray} (h : recB c r = true) : sealOk (bodyB (n : Int) c r) = true := by
  obtain ⟨h1, h2, h3, h4, h5, h6⟩ := rec_parts h
  have hs := body_size (n : Int) c r
  have hz := sealB_size (bodyB (n : Int) c r)
  have hst : standsB (bodyB (n : Int) c r) 35 = false := by
    unfold bodyB
    rw [decI_nat]
    simp only [stands_append]
    rw [stands_dec (.inl (by decide)), stands_printed h4 (by decide), stands_printed h5 (by decide)]
    decide
  simp [sealOk, hst]
  omega
def encOk (k : Int) (c r : ByteArray) : Bool := decide (0 ≤ k ∧ k ≤ 59) && recB c r
def encB (k : Int) (c r : ByteArray) : ByteArray := if encOk k c r = true then lineB k c r else ⟨#[]⟩
theorem lineB_size (k : Int) (c r : ByteArray) : (lineB k c r).size ≤ c.size + r.size + 45 := by
  have h1 := body_size k c r
  have h2 := sealB_size (bodyB k c r)
  unfold lineB
  simp [ByteArray.size_append, lit_size]
  omega
abbrev recV (c r : ByteArray) : Value := .agg #[.string c, .string r]
set_option maxHeartbeats 1000000 in
theorem l27Line_any (k : Int) (c r : ByteArray) (w : World) (h1 : -9223372036854775807 ≤ k) (h2 : k ≤ 9223372036854775807) (zc : c.size ≤ 8000000) (zr : r.size ≤ 7000000) :
    Calls Try.prog 140 #[.int .i64 k, recV c r] w fun e w' => e = .returned (.string (lineB k c r)) ∧ Below w.heap.size w w' := by
  have z1 := decI_size k
  have z2 := body_size k c r
  have z3 := sealB_size (bodyB k c r)
  have E := Lib.hid (show bodyB k c r = decI k ++ ⟨#[32]⟩ ++ c ++ ⟨#[64]⟩ ++ r from rfl)
  go_enter Try.func140, Try.ntmps140
  go_wp2_with fail
  (refine wp_region_later (by kernel_rfl) (by kernel_rfl) ?_; (repeat (go_big_quiet_step (first | (go_at_call 85; exact Calls.later_of (l1Num_any k _ (by omega) (by omega))) | (go_at_call 162; rw [← E.out]; exact Calls.later_of (l1Seal_any (bodyB k c r) _ (by omega)))))); refine wpQuiet_nil ?_; intro w1 hw1; obtain ⟨⟨wl, hbL⟩, hw1'⟩ := hw1; simp only at hw1'; subst hw1'; obtain ⟨hcL, hfL⟩ := bcell hbL)
  go_wp2
  go_ret
  exact ⟨rfl, (by repeat (first | exact ext_refl _ | assumption | refine ext_alloc ?_ _ | refine ext_drew ?_ | refine ext_drewN ?_ _ | refine ext_set ?_ (by simp <;> omega) _ | refine ext_trans ?_ (by assumption)))⟩
set_option maxHeartbeats 1000000 in
theorem implEncode_any (k : Int) (c r : ByteArray) (w : World) (h1 : -9223372036854775807 ≤ k) (h2 : k ≤ 9223372036854775807) (zc : c.size ≤ 8000000) (zr : r.size ≤ 7000000) :
    Calls Try.prog 145 #[.int .i64 k, recV c r] w fun e w' => e = .returned (.tuple #[.string (encB k c r), .bool (encOk k c r)]) ∧ Below w.heap.size w w' := by
  by_cases hk : 0 ≤ k ∧ k ≤ 59
  · have q1 : decide (0 ≤ k ∧ k ≤ 59) = true := by simpa using hk
    cases hb : recB c r
    · have e1 : encOk k c r = false := by simp [encOk, hb]
      have e2 : encB k c r = ⟨#[]⟩ := by simp [encB, e1]
      rw [e1, e2]
      clear e1 e2 hk
      go_enter Try.func145, Try.ntmps145
      go_wp2_with (first | (go_at_call 123; refine (within_any _ _ _ _).mono ?_; rintro e w' ⟨rfl, rfl⟩) | (go_at_call 95; refine (isValidRecord_any c r _ (by omega) (by omega)).mono ?_; rintro e w' ⟨rfl, hb⟩; obtain ⟨hc, hf⟩ := bcell hb; have hz : w.heap.size < w'.heap.size := by (have := hb.size; (try simp at this); omega)))
      go_ret2
      exact ⟨rfl, (by repeat (first | exact ext_refl _ | assumption | refine ext_alloc ?_ _ | refine ext_drew ?_ | refine ext_drewN ?_ _ | refine ext_set ?_ (by simp <;> omega) _ | refine ext_trans ?_ (by assumption)))⟩
    · have e1 : encOk k c r = true := by simp [encOk, hb, hk]
      have e2 : encB k c r = lineB k c r := by simp [encB, e1]
      rw [e1, e2]
      obtain ⟨k0, k1⟩ := hk
      obtain ⟨n, rfl⟩ := Int.eq_ofNat_of_zero_le k0
      have z1 := decI_size (n : Int)
      have z2 := body_size (n : Int) c r
      have z3 := sealB_size (bodyB (n : Int) c r)
      have hok := body_ok (n := n) hb
      have hse : sealOr (bodyB (n : Int) c r) = sealB (bodyB (n : Int) c r) := by simp [sealOr, hok]
      have E := Lib.hid (show bodyB (n : Int) c r = decI (n : Int) ++ ⟨#[32]⟩ ++ c ++ ⟨#[64]⟩ ++ r from rfl)
      have HC := Lib.hid (fun w => appendChecksum_any (bodyB (n : Int) c r) w (by omega))
      rw [hok, hse] at HC
      clear e1 e2 hok hse
      go_enter Try.func145, Try.ntmps145
      go_wp2_with (first | (go_at_call 123; refine (within_any _ _ _ _).mono ?_; rintro e w' ⟨rfl, rfl⟩) | (go_at_call 95; refine (isValidRecord_any c r _ (by omega) (by omega)).mono ?_; rintro e w' ⟨rfl, hb⟩; obtain ⟨hc, hf⟩ := bcell hb; have hz : w.heap.size < w'.heap.size := by (have := hb.size; (try simp at this); omega)))
      (refine wp_region_later (by kernel_rfl) (by kernel_rfl) ?_; (repeat (go_big_quiet_step (first | (go_at_call 87; exact Calls.later_of (text_any (n : Int) _ (by omega) (by omega))) | (go_at_call 165; rw [← E.out]; exact Calls.later_of (HC.out _))))); refine wpQuiet_nil ?_; intro w1 hw1; obtain ⟨⟨wl, hbL⟩, hw1'⟩ := hw1; simp only at hw1'; subst hw1'; obtain ⟨hcL, hfL⟩ := bcell hbL)
      go_wp2
      go_ret2
      exact ⟨rfl, (by repeat (first | exact ext_refl _ | assumption | refine ext_alloc ?_ _ | refine ext_drew ?_ | refine ext_drewN ?_ _ | refine ext_set ?_ (by simp <;> omega) _ | refine ext_trans ?_ (by assumption)))⟩
  · have q1 : decide (0 ≤ k ∧ k ≤ 59) = false := by simpa using hk
    have e1 : encOk k c r = false := by simp only [encOk, q1, Bool.false_and]
    have e2 : encB k c r = ⟨#[]⟩ := by simp [encB, e1]
    rw [e1, e2]
    clear e1 e2 hk
    go_enter Try.func145, Try.ntmps145
    go_wp2_with (go_at_call 123; refine (within_any _ _ _ _).mono ?_; rintro e w' ⟨rfl, rfl⟩)
    go_ret2
    exact ⟨rfl, (by repeat (first | exact ext_refl _ | assumption | refine ext_alloc ?_ _ | refine ext_drew ?_ | refine ext_drewN ?_ _ | refine ext_set ?_ (by simp <;> omega) _ | refine ext_trans ?_ (by assumption)))⟩
theorem implEncode_all (k : Int) (c r : ByteArray) (w : World) (h1 : -9223372036854775808 ≤ k) (h2 : k ≤ 9223372036854775807) (zc : c.size ≤ 8000000) (zr : r.size ≤ 7000000) :
    Calls Try.prog 145 #[.int .i64 k, recV c r] w fun e w' => e = .returned (.tuple #[.string (encB k c r), .bool (encOk k c r)]) ∧ Below w.heap.size w w' := by
  by_cases hk : 0 ≤ k ∧ k ≤ 59
  · exact implEncode_any k c r w (by omega) h2 zc zr
  · have q1 : decide (0 ≤ k ∧ k ≤ 59) = false := by simpa using hk
    have e1 : encOk k c r = false := by simp only [encOk, q1, Bool.false_and]
    have e2 : encB k c r = ⟨#[]⟩ := by simp [encB, e1]
    rw [e1, e2]
    clear e1 e2 hk
    go_enter Try.func145, Try.ntmps145
    go_wp2_with (go_at_call 123; refine (within_any _ _ _ _).mono ?_; rintro e w' ⟨rfl, rfl⟩)
    go_ret2
    exact ⟨rfl, (by repeat (first | exact ext_refl _ | assumption | refine ext_alloc ?_ _ | refine ext_drew ?_ | refine ext_drewN ?_ _ | refine ext_set ?_ (by simp <;> omega) _ | refine ext_trans ?_ (by assumption)))⟩
def szRec (left : Int) (c r : ByteArray) : Int := if left - (c.size : Int) < 0 then -1 else if left - (c.size : Int) - (r.size : Int) < 0 then -1 else left - (c.size : Int) - (r.size : Int)
theorem szRec_cases (left : Int) (c r : ByteArray) : szRec left c r = -1 ∨ (szRec left c r = left - (c.size : Int) - (r.size : Int) ∧ 0 ≤ left - (c.size : Int) - (r.size : Int)) := by
  unfold szRec
  split
  · exact .inl rfl
  · split
    · exact .inl rfl
    · exact .inr ⟨rfl, by omega⟩
end Go.Proofs.Ytclihlihaigddaa