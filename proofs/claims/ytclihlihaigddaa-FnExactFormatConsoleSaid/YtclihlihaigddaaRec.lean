/- A record of the log: valid or not, and its encoding. -/
import Derived.Test.YtclihlihaigddaaCk
namespace Go.Proofs.Ytclihlihaigddaa
open Go.RowKit
set_option linter.unusedVariables false
set_option linter.unusedSimpArgs false
theorem decI_nat (n : Nat) : decI (n : Int) = dec n := decI_pos
/-- a text with its checksum -/
def sealB (s : ByteArray) : ByteArray := s ++ ⟨#[35]⟩ ++ dec (ck s)
def sealOk (s : ByteArray) : Bool := decide (s.size ≤ 4000) && !standsB s 35 && decide ((sealB s).size ≤ 4000)
def sealOr (s : ByteArray) : ByteArray := if sealOk s = true then sealB s else ⟨#[]⟩
theorem sealB_size (s : ByteArray) : (sealB s).size ≤ s.size + 21 := by
  have := dec_size (ck s)
  unfold sealB
  simp [ByteArray.size_append, lit_size]
  omega
theorem l1Seal_any (s : ByteArray) (w : World) (hs : s.size ≤ 16777216) :
    Calls Try.prog 162 #[.string s] w fun e w' => e = .returned (.string (sealB s)) ∧ Below w.heap.size w w' := by
  have h1 := ck_lt s
  have h2 := decI_size (ck s : Int)
  have E := Lib.hid (decI_nat (ck s))
  go_enter Try.func162, Try.ntmps162
  go_wp2_with (first | (go_at_call 167; refine (l1Sum_any s _ hs).mono ?_; rintro e w' ⟨rfl, hb⟩; obtain ⟨hc, hf⟩ := bcell hb; have hz := hb.size; (try simp at hz)) | (go_at_call 85; refine (l1Num_any (ck s : Int) _ (by omega) (by omega)).mono ?_; rintro e w' ⟨rfl, hb⟩; obtain ⟨hc, hf⟩ := bcell hb; have hz := hb.size; (try simp at hz)))
  go_ret
  exact ⟨by unfold sealB; rw [← E.out]; rfl, (by repeat (first | exact ext_refl _ | assumption | refine ext_alloc ?_ _ | refine ext_drew ?_ | refine ext_drewN ?_ _ | refine ext_set ?_ (by simp <;> omega) _ | refine ext_trans ?_ (by assumption)))⟩
theorem split_stands (s : ByteArray) (b : UInt8) : decide (1 < (splitL b (bl s)).length) = standsB s b := by
  rw [standsB, splitL_len, Bool.eq_iff_iff]
  simp
theorem splitL_size (s : ByteArray) (b : UInt8) : (splitL b (bl s)).length ≤ s.size + 1 := by
  have := List.count_le_length (a := b) (l := bl s)
  rw [splitL_len]
  rw [bl_size] at this
  omega
def oneB (s : ByteArray) (b : UInt8) : Nat := (splitL b (bl s)).length
theorem split_n (s : ByteArray) (b : UInt8) (w : World) (hs : s.size ≤ 16777216) :
    Calls Try.prog 99 #[.string s, .int .u8 (b.toNat : Int)] w (RetSlice w 9 1 (oneB s b) (strsV (splitL b (bl s)))) := split_any s b w hs
set_option maxHeartbeats 1000000 in
theorem appendChecksum_any (s : ByteArray) (w : World) (hs : s.size ≤ 16000000) :
    Calls Try.prog 165 #[.string s] w fun e w' => e = .returned (.tuple #[.string (sealOr s), .bool (sealOk s)]) ∧ Below w.heap.size w w' := by
  have hck := ck_lt s
  by_cases h4 : s.size ≤ 4000
  · have hv : (if s.size ≤ 4000 then (ck s : Nat) else 0 : Nat) = ck s := if_pos h4
    have e4 : decide (s.size ≤ 4000) = true := by simpa using h4
    have HC := Lib.hid (fun w => checksum_any s w (by omega))
    rw [hv, e4] at HC
    clear hv e4
    have z1 := decI_size (ck s : Int)
    have z2 := sealB_size s
    have E := Lib.hid (show s ++ ⟨#[35]⟩ ++ decI (ck s : Int) = sealB s by unfold sealB; rw [decI_nat])
    have z3 : (s ++ ⟨#[35]⟩ ++ decI (ck s : Int)).size = (sealB s).size := by rw [E.out]
    have Z3 := Lib.hid z3
    clear z3
    have hone : 1 < oneB s 35 ↔ standsB s 35 = true := by rw [← split_stands s 35]; simp [oneB]
    have hpos : 1 ≤ oneB s 35 := by unfold oneB; rw [splitL_len]; omega
    have hle : oneB s 35 ≤ s.size + 1 := splitL_size s 35
    have hsz : s.size + 1 + (decI (ck s : Int)).size = (sealB s).size := by
      have := Z3.out
      simp only [ByteArray.size_append] at this
      simpa [lit_size] using this
    cases hst : standsB s 35
    · have h1 : ¬ (1 < oneB s 35) := by rw [hone, hst]; simp
      have q1 : (oneB s 35 : Int) ≤ 1 := by omega
      by_cases h5 : (sealB s).size ≤ 4000
      · have eo : sealOk s = true := by simp [sealOk, h4, hst, h5]
        have er : sealOr s = sealB s := by simp [sealOr, eo]
        rw [er, eo]
        have q2 : (s.size : Int) + 1 + ((decI (ck s : Int)).size : Int) ≤ 4000 := by omega
        clear er eo hone hsz h1
        go_enter Try.func165, Try.ntmps165
        go_wp2_with (first | (go_at_call 168; refine (HC.out _).mono ?_; rintro e w' ⟨rfl, hb⟩) | (go_at_call 87; refine (text_any (ck s : Int) _ (by omega) (by omega)).mono ?_; rintro e w' ⟨rfl, hb⟩; obtain ⟨hc, hf⟩ := bcell hb; have hz := hb.size; (try simp at hz)) | (go_at_call 99; refine (split_n s 35 _ (by omega)).mono ?_; rintro e w' ⟨A, c, rfl, hown, hb⟩; clear hown))
        go_ret2
        exact ⟨by rw [← E.out]; rfl, (by repeat (first | exact ext_refl _ | assumption | refine ext_alloc ?_ _ | refine ext_drew ?_ | refine ext_drewN ?_ _ | refine ext_set ?_ (by simp <;> omega) _ | refine ext_trans ?_ (by assumption)))⟩
      · have eo : sealOk s = false := by simp [sealOk, h5]
        have er : sealOr s = ⟨#[]⟩ := by simp [sealOr, eo]
        rw [er, eo]
        have q2 : 4000 < (s.size : Int) + 1 + ((decI (ck s : Int)).size : Int) := by omega
        clear er eo hone hsz h1
        go_enter Try.func165, Try.ntmps165
        go_wp2_with (first | (go_at_call 168; refine (HC.out _).mono ?_; rintro e w' ⟨rfl, hb⟩) | (go_at_call 87; refine (text_any (ck s : Int) _ (by omega) (by omega)).mono ?_; rintro e w' ⟨rfl, hb⟩; obtain ⟨hc, hf⟩ := bcell hb; have hz := hb.size; (try simp at hz)) | (go_at_call 99; refine (split_n s 35 _ (by omega)).mono ?_; rintro e w' ⟨A, c, rfl, hown, hb⟩; clear hown))
        go_ret2
        exact ⟨rfl, (by repeat (first | exact ext_refl _ | assumption | refine ext_alloc ?_ _ | refine ext_drew ?_ | refine ext_drewN ?_ _ | refine ext_set ?_ (by simp <;> omega) _ | refine ext_trans ?_ (by assumption)))⟩
    · have h1 : 1 < oneB s 35 := by rw [hone, hst]
      have q1 : 1 < (oneB s 35 : Int) := by omega
      have eo : sealOk s = false := by simp [sealOk, hst]
      have er : sealOr s = ⟨#[]⟩ := by simp [sealOr, eo]
      rw [er, eo]
      clear er eo hone hsz h1
      go_enter Try.func165, Try.ntmps165
      go_wp2_with (first | (go_at_call 168; refine (HC.out _).mono ?_; rintro e w' ⟨rfl, hb⟩) | (go_at_call 87; refine (text_any (ck s : Int) _ (by omega) (by omega)).mono ?_; rintro e w' ⟨rfl, hb⟩; obtain ⟨hc, hf⟩ := bcell hb; have hz := hb.size; (try simp at hz)) | (go_at_call 99; refine (split_n s 35 _ (by omega)).mono ?_; rintro e w' ⟨A, c, rfl, hown, hb⟩; clear hown))
      go_ret2
      exact ⟨rfl, (by repeat (first | exact ext_refl _ | assumption | refine ext_alloc ?_ _ | refine ext_drew ?_ | refine ext_drewN ?_ _ | refine ext_set ?_ (by simp <;> omega) _ | refine ext_trans ?_ (by assumption)))⟩
  · have hv : (if s.size ≤ 4000 then (ck s : Nat) else 0 : Nat) = 0 := if_neg h4
    have e4 : decide (s.size ≤ 4000) = false := by simpa using h4
    have HC := Lib.hid (fun w => checksum_any s w (by omega))
    rw [hv, e4] at HC
    clear hv e4
    have z1 := decI_size 0
    have eo : sealOk s = false := by simp [sealOk, h4]
    have er : sealOr s = ⟨#[]⟩ := by simp [sealOr, eo]
    rw [er, eo]
    clear er eo
    go_enter Try.func165, Try.ntmps165
    go_wp2_with (first | (go_at_call 168; refine (HC.out _).mono ?_; rintro e w' ⟨rfl, hb⟩) | (go_at_call 87; refine (text_any 0 _ (by omega) (by omega)).mono ?_; rintro e w' ⟨rfl, hb⟩; obtain ⟨hc, hf⟩ := bcell hb; have hz := hb.size; (try simp at hz)))
    go_ret2
    exact ⟨rfl, (by repeat (first | exact ext_refl _ | assumption | refine ext_alloc ?_ _ | refine ext_drew ?_ | refine ext_drewN ?_ _ | refine ext_set ?_ (by simp <;> omega) _ | refine ext_trans ?_ (by assumption)))⟩
/-- a record is valid -/
def recB (c r : ByteArray) : Bool := decide (1 ≤ c.size ∧ c.size ≤ 160) && decide (r.size ≤ 200) && printedB c && printedB r && !standsB c 64
set_option maxHeartbeats 1000000 in
theorem isValidRecord_any (c r : ByteArray) (w : World) (hc : c.size ≤ 16000000) (hr : r.size ≤ 16000000) :
    Calls Try.prog 95 #[.agg #[.string c, .string r]] w fun e w' => e = .returned (.bool (recB c r)) ∧ Below w.heap.size w w' := by
  have hone : 1 < oneB c 64 ↔ standsB c 64 = true := by rw [← split_stands c 64]; simp [oneB]
  have hpos : 1 ≤ oneB c 64 := by unfold oneB; rw [splitL_len]; omega
  have hle : oneB c 64 ≤ c.size + 1 := splitL_size c 64
  have e1 : ((oneB c 64 : Int) == 1) = !standsB c 64 := by
    rw [Bool.eq_iff_iff]
    cases hst : standsB c 64
    · have : ¬ 1 < oneB c 64 := by rw [hone, hst]; simp
      simp; omega
    · have : 1 < oneB c 64 := by rw [hone, hst]
      simp; omega
  have E := Lib.hid e1
  have e2 : recB c r = (decide ((1 : Int) ≤ (c.size : Int) ∧ (c.size : Int) ≤ 160) && decide ((r.size : Int) ≤ 200) && printedB c && printedB r && ((oneB c 64 : Int) == 1)) := by
    have a1 : decide (1 ≤ c.size ∧ c.size ≤ 160) = decide ((1 : Int) ≤ (c.size : Int) ∧ (c.size : Int) ≤ 160) := by rw [decide_eq_decide]; omega
    have a2 : decide (r.size ≤ 200) = decide ((r.size : Int) ≤ 200) := by rw [decide_eq_decide]; omega
    rw [e1, ← a1, ← a2]; rfl
  have E2 := Lib.hid e2
  clear hone e1 e2
  go_enter Try.func95, Try.ntmps95
  go_wp2_with (first | (go_at_call 123; refine (within_any _ _ _ _).mono ?_; rintro e w' ⟨rfl, rfl⟩) | (go_at_call 141; refine (isPrinted_any _ _ (by omega)).mono ?_; rintro e w' ⟨rfl, hb⟩; obtain ⟨hc, hf⟩ := bcell hb; have hz : w.heap.size < w'.heap.size := by (have := hb.size; (try simp at this); omega)) | (go_at_call 99; refine (split_n c 64 _ (by omega)).mono ?_; rintro e w' ⟨A, c0, rfl, hown, hb⟩; clear hown))
  all_goals go_ret
  all_goals refine ⟨ret_bool ?_, (by repeat (first | exact ext_refl _ | assumption | refine ext_alloc ?_ _ | refine ext_drew ?_ | refine ext_drewN ?_ _ | refine ext_set ?_ (by simp <;> omega) _ | refine ext_trans ?_ (by assumption)))⟩
  all_goals rw [E2.out]
  all_goals first | (simp [*]; done) | (simp [*]; intros; omega)
theorem toList_nil (s : ByteArray) : s.toList = [] ↔ s.size = 0 := by
  rw [ByteArray.toList_eq, ← bl_size]
  unfold bl
  exact List.length_eq_zero_iff.symm
/-- the reference's test of a record -/
theorem l27Good_any (c r : ByteArray) (w : World) (hc : c.size ≤ 16000000) (hr : r.size ≤ 16000000) :
    Calls Try.prog 91 #[.agg #[.string c, .string r]] w fun e w' => e = .returned (.bool (recB c r)) ∧ Below w.heap.size w w' := by
  have e2 : recB c r = (!decide (c.toList = []) && (printedB c && decide ((c.size : Int) ≤ 160)) && !standsB c 64 && (printedB r && decide ((r.size : Int) ≤ 200))) := by
    have a1 : decide (1 ≤ c.size ∧ c.size ≤ 160) = (!decide (c.toList = []) && decide ((c.size : Int) ≤ 160)) := by
      have t := toList_nil c
      by_cases hz : c.toList = []
      · have h0 := t.1 hz
        simp [hz, h0]
      · have h0 : c.size ≠ 0 := fun e => hz (t.2 e)
        rw [Bool.eq_iff_iff]
        simp [hz]
        omega
    have a2 : decide (r.size ≤ 200) = decide ((r.size : Int) ≤ 200) := by rw [decide_eq_decide]; omega
    rw [recB, a1, a2]
    cases decide (c.toList = []) <;> cases decide ((c.size : Int) ≤ 160) <;> cases decide ((r.size : Int) ≤ 200) <;> cases printedB c <;> cases printedB r <;> cases standsB c 64 <;> rfl
  have E2 := Lib.hid e2
  clear e2
  go_enter Try.func91, Try.ntmps91
  go_wp2_with (first | (go_at_call 134; refine (l27Plain_any _ _ _ (by omega)).mono ?_; rintro e w' ⟨rfl, hb⟩; obtain ⟨hc, hf⟩ := bcell hb; have hz : w.heap.size < w'.heap.size := by (have := hb.size; (try simp at this); omega)) | (go_at_call 135; refine (l1Stands_any c 64 _ (by omega)).mono ?_; rintro e w' ⟨rfl, hb⟩; obtain ⟨hc, hf⟩ := bcell hb; have hz : w.heap.size < w'.heap.size := by (have := hb.size; (try simp at this); omega)))
  all_goals go_ret
  all_goals refine ⟨ret_bool ?_, (by repeat (first | exact ext_refl _ | assumption | refine ext_alloc ?_ _ | refine ext_drew ?_ | refine ext_drewN ?_ _ | refine ext_set ?_ (by simp <;> omega) _ | refine ext_trans ?_ (by assumption)))⟩
  all_goals rw [E2.out]
  all_goals first | (simp [*]; done) | (simp [*]; intros; omega)
end Go.Proofs.Ytclihlihaigddaa
