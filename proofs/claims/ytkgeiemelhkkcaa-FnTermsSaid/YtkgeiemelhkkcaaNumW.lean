
/- 'text' and 'l1Num' write a number's decimal text. -/
import Derived.Test.YtkgeiemelhkkcaaNum
namespace Go.Proofs.Ytkgeiemelhkkcaa
open Go.RowKit
set_option linter.unusedVariables false
set_option linter.unusedSimpArgs false
def NumRet (n : Nat) (w : World) (e : Ending) (w' : World) : Prop := e = .returned (.string (dec n)) ∧ Below w.heap.size w w'
theorem l1Num_pos : ∀ (f n : Nat) (w : World), n < 10 ^ f → n ≤ 9223372036854775807 →
    Calls Try.prog 65 #[.int .i64 n] w (NumRet n w) := by
  intro f
  induction f with
  | zero =>
    intro n w hn _
    have h0 : n = 0 := by simpa using hn
    subst h0
    have hsl := @run_digit Try.prog 9 Try.underlying9 0 (by omega) (by omega)
    go_enter Try.func65, Try.ntmps65
    go_wp2
    go_ret
    exact ⟨rfl, ext_refl _⟩
  | succ f ih =>
    intro n w hn hb
    by_cases h10 : n < 10
    · have hsl := @run_digit Try.prog 9 Try.underlying9 (n : Int) (by omega) (by omega)
      clear hn ih
      go_enter Try.func65, Try.ntmps65
      go_wp2
      go_ret
      refine ⟨?_, ext_refl _⟩
      rw [dec_small h10]
      rfl
    · have hq : n / 10 < 10 ^ f := by rw [Nat.pow_succ] at hn; omega
      have IH := Lib.hid (fun w => ih (n / 10) w hq (by omega))
      have hsl := @run_digit Try.prog 9 Try.underlying9 ((n : Int) % 10) (by omega) (by omega)
      have hz := dec_size (n / 10)
      clear ih hq hn
      have E := Lib.hid (dec_step (n := n) (by omega) hb)
      go_enter Try.func65, Try.ntmps65
      go_wp2_with fail
      (refine wp_region_later (by kernel_rfl) (by kernel_rfl) ?_; (repeat (go_big_quiet_step ((go_at_call 65; exact Calls.later_of (IH.out _))))); refine wpQuiet_nil ?_; intro w1 hw1; obtain ⟨⟨wl, hbL⟩, hw1'⟩ := hw1; simp only at hw1'; subst hw1'; obtain ⟨hcL, hfL⟩ := bcell hbL)
      go_wp2
      go_ret
      exact ⟨by rw [E.out]; rfl, (by repeat (first | exact ext_refl _ | assumption | refine ext_alloc ?_ _ | refine ext_drew ?_ | refine ext_drewN ?_ _ | refine ext_set ?_ (by simp <;> omega) _ | refine ext_trans ?_ (by assumption)))⟩
def IntRet (z : Int) (w : World) (e : Ending) (w' : World) : Prop := e = .returned (.string (decI z)) ∧ Below w.heap.size w w'
theorem decI_pos {n : Nat} : decI (n : Int) = dec n := by
  unfold decI; rw [if_neg (by omega), Int.toNat_natCast]
theorem l1Num_any (z : Int) (w : World) (h1 : -9223372036854775807 ≤ z) (h2 : z ≤ 9223372036854775807) :
    Calls Try.prog 65 #[.int .i64 z] w fun e w' => e = .returned (.string (decI z)) ∧ Below w.heap.size w w' := by
  by_cases h : z < 0
  · obtain ⟨n, hn⟩ := Int.eq_ofNat_of_zero_le (a := -z) (by omega)
    have hz : z = -(n : Int) := by omega
    subst hz
    have hs := dec_size n
    have e : decI (-(n : Int)) = ⟨#[45]⟩ ++ dec n := by
      unfold decI; rw [if_pos h]; congr 2; omega
    have E := Lib.hid e
    have hc := Lib.hid (fun w => l1Num_pos 19 n w (by omega) (by omega))
    clear e hn
    rw [E.out]
    go_enter Try.func65, Try.ntmps65
    go_wp2_with (go_at_call 65; refine (hc.out _).mono ?_; rintro e w' ⟨rfl, hb⟩)
    go_ret
    exact ⟨rfl, hb⟩
  · obtain ⟨n, rfl⟩ := Int.eq_ofNat_of_zero_le (a := z) (by omega)
    rw [decI_pos]
    exact l1Num_pos 19 n w (by omega) (by omega)
theorem text_pos (n : Nat) (w : World) (hb : n ≤ 9223372036854775807) :
    Calls Try.prog 67 #[.int .i64 n] w (NumRet n w) := by
  go_enter Try.func67, Try.ntmps67
  go_wp2
  go_loopw [0, 3] (fun i o wr => ∃ (m : Nat) (s : ByteArray), m ≤ 9223372036854775807 ∧ i = .int .i64 m ∧ o = .string s ∧ Below w.heap.size w wr ∧ Hid (dec m ++ s = dec n)) (fun i _ _ => (intOf i).toNat)
  case atStart => exact ⟨n, ⟨#[]⟩, hb, rfl, rfl, ext_refl _, Lib.hid (by apply ByteArray.ext; simp)⟩
  case round =>
    obtain ⟨m, s, hm, rfl, rfl, hbl, heq⟩ := hrel
    have hs : s.size ≤ 20 := by
      have h1 := congrArg ByteArray.size heq.out
      rw [ByteArray.size_append] at h1
      have h2 := dec_size n
      omega
    have hcv := run_one_byte (P := Try.prog) wr Try.underlying53 Try.underlying5 Try.underlying9 (m % 10)
    rw [show (((m % 10 : Nat)) : Int) = (m : Int) % 10 from by omega] at hcv
    by_cases h10 : m < 10
    · have e1 : ((m : Int) / 10 == 0) = true := by simp; omega
      have E := Lib.hid (show (⟨#[dig (m % 10)]⟩ : ByteArray) ++ s = dec n by rw [← heq.out, dec_small h10, Nat.mod_eq_of_lt h10])
      go_wp2
      go_ret
      exact ⟨by rw [← E.out]; rfl, (by repeat (first | exact ext_refl _ | assumption | refine ext_alloc ?_ _ | refine ext_drew ?_ | refine ext_drewN ?_ _ | refine ext_set ?_ (by simp <;> omega) _ | refine ext_trans ?_ (by assumption)))⟩
    · have e1 : ((m : Int) / 10 == 0) = false := by simp; omega
      have E := Lib.hid (show dec (m / 10) ++ (⟨#[dig (m % 10)]⟩ ++ s) = dec n by rw [← heq.out, dec_step (by omega) hm, ByteArray.append_assoc])
      go_wp2
      go_roundw
      case rel => exact ⟨m / 10, ⟨#[dig (m % 10)]⟩ ++ s, by omega, by go_num, rfl, (by repeat (first | exact ext_refl _ | assumption | refine ext_alloc ?_ _ | refine ext_drew ?_ | refine ext_drewN ?_ _ | refine ext_set ?_ (by simp <;> omega) _ | refine ext_trans ?_ (by assumption))), E⟩
      case measure => simp [intOf]; omega
end Go.Proofs.Ytkgeiemelhkkcaa
