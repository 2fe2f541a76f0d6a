
/- The laws' helpers over logs and texts: szLog, toLog, eqLog, markText. -/
import Derived.Test.YtclihlihaigddaaLgX
namespace Go.Proofs.Ytclihlihaigddaa
open Go.RowKit
set_option linter.unusedVariables false
set_option linter.unusedSimpArgs false
theorem szLog_any (left : Int) (d p : ByteArray) (z : Int) (w : World) (hd : d.size ≤ 9223372036854775807) (hp : p.size ≤ 9223372036854775807) (h0 : 0 ≤ left) (h1 : left ≤ 1048576) :
    Calls Try.prog 26 #[logV d p z, .int .i64 left] w fun e w' => e = .returned (.int .i64 (szRec left d p)) ∧ Below w.heap.size w w' := by
  unfold szRec
  by_cases a1 : left - (d.size : Int) < 0
  · rw [if_pos a1]
    go_enter Try.func26, Try.ntmps26
    go_wp2
    go_ret
    exact ⟨rfl, (by repeat (first | exact ext_refl _ | assumption | refine ext_alloc ?_ _ | refine ext_drew ?_ | refine ext_drewN ?_ _ | refine ext_set ?_ (by simp <;> omega) _ | refine ext_trans ?_ (by assumption)))⟩
  · rw [if_neg a1]
    by_cases a2 : left - (d.size : Int) - (p.size : Int) < 0
    · rw [if_pos a2]
      go_enter Try.func26, Try.ntmps26
      go_wp2
      go_ret
      exact ⟨rfl, (by repeat (first | exact ext_refl _ | assumption | refine ext_alloc ?_ _ | refine ext_drew ?_ | refine ext_drewN ?_ _ | refine ext_set ?_ (by simp <;> omega) _ | refine ext_trans ?_ (by assumption)))⟩
    · rw [if_neg a2]
      go_enter Try.func26, Try.ntmps26
      go_wp2
      go_ret
      exact ⟨rfl, (by repeat (first | exact ext_refl _ | assumption | refine ext_alloc ?_ _ | refine ext_drew ?_ | refine ext_drewN ?_ _ | refine ext_set ?_ (by simp <;> omega) _ | refine ext_trans ?_ (by assumption)))⟩
theorem toLog_any (d p : ByteArray) (z : Int) (w : World) :
    Calls Try.prog 28 #[logV d p z] w fun e w' => e = .returned (logV d p z) ∧ Below w.heap.size w w' := by
  go_enter Try.func28, Try.ntmps28
  go_wp2
  refine bodyPost_ret (v := logV d p z) (by simp [results, Try.results28, go_sem]) rfl ⟨rfl, (by repeat (first | exact ext_refl _ | assumption | refine ext_alloc ?_ _ | refine ext_drew ?_ | refine ext_drewN ?_ _ | refine ext_set ?_ (by simp <;> omega) _ | refine ext_trans ?_ (by assumption)))⟩
theorem eqLog_same (d p : ByteArray) (z : Int) (w : World) :
    Calls Try.prog 82 #[logV d p z, logV d p z] w fun e w' => e = .returned (.bool true) ∧ Below w.heap.size w w' := by
  go_enter Try.func82, Try.ntmps82
  go_wp2
  go_ret
  exact ⟨rfl, (by repeat (first | exact ext_refl _ | assumption | refine ext_alloc ?_ _ | refine ext_drew ?_ | refine ext_drewN ?_ _ | refine ext_set ?_ (by simp <;> omega) _ | refine ext_trans ?_ (by assumption)))⟩
/-- the text of a mark -/
def mkT (k : Nat) : ByteArray := ⟨#[109]⟩ ++ dec k
theorem markText_any (k : Nat) (w : World) (h1 : 1 ≤ k) (hb : k ≤ 9223372036854775807) :
    Calls Try.prog 100 #[.int .i64 k] w fun e w' => e = .returned (.string (mkT k)) ∧ Below w.heap.size w w' := by
  have hend : Hid (mkT k = ⟨#[109]⟩ ++ dec k) := Lib.hid rfl
  rw [hend.out]
  go_enter Try.func100, Try.ntmps100
  go_wp2
  go_loopw [0, 3] (fun i o wr => ∃ (m : Nat) (s : ByteArray), m ≤ 9223372036854775807 ∧ s.size ≤ 20 ∧ i = .int .i64 m ∧ o = .string s ∧ Below w.heap.size w wr ∧ Hid (if m = 0 then s = dec k else dec m ++ s = dec k)) (fun i _ _ => (intOf i).toNat)
  case atStart => exact ⟨k, ⟨#[]⟩, hb, by simp [lit_size], rfl, rfl, ext_refl _, Lib.hid (by rw [if_neg (by omega)]; apply ByteArray.ext; simp)⟩
  case round =>
    obtain ⟨m, s, hm, hs, rfl, rfl, hbl, heq⟩ := hrel
    by_cases h0 : 0 < m
    · have hcv := run_one_byte (P := Try.prog) wr Try.underlying59 Try.underlying5 Try.underlying9 (m % 10)
      rw [show (((m % 10 : Nat)) : Int) = (m : Int) % 10 from by omega] at hcv
      have E : Hid (if m / 10 = 0 then (⟨#[dig (m % 10)]⟩ : ByteArray) ++ s = dec k else dec (m / 10) ++ (⟨#[dig (m % 10)]⟩ ++ s) = dec k) := by
        have h2 := heq.out
        rw [if_neg (by omega)] at h2
        apply Lib.hid
        by_cases h10 : m < 10
        · rw [if_pos (by omega), ← h2, dec_small h10, Nat.mod_eq_of_lt h10]
        · rw [if_neg (by omega), ← h2, dec_step (by omega) hm, ByteArray.append_assoc]
      have hs2 : ((⟨#[dig (m % 10)]⟩ : ByteArray) ++ s).size ≤ 20 := by
        have h2 := E.out
        have h3 := dec_size k
        split at h2
        · rw [h2]; exact h3
        · rw [← h2, ByteArray.size_append] at h3; omega
      go_wp2
      go_roundw
      case rel => exact ⟨m / 10, ⟨#[dig (m % 10)]⟩ ++ s, by omega, hs2, by go_num, rfl, (by repeat (first | exact ext_refl _ | assumption | refine ext_alloc ?_ _ | refine ext_drew ?_ | refine ext_drewN ?_ _ | refine ext_set ?_ (by simp <;> omega) _ | refine ext_trans ?_ (by assumption))), E⟩
      case measure => simp [intOf]; omega
    · have h2 := heq.out
      rw [if_pos (by omega)] at h2
      have H2 := Lib.hid h2
      clear h2
      go_wp2
      go_ret
      exact ⟨by rw [H2.out]; rfl, (by repeat (first | exact ext_refl _ | assumption | refine ext_alloc ?_ _ | refine ext_drew ?_ | refine ext_drewN ?_ _ | refine ext_set ?_ (by simp <;> omega) _ | refine ext_trans ?_ (by assumption)))⟩
end Go.Proofs.Ytclihlihaigddaa
