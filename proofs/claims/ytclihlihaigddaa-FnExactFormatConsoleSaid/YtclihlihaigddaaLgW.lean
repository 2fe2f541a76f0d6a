
/- Whether a log is valid: program and reference, walked. -/
import Derived.Test.YtclihlihaigddaaLg
import Derived.Test.YtclihlihaigddaaRecovT
import Derived.Test.YtclihlihaigddaaRecovU
namespace Go.Proofs.Ytclihlihaigddaa
open Go.RowKit
set_option linter.unusedVariables false
set_option linter.unusedSimpArgs false
theorem logB_of (d p : ByteArray) (z : Int) {E F N : Nat} (hE : recE (d ++ p) = E) (hF : recE d = F) (hN : (recL (d ++ p)).length = N) :
    logB d p z = (decide ((E : Int) = d.size + p.size) && decide ((F : Int) = d.size) && decide (z = (N : Int))) := by
  unfold logB; rw [hE, hF, hN]
theorem beq_cases (a b : Int) : ((a == b) = true ∧ decide (a = b) = true) ∨ ((a == b) = false ∧ decide (a = b) = false) := by
  by_cases h : a = b
  · exact .inl ⟨by simpa using h, by simpa using h⟩
  · exact .inr ⟨by simpa using h, by simpa using h⟩

set_option maxHeartbeats 1000000 in
theorem isValidLog_any (d p : ByteArray) (z : Int) (w : World) (hd : d.size ≤ 2000000) (hp : p.size ≤ 2000000) :
    Calls Try.prog 84 #[logV d p z] w fun e w' => e = .returned (.bool (logB d p z)) ∧ Below w.heap.size w w' := by
  have zdp : (d ++ p).size = d.size + p.size := ByteArray.size_append
  skip
  have H1 := Lib.hid (fun w => recovered_any (d ++ p) w (by omega))
  have H2 := Lib.hid (fun w => recovered_any d w (by omega))
  have e1 := recE_le (d ++ p)
  have e2 := recE_le d
  have e3 := recL_len (d ++ p)
  obtain ⟨E, hE⟩ : ∃ E, recE (d ++ p) = E := ⟨_, rfl⟩
  obtain ⟨F, hF⟩ : ∃ F, recE d = F := ⟨_, rfl⟩
  have hB := Lib.hid (logB_of d p z hE hF rfl)
  rw [hE] at H1 e1
  rw [hF] at H2 e2
  obtain ⟨L, hL⟩ : ∃ L, recL (d ++ p) = L := ⟨_, rfl⟩
  rw [hL] at H1 e3 hB
  obtain ⟨N, hN⟩ : ∃ N, L.length = N := ⟨_, rfl⟩
  unfold RetOpen at H1
  rw [hN] at H1 e3 hB
  rw [hB.out]
  clear hE hF hL hN hB zdp
  go_enter Try.func84, Try.ntmps84
  go_wp2_with fail
  refine (H1.out _).mono ?_
  rintro e w1 ⟨A1, c1, rfl, _, hb1⟩
  obtain ⟨hc1, hf1⟩ := bcell hb1
  have hz1 : w.heap.size < w1.heap.size := by have := hb1.size; simp at this; omega
  go_wp2_with fail
  refine (H2.out _).mono ?_
  rintro e w2 ⟨A2, c2, rfl, _, hb2⟩
  obtain ⟨hc2, hf2⟩ := bcell hb2
  have hz2 : w.heap.size < w2.heap.size := by have := hb2.size; omega
  rcases beq_cases (E : Int) (d.size + p.size) with ⟨k1, t1⟩ | ⟨k1, t1⟩
  · have T1 := Lib.hid t1
    clear t1
    rcases beq_cases (F : Int) d.size with ⟨k2, t2⟩ | ⟨k2, t2⟩
    all_goals have T2 := Lib.hid t2
    all_goals clear t2
    all_goals go_wp2
    all_goals go_ret
    all_goals refine ⟨ret_bool ?_, (by repeat (first | exact ext_refl _ | assumption | refine ext_alloc ?_ _ | refine ext_drew ?_ | refine ext_drewN ?_ _ | refine ext_set ?_ (by simp <;> omega) _ | refine ext_trans ?_ (by assumption)))⟩
    all_goals rw [T1.out, T2.out]
    all_goals first | rfl | simp
    all_goals first | rfl | (rw [Bool.eq_iff_iff]; simp; omega)
  · have T1 := Lib.hid t1
    clear t1
    go_wp2
    go_ret
    refine ⟨ret_bool ?_, (by repeat (first | exact ext_refl _ | assumption | refine ext_alloc ?_ _ | refine ext_drew ?_ | refine ext_drewN ?_ _ | refine ext_set ?_ (by simp <;> omega) _ | refine ext_trans ?_ (by assumption)))⟩
    rw [T1.out]
    first | rfl | simp

set_option maxHeartbeats 1000000 in
theorem l27Log_small (d p : ByteArray) (z : Int) (w : World) (hd : d.size ≤ 2000000) (hp : p.size ≤ 2000000) :
    Calls Try.prog 88 #[logV d p z] w fun e w' => e = .returned (.bool (logB d p z)) ∧ Below w.heap.size w w' := by
  have zdp : (d ++ p).size = d.size + p.size := ByteArray.size_append
  by_cases hbig : (30000 : Int) < (d.size : Int) + (p.size : Int)
  · have hno : logB d p z = false := by rw [Bool.eq_false_iff]; intro h; have := logB_size h; omega
    rw [hno]
    clear hno zdp
    go_enter Try.func88, Try.ntmps88
    go_wp2
    go_ret
    exact ⟨rfl, (by repeat (first | exact ext_refl _ | assumption | refine ext_alloc ?_ _ | refine ext_drew ?_ | refine ext_drewN ?_ _ | refine ext_set ?_ (by simp <;> omega) _ | refine ext_trans ?_ (by assumption)))⟩
  have H1 := Lib.hid (fun w => l27Open_any (d ++ p) w (by omega))
  have H2 := Lib.hid (fun w => l27Open_any d w (by omega))
  have e1 := recE_le (d ++ p)
  have e2 := recE_le d
  have e3 := recL_len (d ++ p)
  obtain ⟨E, hE⟩ : ∃ E, recE (d ++ p) = E := ⟨_, rfl⟩
  obtain ⟨F, hF⟩ : ∃ F, recE d = F := ⟨_, rfl⟩
  have hB := Lib.hid (logB_of d p z hE hF rfl)
  rw [hE] at H1 e1
  rw [hF] at H2 e2
  obtain ⟨L, hL⟩ : ∃ L, recL (d ++ p) = L := ⟨_, rfl⟩
  rw [hL] at H1 e3 hB
  obtain ⟨N, hN⟩ : ∃ N, L.length = N := ⟨_, rfl⟩
  unfold RetOpen at H1
  rw [hN] at H1 e3 hB
  rw [hB.out]
  clear hE hF hL hN hB zdp
  go_enter Try.func88, Try.ntmps88
  go_wp2_with fail
  refine (H1.out _).mono ?_
  rintro e w1 ⟨A1, c1, rfl, _, hb1⟩
  obtain ⟨hc1, hf1⟩ := bcell hb1
  have hz1 : w.heap.size < w1.heap.size := by have := hb1.size; simp at this; omega
  go_wp2_with fail
  refine (H2.out _).mono ?_
  rintro e w2 ⟨A2, c2, rfl, _, hb2⟩
  obtain ⟨hc2, hf2⟩ := bcell hb2
  have hz2 : w.heap.size < w2.heap.size := by have := hb2.size; omega
  rcases beq_cases (E : Int) (d.size + p.size) with ⟨k1, t1⟩ | ⟨k1, t1⟩
  · have T1 := Lib.hid t1
    clear t1
    rcases beq_cases (F : Int) d.size with ⟨k2, t2⟩ | ⟨k2, t2⟩
    all_goals have T2 := Lib.hid t2
    all_goals clear t2
    all_goals go_wp2
    all_goals go_ret
    all_goals refine ⟨ret_bool ?_, (by repeat (first | exact ext_refl _ | assumption | refine ext_alloc ?_ _ | refine ext_drew ?_ | refine ext_drewN ?_ _ | refine ext_set ?_ (by simp <;> omega) _ | refine ext_trans ?_ (by assumption)))⟩
    all_goals rw [T1.out, T2.out]
    all_goals first | rfl | simp
    all_goals first | rfl | (rw [Bool.eq_iff_iff]; simp; omega)
  · have T1 := Lib.hid t1
    clear t1
    go_wp2
    go_ret
    refine ⟨ret_bool ?_, (by repeat (first | exact ext_refl _ | assumption | refine ext_alloc ?_ _ | refine ext_drew ?_ | refine ext_drewN ?_ _ | refine ext_set ?_ (by simp <;> omega) _ | refine ext_trans ?_ (by assumption)))⟩
    rw [T1.out]
    first | rfl | simp
end Go.Proofs.Ytclihlihaigddaa
