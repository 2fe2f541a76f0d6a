/- The laws IsValidLog, SyncLog, RecoverLog, AppendRecord, walked. -/
import Derived.Test.YtdielldikdmjpaaLgT
import Derived.Test.YtdielldikdmjpaaLgA
import Derived.Test.YtdielldikdmjpaaLawAid
namespace Go.Proofs.Ytdielldikdmjpaa
open Go.RowKit
set_option linter.unusedVariables false
set_option linter.unusedSimpArgs false
theorem toRec_any (c r : ByteArray) (w : World) :
    Calls Try.prog 16 #[recV c r] w fun e w' => e = .returned (recV c r) ∧ Below w.heap.size w w' := toLogRecord_any c r w
theorem law_IsValidLog (d p : ByteArray) (z : Int) (w : World) (hd : d.size ≤ maxLen) (hp : p.size ≤ maxLen) (hz1 : -9223372036854775808 ≤ z) (hz2 : z ≤ 9223372036854775807) :
    Calls Try.prog 6 #[logV d p z] w fun e w' => e = .returned (.bool true) ∧ Below w.heap.size w w' := by
  unfold maxLen at hd hp
  have HS := Lib.hid (fun w => szLog_any 1048576 d p z w (by omega) (by omega) (by omega) (by omega))
  rcases szRec_cases 1048576 d p with hs | ⟨hs, hpos⟩
  · rw [hs] at HS
    clear hs
    go_enter Try.func6, Try.ntmps6
    go_wp2_with (go_at_call 23; refine (HS.out _).mono ?_; rintro e w' ⟨rfl, hb⟩)
    go_ret
    exact ⟨rfl, (by repeat (first | exact ext_refl _ | assumption | refine ext_alloc ?_ _ | refine ext_drew ?_ | refine ext_drewN ?_ _ | refine ext_set ?_ (by simp <;> omega) _ | refine ext_trans ?_ (by assumption)))⟩
  · rw [hs] at HS
    clear hs
    go_enter Try.func6, Try.ntmps6
    go_wp2_with (first | (go_at_call 23; refine (HS.out _).mono ?_; rintro e w' ⟨rfl, hb⟩; obtain ⟨hc, hf⟩ := bcell hb; have hz : w.heap.size < w'.heap.size := by (have := hb.size; (try simp at this); omega)) | (go_at_call 25; refine (toLog_any d p z _).mono ?_; rintro e w' ⟨rfl, hb⟩; obtain ⟨hc, hf⟩ := bcell hb; have hz : w.heap.size < w'.heap.size := by (have := hb.size; (try simp at this); omega)) | (go_at_call 24; refine (specIsValidLog_any d p z _ (by omega) (by omega)).mono ?_; rintro e w' ⟨rfl, hb⟩; obtain ⟨hc, hf⟩ := bcell hb; have hz : w.heap.size < w'.heap.size := by (have := hb.size; (try simp at this); omega)) | (go_at_call 26; refine (isValidLog_any d p z _ (by omega) (by omega)).mono ?_; rintro e w' ⟨rfl, hb⟩; obtain ⟨hc, hf⟩ := bcell hb; have hz : w.heap.size < w'.heap.size := by (have := hb.size; (try simp at this); omega)))
    go_ret
    exact ⟨rfl, (by repeat (first | exact ext_refl _ | assumption | refine ext_alloc ?_ _ | refine ext_drew ?_ | refine ext_drewN ?_ _ | refine ext_set ?_ (by simp <;> omega) _ | refine ext_trans ?_ (by assumption)))⟩
theorem law_SyncLog (d p : ByteArray) (z : Int) (w : World) (hd : d.size ≤ maxLen) (hp : p.size ≤ maxLen) (hz1 : -9223372036854775808 ≤ z) (hz2 : z ≤ 9223372036854775807) :
    Calls Try.prog 8 #[logV d p z] w fun e w' => e = .returned (.bool true) ∧ Below w.heap.size w w' := by
  unfold maxLen at hd hp
  have HS := Lib.hid (fun w => szLog_any 1048576 d p z w (by omega) (by omega) (by omega) (by omega))
  rcases szRec_cases 1048576 d p with hs | ⟨hs, hpos⟩
  · rw [hs] at HS
    clear hs
    go_enter Try.func8, Try.ntmps8
    go_wp2_with (go_at_call 23; refine (HS.out _).mono ?_; rintro e w' ⟨rfl, hb⟩)
    go_ret
    exact ⟨rfl, (by repeat (first | exact ext_refl _ | assumption | refine ext_alloc ?_ _ | refine ext_drew ?_ | refine ext_drewN ?_ _ | refine ext_set ?_ (by simp <;> omega) _ | refine ext_trans ?_ (by assumption)))⟩
  · rw [hs] at HS
    clear hs
    have HA := Lib.hid (fun w => specSync_any d p z w (by omega) (by omega))
    have HB := Lib.hid (fun w => implSync_any d p z w (by omega) (by omega))
    generalize syncD d p z = D at HA HB
    generalize syncZ d p z = Z at HA HB
    go_enter Try.func8, Try.ntmps8
    go_wp2_with fail
    refine (HS.out _).mono ?_
    rintro e w1 ⟨rfl, hb⟩
    have s1 : w.heap.size + 1 ≤ w1.heap.size := (by have := hb.size; (try simp at this); omega)
    have z1_0 : w.heap.size < w1.heap.size := (by omega)
    have q1_0 : w1.cell? ⟨w.heap.size, 0, none⟩ = some (.string d) := ext_cell hb (by simp [go_sem])
    have q1_1 : w1.cell? ⟨w.heap.size, 1, none⟩ = some (.string p) := ext_cell hb (by simp [go_sem])
    have q1_2 : w1.cell? ⟨w.heap.size, 2, none⟩ = some (.int .i64 z) := ext_cell hb (by simp [go_sem])
    have b1 := Lib.hid (ext_trans (ext_alloc (ext_refl w) _) hb)
    have t1 : w.heap.size ≤ w1.heap.size := b1.out.size
    clear hb
    go_wp2_with fail
    refine (toLog_any d p z _).mono ?_
    rintro e w2 ⟨rfl, hb⟩
    have s2 : w1.heap.size ≤ w2.heap.size := (by have := hb.size; (try simp at this); omega)
    have z2_0 : w.heap.size < w2.heap.size := (by omega)
    have q2_0 : w2.cell? ⟨w.heap.size, 0, none⟩ = some (.string d) := ext_cell hb q1_0
    have q2_1 : w2.cell? ⟨w.heap.size, 1, none⟩ = some (.string p) := ext_cell hb q1_1
    have q2_2 : w2.cell? ⟨w.heap.size, 2, none⟩ = some (.int .i64 z) := ext_cell hb q1_2
    have b2 := Lib.hid (ext_trans b1.out hb)
    have t2 : w.heap.size ≤ w2.heap.size := b2.out.size
    clear q1_0 q1_1 q1_2
    clear hb
    go_wp2_with fail
    refine (HA.out _).mono ?_
    rintro e w3 ⟨rfl, hb⟩
    have s3 : w2.heap.size ≤ w3.heap.size := (by have := hb.size; (try simp at this); omega)
    have z3_0 : w.heap.size < w3.heap.size := (by omega)
    have q3_0 : w3.cell? ⟨w.heap.size, 0, none⟩ = some (.string d) := ext_cell hb q2_0
    have q3_1 : w3.cell? ⟨w.heap.size, 1, none⟩ = some (.string p) := ext_cell hb q2_1
    have q3_2 : w3.cell? ⟨w.heap.size, 2, none⟩ = some (.int .i64 z) := ext_cell hb q2_2
    have b3 := Lib.hid (ext_trans b2.out hb)
    have t3 : w.heap.size ≤ w3.heap.size := b3.out.size
    clear q2_0 q2_1 q2_2
    clear hb
    go_wp2_with fail
    refine (toLog_any d p z _).mono ?_
    rintro e w4 ⟨rfl, hb⟩
    have s4 : w3.heap.size + 1 ≤ w4.heap.size := (by have := hb.size; (try simp at this); omega)
    have z4_0 : w.heap.size < w4.heap.size := (by omega)
    have z4_1 : w3.heap.size < w4.heap.size := (by omega)
    have q4_0 : w4.cell? ⟨w.heap.size, 0, none⟩ = some (.string d) := ext_cell hb (cell_old q3_0 _)
    have q4_1 : w4.cell? ⟨w.heap.size, 1, none⟩ = some (.string p) := ext_cell hb (cell_old q3_1 _)
    have q4_2 : w4.cell? ⟨w.heap.size, 2, none⟩ = some (.int .i64 z) := ext_cell hb (cell_old q3_2 _)
    have q4_3 : w4.cell? ⟨w3.heap.size, 0, none⟩ = some (.string D) := ext_cell hb (by simp [go_sem])
    have q4_4 : w4.cell? ⟨w3.heap.size, 1, none⟩ = some (.string ⟨#[]⟩) := ext_cell hb (by simp [go_sem])
    have q4_5 : w4.cell? ⟨w3.heap.size, 2, none⟩ = some (.int .i64 Z) := ext_cell hb (by simp [go_sem])
    have b4 := Lib.hid (ext_trans (ext_alloc b3.out _) hb)
    have t4 : w.heap.size ≤ w4.heap.size := b4.out.size
    clear q3_0 q3_1 q3_2
    clear hb
    go_wp2_with fail
    refine (HB.out _).mono ?_
    rintro e w5 ⟨rfl, hb⟩
    have s5 : w4.heap.size ≤ w5.heap.size := (by have := hb.size; (try simp at this); omega)
    have z5_0 : w.heap.size < w5.heap.size := (by omega)
    have z5_1 : w3.heap.size < w5.heap.size := (by omega)
    have q5_0 : w5.cell? ⟨w.heap.size, 0, none⟩ = some (.string d) := ext_cell hb q4_0
    have q5_1 : w5.cell? ⟨w.heap.size, 1, none⟩ = some (.string p) := ext_cell hb q4_1
    have q5_2 : w5.cell? ⟨w.heap.size, 2, none⟩ = some (.int .i64 z) := ext_cell hb q4_2
    have q5_3 : w5.cell? ⟨w3.heap.size, 0, none⟩ = some (.string D) := ext_cell hb q4_3
    have q5_4 : w5.cell? ⟨w3.heap.size, 1, none⟩ = some (.string ⟨#[]⟩) := ext_cell hb q4_4
    have q5_5 : w5.cell? ⟨w3.heap.size, 2, none⟩ = some (.int .i64 Z) := ext_cell hb q4_5
    have b5 := Lib.hid (ext_trans b4.out hb)
    have t5 : w.heap.size ≤ w5.heap.size := b5.out.size
    clear q4_0 q4_1 q4_2 q4_3 q4_4 q4_5
    clear hb
    go_wp2_with fail
    refine (eqLog_same _ _ _ _).mono ?_
    rintro e w6 ⟨rfl, hb⟩
    have s6 : w5.heap.size + 1 ≤ w6.heap.size := (by have := hb.size; (try simp at this); omega)
    have z6_0 : w.heap.size < w6.heap.size := (by omega)
    have z6_1 : w3.heap.size < w6.heap.size := (by omega)
    have z6_2 : w5.heap.size < w6.heap.size := (by omega)
    have q6_0 : w6.cell? ⟨w.heap.size, 0, none⟩ = some (.string d) := ext_cell hb (cell_old q5_0 _)
    have q6_1 : w6.cell? ⟨w.heap.size, 1, none⟩ = some (.string p) := ext_cell hb (cell_old q5_1 _)
    have q6_2 : w6.cell? ⟨w.heap.size, 2, none⟩ = some (.int .i64 z) := ext_cell hb (cell_old q5_2 _)
    have q6_3 : w6.cell? ⟨w3.heap.size, 0, none⟩ = some (.string D) := ext_cell hb (cell_old q5_3 _)
    have q6_4 : w6.cell? ⟨w3.heap.size, 1, none⟩ = some (.string ⟨#[]⟩) := ext_cell hb (cell_old q5_4 _)
    have q6_5 : w6.cell? ⟨w3.heap.size, 2, none⟩ = some (.int .i64 Z) := ext_cell hb (cell_old q5_5 _)
    have q6_6 : w6.cell? ⟨w5.heap.size, 0, none⟩ = some (.string D) := ext_cell hb (by simp [go_sem])
    have q6_7 : w6.cell? ⟨w5.heap.size, 1, none⟩ = some (.string ⟨#[]⟩) := ext_cell hb (by simp [go_sem])
    have q6_8 : w6.cell? ⟨w5.heap.size, 2, none⟩ = some (.int .i64 Z) := ext_cell hb (by simp [go_sem])
    have b6 := Lib.hid (ext_trans (ext_alloc b5.out _) hb)
    have t6 : w.heap.size ≤ w6.heap.size := b6.out.size
    clear q5_0 q5_1 q5_2 q5_3 q5_4 q5_5
    clear hb
    go_wp2
    go_ret
    exact ⟨rfl, b6.out⟩
theorem law_RecoverLog (s : ByteArray) (w : World) (hs : s.size ≤ maxLen) :
    Calls Try.prog 5 #[.string s] w fun e w' => e = .returned (.bool true) ∧ Below w.heap.size w w' := by
  unfold maxLen at hs
  by_cases hb : s.size ≤ 1048576
  · have HA := Lib.hid (fun w => specRecover_any s w (by omega))
    have HB := Lib.hid (fun w => implRecover_any s w (by omega))
    generalize rcvD s = D at HA HB
    generalize rcvN s = N at HA HB
    generalize rcvE s = E at HA HB
    go_enter Try.func5, Try.ntmps5
    go_wp2_with fail
    refine (HA.out _).mono ?_
    rintro e w1 ⟨rfl, hb⟩
    have s1 : w.heap.size ≤ w1.heap.size := (by have := hb.size; (try simp at this); omega)
    have b1 := Lib.hid (ext_trans (ext_refl w) hb)
    have t1 : w.heap.size ≤ w1.heap.size := b1.out.size
    clear hb
    go_wp2_with fail
    refine (HB.out _).mono ?_
    rintro e w2 ⟨rfl, hb⟩
    have s2 : w1.heap.size + 1 ≤ w2.heap.size := (by have := hb.size; (try simp at this); omega)
    have z2_0 : w1.heap.size < w2.heap.size := (by omega)
    have q2_0 : w2.cell? ⟨w1.heap.size, 0, none⟩ = some (.string D) := ext_cell hb (by simp [go_sem])
    have q2_1 : w2.cell? ⟨w1.heap.size, 1, none⟩ = some (.string ⟨#[]⟩) := ext_cell hb (by simp [go_sem])
    have q2_2 : w2.cell? ⟨w1.heap.size, 2, none⟩ = some (.int .i64 N) := ext_cell hb (by simp [go_sem])
    have b2 := Lib.hid (ext_trans (ext_alloc b1.out _) hb)
    have t2 : w.heap.size ≤ w2.heap.size := b2.out.size
    clear hb
    go_wp2_with fail
    refine (eqLog_same _ _ _ _).mono ?_
    rintro e w3 ⟨rfl, hb⟩
    have s3 : w2.heap.size + 1 ≤ w3.heap.size := (by have := hb.size; (try simp at this); omega)
    have z3_0 : w1.heap.size < w3.heap.size := (by omega)
    have z3_1 : w2.heap.size < w3.heap.size := (by omega)
    have q3_0 : w3.cell? ⟨w1.heap.size, 0, none⟩ = some (.string D) := ext_cell hb (cell_old q2_0 _)
    have q3_1 : w3.cell? ⟨w1.heap.size, 1, none⟩ = some (.string ⟨#[]⟩) := ext_cell hb (cell_old q2_1 _)
    have q3_2 : w3.cell? ⟨w1.heap.size, 2, none⟩ = some (.int .i64 N) := ext_cell hb (cell_old q2_2 _)
    have q3_3 : w3.cell? ⟨w2.heap.size, 0, none⟩ = some (.string D) := ext_cell hb (by simp [go_sem])
    have q3_4 : w3.cell? ⟨w2.heap.size, 1, none⟩ = some (.string ⟨#[]⟩) := ext_cell hb (by simp [go_sem])
    have q3_5 : w3.cell? ⟨w2.heap.size, 2, none⟩ = some (.int .i64 N) := ext_cell hb (by simp [go_sem])
    have b3 := Lib.hid (ext_trans (ext_alloc b2.out _) hb)
    have t3 : w.heap.size ≤ w3.heap.size := b3.out.size
    clear q2_0 q2_1 q2_2
    clear hb
    go_wp2
    go_ret
    exact ⟨rfl, b3.out⟩
  · go_enter Try.func5, Try.ntmps5
    go_wp2
    go_ret
    exact ⟨rfl, (by repeat (first | exact ext_refl _ | assumption | refine ext_alloc ?_ _ | refine ext_drew ?_ | refine ext_drewN ?_ _ | refine ext_set ?_ (by simp <;> omega) _ | refine ext_trans ?_ (by assumption)))⟩
end Go.Proofs.Ytdielldikdmjpaa
