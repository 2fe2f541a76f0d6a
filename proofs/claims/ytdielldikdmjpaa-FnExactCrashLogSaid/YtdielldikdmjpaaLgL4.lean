/- The law of CrashLog, walked. -/
import Derived.Test.YtdielldikdmjpaaLgL
import Derived.Test.YtdielldikdmjpaaLgC3
namespace Go.Proofs.Ytdielldikdmjpaa
open Go.RowKit
set_option linter.unusedVariables false
set_option linter.unusedSimpArgs false
set_option maxHeartbeats 1000000 in
theorem law_CrashLog (d p : ByteArray) (z k : Int) (torn : Bool) (w : World) (hd : d.size ≤ maxLen) (hp : p.size ≤ maxLen) (hz1 : -9223372036854775808 ≤ z) (hz2 : z ≤ 9223372036854775807) :
    Calls Try.prog 7 #[logV d p z, .int .i64 k, .bool torn] w fun e w' => e = .returned (.bool true) ∧ Below w.heap.size w w' := by
  unfold maxLen at hd hp
  have HS := Lib.hid (fun w => szLog_any 1048576 d p z w (by omega) (by omega) (by omega) (by omega))
  rcases szRec_cases 1048576 d p with hs | ⟨hs, hpos⟩
  · rw [hs] at HS
    clear hs
    go_enter Try.func7, Try.ntmps7
    go_wp2_with (go_at_call 23; refine (HS.out _).mono ?_; rintro e w' ⟨rfl, hb⟩)
    go_ret
    exact ⟨rfl, (by repeat (first | exact ext_refl _ | assumption | refine ext_alloc ?_ _ | refine ext_drew ?_ | refine ext_drewN ?_ _ | refine ext_set ?_ (by simp <;> omega) _ | refine ext_trans ?_ (by assumption)))⟩
  · rw [hs] at HS
    clear hs
    have HA := Lib.hid (fun w => specCrash_any d p z k torn w (by omega) (by omega))
    have HB := Lib.hid (fun w => implCrash_any d p z k torn w (by omega) (by omega))
    generalize crashB d p z k torn = S at HA HB
    generalize crashOk d p z k = ok at HA HB
    go_enter Try.func7, Try.ntmps7
    go_wp2_with fail
    refine (HS.out _).mono ?_
    rintro e w1 ⟨rfl, hb⟩
    have s1 : w.heap.size + 1 ≤ w1.heap.size := (by have := hb.size; (try simp at this); omega)
    have z1_0 : w.heap.size < w1.heap.size := (by omega)
    have q1_0 : w1.cell? ⟨w.heap.size, 0, none⟩ = some (.string d) := ext_cell hb (by simp [go_sem])
    have q1_1 : w1.cell? ⟨w.heap.size, 1, none⟩ = some (.string p) := ext_cell hb (by simp [go_sem])
    have q1_2 : w1.cell? ⟨w.heap.size, 2, none⟩ = some (.int .i64 z) := ext_cell hb (by simp [go_sem])
    have b1 := Lib.hid (ext_trans (ext_alloc (ext_refl w) _) hb)
    have t1 : w.heap.size ≤ w1.heap.size := b1.out.size
    clear hb
    go_wp2_with fail
    refine (toLog_any d p z _).mono ?_
    rintro e w2 ⟨rfl, hb⟩
    have s2 : w1.heap.size ≤ w2.heap.size := (by have := hb.size; (try simp at this); omega)
    have z2_0 : w.heap.size < w2.heap.size := (by omega)
    have q2_0 : w2.cell? ⟨w.heap.size, 0, none⟩ = some (.string d) := ext_cell hb q1_0
    have q2_1 : w2.cell? ⟨w.heap.size, 1, none⟩ = some (.string p) := ext_cell hb q1_1
    have q2_2 : w2.cell? ⟨w.heap.size, 2, none⟩ = some (.int .i64 z) := ext_cell hb q1_2
    have b2 := Lib.hid (ext_trans b1.out hb)
    have t2 : w.heap.size ≤ w2.heap.size := b2.out.size
    clear q1_0 q1_1 q1_2
    clear hb
    go_wp2_with fail
    refine (HA.out _).mono ?_
    rintro e w3 ⟨rfl, hb⟩
    have s3 : w2.heap.size ≤ w3.heap.size := (by have := hb.size; (try simp at this); omega)
    have z3_0 : w.heap.size < w3.heap.size := (by omega)
    have q3_0 : w3.cell? ⟨w.heap.size, 0, none⟩ = some (.string d) := ext_cell hb q2_0
    have q3_1 : w3.cell? ⟨w.heap.size, 1, none⟩ = some (.string p) := ext_cell hb q2_1
    have q3_2 : w3.cell? ⟨w.heap.size, 2, none⟩ = some (.int .i64 z) := ext_cell hb q2_2
    have b3 := Lib.hid (ext_trans b2.out hb)
    have t3 : w.heap.size ≤ w3.heap.size := b3.out.size
    clear q2_0 q2_1 q2_2
    clear hb
    go_wp2_with fail
    refine (toLog_any d p z _).mono ?_
    rintro e w4 ⟨rfl, hb⟩
    have s4 : w3.heap.size ≤ w4.heap.size := (by have := hb.size; (try simp at this); omega)
    have z4_0 : w.heap.size < w4.heap.size := (by omega)
    have q4_0 : w4.cell? ⟨w.heap.size, 0, none⟩ = some (.string d) := ext_cell hb q3_0
    have q4_1 : w4.cell? ⟨w.heap.size, 1, none⟩ = some (.string p) := ext_cell hb q3_1
    have q4_2 : w4.cell? ⟨w.heap.size, 2, none⟩ = some (.int .i64 z) := ext_cell hb q3_2
    have b4 := Lib.hid (ext_trans b3.out hb)
    have t4 : w.heap.size ≤ w4.heap.size := b4.out.size
    clear q3_0 q3_1 q3_2
    clear hb
    go_wp2_with fail
    refine (HB.out _).mono ?_
    rintro e w5 ⟨rfl, hb⟩
    have s5 : w4.heap.size ≤ w5.heap.size := (by have := hb.size; (try simp at this); omega)
    have z5_0 : w.heap.size < w5.heap.size := (by omega)
    have q5_0 : w5.cell? ⟨w.heap.size, 0, none⟩ = some (.string d) := ext_cell hb q4_0
    have q5_1 : w5.cell? ⟨w.heap.size, 1, none⟩ = some (.string p) := ext_cell hb q4_1
    have q5_2 : w5.cell? ⟨w.heap.size, 2, none⟩ = some (.int .i64 z) := ext_cell hb q4_2
    have b5 := Lib.hid (ext_trans b4.out hb)
    have t5 : w.heap.size ≤ w5.heap.size := b5.out.size
    clear q4_0 q4_1 q4_2
    clear hb
    go_wp2
    go_ret
    exact ⟨rfl, b5.out⟩
end Go.Proofs.Ytdielldikdmjpaa
