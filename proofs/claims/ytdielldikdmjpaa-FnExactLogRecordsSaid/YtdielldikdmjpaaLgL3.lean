/- The law of LogRecords, walked. -/
import Derived.Test.YtdielldikdmjpaaLgL
import Derived.Test.YtdielldikdmjpaaLgM
namespace Go.Proofs.Ytdielldikdmjpaa
open Go.RowKit
set_option linter.unusedVariables false
set_option linter.unusedSimpArgs false
set_option maxHeartbeats 1000000 in
theorem law_LogRecords (d p : ByteArray) (z : Int) (w : World) (hd : d.size ≤ maxLen) (hp : p.size ≤ maxLen) (hz1 : -9223372036854775808 ≤ z) (hz2 : z ≤ 9223372036854775807) :
    Calls Try.prog 10 #[logV d p z] w fun e w' => e = .returned (.bool true) ∧ Below w.heap.size w w' := by
  unfold maxLen at hd hp
  have HS := Lib.hid (fun w => szLog_any 1048576 d p z w (by omega) (by omega) (by omega) (by omega))
  rcases szRec_cases 1048576 d p with hs | ⟨hs, hpos⟩
  · rw [hs] at HS
    clear hs
    go_enter Try.func10, Try.ntmps10
    go_wp2_with (go_at_call 23; refine (HS.out _).mono ?_; rintro e w' ⟨rfl, hb⟩)
    go_ret
    exact ⟨rfl, (by repeat (first | exact ext_refl _ | assumption | refine ext_alloc ?_ _ | refine ext_drew ?_ | refine ext_drewN ?_ _ | refine ext_set ?_ (by simp <;> omega) _ | refine ext_trans ?_ (by assumption)))⟩
  · rw [hs] at HS
    clear hs
    have HA := Lib.hid (fun w => specRecords_any d p z w (by omega) (by omega))
    have HB := Lib.hid (fun w => implRecords_any d p z w (by omega) (by omega))
    have hlen := lrL_len d p z
    unfold RetSliceB at HA HB
    generalize lrL d p z = L at HA HB hlen
    generalize logB d p z = ok at HA HB
    obtain ⟨N, hN⟩ : ∃ N, L.length = N := ⟨_, rfl⟩
    rw [hN] at HA HB hlen
    clear hN
    go_enter Try.func10, Try.ntmps10
    go_wp2_with fail
    refine (HS.out _).mono ?_
    rintro e w1 ⟨rfl, hb⟩
    have s1 : w.heap.size + 1 ≤ w1.heap.size := (by have := hb.size; (try simp at this); omega)
    have z1_0 : w.heap.size < w1.heap.size := (by omega)
    have q1_0 : w1.cell? ⟨w.heap.size, 0, none⟩ = some (.string d) := ext_cell hb (by simp [go_sem])
    have q1_1 : w1.cell? ⟨w.heap.size, 1, none⟩ = some (.string p) := ext_cell hb (by simp [go_sem])
    have q1_2 : w1.cell? ⟨w.heap.size, 2, none⟩ = some (.int .i64 z) := ext_cell hb (by simp [go_sem])
    have b1 := Lib.hid (ext_trans (ext_alloc (ext_refl w) _) hb)
    have t1 : w.heap.size ≤ w1.heap.size := b1.out.size
    clear hb
    go_wp2_with fail
    refine (toLog_any d p z _).mono ?_
    rintro e w2 ⟨rfl, hb⟩
    have s2 : w1.heap.size ≤ w2.heap.size := (by have := hb.size; (try simp at this); omega)
    have z2_0 : w.heap.size < w2.heap.size := (by omega)
    have q2_0 : w2.cell? ⟨w.heap.size, 0, none⟩ = some (.string d) := ext_cell hb q1_0
    have q2_1 : w2.cell? ⟨w.heap.size, 1, none⟩ = some (.string p) := ext_cell hb q1_1
    have q2_2 : w2.cell? ⟨w.heap.size, 2, none⟩ = some (.int .i64 z) := ext_cell hb q1_2
    have b2 := Lib.hid (ext_trans b1.out hb)
    have t2 : w.heap.size ≤ w2.heap.size := b2.out.size
    clear q1_0 q1_1 q1_2
    clear hb
    go_wp2_with fail
    refine (HA.out _).mono ?_
    rintro e w3 ⟨Aw, cw, rfl, ho_w, hb⟩
    have s3 : w2.heap.size ≤ w3.heap.size := (by have := hb.size; (try simp at this); omega)
    have z3_0 : w.heap.size < w3.heap.size := (by omega)
    have q3_0 : w3.cell? ⟨w.heap.size, 0, none⟩ = some (.string d) := ext_cell hb q2_0
    have q3_1 : w3.cell? ⟨w.heap.size, 1, none⟩ = some (.string p) := ext_cell hb q2_1
    have q3_2 : w3.cell? ⟨w.heap.size, 2, none⟩ = some (.int .i64 z) := ext_cell hb q2_2
    have b3 := Lib.hid (ext_trans b2.out hb)
    have t3 : w.heap.size ≤ w3.heap.size := b3.out.size
    clear q2_0 q2_1 q2_2
    have oc_w := Lib.hid (own_base (base' := w2.heap.size + 0) ho_w (by simp))
    clear ho_w
    clear hb
    go_wp2_with fail
    refine (toLog_any d p z _).mono ?_
    rintro e w4 ⟨rfl, hb⟩
    have s4 : w3.heap.size ≤ w4.heap.size := (by have := hb.size; (try simp at this); omega)
    have z4_0 : w.heap.size < w4.heap.size := (by omega)
    have q4_0 : w4.cell? ⟨w.heap.size, 0, none⟩ = some (.string d) := ext_cell hb q3_0
    have q4_1 : w4.cell? ⟨w.heap.size, 1, none⟩ = some (.string p) := ext_cell hb q3_1
    have q4_2 : w4.cell? ⟨w.heap.size, 2, none⟩ = some (.int .i64 z) := ext_cell hb q3_2
    have b4 := Lib.hid (ext_trans b3.out hb)
    have t4 : w.heap.size ≤ w4.heap.size := b4.out.size
    have o4_w := Lib.hid (own_ext oc_w.out hb)
    clear q3_0 q3_1 q3_2
    clear hb
    go_wp2_with fail
    refine (HB.out _).mono ?_
    rintro e w5 ⟨Ag, cg, rfl, ho_g, hb⟩
    have s5 : w4.heap.size ≤ w5.heap.size := (by have := hb.size; (try simp at this); omega)
    have z5_0 : w.heap.size < w5.heap.size := (by omega)
    have q5_0 : w5.cell? ⟨w.heap.size, 0, none⟩ = some (.string d) := ext_cell hb q4_0
    have q5_1 : w5.cell? ⟨w.heap.size, 1, none⟩ = some (.string p) := ext_cell hb q4_1
    have q5_2 : w5.cell? ⟨w.heap.size, 2, none⟩ = some (.int .i64 z) := ext_cell hb q4_2
    have b5 := Lib.hid (ext_trans b4.out hb)
    have t5 : w.heap.size ≤ w5.heap.size := b5.out.size
    have o5_w := Lib.hid (own_ext o4_w.out hb)
    clear q4_0 q4_1 q4_2
    have oc_g := Lib.hid (own_base (base' := w4.heap.size + 0) ho_g (by simp))
    clear ho_g
    clear hb
    go_wp2_with fail
    refine (eqRecS_any Ag Aw N N cg cw L L _ (by omega) rfl (Reads.of_own oc_g.out) (Reads.of_own o5_w.out)).mono ?_
    rintro e w6 ⟨rfl, hb⟩
    have s6 : w5.heap.size ≤ w6.heap.size := (by have := hb.size; (try simp at this); omega)
    have z6_0 : w.heap.size < w6.heap.size := (by omega)
    have q6_0 : w6.cell? ⟨w.heap.size, 0, none⟩ = some (.string d) := ext_cell hb q5_0
    have q6_1 : w6.cell? ⟨w.heap.size, 1, none⟩ = some (.string p) := ext_cell hb q5_1
    have q6_2 : w6.cell? ⟨w.heap.size, 2, none⟩ = some (.int .i64 z) := ext_cell hb q5_2
    have b6 := Lib.hid (ext_trans b5.out hb)
    have t6 : w.heap.size ≤ w6.heap.size := b6.out.size
    have o6_w := Lib.hid (own_ext o5_w.out hb)
    have o6_g := Lib.hid (own_ext oc_g.out hb)
    clear q5_0 q5_1 q5_2
    clear hb
    go_wp2_with fail
    refine (markRecS_any Ag N cg _ _ 1 1 _ rfl (by omega) (by omega) (by omega) o6_g.out).mono ?_
    rintro e w7 ⟨rfl, ho, hg⟩
    have s7 : w6.heap.size ≤ w7.heap.size := (by have := hg.size; (try simp at this); omega)
    have z7_0 : w.heap.size < w7.heap.size := (by omega)
    have q7_0 : w7.cell? ⟨w.heap.size, 0, none⟩ = some (.string d) := cell_far_grown hg (own_far_lt oc_g.out (by omega)) q6_0
    have q7_1 : w7.cell? ⟨w.heap.size, 1, none⟩ = some (.string p) := cell_far_grown hg (own_far_lt oc_g.out (by omega)) q6_1
    have q7_2 : w7.cell? ⟨w.heap.size, 2, none⟩ = some (.int .i64 z) := cell_far_grown hg (own_far_lt oc_g.out (by omega)) q6_2
    have b7 := Lib.hid (below_grown' o6_g.out (by omega) b6.out hg)
    have t7 : w.heap.size ≤ w7.heap.size := b7.out.size
    have o7_w := Lib.hid (o6_w.out.kept hg (own_ne' oc_w.out oc_g.out (by omega)))
    clear q6_0 q6_1 q6_2
    have o7_g := Lib.hid ho
    clear ho hg
    go_wp2_with fail
    refine (heldRecS_any Ag N cg 1 1 _ rfl (by omega) (by omega) (by omega) (Reads.of_own o7_g.out)).mono ?_
    rintro e w8 ⟨rfl, hb⟩
    have s8 : w7.heap.size ≤ w8.heap.size := (by have := hb.size; (try simp at this); omega)
    have z8_0 : w.heap.size < w8.heap.size := (by omega)
    have q8_0 : w8.cell? ⟨w.heap.size, 0, none⟩ = some (.string d) := ext_cell hb q7_0
    have q8_1 : w8.cell? ⟨w.heap.size, 1, none⟩ = some (.string p) := ext_cell hb q7_1
    have q8_2 : w8.cell? ⟨w.heap.size, 2, none⟩ = some (.int .i64 z) := ext_cell hb q7_2
    have b8 := Lib.hid (ext_trans b7.out hb)
    have t8 : w.heap.size ≤ w8.heap.size := b8.out.size
    have o8_w := Lib.hid (own_ext o7_w.out hb)
    have o8_g := Lib.hid (own_ext o7_g.out hb)
    clear q7_0 q7_1 q7_2
    clear hb
    go_wp2_with fail
    refine (toLog_any d p z _).mono ?_
    rintro e w9 ⟨rfl, hb⟩
    have s9 : w8.heap.size ≤ w9.heap.size := (by have := hb.size; (try simp at this); omega)
    have z9_0 : w.heap.size < w9.heap.size := (by omega)
    have q9_0 : w9.cell? ⟨w.heap.size, 0, none⟩ = some (.string d) := ext_cell hb q8_0
    have q9_1 : w9.cell? ⟨w.heap.size, 1, none⟩ = some (.string p) := ext_cell hb q8_1
    have q9_2 : w9.cell? ⟨w.heap.size, 2, none⟩ = some (.int .i64 z) := ext_cell hb q8_2
    have b9 := Lib.hid (ext_trans b8.out hb)
    have t9 : w.heap.size ≤ w9.heap.size := b9.out.size
    have o9_w := Lib.hid (own_ext o8_w.out hb)
    have o9_g := Lib.hid (own_ext o8_g.out hb)
    clear q8_0 q8_1 q8_2
    clear hb
    go_wp2_with fail
    refine (HB.out _).mono ?_
    rintro e w10 ⟨Ah, ch, rfl, ho_h, hb⟩
    have s10 : w9.heap.size ≤ w10.heap.size := (by have := hb.size; (try simp at this); omega)
    have z10_0 : w.heap.size < w10.heap.size := (by omega)
    have q10_0 : w10.cell? ⟨w.heap.size, 0, none⟩ = some (.string d) := ext_cell hb q9_0
    have q10_1 : w10.cell? ⟨w.heap.size, 1, none⟩ = some (.string p) := ext_cell hb q9_1
    have q10_2 : w10.cell? ⟨w.heap.size, 2, none⟩ = some (.int .i64 z) := ext_cell hb q9_2
    have b10 := Lib.hid (ext_trans b9.out hb)
    have t10 : w.heap.size ≤ w10.heap.size := b10.out.size
    have o10_w := Lib.hid (own_ext o9_w.out hb)
    have o10_g := Lib.hid (own_ext o9_g.out hb)
    clear q9_0 q9_1 q9_2
    have oc_h := Lib.hid (own_base (base' := w9.heap.size + 0) ho_h (by simp))
    clear ho_h
    clear hb
    go_wp2_with fail
    refine (eqRecS_any Ah Aw N N ch cw L L _ (by omega) rfl (Reads.of_own oc_h.out) (Reads.of_own o10_w.out)).mono ?_
    rintro e w11 ⟨rfl, hb⟩
    have s11 : w10.heap.size ≤ w11.heap.size := (by have := hb.size; (try simp at this); omega)
    have z11_0 : w.heap.size < w11.heap.size := (by omega)
    have q11_0 : w11.cell? ⟨w.heap.size, 0, none⟩ = some (.string d) := ext_cell hb q10_0
    have q11_1 : w11.cell? ⟨w.heap.size, 1, none⟩ = some (.string p) := ext_cell hb q10_1
    have q11_2 : w11.cell? ⟨w.heap.size, 2, none⟩ = some (.int .i64 z) := ext_cell hb q10_2
    have b11 := Lib.hid (ext_trans b10.out hb)
    have t11 : w.heap.size ≤ w11.heap.size := b11.out.size
    have o11_w := Lib.hid (own_ext o10_w.out hb)
    have o11_g := Lib.hid (own_ext o10_g.out hb)
    have o11_h := Lib.hid (own_ext oc_h.out hb)
    clear q10_0 q10_1 q10_2
    clear hb
    go_wp2_with fail
    refine (heldRecS_any Ag N cg 1 1 _ rfl (by omega) (by omega) (by omega) (Reads.of_own o11_g.out)).mono ?_
    rintro e w12 ⟨rfl, hb⟩
    have s12 : w11.heap.size ≤ w12.heap.size := (by have := hb.size; (try simp at this); omega)
    have z12_0 : w.heap.size < w12.heap.size := (by omega)
    have q12_0 : w12.cell? ⟨w.heap.size, 0, none⟩ = some (.string d) := ext_cell hb q11_0
    have q12_1 : w12.cell? ⟨w.heap.size, 1, none⟩ = some (.string p) := ext_cell hb q11_1
    have q12_2 : w12.cell? ⟨w.heap.size, 2, none⟩ = some (.int .i64 z) := ext_cell hb q11_2
    have b12 := Lib.hid (ext_trans b11.out hb)
    have t12 : w.heap.size ≤ w12.heap.size := b12.out.size
    have o12_w := Lib.hid (own_ext o11_w.out hb)
    have o12_g := Lib.hid (own_ext o11_g.out hb)
    have o12_h := Lib.hid (own_ext o11_h.out hb)
    clear q11_0 q11_1 q11_2
    clear hb
    go_wp2
    go_ret
    exact ⟨rfl, b12.out⟩
end Go.Proofs.Ytdielldikdmjpaa
