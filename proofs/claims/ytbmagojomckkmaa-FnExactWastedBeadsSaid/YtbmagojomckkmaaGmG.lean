
/- The law of WastedBeads, walked. -/
import Derived.Test.YtbmagojomckkmaaFrTx
import Derived.Test.YtbmagojomckkmaaGmF
namespace Go.Proofs.Ytbmagojomckkmaa
open Go.RowKit
set_option linter.unusedVariables false
set_option linter.unusedSimpArgs false
set_option maxRecDepth 100000 in
set_option maxHeartbeats 4000000 in
theorem law_WastedBeads (u lo : Int) (A : Option Addr) (n c : Nat) (l : List R2) (B : Option Addr) (k cb : Nat) (ms : List R3) (w : World) (hn : n ≤ maxLen) (hk : k ≤ maxLen) (h : Reads w w.heap.size 2 A n (rowsV2 l)) (hm : Reads w w.heap.size 3 B k (rowsV3 ms)) :
    Calls Try.prog 8 #[frV u lo A n c, .slice B k cb] w fun e w' => e = .returned (.bool true) ∧ Below w.heap.size w w' := by
  unfold maxLen at hn hk
  have HS := Lib.hid (fun w => szFrame_any u lo A n c 1048576 w hn (by omega) (by omega))
  have H := Lib.hid h
  have HM := Lib.hid hm
  clear h hm
  by_cases hbig : (1048576 : Int) < n
  · rw [szv_no hbig] at HS
    go_enter Try.func8, Try.ntmps8
    go_wp2_with (go_at_call 15; refine (HS.out _).mono ?_; rintro e w' ⟨rfl, hb⟩)
    go_ret
    exact ⟨rfl, (by repeat (first | exact ext_refl _ | assumption | refine ext_alloc ?_ _ | refine ext_drew ?_ | refine ext_drewN ?_ _ | refine ext_set ?_ (by simp <;> omega) _ | refine ext_trans ?_ (by assumption)))⟩
  rw [szv_yes hbig] at HS
  have hneg : ¬ (1048576 : Int) - n < 0 := by omega
  have hn : n ≤ 1048576 := by omega
  have HT := Lib.hid (fun w => szBeadMoveS_any B k cb (1048576 - n) w hk (by omega) (by omega))
  by_cases hbig2 : (1048576 : Int) - n < k
  · rw [szv_no hbig2] at HT
    go_enter Try.func8, Try.ntmps8
    go_wp2_with (first | (go_at_call 15; refine (HS.out _).mono ?_; rintro e w' ⟨rfl, hb⟩) | (go_at_call 35; refine (HT.out _).mono ?_; rintro e w' ⟨rfl, rfl⟩))
    go_ret
    exact ⟨rfl, (by repeat (first | exact ext_refl _ | assumption | refine ext_alloc ?_ _ | refine ext_drew ?_ | refine ext_drewN ?_ _ | refine ext_set ?_ (by simp <;> omega) _ | refine ext_trans ?_ (by assumption)))⟩
  rw [szv_yes hbig2] at HT
  have hneg2 : ¬ (1048576 : Int) - n - k < 0 := by omega
  have hk : k ≤ 1048576 := by omega
  have HA := Lib.hid (fun (w : World) (A : Option Addr) (c : Nat) (B : Option Addr) (cb : Nat) h hm => specWastedBeads_any u lo A n c l B k cb ms w hn hk h hm)
  have HB := Lib.hid (fun (w : World) (A : Option Addr) (c : Nat) (B : Option Addr) (cb : Nat) h hm => implWastedBeads_any u lo A n c l B k cb ms w hn hk h hm)
  obtain ⟨V, hV⟩ : ∃ V, wasteV u lo l ms = V := ⟨_, rfl⟩
  obtain ⟨ok, hok⟩ : ∃ ok, wasteOk u lo l ms = ok := ⟨_, rfl⟩
  rw [hV, hok] at HA HB
  clear hV hok
  go_enter Try.func8, Try.ntmps8
  go_wp2_with fail
  refine (HS.out _).mono ?_
  rintro e w1 ⟨rfl, hb⟩
  have s1 : w.heap.size + 1 ≤ w1.heap.size := (by have := hb.size; (try simp at this); omega)
  have z1_0 : w.heap.size < w1.heap.size := (by omega)
  have q1_0 : w1.cell? ⟨w.heap.size, 0, none⟩ = some (.int .i64 u) := ext_cell hb (by simp [go_sem])
  have q1_1 : w1.cell? ⟨w.heap.size, 1, none⟩ = some (.int .i64 lo) := ext_cell hb (by simp [go_sem])
  have q1_2 : w1.cell? ⟨w.heap.size, 2, none⟩ = some (.slice A n c) := ext_cell hb (by simp [go_sem])
  have b1 := Lib.hid (ext_trans (ext_alloc (ext_refl w) _) hb)
  have t1 : w.heap.size ≤ w1.heap.size := b1.out.size
  clear hb
  go_wp2_with fail
  refine (HT.out _).mono ?_
  rintro e wz ⟨rfl, rfl⟩
  go_wp2_with fail
  refine (toFrame_any u lo A n c l _ hn ((H.out.ext b1.out (Nat.le_refl _)).more (by first | omega | (simp <;> omega)))).mono ?_
  rintro e w2 ⟨Av, cv, rfl, ho_v, hb⟩
  have s2 : w1.heap.size ≤ w2.heap.size := (by have := hb.size; (try simp at this); omega)
  have z2_0 : w.heap.size < w2.heap.size := (by omega)
  have q2_0 : w2.cell? ⟨w.heap.size, 0, none⟩ = some (.int .i64 u) := ext_cell hb q1_0
  have q2_1 : w2.cell? ⟨w.heap.size, 1, none⟩ = some (.int .i64 lo) := ext_cell hb q1_1
  have q2_2 : w2.cell? ⟨w.heap.size, 2, none⟩ = some (.slice A n c) := ext_cell hb q1_2
  have b2 := Lib.hid (ext_trans b1.out hb)
  have t2 : w.heap.size ≤ w2.heap.size := b2.out.size
  clear q1_0 q1_1 q1_2
  have oc_v := Lib.hid (own_base (base' := w1.heap.size + 0) ho_v (by simp))
  clear ho_v
  clear hb
  go_wp2_with fail
  refine (toBeadMoveS_any B k cb ms _ hk ((HM.out.ext b2.out (Nat.le_refl _)).more (by first | omega | (simp <;> omega)))).mono ?_
  rintro e w3 ⟨Ap, cp, rfl, ho_p, hb⟩
  have s3 : w2.heap.size ≤ w3.heap.size := (by have := hb.size; (try simp at this); omega)
  have z3_0 : w.heap.size < w3.heap.size := (by omega)
  have q3_0 : w3.cell? ⟨w.heap.size, 0, none⟩ = some (.int .i64 u) := ext_cell hb q2_0
  have q3_1 : w3.cell? ⟨w.heap.size, 1, none⟩ = some (.int .i64 lo) := ext_cell hb q2_1
  have q3_2 : w3.cell? ⟨w.heap.size, 2, none⟩ = some (.slice A n c) := ext_cell hb q2_2
  have b3 := Lib.hid (ext_trans b2.out hb)
  have t3 : w.heap.size ≤ w3.heap.size := b3.out.size
  have o3_v := Lib.hid (own_ext oc_v.out hb)
  clear q2_0 q2_1 q2_2
  have oc_p := Lib.hid (own_base (base' := w2.heap.size + 0) ho_p (by simp))
  clear ho_p
  clear hb
  go_wp2_with fail
  refine (HA.out _ Av cv Ap cp (Reads.of_own o3_v.out) (Reads.of_own oc_p.out)).mono ?_
  rintro e w4 ⟨rfl, hb⟩
  have s4 : w3.heap.size ≤ w4.heap.size := (by have := hb.size; (try simp at this); omega)
  have z4_0 : w.heap.size < w4.heap.size := (by omega)
  have q4_0 : w4.cell? ⟨w.heap.size, 0, none⟩ = some (.int .i64 u) := ext_cell hb q3_0
  have q4_1 : w4.cell? ⟨w.heap.size, 1, none⟩ = some (.int .i64 lo) := ext_cell hb q3_1
  have q4_2 : w4.cell? ⟨w.heap.size, 2, none⟩ = some (.slice A n c) := ext_cell hb q3_2
  have b4 := Lib.hid (ext_trans b3.out hb)
  have t4 : w.heap.size ≤ w4.heap.size := b4.out.size
  have o4_v := Lib.hid (own_ext o3_v.out hb)
  have o4_p := Lib.hid (own_ext oc_p.out hb)
  clear q3_0 q3_1 q3_2
  clear hb
  go_wp2_with fail
  refine (toFrame_any u lo A n c l _ hn ((H.out.ext b4.out (Nat.le_refl _)).more (by first | omega | (simp <;> omega)))).mono ?_
  rintro e w5 ⟨Ax, cx, rfl, ho_x, hb⟩
  have s5 : w4.heap.size ≤ w5.heap.size := (by have := hb.size; (try simp at this); omega)
  have z5_0 : w.heap.size < w5.heap.size := (by omega)
  have q5_0 : w5.cell? ⟨w.heap.size, 0, none⟩ = some (.int .i64 u) := ext_cell hb q4_0
  have q5_1 : w5.cell? ⟨w.heap.size, 1, none⟩ = some (.int .i64 lo) := ext_cell hb q4_1
  have q5_2 : w5.cell? ⟨w.heap.size, 2, none⟩ = some (.slice A n c) := ext_cell hb q4_2
  have b5 := Lib.hid (ext_trans b4.out hb)
  have t5 : w.heap.size ≤ w5.heap.size := b5.out.size
  clear q4_0 q4_1 q4_2
  have oc_x := Lib.hid (own_base (base' := w4.heap.size + 0) ho_x (by simp))
  clear ho_x
  clear hb
  go_wp2_with fail
  refine (toBeadMoveS_any B k cb ms _ hk ((HM.out.ext (ext_alloc b5.out _) (Nat.le_refl _)).more (by first | omega | (simp <;> omega)))).mono ?_
  rintro e w6 ⟨Ay, cy, rfl, ho_y, hb⟩
  have s6 : w5.heap.size + 1 ≤ w6.heap.size := (by have := hb.size; (try simp at this); omega)
  have z6_0 : w.heap.size < w6.heap.size := (by omega)
  have z6_1 : w5.heap.size < w6.heap.size := (by omega)
  have q6_0 : w6.cell? ⟨w.heap.size, 0, none⟩ = some (.int .i64 u) := ext_cell hb (cell_old q5_0 _)
  have q6_1 : w6.cell? ⟨w.heap.size, 1, none⟩ = some (.int .i64 lo) := ext_cell hb (cell_old q5_1 _)
  have q6_2 : w6.cell? ⟨w.heap.size, 2, none⟩ = some (.slice A n c) := ext_cell hb (cell_old q5_2 _)
  have q6_3 : w6.cell? ⟨w5.heap.size, 0, none⟩ = some (.int .i64 u) := ext_cell hb (by simp [go_sem])
  have q6_4 : w6.cell? ⟨w5.heap.size, 1, none⟩ = some (.int .i64 lo) := ext_cell hb (by simp [go_sem])
  have q6_5 : w6.cell? ⟨w5.heap.size, 2, none⟩ = some (.slice Ax n cx) := ext_cell hb (by simp [go_sem])
  have b6 := Lib.hid (ext_trans (ext_alloc b5.out _) hb)
  have t6 : w.heap.size ≤ w6.heap.size := b6.out.size
  have o6_x := Lib.hid (own_ext (oc_x.out.alloc _) hb)
  clear q5_0 q5_1 q5_2
  have oc_y := Lib.hid (own_base (base' := w5.heap.size + 1) ho_y (by simp))
  clear ho_y
  clear hb
  go_wp2_with fail
  refine (HB.out _ Ax cx Ay cy (Reads.of_own o6_x.out) (Reads.of_own oc_y.out)).mono ?_
  rintro e w7 ⟨rfl, hb⟩
  have s7 : w6.heap.size ≤ w7.heap.size := (by have := hb.size; (try simp at this); omega)
  have z7_0 : w.heap.size < w7.heap.size := (by omega)
  have z7_1 : w5.heap.size < w7.heap.size := (by omega)
  have q7_0 : w7.cell? ⟨w.heap.size, 0, none⟩ = some (.int .i64 u) := ext_cell hb q6_0
  have q7_1 : w7.cell? ⟨w.heap.size, 1, none⟩ = some (.int .i64 lo) := ext_cell hb q6_1
  have q7_2 : w7.cell? ⟨w.heap.size, 2, none⟩ = some (.slice A n c) := ext_cell hb q6_2
  have q7_3 : w7.cell? ⟨w5.heap.size, 0, none⟩ = some (.int .i64 u) := ext_cell hb q6_3
  have q7_4 : w7.cell? ⟨w5.heap.size, 1, none⟩ = some (.int .i64 lo) := ext_cell hb q6_4
  have q7_5 : w7.cell? ⟨w5.heap.size, 2, none⟩ = some (.slice Ax n cx) := ext_cell hb q6_5
  have b7 := Lib.hid (ext_trans b6.out hb)
  have t7 : w.heap.size ≤ w7.heap.size := b7.out.size
  have o7_x := Lib.hid (own_ext o6_x.out hb)
  have o7_y := Lib.hid (own_ext oc_y.out hb)
  clear q6_0 q6_1 q6_2 q6_3 q6_4 q6_5
  clear hb
  go_upto_region 14 with fail
  go_cut [52] (fun s52 wx => s52 = .bool false ∧ Below w7.heap.size w7 wx)
  case first =>
    go_region_held3 (fun w' => w'.cell? ⟨w.heap.size, 0, none⟩ = some (.int .i64 u) ∧ w'.cell? ⟨w.heap.size, 1, none⟩ = some (.int .i64 lo) ∧ w'.cell? ⟨w.heap.size, 2, none⟩ = some (.slice A n c) ∧ w'.cell? ⟨w5.heap.size, 0, none⟩ = some (.int .i64 u) ∧ w'.cell? ⟨w5.heap.size, 1, none⟩ = some (.int .i64 lo) ∧ w'.cell? ⟨w5.heap.size, 2, none⟩ = some (.slice Ax n cx)) (first | (go_split_ands; ((repeat' refine And.intro ?_ ?_) <;> with_reducible (repeat (first | assumption | refine cell_drew ?_ | refine cell_old ?_ _))))) (first | (go_at_call 17; refine (toFrame_any u lo A n c l _ hn ((H.out.ext (ext_drew b7.out) (Nat.le_refl _)).more (by first | omega | (simp; omega) | (simp <;> omega)))).mono ?_; rintro e w' ⟨Ay, cy, rfl, hoy, hb⟩; have hoy := Lib.hid hoy; have hbY := Lib.hid hb; obtain ⟨hc, hf⟩ := bcell hb; have k0 : w'.cell? ⟨w.heap.size, 0, none⟩ = some (.int .i64 u) := ext_cell hb (by with_reducible (repeat (first | assumption | refine cell_drew ?_))); have k1 : w'.cell? ⟨w.heap.size, 1, none⟩ = some (.int .i64 lo) := ext_cell hb (by with_reducible (repeat (first | assumption | refine cell_drew ?_))); have k2 : w'.cell? ⟨w.heap.size, 2, none⟩ = some (.slice A n c) := ext_cell hb (by with_reducible (repeat (first | assumption | refine cell_drew ?_))); have k3 : w'.cell? ⟨w5.heap.size, 0, none⟩ = some (.int .i64 u) := ext_cell hb (by with_reducible (repeat (first | assumption | refine cell_drew ?_))); have k4 : w'.cell? ⟨w5.heap.size, 1, none⟩ = some (.int .i64 lo) := ext_cell hb (by with_reducible (repeat (first | assumption | refine cell_drew ?_))); have k5 : w'.cell? ⟨w5.heap.size, 2, none⟩ = some (.slice Ax n cx) := ext_cell hb (by with_reducible (repeat (first | assumption | refine cell_drew ?_)))) | (go_at_call 20; refine (eqFrame_same u lo Ax Ay n cx cy l _ hn (Reads.of_own (own_ext (World.ownsRow.drew o7_x.out) hbY.out)) (Reads.of_own hoy.out)).mono ?_; rintro e w' ⟨rfl, hb⟩; have hbZ := Lib.hid hb; obtain ⟨hc, hf⟩ := bcell hb; have k0 : w'.cell? ⟨w.heap.size, 0, none⟩ = some (.int .i64 u) := ext_cell hb (by with_reducible (repeat (first | assumption | refine cell_drew ?_))); have k1 : w'.cell? ⟨w.heap.size, 1, none⟩ = some (.int .i64 lo) := ext_cell hb (by with_reducible (repeat (first | assumption | refine cell_drew ?_))); have k2 : w'.cell? ⟨w.heap.size, 2, none⟩ = some (.slice A n c) := ext_cell hb (by with_reducible (repeat (first | assumption | refine cell_drew ?_))); have k3 : w'.cell? ⟨w5.heap.size, 0, none⟩ = some (.int .i64 u) := ext_cell hb (by with_reducible (repeat (first | assumption | refine cell_drew ?_))); have k4 : w'.cell? ⟨w5.heap.size, 1, none⟩ = some (.int .i64 lo) := ext_cell hb (by with_reducible (repeat (first | assumption | refine cell_drew ?_))); have k5 : w'.cell? ⟨w5.heap.size, 2, none⟩ = some (.slice Ax n cx) := ext_cell hb (by with_reducible (repeat (first | assumption | refine cell_drew ?_)))))
    all_goals (go_wp2_with fail; go_meet; exact ⟨rfl, ext_trans (ext_trans (ext_drew (ext_refl _)) hbY.out) hbZ.out⟩)
  case rest =>
    obtain ⟨rfl, hb⟩ := hcut
    obtain ⟨w8, hw8⟩ : ∃ x : World, x = wc := ⟨_, rfl⟩
    subst hw8
    have s8 : w7.heap.size ≤ w8.heap.size := (by have := hb.size; (try simp at this); omega)
    have z8_0 : w.heap.size < w8.heap.size := (by omega)
    have z8_1 : w5.heap.size < w8.heap.size := (by omega)
    have q8_0 : w8.cell? ⟨w.heap.size, 0, none⟩ = some (.int .i64 u) := ext_cell hb q7_0
    have q8_1 : w8.cell? ⟨w.heap.size, 1, none⟩ = some (.int .i64 lo) := ext_cell hb q7_1
    have q8_2 : w8.cell? ⟨w.heap.size, 2, none⟩ = some (.slice A n c) := ext_cell hb q7_2
    have q8_3 : w8.cell? ⟨w5.heap.size, 0, none⟩ = some (.int .i64 u) := ext_cell hb q7_3
    have q8_4 : w8.cell? ⟨w5.heap.size, 1, none⟩ = some (.int .i64 lo) := ext_cell hb q7_4
    have q8_5 : w8.cell? ⟨w5.heap.size, 2, none⟩ = some (.slice Ax n cx) := ext_cell hb q7_5
    have b8 := Lib.hid (ext_trans b7.out hb)
    have t8 : w.heap.size ≤ w8.heap.size := b8.out.size
    have o8_x := Lib.hid (own_ext o7_x.out hb)
    have o8_y := Lib.hid (own_ext o7_y.out hb)
    clear q7_0 q7_1 q7_2 q7_3 q7_4 q7_5
    clear hb
    go_wp2_with fail
    refine (toBeadMoveS_any B k cb ms _ hk ((HM.out.ext b8.out (Nat.le_refl _)).more (by first | omega | (simp <;> omega)))).mono ?_
    rintro e w9 ⟨Az, cz, rfl, ho_z, hb⟩
    have s9 : w8.heap.size ≤ w9.heap.size := (by have := hb.size; (try simp at this); omega)
    have z9_0 : w.heap.size < w9.heap.size := (by omega)
    have z9_1 : w5.heap.size < w9.heap.size := (by omega)
    have q9_0 : w9.cell? ⟨w.heap.size, 0, none⟩ = some (.int .i64 u) := ext_cell hb q8_0
    have q9_1 : w9.cell? ⟨w.heap.size, 1, none⟩ = some (.int .i64 lo) := ext_cell hb q8_1
    have q9_2 : w9.cell? ⟨w.heap.size, 2, none⟩ = some (.slice A n c) := ext_cell hb q8_2
    have q9_3 : w9.cell? ⟨w5.heap.size, 0, none⟩ = some (.int .i64 u) := ext_cell hb q8_3
    have q9_4 : w9.cell? ⟨w5.heap.size, 1, none⟩ = some (.int .i64 lo) := ext_cell hb q8_4
    have q9_5 : w9.cell? ⟨w5.heap.size, 2, none⟩ = some (.slice Ax n cx) := ext_cell hb q8_5
    have b9 := Lib.hid (ext_trans b8.out hb)
    have t9 : w.heap.size ≤ w9.heap.size := b9.out.size
    have o9_x := Lib.hid (own_ext o8_x.out hb)
    have o9_y := Lib.hid (own_ext o8_y.out hb)
    clear q8_0 q8_1 q8_2 q8_3 q8_4 q8_5
    have oc_z := Lib.hid (own_base (base' := w8.heap.size + 0) ho_z (by simp))
    clear ho_z
    clear hb
    have heq := Lib.hid (fun (w : World) h h' => eqBeadMoveS_any Ay Az k k cy cz ms ms w (by omega) (by omega) h h')
    rw [decide_eq_true rfl] at heq
    go_wp2_with fail
    refine (heq.out _ (Reads.of_own o9_y.out) (Reads.of_own oc_z.out)).mono ?_
    rintro e w10 ⟨rfl, hb⟩
    have s10 : w9.heap.size ≤ w10.heap.size := (by have := hb.size; (try simp at this); omega)
    have z10_0 : w.heap.size < w10.heap.size := (by omega)
    have z10_1 : w5.heap.size < w10.heap.size := (by omega)
    have q10_0 : w10.cell? ⟨w.heap.size, 0, none⟩ = some (.int .i64 u) := ext_cell hb q9_0
    have q10_1 : w10.cell? ⟨w.heap.size, 1, none⟩ = some (.int .i64 lo) := ext_cell hb q9_1
    have q10_2 : w10.cell? ⟨w.heap.size, 2, none⟩ = some (.slice A n c) := ext_cell hb q9_2
    have q10_3 : w10.cell? ⟨w5.heap.size, 0, none⟩ = some (.int .i64 u) := ext_cell hb q9_3
    have q10_4 : w10.cell? ⟨w5.heap.size, 1, none⟩ = some (.int .i64 lo) := ext_cell hb q9_4
    have q10_5 : w10.cell? ⟨w5.heap.size, 2, none⟩ = some (.slice Ax n cx) := ext_cell hb q9_5
    have b10 := Lib.hid (ext_trans b9.out hb)
    have t10 : w.heap.size ≤ w10.heap.size := b10.out.size
    have o10_x := Lib.hid (own_ext o9_x.out hb)
    have o10_y := Lib.hid (own_ext o9_y.out hb)
    have o10_z := Lib.hid (own_ext oc_z.out hb)
    clear q9_0 q9_1 q9_2 q9_3 q9_4 q9_5
    clear hb
    clear heq
    go_wp2
    go_ret
    exact ⟨rfl, b10.out⟩
end Go.Proofs.Ytbmagojomckkmaa
