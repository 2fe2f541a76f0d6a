
/- The law of RunSchool, walked. -/
import Derived.Test.YtclihlihaigddaaRunI
import Derived.Test.YtclihlihaigddaaRunS
import Derived.Test.YtclihlihaigddaaSchL
import Derived.Test.YtclihlihaigddaaSsL
namespace Go.Proofs.Ytclihlihaigddaa
open Go.RowKit
set_option linter.unusedVariables false
set_option linter.unusedSimpArgs false
theorem retRun (q0 : Sch4) (xs : List R3) (w : World) (e : Ending) (w' : World) (h : ∃ o, runB q0 xs = o ∧ RetRun (rD o) (rP o) (rQ o) (rM o) (rL o).length (rL o) o.isSome w e w') :
    RetRun (rD (runB q0 xs)) (rP (runB q0 xs)) (rQ (runB q0 xs)) (rM (runB q0 xs)) (rL (runB q0 xs)).length (rL (runB q0 xs)) (runB q0 xs).isSome w e w' := by
  obtain ⟨o, rfl, h⟩ := h
  exact h
set_option maxRecDepth 100000 in
set_option maxHeartbeats 8000000 in
theorem law_RunSchool (day pa le : Int) (A : Option Addr) (n c : Nat) (l : List R5) (B : Option Addr) (m cb : Nat) (xs : List R3) (w : World) (hn : n ≤ maxLen) (hm : m ≤ maxLen) (h : Reads w w.heap.size 5 A n (rowsV l)) (hx : Reads w w.heap.size 3 B m (rowsV3 xs)) (hv : ∀ x ∈ xs, x.c ≤ 9223372036854775807) :
    Calls Try.prog 12 #[schV day A n c pa le, .slice B m cb] w fun e w' => e = .returned (.bool true) ∧ Below w.heap.size w w' := by
  unfold maxLen at hn hm
  have HS := Lib.hid (fun w => szSchool_any day pa le A n c 1048576 w hn (by omega) (by omega))
  have H := Lib.hid h
  have HX := Lib.hid hx
  clear h hx
  by_cases hbig : (1048576 : Int) < n
  · rw [szv_no hbig] at HS
    go_enter Try.func12, Try.ntmps12
    go_wp2_with (go_at_call 43; refine (HS.out _).mono ?_; rintro e w' ⟨rfl, hb⟩)
    go_ret
    exact ⟨rfl, (by repeat (first | exact ext_refl _ | assumption | refine ext_alloc ?_ _ | refine ext_drew ?_ | refine ext_drewN ?_ _ | refine ext_set ?_ (by simp <;> omega) _ | refine ext_trans ?_ (by assumption)))⟩
  rw [szv_yes hbig] at HS
  have hneg : ¬ (1048576 : Int) - n < 0 := by omega
  have hn : n ≤ 1048576 := by omega
  have HT := Lib.hid (fun w => szSchoolStepS_any B m cb (1048576 - (n : Int)) w hm (by omega) (by omega))
  by_cases hbig2 : (1048576 : Int) - n < m
  · rw [szv_no hbig2] at HT
    go_enter Try.func12, Try.ntmps12
    go_wp2_with fail
    refine (HS.out _).mono ?_
    rintro e w1 ⟨rfl, hb⟩
    go_wp2_with fail
    refine (HT.out _).mono ?_
    rintro e w2 ⟨rfl, rfl⟩
    go_wp2
    go_ret
    exact ⟨rfl, (by repeat (first | exact ext_refl _ | assumption | refine ext_alloc ?_ _ | refine ext_drew ?_ | refine ext_drewN ?_ _ | refine ext_set ?_ (by simp <;> omega) _ | refine ext_trans ?_ (by assumption)))⟩
  rw [szv_yes hbig2] at HT
  have hneg2 : ¬ (1048576 : Int) - n - m < 0 := by omega
  have hm : m ≤ 1048576 := by omega
  have hN := rL_len (day, l, pa, le) xs
  have HA := Lib.hid (fun (w : World) (A : Option Addr) (c : Nat) (B : Option Addr) (cb : Nat) (hA : SlOk A n c) h hx => (specRun_any day pa le A n c l B m cb xs w hn hm hA h hx).mono (retRun _ _ w))
  have HB := Lib.hid (fun (w : World) (A : Option Addr) (c : Nat) (B : Option Addr) (cb : Nat) (hA : SlOk A n c) h hx => (implRun_any day pa le A n c l B m cb xs w hn hm hA h hx hv).mono (retRun _ _ w))
  obtain ⟨O, hO⟩ : ∃ O, runB (day, l, pa, le) xs = O := ⟨_, rfl⟩
  rw [hO] at HA HB hN
  obtain ⟨D, hD⟩ : ∃ D, rD O = D := ⟨_, rfl⟩
  obtain ⟨P, hP⟩ : ∃ P, rP O = P := ⟨_, rfl⟩
  obtain ⟨Q, hQ⟩ : ∃ Q, rQ O = Q := ⟨_, rfl⟩
  obtain ⟨M, hM⟩ : ∃ M, rM O = M := ⟨_, rfl⟩
  obtain ⟨ok, hok⟩ : ∃ ok, O.isSome = ok := ⟨_, rfl⟩
  rw [hD, hP, hQ, hM, hok] at HA HB
  obtain ⟨L, hL⟩ : ∃ L, rL O = L := ⟨_, rfl⟩
  rw [hL] at HA HB hN
  obtain ⟨N, hNL⟩ : ∃ N, L.length = N := ⟨_, rfl⟩
  rw [hNL] at HA HB hN
  clear hO hD hP hQ hM hok hL hNL hv
  go_enter Try.func12, Try.ntmps12
  go_wp2_with fail
  refine (HS.out _).mono ?_
  rintro e w1 ⟨rfl, hb⟩
  have s1 : w.heap.size + 1 ≤ w1.heap.size := (by have := hb.size; (try simp at this); omega)
  have z1_0 : w.heap.size < w1.heap.size := (by omega)
  have q1_0 : w1.cell? ⟨w.heap.size, 0, none⟩ = some (.int .i64 day) := ext_cell hb (by simp [go_sem])
  have q1_1 : w1.cell? ⟨w.heap.size, 1, none⟩ = some (.slice A n c) := ext_cell hb (by simp [go_sem])
  have q1_2 : w1.cell? ⟨w.heap.size, 2, none⟩ = some (.int .i64 pa) := ext_cell hb (by simp [go_sem])
  have q1_3 : w1.cell? ⟨w.heap.size, 3, none⟩ = some (.int .i64 le) := ext_cell hb (by simp [go_sem])
  have b1 := Lib.hid (ext_trans (ext_alloc (ext_refl w) _) hb)
  have t1 : w.heap.size ≤ w1.heap.size := b1.out.size
  clear hb
  go_wp2_with fail
  refine (HT.out _).mono ?_
  rintro e wz ⟨rfl, rfl⟩
  go_wp2_with fail
  refine (toSchool_any day pa le A n c l _ hn ((H.out.ext b1.out (Nat.le_refl _)).more (by first | omega | (simp <;> omega)))).mono ?_
  rintro e w2 ⟨Av, cv, rfl, ho_v, hb⟩
  have s2 : w1.heap.size ≤ w2.heap.size := (by have := hb.size; (try simp at this); omega)
  have z2_0 : w.heap.size < w2.heap.size := (by omega)
  have q2_0 : w2.cell? ⟨w.heap.size, 0, none⟩ = some (.int .i64 day) := ext_cell hb q1_0
  have q2_1 : w2.cell? ⟨w.heap.size, 1, none⟩ = some (.slice A n c) := ext_cell hb q1_1
  have q2_2 : w2.cell? ⟨w.heap.size, 2, none⟩ = some (.int .i64 pa) := ext_cell hb q1_2
  have q2_3 : w2.cell? ⟨w.heap.size, 3, none⟩ = some (.int .i64 le) := ext_cell hb q1_3
  have b2 := Lib.hid (ext_trans b1.out hb)
  have t2 : w.heap.size ≤ w2.heap.size := b2.out.size
  clear q1_0 q1_1 q1_2 q1_3
  have oc_v := Lib.hid (own_base (base' := w1.heap.size + 0) ho_v (by simp))
  clear ho_v
  clear hb
  go_wp2_with fail
  refine (toSchoolStepS_any B m cb xs _ hm ((HX.out.ext b2.out (Nat.le_refl _)).more (by first | omega | (simp <;> omega)))).mono ?_
  rintro e w3 ⟨Au, cu, rfl, ho_u, hb⟩
  have s3 : w2.heap.size ≤ w3.heap.size := (by have := hb.size; (try simp at this); omega)
  have z3_0 : w.heap.size < w3.heap.size := (by omega)
  have q3_0 : w3.cell? ⟨w.heap.size, 0, none⟩ = some (.int .i64 day) := ext_cell hb q2_0
  have q3_1 : w3.cell? ⟨w.heap.size, 1, none⟩ = some (.slice A n c) := ext_cell hb q2_1
  have q3_2 : w3.cell? ⟨w.heap.size, 2, none⟩ = some (.int .i64 pa) := ext_cell hb q2_2
  have q3_3 : w3.cell? ⟨w.heap.size, 3, none⟩ = some (.int .i64 le) := ext_cell hb q2_3
  have b3 := Lib.hid (ext_trans b2.out hb)
  have t3 : w.heap.size ≤ w3.heap.size := b3.out.size
  have o3_v := Lib.hid (own_ext oc_v.out hb)
  clear q2_0 q2_1 q2_2 q2_3
  have oc_u := Lib.hid (own_base (base' := w2.heap.size + 0) ho_u (by simp))
  clear ho_u
  clear hb
  have hslv := slOk_own o3_v.out
  go_wp2_with fail
  refine (HA.out _ Av cv Au cu hslv (Reads.of_own o3_v.out) (Reads.of_own oc_u.out)).mono ?_
  rintro e w4 ⟨Aw, cw, rfl, ho_w, hb⟩
  have s4 : w3.heap.size ≤ w4.heap.size := (by have := hb.size; (try simp at this); omega)
  have z4_0 : w.heap.size < w4.heap.size := (by omega)
  have q4_0 : w4.cell? ⟨w.heap.size, 0, none⟩ = some (.int .i64 day) := ext_cell hb q3_0
  have q4_1 : w4.cell? ⟨w.heap.size, 1, none⟩ = some (.slice A n c) := ext_cell hb q3_1
  have q4_2 : w4.cell? ⟨w.heap.size, 2, none⟩ = some (.int .i64 pa) := ext_cell hb q3_2
  have q4_3 : w4.cell? ⟨w.heap.size, 3, none⟩ = some (.int .i64 le) := ext_cell hb q3_3
  have b4 := Lib.hid (ext_trans b3.out hb)
  have t4 : w.heap.size ≤ w4.heap.size := b4.out.size
  have o4_v := Lib.hid (own_ext o3_v.out hb)
  have o4_u := Lib.hid (own_ext oc_u.out hb)
  clear q3_0 q3_1 q3_2 q3_3
  have oc_w := Lib.hid (own_base (base' := w3.heap.size + 0) ho_w (by simp))
  clear ho_w
  clear hb
  go_wp2_with fail
  refine (toSchool_any day pa le A n c l _ hn ((H.out.ext (ext_alloc b4.out _) (Nat.le_refl _)).more (by first | omega | (simp <;> omega)))).mono ?_
  rintro e w5 ⟨Ax, cx, rfl, ho_x, hb⟩
  have s5 : w4.heap.size + 1 ≤ w5.heap.size := (by have := hb.size; (try simp at this); omega)
  have z5_0 : w.heap.size < w5.heap.size := (by omega)
  have z5_1 : w4.heap.size < w5.heap.size := (by omega)
  have q5_0 : w5.cell? ⟨w.heap.size, 0, none⟩ = some (.int .i64 day) := ext_cell hb (cell_old q4_0 _)
  have q5_1 : w5.cell? ⟨w.heap.size, 1, none⟩ = some (.slice A n c) := ext_cell hb (cell_old q4_1 _)
  have q5_2 : w5.cell? ⟨w.heap.size, 2, none⟩ = some (.int .i64 pa) := ext_cell hb (cell_old q4_2 _)
  have q5_3 : w5.cell? ⟨w.heap.size, 3, none⟩ = some (.int .i64 le) := ext_cell hb (cell_old q4_3 _)
  have q5_4 : w5.cell? ⟨w4.heap.size, 0, none⟩ = some (.int .i64 D) := ext_cell hb (by simp [go_sem])
  have q5_5 : w5.cell? ⟨w4.heap.size, 1, none⟩ = some (.slice Aw N cw) := ext_cell hb (by simp [go_sem])
  have q5_6 : w5.cell? ⟨w4.heap.size, 2, none⟩ = some (.int .i64 P) := ext_cell hb (by simp [go_sem])
  have q5_7 : w5.cell? ⟨w4.heap.size, 3, none⟩ = some (.int .i64 Q) := ext_cell hb (by simp [go_sem])
  have b5 := Lib.hid (ext_trans (ext_alloc b4.out _) hb)
  have t5 : w.heap.size ≤ w5.heap.size := b5.out.size
  have o5_w := Lib.hid (own_ext (oc_w.out.alloc _) hb)
  clear q4_0 q4_1 q4_2 q4_3
  have oc_x := Lib.hid (own_base (base' := w4.heap.size + 1) ho_x (by simp))
  clear ho_x
  clear hb
  have hslx := slOk_own oc_x.out
  go_wp2_with fail
  refine (toSchoolStepS_any B m cb xs _ hm ((HX.out.ext (ext_alloc b5.out _) (Nat.le_refl _)).more (by first | omega | (simp <;> omega)))).mono ?_
  rintro e w6 ⟨Ay, cy, rfl, ho_y, hb⟩
  have s6 : w5.heap.size + 1 ≤ w6.heap.size := (by have := hb.size; (try simp at this); omega)
  have z6_0 : w.heap.size < w6.heap.size := (by omega)
  have z6_1 : w4.heap.size < w6.heap.size := (by omega)
  have z6_2 : w5.heap.size < w6.heap.size := (by omega)
  have q6_0 : w6.cell? ⟨w.heap.size, 0, none⟩ = some (.int .i64 day) := ext_cell hb (cell_old q5_0 _)
  have q6_1 : w6.cell? ⟨w.heap.size, 1, none⟩ = some (.slice A n c) := ext_cell hb (cell_old q5_1 _)
  have q6_2 : w6.cell? ⟨w.heap.size, 2, none⟩ = some (.int .i64 pa) := ext_cell hb (cell_old q5_2 _)
  have q6_3 : w6.cell? ⟨w.heap.size, 3, none⟩ = some (.int .i64 le) := ext_cell hb (cell_old q5_3 _)
  have q6_4 : w6.cell? ⟨w4.heap.size, 0, none⟩ = some (.int .i64 D) := ext_cell hb (cell_old q5_4 _)
  have q6_5 : w6.cell? ⟨w4.heap.size, 1, none⟩ = some (.slice Aw N cw) := ext_cell hb (cell_old q5_5 _)
  have q6_6 : w6.cell? ⟨w4.heap.size, 2, none⟩ = some (.int .i64 P) := ext_cell hb (cell_old q5_6 _)
  have q6_7 : w6.cell? ⟨w4.heap.size, 3, none⟩ = some (.int .i64 Q) := ext_cell hb (cell_old q5_7 _)
  have q6_8 : w6.cell? ⟨w5.heap.size, 0, none⟩ = some (.int .i64 day) := ext_cell hb (by simp [go_sem])
  have q6_9 : w6.cell? ⟨w5.heap.size, 1, none⟩ = some (.slice Ax n cx) := ext_cell hb (by simp [go_sem])
  have q6_10 : w6.cell? ⟨w5.heap.size, 2, none⟩ = some (.int .i64 pa) := ext_cell hb (by simp [go_sem])
  have q6_11 : w6.cell? ⟨w5.heap.size, 3, none⟩ = some (.int .i64 le) := ext_cell hb (by simp [go_sem])
  have b6 := Lib.hid (ext_trans (ext_alloc b5.out _) hb)
  have t6 : w.heap.size ≤ w6.heap.size := b6.out.size
  have o6_w := Lib.hid (own_ext (o5_w.out.alloc _) hb)
  have o6_x := Lib.hid (own_ext (oc_x.out.alloc _) hb)
  clear q5_0 q5_1 q5_2 q5_3 q5_4 q5_5 q5_6 q5_7
  have oc_y := Lib.hid (own_base (base' := w5.heap.size + 1) ho_y (by simp))
  clear ho_y
  clear hb
  go_wp2_with fail
  refine (HB.out _ Ax cx Ay cy hslx (Reads.of_own o6_x.out) (Reads.of_own oc_y.out)).mono ?_
  rintro e w7 ⟨Ag, cg, rfl, ho_g, hb⟩
  have s7 : w6.heap.size ≤ w7.heap.size := (by have := hb.size; (try simp at this); omega)
  have z7_0 : w.heap.size < w7.heap.size := (by omega)
  have z7_1 : w4.heap.size < w7.heap.size := (by omega)
  have z7_2 : w5.heap.size < w7.heap.size := (by omega)
  have q7_0 : w7.cell? ⟨w.heap.size, 0, none⟩ = some (.int .i64 day) := ext_cell hb q6_0
  have q7_1 : w7.cell? ⟨w.heap.size, 1, none⟩ = some (.slice A n c) := ext_cell hb q6_1
  have q7_2 : w7.cell? ⟨w.heap.size, 2, none⟩ = some (.int .i64 pa) := ext_cell hb q6_2
  have q7_3 : w7.cell? ⟨w.heap.size, 3, none⟩ = some (.int .i64 le) := ext_cell hb q6_3
  have q7_4 : w7.cell? ⟨w4.heap.size, 0, none⟩ = some (.int .i64 D) := ext_cell hb q6_4
  have q7_5 : w7.cell? ⟨w4.heap.size, 1, none⟩ = some (.slice Aw N cw) := ext_cell hb q6_5
  have q7_6 : w7.cell? ⟨w4.heap.size, 2, none⟩ = some (.int .i64 P) := ext_cell hb q6_6
  have q7_7 : w7.cell? ⟨w4.heap.size, 3, none⟩ = some (.int .i64 Q) := ext_cell hb q6_7
  have q7_8 : w7.cell? ⟨w5.heap.size, 0, none⟩ = some (.int .i64 day) := ext_cell hb q6_8
  have q7_9 : w7.cell? ⟨w5.heap.size, 1, none⟩ = some (.slice Ax n cx) := ext_cell hb q6_9
  have q7_10 : w7.cell? ⟨w5.heap.size, 2, none⟩ = some (.int .i64 pa) := ext_cell hb q6_10
  have q7_11 : w7.cell? ⟨w5.heap.size, 3, none⟩ = some (.int .i64 le) := ext_cell hb q6_11
  have b7 := Lib.hid (ext_trans b6.out hb)
  have t7 : w.heap.size ≤ w7.heap.size := b7.out.size
  have o7_w := Lib.hid (own_ext o6_w.out hb)
  have o7_x := Lib.hid (own_ext o6_x.out hb)
  have o7_y := Lib.hid (own_ext oc_y.out hb)
  clear q6_0 q6_1 q6_2 q6_3 q6_4 q6_5 q6_6 q6_7 q6_8 q6_9 q6_10 q6_11
  have oc_g := Lib.hid (own_base (base' := w6.heap.size + 0) ho_g (by simp))
  clear ho_g
  clear hb
  go_wp2_with fail
  refine (eqSchool_same D P Q Ag Aw N cg cw L _ (by omega) (Reads.of_own (oc_g.out.alloc _)) (Reads.of_own (o7_w.out.alloc _))).mono ?_
  rintro e w8 ⟨rfl, hb⟩
  have s8 : w7.heap.size + 1 ≤ w8.heap.size := (by have := hb.size; (try simp at this); omega)
  have z8_0 : w.heap.size < w8.heap.size := (by omega)
  have z8_1 : w4.heap.size < w8.heap.size := (by omega)
  have z8_2 : w5.heap.size < w8.heap.size := (by omega)
  have z8_3 : w7.heap.size < w8.heap.size := (by omega)
  have q8_0 : w8.cell? ⟨w.heap.size, 0, none⟩ = some (.int .i64 day) := ext_cell hb (cell_old q7_0 _)
  have q8_1 : w8.cell? ⟨w.heap.size, 1, none⟩ = some (.slice A n c) := ext_cell hb (cell_old q7_1 _)
  have q8_2 : w8.cell? ⟨w.heap.size, 2, none⟩ = some (.int .i64 pa) := ext_cell hb (cell_old q7_2 _)
  have q8_3 : w8.cell? ⟨w.heap.size, 3, none⟩ = some (.int .i64 le) := ext_cell hb (cell_old q7_3 _)
  have q8_4 : w8.cell? ⟨w4.heap.size, 0, none⟩ = some (.int .i64 D) := ext_cell hb (cell_old q7_4 _)
  have q8_5 : w8.cell? ⟨w4.heap.size, 1, none⟩ = some (.slice Aw N cw) := ext_cell hb (cell_old q7_5 _)
  have q8_6 : w8.cell? ⟨w4.heap.size, 2, none⟩ = some (.int .i64 P) := ext_cell hb (cell_old q7_6 _)
  have q8_7 : w8.cell? ⟨w4.heap.size, 3, none⟩ = some (.int .i64 Q) := ext_cell hb (cell_old q7_7 _)
  have q8_8 : w8.cell? ⟨w5.heap.size, 0, none⟩ = some (.int .i64 day) := ext_cell hb (cell_old q7_8 _)
  have q8_9 : w8.cell? ⟨w5.heap.size, 1, none⟩ = some (.slice Ax n cx) := ext_cell hb (cell_old q7_9 _)
  have q8_10 : w8.cell? ⟨w5.heap.size, 2, none⟩ = some (.int .i64 pa) := ext_cell hb (cell_old q7_10 _)
  have q8_11 : w8.cell? ⟨w5.heap.size, 3, none⟩ = some (.int .i64 le) := ext_cell hb (cell_old q7_11 _)
  have q8_12 : w8.cell? ⟨w7.heap.size, 0, none⟩ = some (.int .i64 D) := ext_cell hb (by simp [go_sem])
  have q8_13 : w8.cell? ⟨w7.heap.size, 1, none⟩ = some (.slice Ag N cg) := ext_cell hb (by simp [go_sem])
  have q8_14 : w8.cell? ⟨w7.heap.size, 2, none⟩ = some (.int .i64 P) := ext_cell hb (by simp [go_sem])
  have q8_15 : w8.cell? ⟨w7.heap.size, 3, none⟩ = some (.int .i64 Q) := ext_cell hb (by simp [go_sem])
  have b8 := Lib.hid (ext_trans (ext_alloc b7.out _) hb)
  have t8 : w.heap.size ≤ w8.heap.size := b8.out.size
  have o8_w := Lib.hid (own_ext (o7_w.out.alloc _) hb)
  have o8_x := Lib.hid (own_ext (o7_x.out.alloc _) hb)
  have o8_y := Lib.hid (own_ext (o7_y.out.alloc _) hb)
  have o8_g := Lib.hid (own_ext (oc_g.out.alloc _) hb)
  clear q7_0 q7_1 q7_2 q7_3 q7_4 q7_5 q7_6 q7_7 q7_8 q7_9 q7_10 q7_11
  clear hb
  go_upto_region 14 with fail
  go_cut [68] (fun s68 wx => s68 = .bool false ∧ Below w8.heap.size w8 wx)
  case first =>
    go_region_held3 (fun w' => w'.cell? ⟨w.heap.size, 0, none⟩ = some (.int .i64 day) ∧ w'.cell? ⟨w.heap.size, 1, none⟩ = some (.slice A n c) ∧ w'.cell? ⟨w.heap.size, 2, none⟩ = some (.int .i64 pa) ∧ w'.cell? ⟨w.heap.size, 3, none⟩ = some (.int .i64 le) ∧ w'.cell? ⟨w4.heap.size, 0, none⟩ = some (.int .i64 D) ∧ w'.cell? ⟨w4.heap.size, 1, none⟩ = some (.slice Aw N cw) ∧ w'.cell? ⟨w4.heap.size, 2, none⟩ = some (.int .i64 P) ∧ w'.cell? ⟨w4.heap.size, 3, none⟩ = some (.int .i64 Q) ∧ w'.cell? ⟨w5.heap.size, 0, none⟩ = some (.int .i64 day) ∧ w'.cell? ⟨w5.heap.size, 1, none⟩ = some (.slice Ax n cx) ∧ w'.cell? ⟨w5.heap.size, 2, none⟩ = some (.int .i64 pa) ∧ w'.cell? ⟨w5.heap.size, 3, none⟩ = some (.int .i64 le) ∧ w'.cell? ⟨w7.heap.size, 0, none⟩ = some (.int .i64 D) ∧ w'.cell? ⟨w7.heap.size, 1, none⟩ = some (.slice Ag N cg) ∧ w'.cell? ⟨w7.heap.size, 2, none⟩ = some (.int .i64 P) ∧ w'.cell? ⟨w7.heap.size, 3, none⟩ = some (.int .i64 Q)) (first | (go_split_ands; ((repeat' refine And.intro ?_ ?_) <;> with_reducible (repeat (first | assumption | refine cell_drew ?_))))) (first | (go_at_call 45; refine (toSchool_any day pa le A n c l _ hn ((H.out.ext (ext_drew b8.out) (Nat.le_refl _)).more (by first | omega | (simp; omega) | (simp <;> omega)))).mono ?_; rintro e w' ⟨Az, cz, rfl, hoz, hb⟩; have hoz := Lib.hid hoz; have hbY := Lib.hid hb; obtain ⟨hc, hf⟩ := bcell hb; have k0 : w'.cell? ⟨w.heap.size, 0, none⟩ = some (.int .i64 day) := ext_cell hb (by with_reducible (repeat (first | assumption | refine cell_drew ?_))); have k1 : w'.cell? ⟨w.heap.size, 1, none⟩ = some (.slice A n c) := ext_cell hb (by with_reducible (repeat (first | assumption | refine cell_drew ?_))); have k2 : w'.cell? ⟨w.heap.size, 2, none⟩ = some (.int .i64 pa) := ext_cell hb (by with_reducible (repeat (first | assumption | refine cell_drew ?_))); have k3 : w'.cell? ⟨w.heap.size, 3, none⟩ = some (.int .i64 le) := ext_cell hb (by with_reducible (repeat (first | assumption | refine cell_drew ?_))); have k4 : w'.cell? ⟨w4.heap.size, 0, none⟩ = some (.int .i64 D) := ext_cell hb (by with_reducible (repeat (first | assumption | refine cell_drew ?_))); have k5 : w'.cell? ⟨w4.heap.size, 1, none⟩ = some (.slice Aw N cw) := ext_cell hb (by with_reducible (repeat (first | assumption | refine cell_drew ?_))); have k6 : w'.cell? ⟨w4.heap.size, 2, none⟩ = some (.int .i64 P) := ext_cell hb (by with_reducible (repeat (first | assumption | refine cell_drew ?_))); have k7 : w'.cell? ⟨w4.heap.size, 3, none⟩ = some (.int .i64 Q) := ext_cell hb (by with_reducible (repeat (first | assumption | refine cell_drew ?_))); have k8 : w'.cell? ⟨w5.heap.size, 0, none⟩ = some (.int .i64 day) := ext_cell hb (by with_reducible (repeat (first | assumption | refine cell_drew ?_))); have k9 : w'.cell? ⟨w5.heap.size, 1, none⟩ = some (.slice Ax n cx) := ext_cell hb (by with_reducible (repeat (first | assumption | refine cell_drew ?_))); have k10 : w'.cell? ⟨w5.heap.size, 2, none⟩ = some (.int .i64 pa) := ext_cell hb (by with_reducible (repeat (first | assumption | refine cell_drew ?_))); have k11 : w'.cell? ⟨w5.heap.size, 3, none⟩ = some (.int .i64 le) := ext_cell hb (by with_reducible (repeat (first | assumption | refine cell_drew ?_))); have k12 : w'.cell? ⟨w7.heap.size, 0, none⟩ = some (.int .i64 D) := ext_cell hb (by with_reducible (repeat (first | assumption | refine cell_drew ?_))); have k13 : w'.cell? ⟨w7.heap.size, 1, none⟩ = some (.slice Ag N cg) := ext_cell hb (by with_reducible (repeat (first | assumption | refine cell_drew ?_))); have k14 : w'.cell? ⟨w7.heap.size, 2, none⟩ = some (.int .i64 P) := ext_cell hb (by with_reducible (repeat (first | assumption | refine cell_drew ?_))); have k15 : w'.cell? ⟨w7.heap.size, 3, none⟩ = some (.int .i64 Q) := ext_cell hb (by with_reducible (repeat (first | assumption | refine cell_drew ?_)))) | (go_at_call 48; refine (eqSchool_same day pa le Ax Az n cx cz l _ hn (Reads.of_own (own_ext (World.ownsRow.drew o8_x.out) hbY.out)) (Reads.of_own hoz.out)).mono ?_; rintro e w' ⟨rfl, hb⟩; have hbZ := Lib.hid hb; obtain ⟨hc, hf⟩ := bcell hb; have k0 : w'.cell? ⟨w.heap.size, 0, none⟩ = some (.int .i64 day) := ext_cell hb (by with_reducible (repeat (first | assumption | refine cell_drew ?_))); have k1 : w'.cell? ⟨w.heap.size, 1, none⟩ = some (.slice A n c) := ext_cell hb (by with_reducible (repeat (first | assumption | refine cell_drew ?_))); have k2 : w'.cell? ⟨w.heap.size, 2, none⟩ = some (.int .i64 pa) := ext_cell hb (by with_reducible (repeat (first | assumption | refine cell_drew ?_))); have k3 : w'.cell? ⟨w.heap.size, 3, none⟩ = some (.int .i64 le) := ext_cell hb (by with_reducible (repeat (first | assumption | refine cell_drew ?_))); have k4 : w'.cell? ⟨w4.heap.size, 0, none⟩ = some (.int .i64 D) := ext_cell hb (by with_reducible (repeat (first | assumption | refine cell_drew ?_))); have k5 : w'.cell? ⟨w4.heap.size, 1, none⟩ = some (.slice Aw N cw) := ext_cell hb (by with_reducible (repeat (first | assumption | refine cell_drew ?_))); have k6 : w'.cell? ⟨w4.heap.size, 2, none⟩ = some (.int .i64 P) := ext_cell hb (by with_reducible (repeat (first | assumption | refine cell_drew ?_))); have k7 : w'.cell? ⟨w4.heap.size, 3, none⟩ = some (.int .i64 Q) := ext_cell hb (by with_reducible (repeat (first | assumption | refine cell_drew ?_))); have k8 : w'.cell? ⟨w5.heap.size, 0, none⟩ = some (.int .i64 day) := ext_cell hb (by with_reducible (repeat (first | assumption | refine cell_drew ?_))); have k9 : w'.cell? ⟨w5.heap.size, 1, none⟩ = some (.slice Ax n cx) := ext_cell hb (by with_reducible (repeat (first | assumption | refine cell_drew ?_))); have k10 : w'.cell? ⟨w5.heap.size, 2, none⟩ = some (.int .i64 pa) := ext_cell hb (by with_reducible (repeat (first | assumption | refine cell_drew ?_))); have k11 : w'.cell? ⟨w5.heap.size, 3, none⟩ = some (.int .i64 le) := ext_cell hb (by with_reducible (repeat (first | assumption | refine cell_drew ?_))); have k12 : w'.cell? ⟨w7.heap.size, 0, none⟩ = some (.int .i64 D) := ext_cell hb (by with_reducible (repeat (first | assumption | refine cell_drew ?_))); have k13 : w'.cell? ⟨w7.heap.size, 1, none⟩ = some (.slice Ag N cg) := ext_cell hb (by with_reducible (repeat (first | assumption | refine cell_drew ?_))); have k14 : w'.cell? ⟨w7.heap.size, 2, none⟩ = some (.int .i64 P) := ext_cell hb (by with_reducible (repeat (first | assumption | refine cell_drew ?_))); have k15 : w'.cell? ⟨w7.heap.size, 3, none⟩ = some (.int .i64 Q) := ext_cell hb (by with_reducible (repeat (first | assumption | refine cell_drew ?_)))))
    all_goals (go_wp2_with fail; go_meet; exact ⟨rfl, ext_trans (ext_trans (ext_drew (ext_refl _)) hbY.out) hbZ.out⟩)
  case rest =>
    obtain ⟨rfl, hb⟩ := hcut
    obtain ⟨w9, hw9⟩ : ∃ x : World, x = wc := ⟨_, rfl⟩
    subst hw9
    have s9 : w8.heap.size ≤ w9.heap.size := (by have := hb.size; (try simp at this); omega)
    have z9_0 : w.heap.size < w9.heap.size := (by omega)
    have z9_1 : w4.heap.size < w9.heap.size := (by omega)
    have z9_2 : w5.heap.size < w9.heap.size := (by omega)
    have z9_3 : w7.heap.size < w9.heap.size := (by omega)
    have q9_0 : w9.cell? ⟨w.heap.size, 0, none⟩ = some (.int .i64 day) := ext_cell hb q8_0
    have q9_1 : w9.cell? ⟨w.heap.size, 1, none⟩ = some (.slice A n c) := ext_cell hb q8_1
    have q9_2 : w9.cell? ⟨w.heap.size, 2, none⟩ = some (.int .i64 pa) := ext_cell hb q8_2
    have q9_3 : w9.cell? ⟨w.heap.size, 3, none⟩ = some (.int .i64 le) := ext_cell hb q8_3
    have q9_4 : w9.cell? ⟨w4.heap.size, 0, none⟩ = some (.int .i64 D) := ext_cell hb q8_4
    have q9_5 : w9.cell? ⟨w4.heap.size, 1, none⟩ = some (.slice Aw N cw) := ext_cell hb q8_5
    have q9_6 : w9.cell? ⟨w4.heap.size, 2, none⟩ = some (.int .i64 P) := ext_cell hb q8_6
    have q9_7 : w9.cell? ⟨w4.heap.size, 3, none⟩ = some (.int .i64 Q) := ext_cell hb q8_7
    have q9_8 : w9.cell? ⟨w5.heap.size, 0, none⟩ = some (.int .i64 day) := ext_cell hb q8_8
    have q9_9 : w9.cell? ⟨w5.heap.size, 1, none⟩ = some (.slice Ax n cx) := ext_cell hb q8_9
    have q9_10 : w9.cell? ⟨w5.heap.size, 2, none⟩ = some (.int .i64 pa) := ext_cell hb q8_10
    have q9_11 : w9.cell? ⟨w5.heap.size, 3, none⟩ = some (.int .i64 le) := ext_cell hb q8_11
    have q9_12 : w9.cell? ⟨w7.heap.size, 0, none⟩ = some (.int .i64 D) := ext_cell hb q8_12
    have q9_13 : w9.cell? ⟨w7.heap.size, 1, none⟩ = some (.slice Ag N cg) := ext_cell hb q8_13
    have q9_14 : w9.cell? ⟨w7.heap.size, 2, none⟩ = some (.int .i64 P) := ext_cell hb q8_14
    have q9_15 : w9.cell? ⟨w7.heap.size, 3, none⟩ = some (.int .i64 Q) := ext_cell hb q8_15
    have b9 := Lib.hid (ext_trans b8.out hb)
    have t9 : w.heap.size ≤ w9.heap.size := b9.out.size
    have o9_w := Lib.hid (own_ext o8_w.out hb)
    have o9_x := Lib.hid (own_ext o8_x.out hb)
    have o9_y := Lib.hid (own_ext o8_y.out hb)
    have o9_g := Lib.hid (own_ext o8_g.out hb)
    clear q8_0 q8_1 q8_2 q8_3 q8_4 q8_5 q8_6 q8_7 q8_8 q8_9 q8_10 q8_11 q8_12 q8_13 q8_14 q8_15
    clear hb
    go_wp2_with fail
    refine (toSchoolStepS_any B m cb xs _ hm ((HX.out.ext b9.out (Nat.le_refl _)).more (by first | omega | (simp <;> omega)))).mono ?_
    rintro e w10 ⟨Az, cz, rfl, ho_z, hb⟩
    have s10 : w9.heap.size ≤ w10.heap.size := (by have := hb.size; (try simp at this); omega)
    have z10_0 : w.heap.size < w10.heap.size := (by omega)
    have z10_1 : w4.heap.size < w10.heap.size := (by omega)
    have z10_2 : w5.heap.size < w10.heap.size := (by omega)
    have z10_3 : w7.heap.size < w10.heap.size := (by omega)
    have q10_0 : w10.cell? ⟨w.heap.size, 0, none⟩ = some (.int .i64 day) := ext_cell hb q9_0
    have q10_1 : w10.cell? ⟨w.heap.size, 1, none⟩ = some (.slice A n c) := ext_cell hb q9_1
    have q10_2 : w10.cell? ⟨w.heap.size, 2, none⟩ = some (.int .i64 pa) := ext_cell hb q9_2
    have q10_3 : w10.cell? ⟨w.heap.size, 3, none⟩ = some (.int .i64 le) := ext_cell hb q9_3
    have q10_4 : w10.cell? ⟨w4.heap.size, 0, none⟩ = some (.int .i64 D) := ext_cell hb q9_4
    have q10_5 : w10.cell? ⟨w4.heap.size, 1, none⟩ = some (.slice Aw N cw) := ext_cell hb q9_5
    have q10_6 : w10.cell? ⟨w4.heap.size, 2, none⟩ = some (.int .i64 P) := ext_cell hb q9_6
    have q10_7 : w10.cell? ⟨w4.heap.size, 3, none⟩ = some (.int .i64 Q) := ext_cell hb q9_7
    have q10_8 : w10.cell? ⟨w5.heap.size, 0, none⟩ = some (.int .i64 day) := ext_cell hb q9_8
    have q10_9 : w10.cell? ⟨w5.heap.size, 1, none⟩ = some (.slice Ax n cx) := ext_cell hb q9_9
    have q10_10 : w10.cell? ⟨w5.heap.size, 2, none⟩ = some (.int .i64 pa) := ext_cell hb q9_10
    have q10_11 : w10.cell? ⟨w5.heap.size, 3, none⟩ = some (.int .i64 le) := ext_cell hb q9_11
    have q10_12 : w10.cell? ⟨w7.heap.size, 0, none⟩ = some (.int .i64 D) := ext_cell hb q9_12
    have q10_13 : w10.cell? ⟨w7.heap.size, 1, none⟩ = some (.slice Ag N cg) := ext_cell hb q9_13
    have q10_14 : w10.cell? ⟨w7.heap.size, 2, none⟩ = some (.int .i64 P) := ext_cell hb q9_14
    have q10_15 : w10.cell? ⟨w7.heap.size, 3, none⟩ = some (.int .i64 Q) := ext_cell hb q9_15
    have b10 := Lib.hid (ext_trans b9.out hb)
    have t10 : w.heap.size ≤ w10.heap.size := b10.out.size
    have o10_w := Lib.hid (own_ext o9_w.out hb)
    have o10_x := Lib.hid (own_ext o9_x.out hb)
    have o10_y := Lib.hid (own_ext o9_y.out hb)
    have o10_g := Lib.hid (own_ext o9_g.out hb)
    clear q9_0 q9_1 q9_2 q9_3 q9_4 q9_5 q9_6 q9_7 q9_8 q9_9 q9_10 q9_11 q9_12 q9_13 q9_14 q9_15
    have oc_z := Lib.hid (own_base (base' := w9.heap.size + 0) ho_z (by simp))
    clear ho_z
    clear hb
    go_wp2_with fail
    refine (eqSchoolStepS_any Ay Az m m cy cz xs xs _ hm hm (Reads.of_own o10_y.out) (Reads.of_own oc_z.out)).mono ?_
    rintro e w11 ⟨rfl, hb⟩
    have s11 : w10.heap.size ≤ w11.heap.size := (by have := hb.size; (try simp at this); omega)
    have z11_0 : w.heap.size < w11.heap.size := (by omega)
    have z11_1 : w4.heap.size < w11.heap.size := (by omega)
    have z11_2 : w5.heap.size < w11.heap.size := (by omega)
    have z11_3 : w7.heap.size < w11.heap.size := (by omega)
    have q11_0 : w11.cell? ⟨w.heap.size, 0, none⟩ = some (.int .i64 day) := ext_cell hb q10_0
    have q11_1 : w11.cell? ⟨w.heap.size, 1, none⟩ = some (.slice A n c) := ext_cell hb q10_1
    have q11_2 : w11.cell? ⟨w.heap.size, 2, none⟩ = some (.int .i64 pa) := ext_cell hb q10_2
    have q11_3 : w11.cell? ⟨w.heap.size, 3, none⟩ = some (.int .i64 le) := ext_cell hb q10_3
    have q11_4 : w11.cell? ⟨w4.heap.size, 0, none⟩ = some (.int .i64 D) := ext_cell hb q10_4
    have q11_5 : w11.cell? ⟨w4.heap.size, 1, none⟩ = some (.slice Aw N cw) := ext_cell hb q10_5
    have q11_6 : w11.cell? ⟨w4.heap.size, 2, none⟩ = some (.int .i64 P) := ext_cell hb q10_6
    have q11_7 : w11.cell? ⟨w4.heap.size, 3, none⟩ = some (.int .i64 Q) := ext_cell hb q10_7
    have q11_8 : w11.cell? ⟨w5.heap.size, 0, none⟩ = some (.int .i64 day) := ext_cell hb q10_8
    have q11_9 : w11.cell? ⟨w5.heap.size, 1, none⟩ = some (.slice Ax n cx) := ext_cell hb q10_9
    have q11_10 : w11.cell? ⟨w5.heap.size, 2, none⟩ = some (.int .i64 pa) := ext_cell hb q10_10
    have q11_11 : w11.cell? ⟨w5.heap.size, 3, none⟩ = some (.int .i64 le) := ext_cell hb q10_11
    have q11_12 : w11.cell? ⟨w7.heap.size, 0, none⟩ = some (.int .i64 D) := ext_cell hb q10_12
    have q11_13 : w11.cell? ⟨w7.heap.size, 1, none⟩ = some (.slice Ag N cg) := ext_cell hb q10_13
    have q11_14 : w11.cell? ⟨w7.heap.size, 2, none⟩ = some (.int .i64 P) := ext_cell hb q10_14
    have q11_15 : w11.cell? ⟨w7.heap.size, 3, none⟩ = some (.int .i64 Q) := ext_cell hb q10_15
    have b11 := Lib.hid (ext_trans b10.out hb)
    have t11 : w.heap.size ≤ w11.heap.size := b11.out.size
    have o11_w := Lib.hid (own_ext o10_w.out hb)
    have o11_x := Lib.hid (own_ext o10_x.out hb)
    have o11_y := Lib.hid (own_ext o10_y.out hb)
    have o11_g := Lib.hid (own_ext o10_g.out hb)
    have o11_z := Lib.hid (own_ext oc_z.out hb)
    clear q10_0 q10_1 q10_2 q10_3 q10_4 q10_5 q10_6 q10_7 q10_8 q10_9 q10_10 q10_11 q10_12 q10_13 q10_14 q10_15
    clear hb
    go_wp2_with fail
    refine (markSchool_any day pa le Ax n cx _ _ 1 _ (by omega) (by omega) (by omega) o11_x.out).mono ?_
    rintro e w12 ⟨rfl, ho, hg⟩
    have s12 : w11.heap.size ≤ w12.heap.size := (by have := hg.size; (try simp at this); omega)
    have z12_0 : w.heap.size < w12.heap.size := (by omega)
    have z12_1 : w4.heap.size < w12.heap.size := (by omega)
    have z12_2 : w5.heap.size < w12.heap.size := (by omega)
    have z12_3 : w7.heap.size < w12.heap.size := (by omega)
    have q12_0 : w12.cell? ⟨w.heap.size, 0, none⟩ = some (.int .i64 day) := cell_far_grown hg (own_far_lt (b := w.heap.size) oc_x.out (by omega)) q11_0
    have q12_1 : w12.cell? ⟨w.heap.size, 1, none⟩ = some (.slice A n c) := cell_far_grown hg (own_far_lt (b := w.heap.size) oc_x.out (by omega)) q11_1
    have q12_2 : w12.cell? ⟨w.heap.size, 2, none⟩ = some (.int .i64 pa) := cell_far_grown hg (own_far_lt (b := w.heap.size) oc_x.out (by omega)) q11_2
    have q12_3 : w12.cell? ⟨w.heap.size, 3, none⟩ = some (.int .i64 le) := cell_far_grown hg (own_far_lt (b := w.heap.size) oc_x.out (by omega)) q11_3
    have q12_4 : w12.cell? ⟨w4.heap.size, 0, none⟩ = some (.int .i64 D) := cell_far_grown hg (own_far_lt (b := w4.heap.size) oc_x.out (by omega)) q11_4
    have q12_5 : w12.cell? ⟨w4.heap.size, 1, none⟩ = some (.slice Aw N cw) := cell_far_grown hg (own_far_lt (b := w4.heap.size) oc_x.out (by omega)) q11_5
    have q12_6 : w12.cell? ⟨w4.heap.size, 2, none⟩ = some (.int .i64 P) := cell_far_grown hg (own_far_lt (b := w4.heap.size) oc_x.out (by omega)) q11_6
    have q12_7 : w12.cell? ⟨w4.heap.size, 3, none⟩ = some (.int .i64 Q) := cell_far_grown hg (own_far_lt (b := w4.heap.size) oc_x.out (by omega)) q11_7
    have q12_8 : w12.cell? ⟨w5.heap.size, 0, none⟩ = some (.int .i64 day) := cell_far_grown hg (own_far_ge (b := w5.heap.size) oc_x.out (by omega)) q11_8
    have q12_9 : w12.cell? ⟨w5.heap.size, 1, none⟩ = some (.slice Ax n cx) := cell_far_grown hg (own_far_ge (b := w5.heap.size) oc_x.out (by omega)) q11_9
    have q12_10 : w12.cell? ⟨w5.heap.size, 2, none⟩ = some (.int .i64 pa) := cell_far_grown hg (own_far_ge (b := w5.heap.size) oc_x.out (by omega)) q11_10
    have q12_11 : w12.cell? ⟨w5.heap.size, 3, none⟩ = some (.int .i64 le) := cell_far_grown hg (own_far_ge (b := w5.heap.size) oc_x.out (by omega)) q11_11
    have q12_12 : w12.cell? ⟨w7.heap.size, 0, none⟩ = some (.int .i64 D) := cell_far_grown hg (own_far_ge (b := w7.heap.size) oc_x.out (by omega)) q11_12
    have q12_13 : w12.cell? ⟨w7.heap.size, 1, none⟩ = some (.slice Ag N cg) := cell_far_grown hg (own_far_ge (b := w7.heap.size) oc_x.out (by omega)) q11_13
    have q12_14 : w12.cell? ⟨w7.heap.size, 2, none⟩ = some (.int .i64 P) := cell_far_grown hg (own_far_ge (b := w7.heap.size) oc_x.out (by omega)) q11_14
    have q12_15 : w12.cell? ⟨w7.heap.size, 3, none⟩ = some (.int .i64 Q) := cell_far_grown hg (own_far_ge (b := w7.heap.size) oc_x.out (by omega)) q11_15
    have b12 := Lib.hid (below_grown' o11_x.out (by omega) b11.out hg)
    have t12 : w.heap.size ≤ w12.heap.size := b12.out.size
    have o12_w := Lib.hid (o11_w.out.kept hg (own_ne' oc_w.out oc_x.out (by omega)))
    have o12_y := Lib.hid (o11_y.out.kept hg (own_ne oc_x.out oc_y.out (by omega)))
    have o12_g := Lib.hid (o11_g.out.kept hg (own_ne oc_x.out oc_g.out (by omega)))
    have o12_z := Lib.hid (o11_z.out.kept hg (own_ne oc_x.out oc_z.out (by omega)))
    clear q11_0 q11_1 q11_2 q11_3 q11_4 q11_5 q11_6 q11_7 q11_8 q11_9 q11_10 q11_11 q11_12 q11_13 q11_14 q11_15
    have o12_x := Lib.hid ho
    clear ho hg
    go_wp2_with fail
    refine (markSchoolStepS_any Ay m cy _ _ (1 + (n : Int) * 5) _ (by omega) (by omega) (by omega) o12_y.out).mono ?_
    rintro e w13 ⟨rfl, ho, hg⟩
    have s13 : w12.heap.size ≤ w13.heap.size := (by have := hg.size; (try simp at this); omega)
    have z13_0 : w.heap.size < w13.heap.size := (by omega)
    have z13_1 : w4.heap.size < w13.heap.size := (by omega)
    have z13_2 : w5.heap.size < w13.heap.size := (by omega)
    have z13_3 : w7.heap.size < w13.heap.size := (by omega)
    have q13_0 : w13.cell? ⟨w.heap.size, 0, none⟩ = some (.int .i64 day) := cell_far_grown hg (own_far_lt (b := w.heap.size) oc_y.out (by omega)) q12_0
    have q13_1 : w13.cell? ⟨w.heap.size, 1, none⟩ = some (.slice A n c) := cell_far_grown hg (own_far_lt (b := w.heap.size) oc_y.out (by omega)) q12_1
    have q13_2 : w13.cell? ⟨w.heap.size, 2, none⟩ = some (.int .i64 pa) := cell_far_grown hg (own_far_lt (b := w.heap.size) oc_y.out (by omega)) q12_2
    have q13_3 : w13.cell? ⟨w.heap.size, 3, none⟩ = some (.int .i64 le) := cell_far_grown hg (own_far_lt (b := w.heap.size) oc_y.out (by omega)) q12_3
    have q13_4 : w13.cell? ⟨w4.heap.size, 0, none⟩ = some (.int .i64 D) := cell_far_grown hg (own_far_lt (b := w4.heap.size) oc_y.out (by omega)) q12_4
    have q13_5 : w13.cell? ⟨w4.heap.size, 1, none⟩ = some (.slice Aw N cw) := cell_far_grown hg (own_far_lt (b := w4.heap.size) oc_y.out (by omega)) q12_5
    have q13_6 : w13.cell? ⟨w4.heap.size, 2, none⟩ = some (.int .i64 P) := cell_far_grown hg (own_far_lt (b := w4.heap.size) oc_y.out (by omega)) q12_6
    have q13_7 : w13.cell? ⟨w4.heap.size, 3, none⟩ = some (.int .i64 Q) := cell_far_grown hg (own_far_lt (b := w4.heap.size) oc_y.out (by omega)) q12_7
    have q13_8 : w13.cell? ⟨w5.heap.size, 0, none⟩ = some (.int .i64 day) := cell_far_grown hg (own_far_lt (b := w5.heap.size) oc_y.out (by omega)) q12_8
    have q13_9 : w13.cell? ⟨w5.heap.size, 1, none⟩ = some (.slice Ax n cx) := cell_far_grown hg (own_far_lt (b := w5.heap.size) oc_y.out (by omega)) q12_9
    have q13_10 : w13.cell? ⟨w5.heap.size, 2, none⟩ = some (.int .i64 pa) := cell_far_grown hg (own_far_lt (b := w5.heap.size) oc_y.out (by omega)) q12_10
    have q13_11 : w13.cell? ⟨w5.heap.size, 3, none⟩ = some (.int .i64 le) := cell_far_grown hg (own_far_lt (b := w5.heap.size) oc_y.out (by omega)) q12_11
    have q13_12 : w13.cell? ⟨w7.heap.size, 0, none⟩ = some (.int .i64 D) := cell_far_grown hg (own_far_ge (b := w7.heap.size) oc_y.out (by omega)) q12_12
    have q13_13 : w13.cell? ⟨w7.heap.size, 1, none⟩ = some (.slice Ag N cg) := cell_far_grown hg (own_far_ge (b := w7.heap.size) oc_y.out (by omega)) q12_13
    have q13_14 : w13.cell? ⟨w7.heap.size, 2, none⟩ = some (.int .i64 P) := cell_far_grown hg (own_far_ge (b := w7.heap.size) oc_y.out (by omega)) q12_14
    have q13_15 : w13.cell? ⟨w7.heap.size, 3, none⟩ = some (.int .i64 Q) := cell_far_grown hg (own_far_ge (b := w7.heap.size) oc_y.out (by omega)) q12_15
    have b13 := Lib.hid (below_grown' o12_y.out (by omega) b12.out hg)
    have t13 : w.heap.size ≤ w13.heap.size := b13.out.size
    have o13_w := Lib.hid (o12_w.out.kept hg (own_ne' oc_w.out oc_y.out (by omega)))
    have o13_x := Lib.hid (o12_x.out.kept hg (own_ne' oc_x.out oc_y.out (by omega)))
    have o13_g := Lib.hid (o12_g.out.kept hg (own_ne oc_y.out oc_g.out (by omega)))
    have o13_z := Lib.hid (o12_z.out.kept hg (own_ne oc_y.out oc_z.out (by omega)))
    clear q12_0 q12_1 q12_2 q12_3 q12_4 q12_5 q12_6 q12_7 q12_8 q12_9 q12_10 q12_11 q12_12 q12_13 q12_14 q12_15
    have o13_y := Lib.hid ho
    clear ho hg
    go_wp2_with fail
    refine (eqSchool_same D P Q Ag Aw N cg cw L _ (by omega) (Reads.of_own o13_g.out) (Reads.of_own o13_w.out)).mono ?_
    rintro e w14 ⟨rfl, hb⟩
    have s14 : w13.heap.size ≤ w14.heap.size := (by have := hb.size; (try simp at this); omega)
    have z14_0 : w.heap.size < w14.heap.size := (by omega)
    have z14_1 : w4.heap.size < w14.heap.size := (by omega)
    have z14_2 : w5.heap.size < w14.heap.size := (by omega)
    have z14_3 : w7.heap.size < w14.heap.size := (by omega)
    have q14_0 : w14.cell? ⟨w.heap.size, 0, none⟩ = some (.int .i64 day) := ext_cell hb q13_0
    have q14_1 : w14.cell? ⟨w.heap.size, 1, none⟩ = some (.slice A n c) := ext_cell hb q13_1
    have q14_2 : w14.cell? ⟨w.heap.size, 2, none⟩ = some (.int .i64 pa) := ext_cell hb q13_2
    have q14_3 : w14.cell? ⟨w.heap.size, 3, none⟩ = some (.int .i64 le) := ext_cell hb q13_3
    have q14_4 : w14.cell? ⟨w4.heap.size, 0, none⟩ = some (.int .i64 D) := ext_cell hb q13_4
    have q14_5 : w14.cell? ⟨w4.heap.size, 1, none⟩ = some (.slice Aw N cw) := ext_cell hb q13_5
    have q14_6 : w14.cell? ⟨w4.heap.size, 2, none⟩ = some (.int .i64 P) := ext_cell hb q13_6
    have q14_7 : w14.cell? ⟨w4.heap.size, 3, none⟩ = some (.int .i64 Q) := ext_cell hb q13_7
    have q14_8 : w14.cell? ⟨w5.heap.size, 0, none⟩ = some (.int .i64 day) := ext_cell hb q13_8
    have q14_9 : w14.cell? ⟨w5.heap.size, 1, none⟩ = some (.slice Ax n cx) := ext_cell hb q13_9
    have q14_10 : w14.cell? ⟨w5.heap.size, 2, none⟩ = some (.int .i64 pa) := ext_cell hb q13_10
    have q14_11 : w14.cell? ⟨w5.heap.size, 3, none⟩ = some (.int .i64 le) := ext_cell hb q13_11
    have q14_12 : w14.cell? ⟨w7.heap.size, 0, none⟩ = some (.int .i64 D) := ext_cell hb q13_12
    have q14_13 : w14.cell? ⟨w7.heap.size, 1, none⟩ = some (.slice Ag N cg) := ext_cell hb q13_13
    have q14_14 : w14.cell? ⟨w7.heap.size, 2, none⟩ = some (.int .i64 P) := ext_cell hb q13_14
    have q14_15 : w14.cell? ⟨w7.heap.size, 3, none⟩ = some (.int .i64 Q) := ext_cell hb q13_15
    have b14 := Lib.hid (ext_trans b13.out hb)
    have t14 : w.heap.size ≤ w14.heap.size := b14.out.size
    have o14_w := Lib.hid (own_ext o13_w.out hb)
    have o14_x := Lib.hid (own_ext o13_x.out hb)
    have o14_y := Lib.hid (own_ext o13_y.out hb)
    have o14_g := Lib.hid (own_ext o13_g.out hb)
    have o14_z := Lib.hid (own_ext o13_z.out hb)
    clear q13_0 q13_1 q13_2 q13_3 q13_4 q13_5 q13_6 q13_7 q13_8 q13_9 q13_10 q13_11 q13_12 q13_13 q13_14 q13_15
    clear hb
    go_wp2_with fail
    refine (markSchool_any D P Q Ag N cg _ _ 1 _ (by omega) (by omega) (by omega) o14_g.out).mono ?_
    rintro e w15 ⟨rfl, ho, hg⟩
    have s15 : w14.heap.size ≤ w15.heap.size := (by have := hg.size; (try simp at this); omega)
    have z15_0 : w.heap.size < w15.heap.size := (by omega)
    have z15_1 : w4.heap.size < w15.heap.size := (by omega)
    have z15_2 : w5.heap.size < w15.heap.size := (by omega)
    have z15_3 : w7.heap.size < w15.heap.size := (by omega)
    have q15_0 : w15.cell? ⟨w.heap.size, 0, none⟩ = some (.int .i64 day) := cell_far_grown hg (own_far_lt (b := w.heap.size) oc_g.out (by omega)) q14_0
    have q15_1 : w15.cell? ⟨w.heap.size, 1, none⟩ = some (.slice A n c) := cell_far_grown hg (own_far_lt (b := w.heap.size) oc_g.out (by omega)) q14_1
    have q15_2 : w15.cell? ⟨w.heap.size, 2, none⟩ = some (.int .i64 pa) := cell_far_grown hg (own_far_lt (b := w.heap.size) oc_g.out (by omega)) q14_2
    have q15_3 : w15.cell? ⟨w.heap.size, 3, none⟩ = some (.int .i64 le) := cell_far_grown hg (own_far_lt (b := w.heap.size) oc_g.out (by omega)) q14_3
    have q15_4 : w15.cell? ⟨w4.heap.size, 0, none⟩ = some (.int .i64 D) := cell_far_grown hg (own_far_lt (b := w4.heap.size) oc_g.out (by omega)) q14_4
    have q15_5 : w15.cell? ⟨w4.heap.size, 1, none⟩ = some (.slice Aw N cw) := cell_far_grown hg (own_far_lt (b := w4.heap.size) oc_g.out (by omega)) q14_5
    have q15_6 : w15.cell? ⟨w4.heap.size, 2, none⟩ = some (.int .i64 P) := cell_far_grown hg (own_far_lt (b := w4.heap.size) oc_g.out (by omega)) q14_6
    have q15_7 : w15.cell? ⟨w4.heap.size, 3, none⟩ = some (.int .i64 Q) := cell_far_grown hg (own_far_lt (b := w4.heap.size) oc_g.out (by omega)) q14_7
    have q15_8 : w15.cell? ⟨w5.heap.size, 0, none⟩ = some (.int .i64 day) := cell_far_grown hg (own_far_lt (b := w5.heap.size) oc_g.out (by omega)) q14_8
    have q15_9 : w15.cell? ⟨w5.heap.size, 1, none⟩ = some (.slice Ax n cx) := cell_far_grown hg (own_far_lt (b := w5.heap.size) oc_g.out (by omega)) q14_9
    have q15_10 : w15.cell? ⟨w5.heap.size, 2, none⟩ = some (.int .i64 pa) := cell_far_grown hg (own_far_lt (b := w5.heap.size) oc_g.out (by omega)) q14_10
    have q15_11 : w15.cell? ⟨w5.heap.size, 3, none⟩ = some (.int .i64 le) := cell_far_grown hg (own_far_lt (b := w5.heap.size) oc_g.out (by omega)) q14_11
    have q15_12 : w15.cell? ⟨w7.heap.size, 0, none⟩ = some (.int .i64 D) := cell_far_grown hg (own_far_ge (b := w7.heap.size) oc_g.out (by omega)) q14_12
    have q15_13 : w15.cell? ⟨w7.heap.size, 1, none⟩ = some (.slice Ag N cg) := cell_far_grown hg (own_far_ge (b := w7.heap.size) oc_g.out (by omega)) q14_13
    have q15_14 : w15.cell? ⟨w7.heap.size, 2, none⟩ = some (.int .i64 P) := cell_far_grown hg (own_far_ge (b := w7.heap.size) oc_g.out (by omega)) q14_14
    have q15_15 : w15.cell? ⟨w7.heap.size, 3, none⟩ = some (.int .i64 Q) := cell_far_grown hg (own_far_ge (b := w7.heap.size) oc_g.out (by omega)) q14_15
    have b15 := Lib.hid (below_grown' o14_g.out (by omega) b14.out hg)
    have t15 : w.heap.size ≤ w15.heap.size := b15.out.size
    have o15_w := Lib.hid (o14_w.out.kept hg (own_ne' oc_w.out oc_g.out (by omega)))
    have o15_x := Lib.hid (o14_x.out.kept hg (own_ne' oc_x.out oc_g.out (by omega)))
    have o15_y := Lib.hid (o14_y.out.kept hg (own_ne' oc_y.out oc_g.out (by omega)))
    have o15_z := Lib.hid (o14_z.out.kept hg (own_ne oc_g.out oc_z.out (by omega)))
    clear q14_0 q14_1 q14_2 q14_3 q14_4 q14_5 q14_6 q14_7 q14_8 q14_9 q14_10 q14_11 q14_12 q14_13 q14_14 q14_15
    have o15_g := Lib.hid ho
    clear ho hg
    go_wp2_with fail
    refine (heldSchool_any D P Q Ag N cg 1 _ (by omega) (by omega) (by omega) (Reads.of_own o15_g.out)).mono ?_
    rintro e w16 ⟨rfl, hb⟩
    have s16 : w15.heap.size ≤ w16.heap.size := (by have := hb.size; (try simp at this); omega)
    have z16_0 : w.heap.size < w16.heap.size := (by omega)
    have z16_1 : w4.heap.size < w16.heap.size := (by omega)
    have z16_2 : w5.heap.size < w16.heap.size := (by omega)
    have z16_3 : w7.heap.size < w16.heap.size := (by omega)
    have q16_0 : w16.cell? ⟨w.heap.size, 0, none⟩ = some (.int .i64 day) := ext_cell hb q15_0
    have q16_1 : w16.cell? ⟨w.heap.size, 1, none⟩ = some (.slice A n c) := ext_cell hb q15_1
    have q16_2 : w16.cell? ⟨w.heap.size, 2, none⟩ = some (.int .i64 pa) := ext_cell hb q15_2
    have q16_3 : w16.cell? ⟨w.heap.size, 3, none⟩ = some (.int .i64 le) := ext_cell hb q15_3
    have q16_4 : w16.cell? ⟨w4.heap.size, 0, none⟩ = some (.int .i64 D) := ext_cell hb q15_4
    have q16_5 : w16.cell? ⟨w4.heap.size, 1, none⟩ = some (.slice Aw N cw) := ext_cell hb q15_5
    have q16_6 : w16.cell? ⟨w4.heap.size, 2, none⟩ = some (.int .i64 P) := ext_cell hb q15_6
    have q16_7 : w16.cell? ⟨w4.heap.size, 3, none⟩ = some (.int .i64 Q) := ext_cell hb q15_7
    have q16_8 : w16.cell? ⟨w5.heap.size, 0, none⟩ = some (.int .i64 day) := ext_cell hb q15_8
    have q16_9 : w16.cell? ⟨w5.heap.size, 1, none⟩ = some (.slice Ax n cx) := ext_cell hb q15_9
    have q16_10 : w16.cell? ⟨w5.heap.size, 2, none⟩ = some (.int .i64 pa) := ext_cell hb q15_10
    have q16_11 : w16.cell? ⟨w5.heap.size, 3, none⟩ = some (.int .i64 le) := ext_cell hb q15_11
    have q16_12 : w16.cell? ⟨w7.heap.size, 0, none⟩ = some (.int .i64 D) := ext_cell hb q15_12
    have q16_13 : w16.cell? ⟨w7.heap.size, 1, none⟩ = some (.slice Ag N cg) := ext_cell hb q15_13
    have q16_14 : w16.cell? ⟨w7.heap.size, 2, none⟩ = some (.int .i64 P) := ext_cell hb q15_14
    have q16_15 : w16.cell? ⟨w7.heap.size, 3, none⟩ = some (.int .i64 Q) := ext_cell hb q15_15
    have b16 := Lib.hid (ext_trans b15.out hb)
    have t16 : w.heap.size ≤ w16.heap.size := b16.out.size
    have o16_w := Lib.hid (own_ext o15_w.out hb)
    have o16_x := Lib.hid (own_ext o15_x.out hb)
    have o16_y := Lib.hid (own_ext o15_y.out hb)
    have o16_g := Lib.hid (own_ext o15_g.out hb)
    have o16_z := Lib.hid (own_ext o15_z.out hb)
    clear q15_0 q15_1 q15_2 q15_3 q15_4 q15_5 q15_6 q15_7 q15_8 q15_9 q15_10 q15_11 q15_12 q15_13 q15_14 q15_15
    clear hb
    go_wp2_with fail
    refine (toSchool_any day pa le A n c l _ hn ((H.out.ext b16.out (Nat.le_refl _)).more (by first | omega | (simp <;> omega)))).mono ?_
    rintro e w17 ⟨Ap, cp, rfl, ho_p, hb⟩
    have s17 : w16.heap.size ≤ w17.heap.size := (by have := hb.size; (try simp at this); omega)
    have z17_0 : w.heap.size < w17.heap.size := (by omega)
    have z17_1 : w4.heap.size < w17.heap.size := (by omega)
    have z17_2 : w5.heap.size < w17.heap.size := (by omega)
    have z17_3 : w7.heap.size < w17.heap.size := (by omega)
    have q17_0 : w17.cell? ⟨w.heap.size, 0, none⟩ = some (.int .i64 day) := ext_cell hb q16_0
    have q17_1 : w17.cell? ⟨w.heap.size, 1, none⟩ = some (.slice A n c) := ext_cell hb q16_1
    have q17_2 : w17.cell? ⟨w.heap.size, 2, none⟩ = some (.int .i64 pa) := ext_cell hb q16_2
    have q17_3 : w17.cell? ⟨w.heap.size, 3, none⟩ = some (.int .i64 le) := ext_cell hb q16_3
    have q17_4 : w17.cell? ⟨w4.heap.size, 0, none⟩ = some (.int .i64 D) := ext_cell hb q16_4
    have q17_5 : w17.cell? ⟨w4.heap.size, 1, none⟩ = some (.slice Aw N cw) := ext_cell hb q16_5
    have q17_6 : w17.cell? ⟨w4.heap.size, 2, none⟩ = some (.int .i64 P) := ext_cell hb q16_6
    have q17_7 : w17.cell? ⟨w4.heap.size, 3, none⟩ = some (.int .i64 Q) := ext_cell hb q16_7
    have q17_8 : w17.cell? ⟨w5.heap.size, 0, none⟩ = some (.int .i64 day) := ext_cell hb q16_8
    have q17_9 : w17.cell? ⟨w5.heap.size, 1, none⟩ = some (.slice Ax n cx) := ext_cell hb q16_9
    have q17_10 : w17.cell? ⟨w5.heap.size, 2, none⟩ = some (.int .i64 pa) := ext_cell hb q16_10
    have q17_11 : w17.cell? ⟨w5.heap.size, 3, none⟩ = some (.int .i64 le) := ext_cell hb q16_11
    have q17_12 : w17.cell? ⟨w7.heap.size, 0, none⟩ = some (.int .i64 D) := ext_cell hb q16_12
    have q17_13 : w17.cell? ⟨w7.heap.size, 1, none⟩ = some (.slice Ag N cg) := ext_cell hb q16_13
    have q17_14 : w17.cell? ⟨w7.heap.size, 2, none⟩ = some (.int .i64 P) := ext_cell hb q16_14
    have q17_15 : w17.cell? ⟨w7.heap.size, 3, none⟩ = some (.int .i64 Q) := ext_cell hb q16_15
    have b17 := Lib.hid (ext_trans b16.out hb)
    have t17 : w.heap.size ≤ w17.heap.size := b17.out.size
    have o17_w := Lib.hid (own_ext o16_w.out hb)
    have o17_x := Lib.hid (own_ext o16_x.out hb)
    have o17_y := Lib.hid (own_ext o16_y.out hb)
    have o17_g := Lib.hid (own_ext o16_g.out hb)
    have o17_z := Lib.hid (own_ext o16_z.out hb)
    clear q16_0 q16_1 q16_2 q16_3 q16_4 q16_5 q16_6 q16_7 q16_8 q16_9 q16_10 q16_11 q16_12 q16_13 q16_14 q16_15
    have oc_p := Lib.hid (own_base (base' := w16.heap.size + 0) ho_p (by simp))
    clear ho_p
    clear hb
    go_wp2_with fail
    refine (toSchoolStepS_any B m cb xs _ hm ((HX.out.ext b17.out (Nat.le_refl _)).more (by first | omega | (simp <;> omega)))).mono ?_
    rintro e w18 ⟨Ar, cr, rfl, ho_r, hb⟩
    have s18 : w17.heap.size ≤ w18.heap.size := (by have := hb.size; (try simp at this); omega)
    have z18_0 : w.heap.size < w18.heap.size := (by omega)
    have z18_1 : w4.heap.size < w18.heap.size := (by omega)
    have z18_2 : w5.heap.size < w18.heap.size := (by omega)
    have z18_3 : w7.heap.size < w18.heap.size := (by omega)
    have q18_0 : w18.cell? ⟨w.heap.size, 0, none⟩ = some (.int .i64 day) := ext_cell hb q17_0
    have q18_1 : w18.cell? ⟨w.heap.size, 1, none⟩ = some (.slice A n c) := ext_cell hb q17_1
    have q18_2 : w18.cell? ⟨w.heap.size, 2, none⟩ = some (.int .i64 pa) := ext_cell hb q17_2
    have q18_3 : w18.cell? ⟨w.heap.size, 3, none⟩ = some (.int .i64 le) := ext_cell hb q17_3
    have q18_4 : w18.cell? ⟨w4.heap.size, 0, none⟩ = some (.int .i64 D) := ext_cell hb q17_4
    have q18_5 : w18.cell? ⟨w4.heap.size, 1, none⟩ = some (.slice Aw N cw) := ext_cell hb q17_5
    have q18_6 : w18.cell? ⟨w4.heap.size, 2, none⟩ = some (.int .i64 P) := ext_cell hb q17_6
    have q18_7 : w18.cell? ⟨w4.heap.size, 3, none⟩ = some (.int .i64 Q) := ext_cell hb q17_7
    have q18_8 : w18.cell? ⟨w5.heap.size, 0, none⟩ = some (.int .i64 day) := ext_cell hb q17_8
    have q18_9 : w18.cell? ⟨w5.heap.size, 1, none⟩ = some (.slice Ax n cx) := ext_cell hb q17_9
    have q18_10 : w18.cell? ⟨w5.heap.size, 2, none⟩ = some (.int .i64 pa) := ext_cell hb q17_10
    have q18_11 : w18.cell? ⟨w5.heap.size, 3, none⟩ = some (.int .i64 le) := ext_cell hb q17_11
    have q18_12 : w18.cell? ⟨w7.heap.size, 0, none⟩ = some (.int .i64 D) := ext_cell hb q17_12
    have q18_13 : w18.cell? ⟨w7.heap.size, 1, none⟩ = some (.slice Ag N cg) := ext_cell hb q17_13
    have q18_14 : w18.cell? ⟨w7.heap.size, 2, none⟩ = some (.int .i64 P) := ext_cell hb q17_14
    have q18_15 : w18.cell? ⟨w7.heap.size, 3, none⟩ = some (.int .i64 Q) := ext_cell hb q17_15
    have b18 := Lib.hid (ext_trans b17.out hb)
    have t18 : w.heap.size ≤ w18.heap.size := b18.out.size
    have o18_w := Lib.hid (own_ext o17_w.out hb)
    have o18_x := Lib.hid (own_ext o17_x.out hb)
    have o18_y := Lib.hid (own_ext o17_y.out hb)
    have o18_g := Lib.hid (own_ext o17_g.out hb)
    have o18_z := Lib.hid (own_ext o17_z.out hb)
    have o18_p := Lib.hid (own_ext oc_p.out hb)
    clear q17_0 q17_1 q17_2 q17_3 q17_4 q17_5 q17_6 q17_7 q17_8 q17_9 q17_10 q17_11 q17_12 q17_13 q17_14 q17_15
    have oc_r := Lib.hid (own_base (base' := w17.heap.size + 0) ho_r (by simp))
    clear ho_r
    clear hb
    have hslp := slOk_own o18_p.out
    go_wp2_with fail
    refine (HB.out _ Ap cp Ar cr hslp (Reads.of_own o18_p.out) (Reads.of_own oc_r.out)).mono ?_
    rintro e w19 ⟨Ah, ch, rfl, ho_h, hb⟩
    have s19 : w18.heap.size ≤ w19.heap.size := (by have := hb.size; (try simp at this); omega)
    have z19_0 : w.heap.size < w19.heap.size := (by omega)
    have z19_1 : w4.heap.size < w19.heap.size := (by omega)
    have z19_2 : w5.heap.size < w19.heap.size := (by omega)
    have z19_3 : w7.heap.size < w19.heap.size := (by omega)
    have q19_0 : w19.cell? ⟨w.heap.size, 0, none⟩ = some (.int .i64 day) := ext_cell hb q18_0
    have q19_1 : w19.cell? ⟨w.heap.size, 1, none⟩ = some (.slice A n c) := ext_cell hb q18_1
    have q19_2 : w19.cell? ⟨w.heap.size, 2, none⟩ = some (.int .i64 pa) := ext_cell hb q18_2
    have q19_3 : w19.cell? ⟨w.heap.size, 3, none⟩ = some (.int .i64 le) := ext_cell hb q18_3
    have q19_4 : w19.cell? ⟨w4.heap.size, 0, none⟩ = some (.int .i64 D) := ext_cell hb q18_4
    have q19_5 : w19.cell? ⟨w4.heap.size, 1, none⟩ = some (.slice Aw N cw) := ext_cell hb q18_5
    have q19_6 : w19.cell? ⟨w4.heap.size, 2, none⟩ = some (.int .i64 P) := ext_cell hb q18_6
    have q19_7 : w19.cell? ⟨w4.heap.size, 3, none⟩ = some (.int .i64 Q) := ext_cell hb q18_7
    have q19_8 : w19.cell? ⟨w5.heap.size, 0, none⟩ = some (.int .i64 day) := ext_cell hb q18_8
    have q19_9 : w19.cell? ⟨w5.heap.size, 1, none⟩ = some (.slice Ax n cx) := ext_cell hb q18_9
    have q19_10 : w19.cell? ⟨w5.heap.size, 2, none⟩ = some (.int .i64 pa) := ext_cell hb q18_10
    have q19_11 : w19.cell? ⟨w5.heap.size, 3, none⟩ = some (.int .i64 le) := ext_cell hb q18_11
    have q19_12 : w19.cell? ⟨w7.heap.size, 0, none⟩ = some (.int .i64 D) := ext_cell hb q18_12
    have q19_13 : w19.cell? ⟨w7.heap.size, 1, none⟩ = some (.slice Ag N cg) := ext_cell hb q18_13
    have q19_14 : w19.cell? ⟨w7.heap.size, 2, none⟩ = some (.int .i64 P) := ext_cell hb q18_14
    have q19_15 : w19.cell? ⟨w7.heap.size, 3, none⟩ = some (.int .i64 Q) := ext_cell hb q18_15
    have b19 := Lib.hid (ext_trans b18.out hb)
    have t19 : w.heap.size ≤ w19.heap.size := b19.out.size
    have o19_w := Lib.hid (own_ext o18_w.out hb)
    have o19_x := Lib.hid (own_ext o18_x.out hb)
    have o19_y := Lib.hid (own_ext o18_y.out hb)
    have o19_g := Lib.hid (own_ext o18_g.out hb)
    have o19_z := Lib.hid (own_ext o18_z.out hb)
    have o19_p := Lib.hid (own_ext o18_p.out hb)
    have o19_r := Lib.hid (own_ext oc_r.out hb)
    clear q18_0 q18_1 q18_2 q18_3 q18_4 q18_5 q18_6 q18_7 q18_8 q18_9 q18_10 q18_11 q18_12 q18_13 q18_14 q18_15
    have oc_h := Lib.hid (own_base (base' := w18.heap.size + 0) ho_h (by simp))
    clear ho_h
    clear hb
    go_wp2_with fail
    refine (eqSchool_same D P Q Ah Aw N ch cw L _ (by omega) (Reads.of_own (oc_h.out.alloc _)) (Reads.of_own (o19_w.out.alloc _))).mono ?_
    rintro e w20 ⟨rfl, hb⟩
    have s20 : w19.heap.size + 1 ≤ w20.heap.size := (by have := hb.size; (try simp at this); omega)
    have z20_0 : w.heap.size < w20.heap.size := (by omega)
    have z20_1 : w4.heap.size < w20.heap.size := (by omega)
    have z20_2 : w5.heap.size < w20.heap.size := (by omega)
    have z20_3 : w7.heap.size < w20.heap.size := (by omega)
    have z20_4 : w19.heap.size < w20.heap.size := (by omega)
    have q20_0 : w20.cell? ⟨w.heap.size, 0, none⟩ = some (.int .i64 day) := ext_cell hb (cell_old q19_0 _)
    have q20_1 : w20.cell? ⟨w.heap.size, 1, none⟩ = some (.slice A n c) := ext_cell hb (cell_old q19_1 _)
    have q20_2 : w20.cell? ⟨w.heap.size, 2, none⟩ = some (.int .i64 pa) := ext_cell hb (cell_old q19_2 _)
    have q20_3 : w20.cell? ⟨w.heap.size, 3, none⟩ = some (.int .i64 le) := ext_cell hb (cell_old q19_3 _)
    have q20_4 : w20.cell? ⟨w4.heap.size, 0, none⟩ = some (.int .i64 D) := ext_cell hb (cell_old q19_4 _)
    have q20_5 : w20.cell? ⟨w4.heap.size, 1, none⟩ = some (.slice Aw N cw) := ext_cell hb (cell_old q19_5 _)
    have q20_6 : w20.cell? ⟨w4.heap.size, 2, none⟩ = some (.int .i64 P) := ext_cell hb (cell_old q19_6 _)
    have q20_7 : w20.cell? ⟨w4.heap.size, 3, none⟩ = some (.int .i64 Q) := ext_cell hb (cell_old q19_7 _)
    have q20_8 : w20.cell? ⟨w5.heap.size, 0, none⟩ = some (.int .i64 day) := ext_cell hb (cell_old q19_8 _)
    have q20_9 : w20.cell? ⟨w5.heap.size, 1, none⟩ = some (.slice Ax n cx) := ext_cell hb (cell_old q19_9 _)
    have q20_10 : w20.cell? ⟨w5.heap.size, 2, none⟩ = some (.int .i64 pa) := ext_cell hb (cell_old q19_10 _)
    have q20_11 : w20.cell? ⟨w5.heap.size, 3, none⟩ = some (.int .i64 le) := ext_cell hb (cell_old q19_11 _)
    have q20_12 : w20.cell? ⟨w7.heap.size, 0, none⟩ = some (.int .i64 D) := ext_cell hb (cell_old q19_12 _)
    have q20_13 : w20.cell? ⟨w7.heap.size, 1, none⟩ = some (.slice Ag N cg) := ext_cell hb (cell_old q19_13 _)
    have q20_14 : w20.cell? ⟨w7.heap.size, 2, none⟩ = some (.int .i64 P) := ext_cell hb (cell_old q19_14 _)
    have q20_15 : w20.cell? ⟨w7.heap.size, 3, none⟩ = some (.int .i64 Q) := ext_cell hb (cell_old q19_15 _)
    have q20_16 : w20.cell? ⟨w19.heap.size, 0, none⟩ = some (.int .i64 D) := ext_cell hb (by simp [go_sem])
    have q20_17 : w20.cell? ⟨w19.heap.size, 1, none⟩ = some (.slice Ah N ch) := ext_cell hb (by simp [go_sem])
    have q20_18 : w20.cell? ⟨w19.heap.size, 2, none⟩ = some (.int .i64 P) := ext_cell hb (by simp [go_sem])
    have q20_19 : w20.cell? ⟨w19.heap.size, 3, none⟩ = some (.int .i64 Q) := ext_cell hb (by simp [go_sem])
    have b20 := Lib.hid (ext_trans (ext_alloc b19.out _) hb)
    have t20 : w.heap.size ≤ w20.heap.size := b20.out.size
    have o20_w := Lib.hid (own_ext (o19_w.out.alloc _) hb)
    have o20_x := Lib.hid (own_ext (o19_x.out.alloc _) hb)
    have o20_y := Lib.hid (own_ext (o19_y.out.alloc _) hb)
    have o20_g := Lib.hid (own_ext (o19_g.out.alloc _) hb)
    have o20_z := Lib.hid (own_ext (o19_z.out.alloc _) hb)
    have o20_h := Lib.hid (own_ext (oc_h.out.alloc _) hb)
    clear q19_0 q19_1 q19_2 q19_3 q19_4 q19_5 q19_6 q19_7 q19_8 q19_9 q19_10 q19_11 q19_12 q19_13 q19_14 q19_15
    clear hb
    go_wp2_with fail
    refine (heldSchool_any D P Q Ag N cg 1 _ (by omega) (by omega) (by omega) (Reads.of_own o20_g.out)).mono ?_
    rintro e w21 ⟨rfl, hb⟩
    have s21 : w20.heap.size ≤ w21.heap.size := (by have := hb.size; (try simp at this); omega)
    have z21_0 : w.heap.size < w21.heap.size := (by omega)
    have z21_1 : w4.heap.size < w21.heap.size := (by omega)
    have z21_2 : w5.heap.size < w21.heap.size := (by omega)
    have z21_3 : w7.heap.size < w21.heap.size := (by omega)
    have z21_4 : w19.heap.size < w21.heap.size := (by omega)
    have q21_0 : w21.cell? ⟨w.heap.size, 0, none⟩ = some (.int .i64 day) := ext_cell hb q20_0
    have q21_1 : w21.cell? ⟨w.heap.size, 1, none⟩ = some (.slice A n c) := ext_cell hb q20_1
    have q21_2 : w21.cell? ⟨w.heap.size, 2, none⟩ = some (.int .i64 pa) := ext_cell hb q20_2
    have q21_3 : w21.cell? ⟨w.heap.size, 3, none⟩ = some (.int .i64 le) := ext_cell hb q20_3
    have q21_4 : w21.cell? ⟨w4.heap.size, 0, none⟩ = some (.int .i64 D) := ext_cell hb q20_4
    have q21_5 : w21.cell? ⟨w4.heap.size, 1, none⟩ = some (.slice Aw N cw) := ext_cell hb q20_5
    have q21_6 : w21.cell? ⟨w4.heap.size, 2, none⟩ = some (.int .i64 P) := ext_cell hb q20_6
    have q21_7 : w21.cell? ⟨w4.heap.size, 3, none⟩ = some (.int .i64 Q) := ext_cell hb q20_7
    have q21_8 : w21.cell? ⟨w5.heap.size, 0, none⟩ = some (.int .i64 day) := ext_cell hb q20_8
    have q21_9 : w21.cell? ⟨w5.heap.size, 1, none⟩ = some (.slice Ax n cx) := ext_cell hb q20_9
    have q21_10 : w21.cell? ⟨w5.heap.size, 2, none⟩ = some (.int .i64 pa) := ext_cell hb q20_10
    have q21_11 : w21.cell? ⟨w5.heap.size, 3, none⟩ = some (.int .i64 le) := ext_cell hb q20_11
    have q21_12 : w21.cell? ⟨w7.heap.size, 0, none⟩ = some (.int .i64 D) := ext_cell hb q20_12
    have q21_13 : w21.cell? ⟨w7.heap.size, 1, none⟩ = some (.slice Ag N cg) := ext_cell hb q20_13
    have q21_14 : w21.cell? ⟨w7.heap.size, 2, none⟩ = some (.int .i64 P) := ext_cell hb q20_14
    have q21_15 : w21.cell? ⟨w7.heap.size, 3, none⟩ = some (.int .i64 Q) := ext_cell hb q20_15
    have q21_16 : w21.cell? ⟨w19.heap.size, 0, none⟩ = some (.int .i64 D) := ext_cell hb q20_16
    have q21_17 : w21.cell? ⟨w19.heap.size, 1, none⟩ = some (.slice Ah N ch) := ext_cell hb q20_17
    have q21_18 : w21.cell? ⟨w19.heap.size, 2, none⟩ = some (.int .i64 P) := ext_cell hb q20_18
    have q21_19 : w21.cell? ⟨w19.heap.size, 3, none⟩ = some (.int .i64 Q) := ext_cell hb q20_19
    have b21 := Lib.hid (ext_trans b20.out hb)
    have t21 : w.heap.size ≤ w21.heap.size := b21.out.size
    have o21_w := Lib.hid (own_ext o20_w.out hb)
    have o21_x := Lib.hid (own_ext o20_x.out hb)
    have o21_y := Lib.hid (own_ext o20_y.out hb)
    have o21_g := Lib.hid (own_ext o20_g.out hb)
    have o21_z := Lib.hid (own_ext o20_z.out hb)
    have o21_h := Lib.hid (own_ext o20_h.out hb)
    clear q20_0 q20_1 q20_2 q20_3 q20_4 q20_5 q20_6 q20_7 q20_8 q20_9 q20_10 q20_11 q20_12 q20_13 q20_14 q20_15 q20_16 q20_17 q20_18 q20_19
    clear hb
    go_wp2
    go_ret
    exact ⟨rfl, b21.out⟩
end Go.Proofs.Ytclihlihaigddaa
