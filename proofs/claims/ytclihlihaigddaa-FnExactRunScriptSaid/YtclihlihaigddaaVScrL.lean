/- The law of RunScript, walked. -/
import Derived.Test.YtclihlihaigddaaVM13
import Derived.Test.YtclihlihaigddaaVM8
namespace Go.Proofs.Ytclihlihaigddaa
open Go.RowKit
set_option linter.unusedVariables false
set_option linter.unusedSimpArgs false
set_option maxRecDepth 100000 in
set_option maxHeartbeats 8000000 in
theorem law_RunScript (day pa le : Int) (d p : ByteArray) (z : Int) (A : Option Addr) (n c : Nat) (l : List R5) (line : ByteArray) (w : World) (hn : n ≤ maxLen) (hd : d.size ≤ maxLen) (hp : p.size ≤ maxLen) (hline : line.size ≤ maxLen) (h : Reads w w.heap.size 5 A n (rowsV l)) :
 Calls Try.prog 8 #[conV day A n c pa le d p z, .string line] w fun e w' => e = .returned (.bool true) ∧ Below w.heap.size w w' := by
 unfold maxLen at hn hd hp hline
 by_cases hll : (1048576 : Int) < line.size
 · clear h
   go_enter Try.func8, Try.ntmps8
   go_wp2
   go_ret
   exact ⟨rfl, (by repeat (first | exact ext_refl _ | assumption | refine ext_alloc ?_ _ | refine ext_drew ?_ | refine ext_drewN ?_ _ | refine ext_set ?_ (by simp <;> omega) _ | refine ext_trans ?_ (by assumption)))⟩
 obtain ⟨s, hs, hS⟩ := szConsole_any day pa le d p z A n c (by omega) (by omega) (by omega)
 have HS := Lib.hid hS
 have H := Lib.hid h
 clear hS h
 by_cases h0 : s < 0
 · clear hs
   go_enter Try.func8, Try.ntmps8
   go_wp2_with (go_at_call 20; refine (HS.out _).mono ?_; rintro e w' ⟨rfl, hb⟩)
   go_ret
   exact ⟨rfl, (by repeat (first | exact ext_refl _ | assumption | refine ext_alloc ?_ _ | refine ext_drew ?_ | refine ext_drewN ?_ _ | refine ext_set ?_ (by simp <;> omega) _ | refine ext_trans ?_ (by assumption)))⟩
 obtain ⟨hn, hd, hp⟩ := hs (by omega)
 have hl1 : line.size ≤ 1048576 := by omega
 clear hs
 have hN := scR_len ((day, l, pa, le), d, p, z) line
 have HA := Lib.hid (fun (w : World) (A : Option Addr) (c : Nat) hA h => specScr_any day pa le d p z A n c l line w hn hd hp hl1 hA h)
 have HB := Lib.hid (fun (w : World) (A : Option Addr) (c : Nat) hA h => implScr_any day pa le d p z A n c l line w hn hd hp hl1 hA h)
 obtain ⟨ok, hok⟩ : ∃ ok, (scO ((day, l, pa, le), d, p, z) line).isSome = ok := ⟨_, rfl⟩
 obtain ⟨L, hL⟩ : ∃ L, scR ((day, l, pa, le), d, p, z) line = L := ⟨_, rfl⟩
 rw [hok, hL] at HA HB
 rw [hL] at hN
 obtain ⟨N, hNL⟩ : ∃ N, L.length = N := ⟨_, rfl⟩
 rw [hNL] at HA HB hN
 clear hok hL hNL
 go_enter Try.func8, Try.ntmps8
 go_wp2_with fail
 refine (HS.out _).mono ?_
 rintro e w1 ⟨rfl, hb⟩
 have s1 : w.heap.size + 1 ≤ w1.heap.size := (by have := hb.size; (try simp at this); omega)
 have z1_0 : w.heap.size < w1.heap.size := (by omega)
 have q1_0 : w1.cell? ⟨w.heap.size, 0, none⟩ = some (.int .i64 day) := ext_cell hb (by simp [go_sem])
 have q1_1 : w1.cell? ⟨w.heap.size, 1, none⟩ = some (.slice A n c) := ext_cell hb (by simp [go_sem])
 have q1_2 : w1.cell? ⟨w.heap.size, 2, none⟩ = some (.int .i64 pa) := ext_cell hb (by simp [go_sem])
 have q1_3 : w1.cell? ⟨w.heap.size, 3, none⟩ = some (.int .i64 le) := ext_cell hb (by simp [go_sem])
 have q1_4 : w1.cell? ⟨w.heap.size, 4, none⟩ = some (.string d) := ext_cell hb (by simp [go_sem])
 have q1_5 : w1.cell? ⟨w.heap.size, 5, none⟩ = some (.string p) := ext_cell hb (by simp [go_sem])
 have q1_6 : w1.cell? ⟨w.heap.size, 6, none⟩ = some (.int .i64 z) := ext_cell hb (by simp [go_sem])
 have b1 := Lib.hid (ext_trans (ext_alloc (ext_refl w) _) hb)
 have t1 : w.heap.size ≤ w1.heap.size := b1.out.size
 clear hb
 go_wp2_with fail
 refine (toConsole_any day pa le d p z A n c l _ hn ((H.out.ext b1.out (Nat.le_refl _)).more (by first | omega | (simp <;> omega)))).mono ?_
 rintro e w2 ⟨Av, cv, rfl, ho_v, hb⟩
 have s2 : w1.heap.size ≤ w2.heap.size := (by have := hb.size; (try simp at this); omega)
 have z2_0 : w.heap.size < w2.heap.size := (by omega)
 have q2_0 : w2.cell? ⟨w.heap.size, 0, none⟩ = some (.int .i64 day) := ext_cell hb q1_0
 have q2_1 : w2.cell? ⟨w.heap.size, 1, none⟩ = some (.slice A n c) := ext_cell hb q1_1
 have q2_2 : w2.cell? ⟨w.heap.size, 2, none⟩ = some (.int .i64 pa) := ext_cell hb q1_2
 have q2_3 : w2.cell? ⟨w.heap.size, 3, none⟩ = some (.int .i64 le) := ext_cell hb q1_3
 have q2_4 : w2.cell? ⟨w.heap.size, 4, none⟩ = some (.string d) := ext_cell hb q1_4
 have q2_5 : w2.cell? ⟨w.heap.size, 5, none⟩ = some (.string p) := ext_cell hb q1_5
 have q2_6 : w2.cell? ⟨w.heap.size, 6, none⟩ = some (.int .i64 z) := ext_cell hb q1_6
 have b2 := Lib.hid (ext_trans b1.out hb)
 have t2 : w.heap.size ≤ w2.heap.size := b2.out.size
 clear q1_0 q1_1 q1_2 q1_3 q1_4 q1_5 q1_6
 have oc_v := Lib.hid (own_base (base' := w1.heap.size + 0) ho_v (by simp))
 clear ho_v
 clear hb
 have hslv := slOk_own oc_v.out
 go_wp2_with fail
 refine (HA.out _ Av cv hslv (Reads.of_own oc_v.out)).mono ?_
 rintro e w3 ⟨Aw, cw, rfl, ho_w, hb⟩
 have s3 : w2.heap.size ≤ w3.heap.size := (by have := hb.size; (try simp at this); omega)
 have z3_0 : w.heap.size < w3.heap.size := (by omega)
 have q3_0 : w3.cell? ⟨w.heap.size, 0, none⟩ = some (.int .i64 day) := ext_cell hb q2_0
 have q3_1 : w3.cell? ⟨w.heap.size, 1, none⟩ = some (.slice A n c) := ext_cell hb q2_1
 have q3_2 : w3.cell? ⟨w.heap.size, 2, none⟩ = some (.int .i64 pa) := ext_cell hb q2_2
 have q3_3 : w3.cell? ⟨w.heap.size, 3, none⟩ = some (.int .i64 le) := ext_cell hb q2_3
 have q3_4 : w3.cell? ⟨w.heap.size, 4, none⟩ = some (.string d) := ext_cell hb q2_4
 have q3_5 : w3.cell? ⟨w.heap.size, 5, none⟩ = some (.string p) := ext_cell hb q2_5
 have q3_6 : w3.cell? ⟨w.heap.size, 6, none⟩ = some (.int .i64 z) := ext_cell hb q2_6
 have b3 := Lib.hid (ext_trans b2.out hb)
 have t3 : w.heap.size ≤ w3.heap.size := b3.out.size
 have o3_v := Lib.hid (own_ext oc_v.out hb)
 clear q2_0 q2_1 q2_2 q2_3 q2_4 q2_5 q2_6
 have oc_w := Lib.hid (own_base (base' := w2.heap.size + 0) ho_w (by simp))
 clear ho_w
 clear hb
 go_wp2_with fail
 refine (toConsole_any day pa le d p z A n c l _ hn ((H.out.ext b3.out (Nat.le_refl _)).more (by first | omega | (simp <;> omega)))).mono ?_
 rintro e w4 ⟨Ax, cx, rfl, ho_x, hb⟩
 have s4 : w3.heap.size ≤ w4.heap.size := (by have := hb.size; (try simp at this); omega)
 have z4_0 : w.heap.size < w4.heap.size := (by omega)
 have q4_0 : w4.cell? ⟨w.heap.size, 0, none⟩ = some (.int .i64 day) := ext_cell hb q3_0
 have q4_1 : w4.cell? ⟨w.heap.size, 1, none⟩ = some (.slice A n c) := ext_cell hb q3_1
 have q4_2 : w4.cell? ⟨w.heap.size, 2, none⟩ = some (.int .i64 pa) := ext_cell hb q3_2
 have q4_3 : w4.cell? ⟨w.heap.size, 3, none⟩ = some (.int .i64 le) := ext_cell hb q3_3
 have q4_4 : w4.cell? ⟨w.heap.size, 4, none⟩ = some (.string d) := ext_cell hb q3_4
 have q4_5 : w4.cell? ⟨w.heap.size, 5, none⟩ = some (.string p) := ext_cell hb q3_5
 have q4_6 : w4.cell? ⟨w.heap.size, 6, none⟩ = some (.int .i64 z) := ext_cell hb q3_6
 have b4 := Lib.hid (ext_trans b3.out hb)
 have t4 : w.heap.size ≤ w4.heap.size := b4.out.size
 have o4_w := Lib.hid (own_ext oc_w.out hb)
 clear q3_0 q3_1 q3_2 q3_3 q3_4 q3_5 q3_6
 have oc_x := Lib.hid (own_base (base' := w3.heap.size + 0) ho_x (by simp))
 clear ho_x
 clear hb
 have hslx := slOk_own oc_x.out
 go_wp2_with fail
 refine (HB.out _ Ax cx hslx (Reads.of_own (oc_x.out.alloc _))).mono ?_
 rintro e w5 ⟨Ag, cg, rfl, ho_g, hb⟩
 have s5 : w4.heap.size + 1 ≤ w5.heap.size := (by have := hb.size; (try simp at this); omega)
 have z5_0 : w.heap.size < w5.heap.size := (by omega)
 have z5_1 : w4.heap.size < w5.heap.size := (by omega)
 have q5_0 : w5.cell? ⟨w.heap.size, 0, none⟩ = some (.int .i64 day) := ext_cell hb (cell_old q4_0 _)
 have q5_1 : w5.cell? ⟨w.heap.size, 1, none⟩ = some (.slice A n c) := ext_cell hb (cell_old q4_1 _)
 have q5_2 : w5.cell? ⟨w.heap.size, 2, none⟩ = some (.int .i64 pa) := ext_cell hb (cell_old q4_2 _)
 have q5_3 : w5.cell? ⟨w.heap.size, 3, none⟩ = some (.int .i64 le) := ext_cell hb (cell_old q4_3 _)
 have q5_4 : w5.cell? ⟨w.heap.size, 4, none⟩ = some (.string d) := ext_cell hb (cell_old q4_4 _)
 have q5_5 : w5.cell? ⟨w.heap.size, 5, none⟩ = some (.string p) := ext_cell hb (cell_old q4_5 _)
 have q5_6 : w5.cell? ⟨w.heap.size, 6, none⟩ = some (.int .i64 z) := ext_cell hb (cell_old q4_6 _)
 have q5_7 : w5.cell? ⟨w4.heap.size, 0, none⟩ = some (.int .i64 day) := ext_cell hb (by simp [go_sem])
 have q5_8 : w5.cell? ⟨w4.heap.size, 1, none⟩ = some (.slice Ax n cx) := ext_cell hb (by simp [go_sem])
 have q5_9 : w5.cell? ⟨w4.heap.size, 2, none⟩ = some (.int .i64 pa) := ext_cell hb (by simp [go_sem])
 have q5_10 : w5.cell? ⟨w4.heap.size, 3, none⟩ = some (.int .i64 le) := ext_cell hb (by simp [go_sem])
 have q5_11 : w5.cell? ⟨w4.heap.size, 4, none⟩ = some (.string d) := ext_cell hb (by simp [go_sem])
 have q5_12 : w5.cell? ⟨w4.heap.size, 5, none⟩ = some (.string p) := ext_cell hb (by simp [go_sem])
 have q5_13 : w5.cell? ⟨w4.heap.size, 6, none⟩ = some (.int .i64 z) := ext_cell hb (by simp [go_sem])
 have b5 := Lib.hid (ext_trans (ext_alloc b4.out _) hb)
 have t5 : w.heap.size ≤ w5.heap.size := b5.out.size
 have o5_w := Lib.hid (own_ext (o4_w.out.alloc _) hb)
 have o5_x := Lib.hid (own_ext (oc_x.out.alloc _) hb)
 clear q4_0 q4_1 q4_2 q4_3 q4_4 q4_5 q4_6
 have oc_g := Lib.hid (own_base (base' := w4.heap.size + 1) ho_g (by simp))
 clear ho_g
 clear hb
 go_wp2_with fail
 refine (eqStringS_same Ag Aw N cg cw L _ (by omega) (Reads.of_own oc_g.out) (Reads.of_own o5_w.out)).mono ?_
 rintro e w6 ⟨rfl, hb⟩
 have s6 : w5.heap.size ≤ w6.heap.size := (by have := hb.size; (try simp at this); omega)
 have z6_0 : w.heap.size < w6.heap.size := (by omega)
 have z6_1 : w4.heap.size < w6.heap.size := (by omega)
 have q6_0 : w6.cell? ⟨w.heap.size, 0, none⟩ = some (.int .i64 day) := ext_cell hb q5_0
 have q6_1 : w6.cell? ⟨w.heap.size, 1, none⟩ = some (.slice A n c) := ext_cell hb q5_1
 have q6_2 : w6.cell? ⟨w.heap.size, 2, none⟩ = some (.int .i64 pa) := ext_cell hb q5_2
 have q6_3 : w6.cell? ⟨w.heap.size, 3, none⟩ = some (.int .i64 le) := ext_cell hb q5_3
 have q6_4 : w6.cell? ⟨w.heap.size, 4, none⟩ = some (.string d) := ext_cell hb q5_4
 have q6_5 : w6.cell? ⟨w.heap.size, 5, none⟩ = some (.string p) := ext_cell hb q5_5
 have q6_6 : w6.cell? ⟨w.heap.size, 6, none⟩ = some (.int .i64 z) := ext_cell hb q5_6
 have q6_7 : w6.cell? ⟨w4.heap.size, 0, none⟩ = some (.int .i64 day) := ext_cell hb q5_7
 have q6_8 : w6.cell? ⟨w4.heap.size, 1, none⟩ = some (.slice Ax n cx) := ext_cell hb q5_8
 have q6_9 : w6.cell? ⟨w4.heap.size, 2, none⟩ = some (.int .i64 pa) := ext_cell hb q5_9
 have q6_10 : w6.cell? ⟨w4.heap.size, 3, none⟩ = some (.int .i64 le) := ext_cell hb q5_10
 have q6_11 : w6.cell? ⟨w4.heap.size, 4, none⟩ = some (.string d) := ext_cell hb q5_11
 have q6_12 : w6.cell? ⟨w4.heap.size, 5, none⟩ = some (.string p) := ext_cell hb q5_12
 have q6_13 : w6.cell? ⟨w4.heap.size, 6, none⟩ = some (.int .i64 z) := ext_cell hb q5_13
 have b6 := Lib.hid (ext_trans b5.out hb)
 have t6 : w.heap.size ≤ w6.heap.size := b6.out.size
 have o6_w := Lib.hid (own_ext o5_w.out hb)
 have o6_x := Lib.hid (own_ext o5_x.out hb)
 have o6_g := Lib.hid (own_ext oc_g.out hb)
 clear q5_0 q5_1 q5_2 q5_3 q5_4 q5_5 q5_6 q5_7 q5_8 q5_9 q5_10 q5_11 q5_12 q5_13
 clear hb
 go_upto_region 12 with fail
 go_cut [52] (fun s52 wx => s52 = .bool false ∧ Below w6.heap.size w6 wx)
 case first =>
  go_region_held3 (fun w' => w'.cell? ⟨w.heap.size, 0, none⟩ = some (.int .i64 day) ∧ w'.cell? ⟨w.heap.size, 1, none⟩ = some (.slice A n c) ∧ w'.cell? ⟨w.heap.size, 2, none⟩ = some (.int .i64 pa) ∧ w'.cell? ⟨w.heap.size, 3, none⟩ = some (.int .i64 le) ∧ w'.cell? ⟨w.heap.size, 4, none⟩ = some (.string d) ∧ w'.cell? ⟨w.heap.size, 5, none⟩ = some (.string p) ∧ w'.cell? ⟨w.heap.size, 6, none⟩ = some (.int .i64 z) ∧ w'.cell? ⟨w4.heap.size, 0, none⟩ = some (.int .i64 day) ∧ w'.cell? ⟨w4.heap.size, 1, none⟩ = some (.slice Ax n cx) ∧ w'.cell? ⟨w4.heap.size, 2, none⟩ = some (.int .i64 pa) ∧ w'.cell? ⟨w4.heap.size, 3, none⟩ = some (.int .i64 le) ∧ w'.cell? ⟨w4.heap.size, 4, none⟩ = some (.string d) ∧ w'.cell? ⟨w4.heap.size, 5, none⟩ = some (.string p) ∧ w'.cell? ⟨w4.heap.size, 6, none⟩ = some (.int .i64 z)) (first | (go_split_ands; ((repeat' refine And.intro ?_ ?_) <;> with_reducible (repeat (first | assumption | refine cell_drew ?_))))) (first | (go_at_call 22; refine (toConsole_any day pa le d p z A n c l _ hn ((H.out.ext (ext_drew b6.out) (Nat.le_refl _)).more (by first | omega | (simp; omega) | (simp <;> omega)))).mono ?_; rintro e w' ⟨Az, cz, rfl, hoz, hb⟩; have hoz := Lib.hid hoz; have hbY := Lib.hid hb; obtain ⟨hc, hf⟩ := bcell hb; have k0 : w'.cell? ⟨w.heap.size, 0, none⟩ = some (.int .i64 day) := ext_cell hb (by with_reducible (repeat (first | assumption | refine cell_drew ?_))); have k1 : w'.cell? ⟨w.heap.size, 1, none⟩ = some (.slice A n c) := ext_cell hb (by with_reducible (repeat (first | assumption | refine cell_drew ?_))); have k2 : w'.cell? ⟨w.heap.size, 2, none⟩ = some (.int .i64 pa) := ext_cell hb (by with_reducible (repeat (first | assumption | refine cell_drew ?_))); have k3 : w'.cell? ⟨w.heap.size, 3, none⟩ = some (.int .i64 le) := ext_cell hb (by with_reducible (repeat (first | assumption | refine cell_drew ?_))); have k4 : w'.cell? ⟨w.heap.size, 4, none⟩ = some (.string d) := ext_cell hb (by with_reducible (repeat (first | assumption | refine cell_drew ?_))); have k5 : w'.cell? ⟨w.heap.size, 5, none⟩ = some (.string p) := ext_cell hb (by with_reducible (repeat (first | assumption | refine cell_drew ?_))); have k6 : w'.cell? ⟨w.heap.size, 6, none⟩ = some (.int .i64 z) := ext_cell hb (by with_reducible (repeat (first | assumption | refine cell_drew ?_))); have k7 : w'.cell? ⟨w4.heap.size, 0, none⟩ = some (.int .i64 day) := ext_cell hb (by with_reducible (repeat (first | assumption | refine cell_drew ?_))); have k8 : w'.cell? ⟨w4.heap.size, 1, none⟩ = some (.slice Ax n cx) := ext_cell hb (by with_reducible (repeat (first | assumption | refine cell_drew ?_))); have k9 : w'.cell? ⟨w4.heap.size, 2, none⟩ = some (.int .i64 pa) := ext_cell hb (by with_reducible (repeat (first | assumption | refine cell_drew ?_))); have k10 : w'.cell? ⟨w4.heap.size, 3, none⟩ = some (.int .i64 le) := ext_cell hb (by with_reducible (repeat (first | assumption | refine cell_drew ?_))); have k11 : w'.cell? ⟨w4.heap.size, 4, none⟩ = some (.string d) := ext_cell hb (by with_reducible (repeat (first | assumption | refine cell_drew ?_))); have k12 : w'.cell? ⟨w4.heap.size, 5, none⟩ = some (.string p) := ext_cell hb (by with_reducible (repeat (first | assumption | refine cell_drew ?_))); have k13 : w'.cell? ⟨w4.heap.size, 6, none⟩ = some (.int .i64 z) := ext_cell hb (by with_reducible (repeat (first | assumption | refine cell_drew ?_)))) | (go_at_call 17; refine (eqConsole_same day pa le d p z Ax Az n cx cz l _ hn (Reads.of_own (own_ext (World.ownsRow.drew o6_x.out) hbY.out)) (Reads.of_own hoz.out)).mono ?_; rintro e w' ⟨rfl, hb⟩; have hbZ := Lib.hid hb; obtain ⟨hc, hf⟩ := bcell hb; have k0 : w'.cell? ⟨w.heap.size, 0, none⟩ = some (.int .i64 day) := ext_cell hb (by with_reducible (repeat (first | assumption | refine cell_drew ?_))); have k1 : w'.cell? ⟨w.heap.size, 1, none⟩ = some (.slice A n c) := ext_cell hb (by with_reducible (repeat (first | assumption | refine cell_drew ?_))); have k2 : w'.cell? ⟨w.heap.size, 2, none⟩ = some (.int .i64 pa) := ext_cell hb (by with_reducible (repeat (first | assumption | refine cell_drew ?_))); have k3 : w'.cell? ⟨w.heap.size, 3, none⟩ = some (.int .i64 le) := ext_cell hb (by with_reducible (repeat (first | assumption | refine cell_drew ?_))); have k4 : w'.cell? ⟨w.heap.size, 4, none⟩ = some (.string d) := ext_cell hb (by with_reducible (repeat (first | assumption | refine cell_drew ?_))); have k5 : w'.cell? ⟨w.heap.size, 5, none⟩ = some (.string p) := ext_cell hb (by with_reducible (repeat (first | assumption | refine cell_drew ?_))); have k6 : w'.cell? ⟨w.heap.size, 6, none⟩ = some (.int .i64 z) := ext_cell hb (by with_reducible (repeat (first | assumption | refine cell_drew ?_))); have k7 : w'.cell? ⟨w4.heap.size, 0, none⟩ = some (.int .i64 day) := ext_cell hb (by with_reducible (repeat (first | assumption | refine cell_drew ?_))); have k8 : w'.cell? ⟨w4.heap.size, 1, none⟩ = some (.slice Ax n cx) := ext_cell hb (by with_reducible (repeat (first | assumption | refine cell_drew ?_))); have k9 : w'.cell? ⟨w4.heap.size, 2, none⟩ = some (.int .i64 pa) := ext_cell hb (by with_reducible (repeat (first | assumption | refine cell_drew ?_))); have k10 : w'.cell? ⟨w4.heap.size, 3, none⟩ = some (.int .i64 le) := ext_cell hb (by with_reducible (repeat (first | assumption | refine cell_drew ?_))); have k11 : w'.cell? ⟨w4.heap.size, 4, none⟩ = some (.string d) := ext_cell hb (by with_reducible (repeat (first | assumption | refine cell_drew ?_))); have k12 : w'.cell? ⟨w4.heap.size, 5, none⟩ = some (.string p) := ext_cell hb (by with_reducible (repeat (first | assumption | refine cell_drew ?_))); have k13 : w'.cell? ⟨w4.heap.size, 6, none⟩ = some (.int .i64 z) := ext_cell hb (by with_reducible (repeat (first | assumption | refine cell_drew ?_)))))
  all_goals (go_wp2_with fail; go_meet; exact ⟨rfl, ext_trans (ext_trans (ext_drew (ext_refl _)) hbY.out) hbZ.out⟩)
 case rest =>
  obtain ⟨rfl, hb⟩ := hcut
  obtain ⟨w7, hw7⟩ : ∃ x : World, x = wc := ⟨_, rfl⟩
  subst hw7
  have s7 : w6.heap.size ≤ w7.heap.size := (by have := hb.size; (try simp at this); omega)
  have z7_0 : w.heap.size < w7.heap.size := (by omega)
  have z7_1 : w4.heap.size < w7.heap.size := (by omega)
  have q7_0 : w7.cell? ⟨w.heap.size, 0, none⟩ = some (.int .i64 day) := ext_cell hb q6_0
  have q7_1 : w7.cell? ⟨w.heap.size, 1, none⟩ = some (.slice A n c) := ext_cell hb q6_1
  have q7_2 : w7.cell? ⟨w.heap.size, 2, none⟩ = some (.int .i64 pa) := ext_cell hb q6_2
  have q7_3 : w7.cell? ⟨w.heap.size, 3, none⟩ = some (.int .i64 le) := ext_cell hb q6_3
  have q7_4 : w7.cell? ⟨w.heap.size, 4, none⟩ = some (.string d) := ext_cell hb q6_4
  have q7_5 : w7.cell? ⟨w.heap.size, 5, none⟩ = some (.string p) := ext_cell hb q6_5
  have q7_6 : w7.cell? ⟨w.heap.size, 6, none⟩ = some (.int .i64 z) := ext_cell hb q6_6
  have q7_7 : w7.cell? ⟨w4.heap.size, 0, none⟩ = some (.int .i64 day) := ext_cell hb q6_7
  have q7_8 : w7.cell? ⟨w4.heap.size, 1, none⟩ = some (.slice Ax n cx) := ext_cell hb q6_8
  have q7_9 : w7.cell? ⟨w4.heap.size, 2, none⟩ = some (.int .i64 pa) := ext_cell hb q6_9
  have q7_10 : w7.cell? ⟨w4.heap.size, 3, none⟩ = some (.int .i64 le) := ext_cell hb q6_10
  have q7_11 : w7.cell? ⟨w4.heap.size, 4, none⟩ = some (.string d) := ext_cell hb q6_11
  have q7_12 : w7.cell? ⟨w4.heap.size, 5, none⟩ = some (.string p) := ext_cell hb q6_12
  have q7_13 : w7.cell? ⟨w4.heap.size, 6, none⟩ = some (.int .i64 z) := ext_cell hb q6_13
  have b7 := Lib.hid (ext_trans b6.out hb)
  have t7 : w.heap.size ≤ w7.heap.size := b7.out.size
  have o7_w := Lib.hid (own_ext o6_w.out hb)
  have o7_x := Lib.hid (own_ext o6_x.out hb)
  have o7_g := Lib.hid (own_ext o6_g.out hb)
  clear q6_0 q6_1 q6_2 q6_3 q6_4 q6_5 q6_6 q6_7 q6_8 q6_9 q6_10 q6_11 q6_12 q6_13
  clear hb
  go_wp2_with fail
  refine (markConsole_any day pa le d p z Ax n cx _ _ 1 _ (by omega) (by omega) (by omega) o7_x.out).mono ?_
  rintro e w8 ⟨rfl, ho, hg⟩
  have s8 : w7.heap.size ≤ w8.heap.size := (by have := hg.size; (try simp at this); omega)
  have z8_0 : w.heap.size < w8.heap.size := (by omega)
  have z8_1 : w4.heap.size < w8.heap.size := (by omega)
  have q8_0 : w8.cell? ⟨w.heap.size, 0, none⟩ = some (.int .i64 day) := cell_far_grown hg (own_far_lt (b := w.heap.size) oc_x.out (by omega)) q7_0
  have q8_1 : w8.cell? ⟨w.heap.size, 1, none⟩ = some (.slice A n c) := cell_far_grown hg (own_far_lt (b := w.heap.size) oc_x.out (by omega)) q7_1
  have q8_2 : w8.cell? ⟨w.heap.size, 2, none⟩ = some (.int .i64 pa) := cell_far_grown hg (own_far_lt (b := w.heap.size) oc_x.out (by omega)) q7_2
  have q8_3 : w8.cell? ⟨w.heap.size, 3, none⟩ = some (.int .i64 le) := cell_far_grown hg (own_far_lt (b := w.heap.size) oc_x.out (by omega)) q7_3
  have q8_4 : w8.cell? ⟨w.heap.size, 4, none⟩ = some (.string d) := cell_far_grown hg (own_far_lt (b := w.heap.size) oc_x.out (by omega)) q7_4
  have q8_5 : w8.cell? ⟨w.heap.size, 5, none⟩ = some (.string p) := cell_far_grown hg (own_far_lt (b := w.heap.size) oc_x.out (by omega)) q7_5
  have q8_6 : w8.cell? ⟨w.heap.size, 6, none⟩ = some (.int .i64 z) := cell_far_grown hg (own_far_lt (b := w.heap.size) oc_x.out (by omega)) q7_6
  have q8_7 : w8.cell? ⟨w4.heap.size, 0, none⟩ = some (.int .i64 day) := cell_far_grown hg (own_far_ge (b := w4.heap.size) oc_x.out (by omega)) q7_7
  have q8_8 : w8.cell? ⟨w4.heap.size, 1, none⟩ = some (.slice Ax n cx) := cell_far_grown hg (own_far_ge (b := w4.heap.size) oc_x.out (by omega)) q7_8
  have q8_9 : w8.cell? ⟨w4.heap.size, 2, none⟩ = some (.int .i64 pa) := cell_far_grown hg (own_far_ge (b := w4.heap.size) oc_x.out (by omega)) q7_9
  have q8_10 : w8.cell? ⟨w4.heap.size, 3, none⟩ = some (.int .i64 le) := cell_far_grown hg (own_far_ge (b := w4.heap.size) oc_x.out (by omega)) q7_10
  have q8_11 : w8.cell? ⟨w4.heap.size, 4, none⟩ = some (.string d) := cell_far_grown hg (own_far_ge (b := w4.heap.size) oc_x.out (by omega)) q7_11
  have q8_12 : w8.cell? ⟨w4.heap.size, 5, none⟩ = some (.string p) := cell_far_grown hg (own_far_ge (b := w4.heap.size) oc_x.out (by omega)) q7_12
  have q8_13 : w8.cell? ⟨w4.heap.size, 6, none⟩ = some (.int .i64 z) := cell_far_grown hg (own_far_ge (b := w4.heap.size) oc_x.out (by omega)) q7_13
  have b8 := Lib.hid (below_grown' o7_x.out (by omega) b7.out hg)
  have t8 : w.heap.size ≤ w8.heap.size := b8.out.size
  have o8_w := Lib.hid (o7_w.out.kept hg (own_ne' oc_w.out oc_x.out (by omega)))
  have o8_g := Lib.hid (o7_g.out.kept hg (own_ne oc_x.out oc_g.out (by omega)))
  clear q7_0 q7_1 q7_2 q7_3 q7_4 q7_5 q7_6 q7_7 q7_8 q7_9 q7_10 q7_11 q7_12 q7_13
  have o8_x := Lib.hid ho
  clear ho hg
  go_wp2_with fail
  refine (eqStringS_same Ag Aw N cg cw L _ (by omega) (Reads.of_own o8_g.out) (Reads.of_own o8_w.out)).mono ?_
  rintro e w9 ⟨rfl, hb⟩
  have s9 : w8.heap.size ≤ w9.heap.size := (by have := hb.size; (try simp at this); omega)
  have z9_0 : w.heap.size < w9.heap.size := (by omega)
  have z9_1 : w4.heap.size < w9.heap.size := (by omega)
  have q9_0 : w9.cell? ⟨w.heap.size, 0, none⟩ = some (.int .i64 day) := ext_cell hb q8_0
  have q9_1 : w9.cell? ⟨w.heap.size, 1, none⟩ = some (.slice A n c) := ext_cell hb q8_1
  have q9_2 : w9.cell? ⟨w.heap.size, 2, none⟩ = some (.int .i64 pa) := ext_cell hb q8_2
  have q9_3 : w9.cell? ⟨w.heap.size, 3, none⟩ = some (.int .i64 le) := ext_cell hb q8_3
  have q9_4 : w9.cell? ⟨w.heap.size, 4, none⟩ = some (.string d) := ext_cell hb q8_4
  have q9_5 : w9.cell? ⟨w.heap.size, 5, none⟩ = some (.string p) := ext_cell hb q8_5
  have q9_6 : w9.cell? ⟨w.heap.size, 6, none⟩ = some (.int .i64 z) := ext_cell hb q8_6
  have q9_7 : w9.cell? ⟨w4.heap.size, 0, none⟩ = some (.int .i64 day) := ext_cell hb q8_7
  have q9_8 : w9.cell? ⟨w4.heap.size, 1, none⟩ = some (.slice Ax n cx) := ext_cell hb q8_8
  have q9_9 : w9.cell? ⟨w4.heap.size, 2, none⟩ = some (.int .i64 pa) := ext_cell hb q8_9
  have q9_10 : w9.cell? ⟨w4.heap.size, 3, none⟩ = some (.int .i64 le) := ext_cell hb q8_10
  have q9_11 : w9.cell? ⟨w4.heap.size, 4, none⟩ = some (.string d) := ext_cell hb q8_11
  have q9_12 : w9.cell? ⟨w4.heap.size, 5, none⟩ = some (.string p) := ext_cell hb q8_12
  have q9_13 : w9.cell? ⟨w4.heap.size, 6, none⟩ = some (.int .i64 z) := ext_cell hb q8_13
  have b9 := Lib.hid (ext_trans b8.out hb)
  have t9 : w.heap.size ≤ w9.heap.size := b9.out.size
  have o9_w := Lib.hid (own_ext o8_w.out hb)
  have o9_x := Lib.hid (own_ext o8_x.out hb)
  have o9_g := Lib.hid (own_ext o8_g.out hb)
  clear q8_0 q8_1 q8_2 q8_3 q8_4 q8_5 q8_6 q8_7 q8_8 q8_9 q8_10 q8_11 q8_12 q8_13
  clear hb
  go_wp2_with fail
  refine (markStringS_any Ag N cg _ _ 1 1 _ rfl (by omega) (by omega) (by omega) o9_g.out).mono ?_
  rintro e w10 ⟨rfl, ho, hg⟩
  have s10 : w9.heap.size ≤ w10.heap.size := (by have := hg.size; (try simp at this); omega)
  have z10_0 : w.heap.size < w10.heap.size := (by omega)
  have z10_1 : w4.heap.size < w10.heap.size := (by omega)
  have q10_0 : w10.cell? ⟨w.heap.size, 0, none⟩ = some (.int .i64 day) := cell_far_grown hg (own_far_lt (b := w.heap.size) oc_g.out (by omega)) q9_0
  have q10_1 : w10.cell? ⟨w.heap.size, 1, none⟩ = some (.slice A n c) := cell_far_grown hg (own_far_lt (b := w.heap.size) oc_g.out (by omega)) q9_1
  have q10_2 : w10.cell? ⟨w.heap.size, 2, none⟩ = some (.int .i64 pa) := cell_far_grown hg (own_far_lt (b := w.heap.size) oc_g.out (by omega)) q9_2
  have q10_3 : w10.cell? ⟨w.heap.size, 3, none⟩ = some (.int .i64 le) := cell_far_grown hg (own_far_lt (b := w.heap.size) oc_g.out (by omega)) q9_3
  have q10_4 : w10.cell? ⟨w.heap.size, 4, none⟩ = some (.string d) := cell_far_grown hg (own_far_lt (b := w.heap.size) oc_g.out (by omega)) q9_4
  have q10_5 : w10.cell? ⟨w.heap.size, 5, none⟩ = some (.string p) := cell_far_grown hg (own_far_lt (b := w.heap.size) oc_g.out (by omega)) q9_5
  have q10_6 : w10.cell? ⟨w.heap.size, 6, none⟩ = some (.int .i64 z) := cell_far_grown hg (own_far_lt (b := w.heap.size) oc_g.out (by omega)) q9_6
  have q10_7 : w10.cell? ⟨w4.heap.size, 0, none⟩ = some (.int .i64 day) := cell_far_grown hg (own_far_lt (b := w4.heap.size) oc_g.out (by omega)) q9_7
  have q10_8 : w10.cell? ⟨w4.heap.size, 1, none⟩ = some (.slice Ax n cx) := cell_far_grown hg (own_far_lt (b := w4.heap.size) oc_g.out (by omega)) q9_8
  have q10_9 : w10.cell? ⟨w4.heap.size, 2, none⟩ = some (.int .i64 pa) := cell_far_grown hg (own_far_lt (b := w4.heap.size) oc_g.out (by omega)) q9_9
  have q10_10 : w10.cell? ⟨w4.heap.size, 3, none⟩ = some (.int .i64 le) := cell_far_grown hg (own_far_lt (b := w4.heap.size) oc_g.out (by omega)) q9_10
  have q10_11 : w10.cell? ⟨w4.heap.size, 4, none⟩ = some (.string d) := cell_far_grown hg (own_far_lt (b := w4.heap.size) oc_g.out (by omega)) q9_11
  have q10_12 : w10.cell? ⟨w4.heap.size, 5, none⟩ = some (.string p) := cell_far_grown hg (own_far_lt (b := w4.heap.size) oc_g.out (by omega)) q9_12
  have q10_13 : w10.cell? ⟨w4.heap.size, 6, none⟩ = some (.int .i64 z) := cell_far_grown hg (own_far_lt (b := w4.heap.size) oc_g.out (by omega)) q9_13
  have b10 := Lib.hid (below_grown' o9_g.out (by omega) b9.out hg)
  have t10 : w.heap.size ≤ w10.heap.size := b10.out.size
  have o10_w := Lib.hid (o9_w.out.kept hg (own_ne' oc_w.out oc_g.out (by omega)))
  have o10_x := Lib.hid (o9_x.out.kept hg (own_ne' oc_x.out oc_g.out (by omega)))
  clear q9_0 q9_1 q9_2 q9_3 q9_4 q9_5 q9_6 q9_7 q9_8 q9_9 q9_10 q9_11 q9_12 q9_13
  have o10_g := Lib.hid ho
  clear ho hg
  go_wp2_with fail
  refine (heldStringS_any Ag N cg 1 1 _ rfl (by omega) (by omega) (by omega) (Reads.of_own o10_g.out)).mono ?_
  rintro e w11 ⟨rfl, hb⟩
  have s11 : w10.heap.size ≤ w11.heap.size := (by have := hb.size; (try simp at this); omega)
  have z11_0 : w.heap.size < w11.heap.size := (by omega)
  have z11_1 : w4.heap.size < w11.heap.size := (by omega)
  have q11_0 : w11.cell? ⟨w.heap.size, 0, none⟩ = some (.int .i64 day) := ext_cell hb q10_0
  have q11_1 : w11.cell? ⟨w.heap.size, 1, none⟩ = some (.slice A n c) := ext_cell hb q10_1
  have q11_2 : w11.cell? ⟨w.heap.size, 2, none⟩ = some (.int .i64 pa) := ext_cell hb q10_2
  have q11_3 : w11.cell? ⟨w.heap.size, 3, none⟩ = some (.int .i64 le) := ext_cell hb q10_3
  have q11_4 : w11.cell? ⟨w.heap.size, 4, none⟩ = some (.string d) := ext_cell hb q10_4
  have q11_5 : w11.cell? ⟨w.heap.size, 5, none⟩ = some (.string p) := ext_cell hb q10_5
  have q11_6 : w11.cell? ⟨w.heap.size, 6, none⟩ = some (.int .i64 z) := ext_cell hb q10_6
  have q11_7 : w11.cell? ⟨w4.heap.size, 0, none⟩ = some (.int .i64 day) := ext_cell hb q10_7
  have q11_8 : w11.cell? ⟨w4.heap.size, 1, none⟩ = some (.slice Ax n cx) := ext_cell hb q10_8
  have q11_9 : w11.cell? ⟨w4.heap.size, 2, none⟩ = some (.int .i64 pa) := ext_cell hb q10_9
  have q11_10 : w11.cell? ⟨w4.heap.size, 3, none⟩ = some (.int .i64 le) := ext_cell hb q10_10
  have q11_11 : w11.cell? ⟨w4.heap.size, 4, none⟩ = some (.string d) := ext_cell hb q10_11
  have q11_12 : w11.cell? ⟨w4.heap.size, 5, none⟩ = some (.string p) := ext_cell hb q10_12
  have q11_13 : w11.cell? ⟨w4.heap.size, 6, none⟩ = some (.int .i64 z) := ext_cell hb q10_13
  have b11 := Lib.hid (ext_trans b10.out hb)
  have t11 : w.heap.size ≤ w11.heap.size := b11.out.size
  have o11_w := Lib.hid (own_ext o10_w.out hb)
  have o11_x := Lib.hid (own_ext o10_x.out hb)
  have o11_g := Lib.hid (own_ext o10_g.out hb)
  clear q10_0 q10_1 q10_2 q10_3 q10_4 q10_5 q10_6 q10_7 q10_8 q10_9 q10_10 q10_11 q10_12 q10_13
  clear hb
  go_wp2_with fail
  refine (toConsole_any day pa le d p z A n c l _ hn ((H.out.ext b11.out (Nat.le_refl _)).more (by first | omega | (simp <;> omega)))).mono ?_
  rintro e w12 ⟨Ay, cy, rfl, ho_y, hb⟩
  have s12 : w11.heap.size ≤ w12.heap.size := (by have := hb.size; (try simp at this); omega)
  have z12_0 : w.heap.size < w12.heap.size := (by omega)
  have z12_1 : w4.heap.size < w12.heap.size := (by omega)
  have q12_0 : w12.cell? ⟨w.heap.size, 0, none⟩ = some (.int .i64 day) := ext_cell hb q11_0
  have q12_1 : w12.cell? ⟨w.heap.size, 1, none⟩ = some (.slice A n c) := ext_cell hb q11_1
  have q12_2 : w12.cell? ⟨w.heap.size, 2, none⟩ = some (.int .i64 pa) := ext_cell hb q11_2
  have q12_3 : w12.cell? ⟨w.heap.size, 3, none⟩ = some (.int .i64 le) := ext_cell hb q11_3
  have q12_4 : w12.cell? ⟨w.heap.size, 4, none⟩ = some (.string d) := ext_cell hb q11_4
  have q12_5 : w12.cell? ⟨w.heap.size, 5, none⟩ = some (.string p) := ext_cell hb q11_5
  have q12_6 : w12.cell? ⟨w.heap.size, 6, none⟩ = some (.int .i64 z) := ext_cell hb q11_6
  have q12_7 : w12.cell? ⟨w4.heap.size, 0, none⟩ = some (.int .i64 day) := ext_cell hb q11_7
  have q12_8 : w12.cell? ⟨w4.heap.size, 1, none⟩ = some (.slice Ax n cx) := ext_cell hb q11_8
  have q12_9 : w12.cell? ⟨w4.heap.size, 2, none⟩ = some (.int .i64 pa) := ext_cell hb q11_9
  have q12_10 : w12.cell? ⟨w4.heap.size, 3, none⟩ = some (.int .i64 le) := ext_cell hb q11_10
  have q12_11 : w12.cell? ⟨w4.heap.size, 4, none⟩ = some (.string d) := ext_cell hb q11_11
  have q12_12 : w12.cell? ⟨w4.heap.size, 5, none⟩ = some (.string p) := ext_cell hb q11_12
  have q12_13 : w12.cell? ⟨w4.heap.size, 6, none⟩ = some (.int .i64 z) := ext_cell hb q11_13
  have b12 := Lib.hid (ext_trans b11.out hb)
  have t12 : w.heap.size ≤ w12.heap.size := b12.out.size
  have o12_w := Lib.hid (own_ext o11_w.out hb)
  have o12_x := Lib.hid (own_ext o11_x.out hb)
  have o12_g := Lib.hid (own_ext o11_g.out hb)
  clear q11_0 q11_1 q11_2 q11_3 q11_4 q11_5 q11_6 q11_7 q11_8 q11_9 q11_10 q11_11 q11_12 q11_13
  have oc_y := Lib.hid (own_base (base' := w11.heap.size + 0) ho_y (by simp))
  clear ho_y
  clear hb
  have hsly := slOk_own oc_y.out
  go_wp2_with fail
  refine (HB.out _ Ay cy hsly (Reads.of_own oc_y.out)).mono ?_
  rintro e w13 ⟨Ah, ch, rfl, ho_h, hb⟩
  have s13 : w12.heap.size ≤ w13.heap.size := (by have := hb.size; (try simp at this); omega)
  have z13_0 : w.heap.size < w13.heap.size := (by omega)
  have z13_1 : w4.heap.size < w13.heap.size := (by omega)
  have q13_0 : w13.cell? ⟨w.heap.size, 0, none⟩ = some (.int .i64 day) := ext_cell hb q12_0
  have q13_1 : w13.cell? ⟨w.heap.size, 1, none⟩ = some (.slice A n c) := ext_cell hb q12_1
  have q13_2 : w13.cell? ⟨w.heap.size, 2, none⟩ = some (.int .i64 pa) := ext_cell hb q12_2
  have q13_3 : w13.cell? ⟨w.heap.size, 3, none⟩ = some (.int .i64 le) := ext_cell hb q12_3
  have q13_4 : w13.cell? ⟨w.heap.size, 4, none⟩ = some (.string d) := ext_cell hb q12_4
  have q13_5 : w13.cell? ⟨w.heap.size, 5, none⟩ = some (.string p) := ext_cell hb q12_5
  have q13_6 : w13.cell? ⟨w.heap.size, 6, none⟩ = some (.int .i64 z) := ext_cell hb q12_6
  have q13_7 : w13.cell? ⟨w4.heap.size, 0, none⟩ = some (.int .i64 day) := ext_cell hb q12_7
  have q13_8 : w13.cell? ⟨w4.heap.size, 1, none⟩ = some (.slice Ax n cx) := ext_cell hb q12_8
  have q13_9 : w13.cell? ⟨w4.heap.size, 2, none⟩ = some (.int .i64 pa) := ext_cell hb q12_9
  have q13_10 : w13.cell? ⟨w4.heap.size, 3, none⟩ = some (.int .i64 le) := ext_cell hb q12_10
  have q13_11 : w13.cell? ⟨w4.heap.size, 4, none⟩ = some (.string d) := ext_cell hb q12_11
  have q13_12 : w13.cell? ⟨w4.heap.size, 5, none⟩ = some (.string p) := ext_cell hb q12_12
  have q13_13 : w13.cell? ⟨w4.heap.size, 6, none⟩ = some (.int .i64 z) := ext_cell hb q12_13
  have b13 := Lib.hid (ext_trans b12.out hb)
  have t13 : w.heap.size ≤ w13.heap.size := b13.out.size
  have o13_w := Lib.hid (own_ext o12_w.out hb)
  have o13_x := Lib.hid (own_ext o12_x.out hb)
  have o13_g := Lib.hid (own_ext o12_g.out hb)
  have o13_y := Lib.hid (own_ext oc_y.out hb)
  clear q12_0 q12_1 q12_2 q12_3 q12_4 q12_5 q12_6 q12_7 q12_8 q12_9 q12_10 q12_11 q12_12 q12_13
  have oc_h := Lib.hid (own_base (base' := w12.heap.size + 0) ho_h (by simp))
  clear ho_h
  clear hb
  go_wp2_with fail
  refine (eqStringS_same Ah Aw N ch cw L _ (by omega) (Reads.of_own oc_h.out) (Reads.of_own o13_w.out)).mono ?_
  rintro e w14 ⟨rfl, hb⟩
  have s14 : w13.heap.size ≤ w14.heap.size := (by have := hb.size; (try simp at this); omega)
  have z14_0 : w.heap.size < w14.heap.size := (by omega)
  have z14_1 : w4.heap.size < w14.heap.size := (by omega)
  have q14_0 : w14.cell? ⟨w.heap.size, 0, none⟩ = some (.int .i64 day) := ext_cell hb q13_0
  have q14_1 : w14.cell? ⟨w.heap.size, 1, none⟩ = some (.slice A n c) := ext_cell hb q13_1
  have q14_2 : w14.cell? ⟨w.heap.size, 2, none⟩ = some (.int .i64 pa) := ext_cell hb q13_2
  have q14_3 : w14.cell? ⟨w.heap.size, 3, none⟩ = some (.int .i64 le) := ext_cell hb q13_3
  have q14_4 : w14.cell? ⟨w.heap.size, 4, none⟩ = some (.string d) := ext_cell hb q13_4
  have q14_5 : w14.cell? ⟨w.heap.size, 5, none⟩ = some (.string p) := ext_cell hb q13_5
  have q14_6 : w14.cell? ⟨w.heap.size, 6, none⟩ = some (.int .i64 z) := ext_cell hb q13_6
  have q14_7 : w14.cell? ⟨w4.heap.size, 0, none⟩ = some (.int .i64 day) := ext_cell hb q13_7
  have q14_8 : w14.cell? ⟨w4.heap.size, 1, none⟩ = some (.slice Ax n cx) := ext_cell hb q13_8
  have q14_9 : w14.cell? ⟨w4.heap.size, 2, none⟩ = some (.int .i64 pa) := ext_cell hb q13_9
  have q14_10 : w14.cell? ⟨w4.heap.size, 3, none⟩ = some (.int .i64 le) := ext_cell hb q13_10
  have q14_11 : w14.cell? ⟨w4.heap.size, 4, none⟩ = some (.string d) := ext_cell hb q13_11
  have q14_12 : w14.cell? ⟨w4.heap.size, 5, none⟩ = some (.string p) := ext_cell hb q13_12
  have q14_13 : w14.cell? ⟨w4.heap.size, 6, none⟩ = some (.int .i64 z) := ext_cell hb q13_13
  have b14 := Lib.hid (ext_trans b13.out hb)
  have t14 : w.heap.size ≤ w14.heap.size := b14.out.size
  have o14_w := Lib.hid (own_ext o13_w.out hb)
  have o14_x := Lib.hid (own_ext o13_x.out hb)
  have o14_g := Lib.hid (own_ext o13_g.out hb)
  have o14_h := Lib.hid (own_ext oc_h.out hb)
  clear q13_0 q13_1 q13_2 q13_3 q13_4 q13_5 q13_6 q13_7 q13_8 q13_9 q13_10 q13_11 q13_12 q13_13
  clear hb
  go_wp2_with fail
  refine (heldStringS_any Ag N cg 1 1 _ rfl (by omega) (by omega) (by omega) (Reads.of_own o14_g.out)).mono ?_
  rintro e w15 ⟨rfl, hb⟩
  have s15 : w14.heap.size ≤ w15.heap.size := (by have := hb.size; (try simp at this); omega)
  have z15_0 : w.heap.size < w15.heap.size := (by omega)
  have z15_1 : w4.heap.size < w15.heap.size := (by omega)
  have q15_0 : w15.cell? ⟨w.heap.size, 0, none⟩ = some (.int .i64 day) := ext_cell hb q14_0
  have q15_1 : w15.cell? ⟨w.heap.size, 1, none⟩ = some (.slice A n c) := ext_cell hb q14_1
  have q15_2 : w15.cell? ⟨w.heap.size, 2, none⟩ = some (.int .i64 pa) := ext_cell hb q14_2
  have q15_3 : w15.cell? ⟨w.heap.size, 3, none⟩ = some (.int .i64 le) := ext_cell hb q14_3
  have q15_4 : w15.cell? ⟨w.heap.size, 4, none⟩ = some (.string d) := ext_cell hb q14_4
  have q15_5 : w15.cell? ⟨w.heap.size, 5, none⟩ = some (.string p) := ext_cell hb q14_5
  have q15_6 : w15.cell? ⟨w.heap.size, 6, none⟩ = some (.int .i64 z) := ext_cell hb q14_6
  have q15_7 : w15.cell? ⟨w4.heap.size, 0, none⟩ = some (.int .i64 day) := ext_cell hb q14_7
  have q15_8 : w15.cell? ⟨w4.heap.size, 1, none⟩ = some (.slice Ax n cx) := ext_cell hb q14_8
  have q15_9 : w15.cell? ⟨w4.heap.size, 2, none⟩ = some (.int .i64 pa) := ext_cell hb q14_9
  have q15_10 : w15.cell? ⟨w4.heap.size, 3, none⟩ = some (.int .i64 le) := ext_cell hb q14_10
  have q15_11 : w15.cell? ⟨w4.heap.size, 4, none⟩ = some (.string d) := ext_cell hb q14_11
  have q15_12 : w15.cell? ⟨w4.heap.size, 5, none⟩ = some (.string p) := ext_cell hb q14_12
  have q15_13 : w15.cell? ⟨w4.heap.size, 6, none⟩ = some (.int .i64 z) := ext_cell hb q14_13
  have b15 := Lib.hid (ext_trans b14.out hb)
  have t15 : w.heap.size ≤ w15.heap.size := b15.out.size
  have o15_w := Lib.hid (own_ext o14_w.out hb)
  have o15_x := Lib.hid (own_ext o14_x.out hb)
  have o15_g := Lib.hid (own_ext o14_g.out hb)
  have o15_h := Lib.hid (own_ext o14_h.out hb)
  clear q14_0 q14_1 q14_2 q14_3 q14_4 q14_5 q14_6 q14_7 q14_8 q14_9 q14_10 q14_11 q14_12 q14_13
  clear hb
  go_wp2
  go_ret
  exact ⟨rfl, b15.out⟩
end Go.Proofs.Ytclihlihaigddaa
