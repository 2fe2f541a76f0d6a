
/- The law of FormatConsole, walked. -/
import Derived.Test.YtclihlihaigddaaConF
namespace Go.Proofs.Ytclihlihaigddaa
open Go.RowKit
set_option linter.unusedVariables false
set_option linter.unusedSimpArgs false
set_option maxRecDepth 100000 in
set_option maxHeartbeats 4000000 in
theorem law_FormatConsole (day pa le : Int) (d p : ByteArray) (z : Int) (A : Option Addr) (n c : Nat) (l : List R5) (w : World) (hn : n ≤ maxLen) (hd : d.size ≤ maxLen) (hp : p.size ≤ maxLen) (h : Reads w w.heap.size 5 A n (rowsV l)) :
    Calls Try.prog 5 #[conV day A n c pa le d p z] w fun e w' => e = .returned (.bool true) ∧ Below w.heap.size w w' := by
  unfold maxLen at hn hd hp
  obtain ⟨s, hs, hS⟩ := szConsole_any day pa le d p z A n c (by omega) (by omega) (by omega)
  have HS := Lib.hid hS
  have H := Lib.hid h
  clear hS h
  by_cases h0 : s < 0
  · clear hs
    go_enter Try.func5, Try.ntmps5
    go_wp2_with (go_at_call 20; refine (HS.out _).mono ?_; rintro e w' ⟨rfl, hb⟩)
    go_ret
    exact ⟨rfl, (by repeat (first | exact ext_refl _ | assumption | refine ext_alloc ?_ _ | refine ext_drew ?_ | refine ext_drewN ?_ _ | refine ext_set ?_ (by simp <;> omega) _ | refine ext_trans ?_ (by assumption)))⟩
  obtain ⟨hn, hd, hp⟩ := hs (by omega)
  have hd : d.size ≤ 2000000 := by omega
  have hp : p.size ≤ 2000000 := by omega
  have HFS := Lib.hid (fun (w : World) A c h => specFormat_any day pa le d p z A n c l w hn hd hp h)
  have HFI := Lib.hid (fun (w : World) A c h => implFormat_any day pa le d p z A n c l w hn hd hp h)
  obtain ⟨T, hT⟩ : ∃ T, fmtS day l pa le d p z = T := ⟨_, rfl⟩
  obtain ⟨ok, hok⟩ : ∃ ok, conB day l pa le d p z = ok := ⟨_, rfl⟩
  rw [hT, hok] at HFS HFI
  clear hs hT hok
  go_enter Try.func5, Try.ntmps5
  go_wp2_with fail
  refine (HS.out _).mono ?_
  rintro e w1 ⟨rfl, hb⟩
  have s1 : w.heap.size + 1 ≤ w1.heap.size := (by have := hb.size; (try simp at this); omega)
  have z1_0 : w.heap.size < w1.heap.size := (by omega)
  have q1_0 : w1.cell? ⟨w.heap.size, 0, none⟩ = some (.int .i64 day) := ext_cell hb (by simp [go_sem])
  have q1_1 : w1.cell? ⟨w.heap.size, 1, none⟩ = some (.slice A n c) := ext_cell hb (by simp [go_sem])
  have q1_2 : w1.cell? ⟨w.heap.size, 2, none⟩ = some (.int .i64 pa) := ext_cell hb (by simp [go_sem])
  have q1_3 : w1.cell? ⟨w.heap.size, 3, none⟩ = some (.int .i64 le) := ext_cell hb (by simp [go_sem])
  have q1_4 : w1.cell? ⟨w.heap.size, 4, none⟩ = some (.string d) := ext_cell hb (by simp [go_sem])
  have q1_5 : w1.cell? ⟨w.heap.size, 5, none⟩ = some (.string p) := ext_cell hb (by simp [go_sem])
  have q1_6 : w1.cell? ⟨w.heap.size, 6, none⟩ = some (.int .i64 z) := ext_cell hb (by simp [go_sem])
  have b1 := Lib.hid (ext_trans (ext_alloc (ext_refl w) _) hb)
  have t1 : w.heap.size ≤ w1.heap.size := b1.out.size
  clear hb
  go_wp2_with fail
  refine (toConsole_any day pa le d p z A n c l _ hn ((H.out.ext b1.out (Nat.le_refl _)).more (by first | omega | (simp <;> omega)))).mono ?_
  rintro e w2 ⟨Av, cv, rfl, ho_v, hb⟩
  have s2 : w1.heap.size ≤ w2.heap.size := (by have := hb.size; (try simp at this); omega)
  have z2_0 : w.heap.size < w2.heap.size := (by omega)
  have q2_0 : w2.cell? ⟨w.heap.size, 0, none⟩ = some (.int .i64 day) := ext_cell hb q1_0
  have q2_1 : w2.cell? ⟨w.heap.size, 1, none⟩ = some (.slice A n c) := ext_cell hb q1_1
  have q2_2 : w2.cell? ⟨w.heap.size, 2, none⟩ = some (.int .i64 pa) := ext_cell hb q1_2
  have q2_3 : w2.cell? ⟨w.heap.size, 3, none⟩ = some (.int .i64 le) := ext_cell hb q1_3
  have q2_4 : w2.cell? ⟨w.heap.size, 4, none⟩ = some (.string d) := ext_cell hb q1_4
  have q2_5 : w2.cell? ⟨w.heap.size, 5, none⟩ = some (.string p) := ext_cell hb q1_5
  have q2_6 : w2.cell? ⟨w.heap.size, 6, none⟩ = some (.int .i64 z) := ext_cell hb q1_6
  have b2 := Lib.hid (ext_trans b1.out hb)
  have t2 : w.heap.size ≤ w2.heap.size := b2.out.size
  clear q1_0 q1_1 q1_2 q1_3 q1_4 q1_5 q1_6
  have oc_v := Lib.hid (own_base (base' := w1.heap.size + 0) ho_v (by simp))
  clear ho_v
  clear hb
  go_wp2_with fail
  refine (HFS.out _ Av cv (Reads.of_own oc_v.out)).mono ?_
  rintro e w3 ⟨rfl, hb⟩
  have s3 : w2.heap.size ≤ w3.heap.size := (by have := hb.size; (try simp at this); omega)
  have z3_0 : w.heap.size < w3.heap.size := (by omega)
  have q3_0 : w3.cell? ⟨w.heap.size, 0, none⟩ = some (.int .i64 day) := ext_cell hb q2_0
  have q3_1 : w3.cell? ⟨w.heap.size, 1, none⟩ = some (.slice A n c) := ext_cell hb q2_1
  have q3_2 : w3.cell? ⟨w.heap.size, 2, none⟩ = some (.int .i64 pa) := ext_cell hb q2_2
  have q3_3 : w3.cell? ⟨w.heap.size, 3, none⟩ = some (.int .i64 le) := ext_cell hb q2_3
  have q3_4 : w3.cell? ⟨w.heap.size, 4, none⟩ = some (.string d) := ext_cell hb q2_4
  have q3_5 : w3.cell? ⟨w.heap.size, 5, none⟩ = some (.string p) := ext_cell hb q2_5
  have q3_6 : w3.cell? ⟨w.heap.size, 6, none⟩ = some (.int .i64 z) := ext_cell hb q2_6
  have b3 := Lib.hid (ext_trans b2.out hb)
  have t3 : w.heap.size ≤ w3.heap.size := b3.out.size
  have o3_v := Lib.hid (own_ext oc_v.out hb)
  clear q2_0 q2_1 q2_2 q2_3 q2_4 q2_5 q2_6
  clear hb
  go_wp2_with fail
  refine (toConsole_any day pa le d p z A n c l _ hn ((H.out.ext b3.out (Nat.le_refl _)).more (by first | omega | (simp <;> omega)))).mono ?_
  rintro e w4 ⟨Ax, cx, rfl, ho_x, hb⟩
  have s4 : w3.heap.size ≤ w4.heap.size := (by have := hb.size; (try simp at this); omega)
  have z4_0 : w.heap.size < w4.heap.size := (by omega)
  have q4_0 : w4.cell? ⟨w.heap.size, 0, none⟩ = some (.int .i64 day) := ext_cell hb q3_0
  have q4_1 : w4.cell? ⟨w.heap.size, 1, none⟩ = some (.slice A n c) := ext_cell hb q3_1
  have q4_2 : w4.cell? ⟨w.heap.size, 2, none⟩ = some (.int .i64 pa) := ext_cell hb q3_2
  have q4_3 : w4.cell? ⟨w.heap.size, 3, none⟩ = some (.int .i64 le) := ext_cell hb q3_3
  have q4_4 : w4.cell? ⟨w.heap.size, 4, none⟩ = some (.string d) := ext_cell hb q3_4
  have q4_5 : w4.cell? ⟨w.heap.size, 5, none⟩ = some (.string p) := ext_cell hb q3_5
  have q4_6 : w4.cell? ⟨w.heap.size, 6, none⟩ = some (.int .i64 z) := ext_cell hb q3_6
  have b4 := Lib.hid (ext_trans b3.out hb)
  have t4 : w.heap.size ≤ w4.heap.size := b4.out.size
  have o4_v := Lib.hid (own_ext o3_v.out hb)
  clear q3_0 q3_1 q3_2 q3_3 q3_4 q3_5 q3_6
  have oc_x := Lib.hid (own_base (base' := w3.heap.size + 0) ho_x (by simp))
  clear ho_x
  clear hb
  go_wp2_with fail
  refine (HFI.out _ Ax cx (Reads.of_own (oc_x.out.alloc _))).mono ?_
  rintro e w5 ⟨rfl, hb⟩
  have s5 : w4.heap.size + 1 ≤ w5.heap.size := (by have := hb.size; (try simp at this); omega)
  have z5_0 : w.heap.size < w5.heap.size := (by omega)
  have z5_1 : w4.heap.size < w5.heap.size := (by omega)
  have q5_0 : w5.cell? ⟨w.heap.size, 0, none⟩ = some (.int .i64 day) := ext_cell hb (cell_old q4_0 _)
  have q5_1 : w5.cell? ⟨w.heap.size, 1, none⟩ = some (.slice A n c) := ext_cell hb (cell_old q4_1 _)
  have q5_2 : w5.cell? ⟨w.heap.size, 2, none⟩ = some (.int .i64 pa) := ext_cell hb (cell_old q4_2 _)
  have q5_3 : w5.cell? ⟨w.heap.size, 3, none⟩ = some (.int .i64 le) := ext_cell hb (cell_old q4_3 _)
  have q5_4 : w5.cell? ⟨w.heap.size, 4, none⟩ = some (.string d) := ext_cell hb (cell_old q4_4 _)
  have q5_5 : w5.cell? ⟨w.heap.size, 5, none⟩ = some (.string p) := ext_cell hb (cell_old q4_5 _)
  have q5_6 : w5.cell? ⟨w.heap.size, 6, none⟩ = some (.int .i64 z) := ext_cell hb (cell_old q4_6 _)
  have q5_7 : w5.cell? ⟨w4.heap.size, 0, none⟩ = some (.int .i64 day) := ext_cell hb (by simp [go_sem])
  have q5_8 : w5.cell? ⟨w4.heap.size, 1, none⟩ = some (.slice Ax n cx) := ext_cell hb (by simp [go_sem])
  have q5_9 : w5.cell? ⟨w4.heap.size, 2, none⟩ = some (.int .i64 pa) := ext_cell hb (by simp [go_sem])
  have q5_10 : w5.cell? ⟨w4.heap.size, 3, none⟩ = some (.int .i64 le) := ext_cell hb (by simp [go_sem])
  have q5_11 : w5.cell? ⟨w4.heap.size, 4, none⟩ = some (.string d) := ext_cell hb (by simp [go_sem])
  have q5_12 : w5.cell? ⟨w4.heap.size, 5, none⟩ = some (.string p) := ext_cell hb (by simp [go_sem])
  have q5_13 : w5.cell? ⟨w4.heap.size, 6, none⟩ = some (.int .i64 z) := ext_cell hb (by simp [go_sem])
  have b5 := Lib.hid (ext_trans (ext_alloc b4.out _) hb)
  have t5 : w.heap.size ≤ w5.heap.size := b5.out.size
  have o5_v := Lib.hid (own_ext (o4_v.out.alloc _) hb)
  have o5_x := Lib.hid (own_ext (oc_x.out.alloc _) hb)
  clear q4_0 q4_1 q4_2 q4_3 q4_4 q4_5 q4_6
  clear hb
  go_wp2_with fail
  go_region_held3 (fun w' => w'.cell? ⟨w.heap.size, 0, none⟩ = some (.int .i64 day) ∧ w'.cell? ⟨w.heap.size, 1, none⟩ = some (.slice A n c) ∧ w'.cell? ⟨w.heap.size, 2, none⟩ = some (.int .i64 pa) ∧ w'.cell? ⟨w.heap.size, 3, none⟩ = some (.int .i64 le) ∧ w'.cell? ⟨w.heap.size, 4, none⟩ = some (.string d) ∧ w'.cell? ⟨w.heap.size, 5, none⟩ = some (.string p) ∧ w'.cell? ⟨w.heap.size, 6, none⟩ = some (.int .i64 z) ∧ w'.cell? ⟨w4.heap.size, 0, none⟩ = some (.int .i64 day) ∧ w'.cell? ⟨w4.heap.size, 1, none⟩ = some (.slice Ax n cx) ∧ w'.cell? ⟨w4.heap.size, 2, none⟩ = some (.int .i64 pa) ∧ w'.cell? ⟨w4.heap.size, 3, none⟩ = some (.int .i64 le) ∧ w'.cell? ⟨w4.heap.size, 4, none⟩ = some (.string d) ∧ w'.cell? ⟨w4.heap.size, 5, none⟩ = some (.string p) ∧ w'.cell? ⟨w4.heap.size, 6, none⟩ = some (.int .i64 z)) (first | (go_split_ands; ((repeat' refine And.intro ?_ ?_) <;> with_reducible (repeat (first | assumption | refine cell_drew ?_ | refine ext_cell hb ?_))))) (first | (go_at_call 22; refine (toConsole_any day pa le d p z A n c l _ hn ((H.out.ext (ext_drew b5.out) (Nat.le_refl _)).more (by first | omega | (simp <;> omega)))).mono ?_; rintro e w' ⟨Ay, cy, rfl, hoy, hb⟩; have hoy := Lib.hid hoy; have hbY := Lib.hid hb; obtain ⟨hc, hf⟩ := bcell hb) | (go_at_call 17; refine (eqConsole_same day pa le d p z Ax Ay n cx cy l _ hn (Reads.of_own (own_ext (World.ownsRow.drew o5_x.out) hbY.out)) (Reads.of_own hoy.out)).mono ?_; rintro e w' ⟨rfl, hb⟩; have hbZ := Lib.hid hb; obtain ⟨hc, hf⟩ := bcell hb))
  all_goals
    go_wp2
    go_ret
    exact ⟨rfl, ext_trans (ext_trans (ext_drew b5.out) hbY.out) hbZ.out⟩
end Go.Proofs.Ytclihlihaigddaa
