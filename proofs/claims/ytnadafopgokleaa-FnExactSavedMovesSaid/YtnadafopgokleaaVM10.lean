/- The law of SavedMoves, walked. -/
import Derived.Test.YtnadafopgokleaaVM4
import Derived.Test.YtnadafopgokleaaVBsM
namespace Go.Proofs.Ytnadafopgokleaa
open Go.RowKit
set_option linter.unusedVariables false
set_option linter.unusedSimpArgs false
set_option maxRecDepth 100000 in
set_option maxHeartbeats 4000000 in
theorem law_SavedMoves (u lo : Int) (A : Option Addr) (n c : Nat) (l : List R2) (m : Int) (w : World) (hn : n ≤ maxLen) (h63 : m ≤ 9223372036854775807) (h : Reads w w.heap.size 2 A n (rowsV2 l)) :
 Calls Try.prog 3 #[frV u lo A n c, .int .i64 m] w fun e w' => e = .returned (.bool true) ∧ Below w.heap.size w w' := by
 unfold maxLen at hn
 have HS := Lib.hid (fun w => szFrame_any u lo A n c 1048576 w hn (by omega) (by omega))
 have H := Lib.hid h
 clear h
 by_cases hbig : (1048576 : Int) < n
 · rw [szv_no hbig] at HS
   go_enter Try.func3, Try.ntmps3
   go_wp2_with (go_at_call 5; refine (HS.out _).mono ?_; rintro e w' ⟨rfl, hb⟩)
   go_ret
   exact ⟨rfl, (by repeat (first | exact ext_refl _ | assumption | refine ext_alloc ?_ _ | refine ext_drew ?_ | refine ext_drewN ?_ _ | refine ext_set ?_ (by simp <;> omega) _ | refine ext_trans ?_ (by assumption)))⟩
 rw [szv_yes hbig] at HS
 have hneg : ¬ (1048576 : Int) - n < 0 := by omega
 have hn : n ≤ 1048576 := by omega
 have HA := Lib.hid (fun (w : World) (A : Option Addr) (c : Nat) h => specSavedMoves_any u lo A n c l m w hn h63 h)
 have HB := Lib.hid (fun (w : World) (A : Option Addr) (c : Nat) h => implSavedMoves_any u lo A n c l m w hn h63 h)
 obtain ⟨V, hV⟩ : ∃ V, savV u lo l m = V := ⟨_, rfl⟩
 obtain ⟨ok, hok⟩ : ∃ ok, savB u lo l m = ok := ⟨_, rfl⟩
 rw [hV, hok] at HA HB
 clear hV hok
 go_enter Try.func3, Try.ntmps3
 go_wp2_with fail
 refine (HS.out _).mono ?_
 rintro e w1 ⟨rfl, hb⟩
 have s1 : w.heap.size + 1 ≤ w1.heap.size := (by have := hb.size; (try simp at this); omega)
 have z1_0 : w.heap.size < w1.heap.size := (by omega)
 have q1_0 : w1.cell? ⟨w.heap.size, 0, none⟩ = some (.int .i64 u) := ext_cell hb (by simp [go_sem])
 have q1_1 : w1.cell? ⟨w.heap.size, 1, none⟩ = some (.int .i64 lo) := ext_cell hb (by simp [go_sem])
 have q1_2 : w1.cell? ⟨w.heap.size, 2, none⟩ = some (.slice A n c) := ext_cell hb (by simp [go_sem])
 have b1 := Lib.hid (ext_trans (ext_alloc (ext_refl w) _) hb)
 have t1 : w.heap.size ≤ w1.heap.size := b1.out.size
 clear hb
 go_wp2_with fail
 refine (toFrame_any u lo A n c l _ hn ((H.out.ext b1.out (Nat.le_refl _)).more (by first | omega | (simp <;> omega)))).mono ?_
 rintro e w2 ⟨Av, cv, rfl, ho_v, hb⟩
 have s2 : w1.heap.size ≤ w2.heap.size := (by have := hb.size; (try simp at this); omega)
 have z2_0 : w.heap.size < w2.heap.size := (by omega)
 have q2_0 : w2.cell? ⟨w.heap.size, 0, none⟩ = some (.int .i64 u) := ext_cell hb q1_0
 have q2_1 : w2.cell? ⟨w.heap.size, 1, none⟩ = some (.int .i64 lo) := ext_cell hb q1_1
 have q2_2 : w2.cell? ⟨w.heap.size, 2, none⟩ = some (.slice A n c) := ext_cell hb q1_2
 have b2 := Lib.hid (ext_trans b1.out hb)
 have t2 : w.heap.size ≤ w2.heap.size := b2.out.size
 clear q1_0 q1_1 q1_2
 have oc_v := Lib.hid (own_base (base' := w1.heap.size + 0) ho_v (by simp))
 clear ho_v
 clear hb
 go_wp2_with fail
 refine (HA.out _ Av cv (Reads.of_own oc_v.out)).mono ?_
 rintro e w3 ⟨rfl, hb⟩
 have s3 : w2.heap.size ≤ w3.heap.size := (by have := hb.size; (try simp at this); omega)
 have z3_0 : w.heap.size < w3.heap.size := (by omega)
 have q3_0 : w3.cell? ⟨w.heap.size, 0, none⟩ = some (.int .i64 u) := ext_cell hb q2_0
 have q3_1 : w3.cell? ⟨w.heap.size, 1, none⟩ = some (.int .i64 lo) := ext_cell hb q2_1
 have q3_2 : w3.cell? ⟨w.heap.size, 2, none⟩ = some (.slice A n c) := ext_cell hb q2_2
 have b3 := Lib.hid (ext_trans b2.out hb)
 have t3 : w.heap.size ≤ w3.heap.size := b3.out.size
 have o3_v := Lib.hid (own_ext oc_v.out hb)
 clear q2_0 q2_1 q2_2
 clear hb
 go_wp2_with fail
 refine (toFrame_any u lo A n c l _ hn ((H.out.ext b3.out (Nat.le_refl _)).more (by first | omega | (simp <;> omega)))).mono ?_
 rintro e w4 ⟨Ax, cx, rfl, ho_x, hb⟩
 have s4 : w3.heap.size ≤ w4.heap.size := (by have := hb.size; (try simp at this); omega)
 have z4_0 : w.heap.size < w4.heap.size := (by omega)
 have q4_0 : w4.cell? ⟨w.heap.size, 0, none⟩ = some (.int .i64 u) := ext_cell hb q3_0
 have q4_1 : w4.cell? ⟨w.heap.size, 1, none⟩ = some (.int .i64 lo) := ext_cell hb q3_1
 have q4_2 : w4.cell? ⟨w.heap.size, 2, none⟩ = some (.slice A n c) := ext_cell hb q3_2
 have b4 := Lib.hid (ext_trans b3.out hb)
 have t4 : w.heap.size ≤ w4.heap.size := b4.out.size
 clear q3_0 q3_1 q3_2
 have oc_x := Lib.hid (own_base (base' := w3.heap.size + 0) ho_x (by simp))
 clear ho_x
 clear hb
 go_wp2_with fail
 refine (HB.out _ Ax cx (Reads.of_own (oc_x.out.alloc _))).mono ?_
 rintro e w5 ⟨rfl, hb⟩
 have s5 : w4.heap.size + 1 ≤ w5.heap.size := (by have := hb.size; (try simp at this); omega)
 have z5_0 : w.heap.size < w5.heap.size := (by omega)
 have z5_1 : w4.heap.size < w5.heap.size := (by omega)
 have q5_0 : w5.cell? ⟨w.heap.size, 0, none⟩ = some (.int .i64 u) := ext_cell hb (cell_old q4_0 _)
 have q5_1 : w5.cell? ⟨w.heap.size, 1, none⟩ = some (.int .i64 lo) := ext_cell hb (cell_old q4_1 _)
 have q5_2 : w5.cell? ⟨w.heap.size, 2, none⟩ = some (.slice A n c) := ext_cell hb (cell_old q4_2 _)
 have q5_3 : w5.cell? ⟨w4.heap.size, 0, none⟩ = some (.int .i64 u) := ext_cell hb (by simp [go_sem])
 have q5_4 : w5.cell? ⟨w4.heap.size, 1, none⟩ = some (.int .i64 lo) := ext_cell hb (by simp [go_sem])
 have q5_5 : w5.cell? ⟨w4.heap.size, 2, none⟩ = some (.slice Ax n cx) := ext_cell hb (by simp [go_sem])
 have b5 := Lib.hid (ext_trans (ext_alloc b4.out _) hb)
 have t5 : w.heap.size ≤ w5.heap.size := b5.out.size
 have o5_x := Lib.hid (own_ext (oc_x.out.alloc _) hb)
 clear q4_0 q4_1 q4_2
 clear hb
 go_upto_region 10 with fail
 go_cut [43] (fun s43 wx => s43 = .bool false ∧ Below w5.heap.size w5 wx)
 case first =>
  go_region_held3 (fun w' => w'.cell? ⟨w.heap.size, 0, none⟩ = some (.int .i64 u) ∧ w'.cell? ⟨w.heap.size, 1, none⟩ = some (.int .i64 lo) ∧ w'.cell? ⟨w.heap.size, 2, none⟩ = some (.slice A n c) ∧ w'.cell? ⟨w4.heap.size, 0, none⟩ = some (.int .i64 u) ∧ w'.cell? ⟨w4.heap.size, 1, none⟩ = some (.int .i64 lo) ∧ w'.cell? ⟨w4.heap.size, 2, none⟩ = some (.slice Ax n cx)) (first | (go_split_ands; ((repeat' refine And.intro ?_ ?_) <;> with_reducible (repeat (first | assumption | refine cell_drew ?_ | refine cell_old ?_ _))))) (first | (go_at_call 7; refine (toFrame_any u lo A n c l _ hn ((H.out.ext (ext_drew b5.out) (Nat.le_refl _)).more (by first | omega | (simp; omega) | (simp <;> omega)))).mono ?_; rintro e w' ⟨Ay, cy, rfl, hoy, hb⟩; have hoy := Lib.hid hoy; have hbY := Lib.hid hb; obtain ⟨hc, hf⟩ := bcell hb; have k0 : w'.cell? ⟨w.heap.size, 0, none⟩ = some (.int .i64 u) := ext_cell hb (by with_reducible (repeat (first | assumption | refine cell_drew ?_))); have k1 : w'.cell? ⟨w.heap.size, 1, none⟩ = some (.int .i64 lo) := ext_cell hb (by with_reducible (repeat (first | assumption | refine cell_drew ?_))); have k2 : w'.cell? ⟨w.heap.size, 2, none⟩ = some (.slice A n c) := ext_cell hb (by with_reducible (repeat (first | assumption | refine cell_drew ?_))); have k3 : w'.cell? ⟨w4.heap.size, 0, none⟩ = some (.int .i64 u) := ext_cell hb (by with_reducible (repeat (first | assumption | refine cell_drew ?_))); have k4 : w'.cell? ⟨w4.heap.size, 1, none⟩ = some (.int .i64 lo) := ext_cell hb (by with_reducible (repeat (first | assumption | refine cell_drew ?_))); have k5 : w'.cell? ⟨w4.heap.size, 2, none⟩ = some (.slice Ax n cx) := ext_cell hb (by with_reducible (repeat (first | assumption | refine cell_drew ?_)))) | (go_at_call 9; refine (eqFrame_same u lo Ax Ay n cx cy l _ hn (Reads.of_own (own_ext (World.ownsRow.drew o5_x.out) hbY.out)) (Reads.of_own hoy.out)).mono ?_; rintro e w' ⟨rfl, hb⟩; have hbZ := Lib.hid hb; obtain ⟨hc, hf⟩ := bcell hb; have k0 : w'.cell? ⟨w.heap.size, 0, none⟩ = some (.int .i64 u) := ext_cell hb (by with_reducible (repeat (first | assumption | refine cell_drew ?_))); have k1 : w'.cell? ⟨w.heap.size, 1, none⟩ = some (.int .i64 lo) := ext_cell hb (by with_reducible (repeat (first | assumption | refine cell_drew ?_))); have k2 : w'.cell? ⟨w.heap.size, 2, none⟩ = some (.slice A n c) := ext_cell hb (by with_reducible (repeat (first | assumption | refine cell_drew ?_))); have k3 : w'.cell? ⟨w4.heap.size, 0, none⟩ = some (.int .i64 u) := ext_cell hb (by with_reducible (repeat (first | assumption | refine cell_drew ?_))); have k4 : w'.cell? ⟨w4.heap.size, 1, none⟩ = some (.int .i64 lo) := ext_cell hb (by with_reducible (repeat (first | assumption | refine cell_drew ?_))); have k5 : w'.cell? ⟨w4.heap.size, 2, none⟩ = some (.slice Ax n cx) := ext_cell hb (by with_reducible (repeat (first | assumption | refine cell_drew ?_)))))
  all_goals (go_wp2_with fail; go_meet; exact ⟨rfl, ext_trans (ext_trans (ext_drew (ext_refl _)) hbY.out) hbZ.out⟩)
 case rest =>
  obtain ⟨rfl, hb⟩ := hcut
  obtain ⟨w6, hw6⟩ : ∃ x : World, x = wc := ⟨_, rfl⟩
  subst hw6
  have s6 : w5.heap.size ≤ w6.heap.size := (by have := hb.size; (try simp at this); omega)
  have z6_0 : w.heap.size < w6.heap.size := (by omega)
  have z6_1 : w4.heap.size < w6.heap.size := (by omega)
  have q6_0 : w6.cell? ⟨w.heap.size, 0, none⟩ = some (.int .i64 u) := ext_cell hb q5_0
  have q6_1 : w6.cell? ⟨w.heap.size, 1, none⟩ = some (.int .i64 lo) := ext_cell hb q5_1
  have q6_2 : w6.cell? ⟨w.heap.size, 2, none⟩ = some (.slice A n c) := ext_cell hb q5_2
  have q6_3 : w6.cell? ⟨w4.heap.size, 0, none⟩ = some (.int .i64 u) := ext_cell hb q5_3
  have q6_4 : w6.cell? ⟨w4.heap.size, 1, none⟩ = some (.int .i64 lo) := ext_cell hb q5_4
  have q6_5 : w6.cell? ⟨w4.heap.size, 2, none⟩ = some (.slice Ax n cx) := ext_cell hb q5_5
  have b6 := Lib.hid (ext_trans b5.out hb)
  have t6 : w.heap.size ≤ w6.heap.size := b6.out.size
  have o6_x := Lib.hid (own_ext o5_x.out hb)
  clear q5_0 q5_1 q5_2 q5_3 q5_4 q5_5
  clear hb
  go_wp2
  go_ret
  exact ⟨rfl, b6.out⟩
end Go.Proofs.Ytnadafopgokleaa
