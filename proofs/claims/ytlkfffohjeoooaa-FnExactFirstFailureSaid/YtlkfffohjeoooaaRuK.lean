
/- The laws of RunRules, CompiledMoves, FirstFailure, walked. -/
import Derived.Test.YtlkfffohjeoooaaFrTx
import Derived.Test.YtlkfffohjeoooaaRuJ
namespace Go.Proofs.Ytlkfffohjeoooaa
open Go.RowKit
set_option linter.unusedVariables false
set_option linter.unusedSimpArgs false
theorem runF_len (u lo : Int) (l : List R2) (s : ByteArray) : (runF u lo l s).2.2.length ≤ 8 := by
  unfold runF
  split
  · rename_i h
    unfold runOk at h
    simp only [Bool.and_eq_true] at h
    obtain ⟨hb, hq⟩ := h
    obtain ⟨q, hq⟩ := Option.isSome_iff_exists.1 hq
    have h1 := (runQ_len hb hq).1
    unfold runB at hb
    simp only [Bool.and_eq_true] at hb
    have hn := (frB_head (good_fr hb.2)).2.2.2
    show (rodsD _).length ≤ 8
    rw [rodsD_len, runW_some hq]
    omega
  · exact Nat.zero_le _
theorem cmpMs_len (u lo : Int) (l : List R2) (s : ByteArray) : (cmpMs u lo l s).length ≤ 60 := by
  unfold cmpMs
  split
  · rename_i h
    unfold cmpOk at h
    simp only [Bool.and_eq_true, decide_eq_true_eq] at h
    exact h.2
  · simp
set_option maxRecDepth 100000 in
set_option maxHeartbeats 4000000 in
theorem law_RunRules (s : ByteArray) (u lo : Int) (A : Option Addr) (n c : Nat) (l : List R2) (w : World) (hs : s.size ≤ maxLen) (hn : n ≤ maxLen) (h : Reads w w.heap.size 2 A n (rowsV2 l)) :
    Calls Try.prog 5 #[.string s, frV u lo A n c] w fun e w' => e = .returned (.bool true) ∧ Below w.heap.size w w' := by
  unfold maxLen at hn hs
  have HS := Lib.hid (fun w => szFrame_any u lo A n c 1048576 w hn (by omega) (by omega))
  have H := Lib.hid h
  clear h
  by_cases hsb : (1048576 : Int) < s.size
  · go_enter Try.func5, Try.ntmps5
    go_wp2
    go_ret
    exact ⟨rfl, ext_alloc (ext_refl _) _⟩
  have hs' : s.size ≤ 16777216 := by omega
  by_cases hbig : (1048576 : Int) < n
  · rw [szv_no hbig] at HS
    go_enter Try.func5, Try.ntmps5
    go_wp2_with (go_at_call 12; refine (HS.out _).mono ?_; rintro e w' ⟨rfl, hb⟩)
    go_ret
    exact ⟨rfl, (by repeat (first | exact ext_refl _ | assumption | refine ext_alloc ?_ _ | refine ext_drew ?_ | refine ext_drewN ?_ _ | refine ext_set ?_ (by simp <;> omega) _ | refine ext_trans ?_ (by assumption)))⟩
  rw [szv_yes hbig] at HS
  have hneg : ¬ (1048576 : Int) - n < 0 := by omega
  have hn : n ≤ 1048576 := by omega
  have HA := Lib.hid (fun (w : World) (A : Option Addr) (c : Nat) h => specRunRules_any u lo A n c l s w hs' hn h)
  have HB := Lib.hid (fun (w : World) (A : Option Addr) (c : Nat) h => implRunRules_any u lo A n c l s w hs' hn h)
  have hN := runF_len u lo l s
  obtain ⟨X, hX⟩ : ∃ X, runF u lo l s = X := ⟨_, rfl⟩
  obtain ⟨ok, hok⟩ : ∃ ok, runOk u lo l s = ok := ⟨_, rfl⟩
  rw [hX, hok] at HA HB
  rw [hX] at hN
  obtain ⟨U, LO, L⟩ := X
  unfold RetFrB at HA HB
  dsimp only at HA HB hN
  obtain ⟨N, hNL⟩ : ∃ N, L.length = N := ⟨_, rfl⟩
  rw [hNL] at HA HB hN
  have hN : N ≤ 1048576 := by omega
  clear hX hok hNL
  go_enter Try.func5, Try.ntmps5
  go_wp2_with fail
  refine (HS.out _).mono ?_
  rintro e w1 ⟨rfl, hb⟩
  have s1 : w.heap.size + 1 ≤ w1.heap.size := (by have := hb.size; (try simp at this); omega)
  have z1_0 : w.heap.size < w1.heap.size := (by omega)
  have q1_0 : w1.cell? ⟨w.heap.size, 0, none⟩ = some (.int .i64 u) := ext_cell hb (by simp [go_sem])
  have q1_1 : w1.cell? ⟨w.heap.size, 1, none⟩ = some (.int .i64 lo) := ext_cell hb (by simp [go_sem])
  have q1_2 : w1.cell? ⟨w.heap.size, 2, none⟩ = some (.slice A n c) := ext_cell hb (by simp [go_sem])
  have b1 := Lib.hid (ext_trans (ext_alloc (ext_refl w) _) hb)
  have t1 : w.heap.size ≤ w1.heap.size := b1.out.size
  clear hb
  go_wp2_with fail
  refine (toFrame_any u lo A n c l _ hn ((H.out.ext b1.out (Nat.le_refl _)).more (by first | omega | (simp <;> omega)))).mono ?_
  rintro e w2 ⟨Av, cv, rfl, ho_v, hb⟩
  have s2 : w1.heap.size ≤ w2.heap.size := (by have := hb.size; (try simp at this); omega)
  have z2_0 : w.heap.size < w2.heap.size := (by omega)
  have q2_0 : w2.cell? ⟨w.heap.size, 0, none⟩ = some (.int .i64 u) := ext_cell hb q1_0
  have q2_1 : w2.cell? ⟨w.heap.size, 1, none⟩ = some (.int .i64 lo) := ext_cell hb q1_1
  have q2_2 : w2.cell? ⟨w.heap.size, 2, none⟩ = some (.slice A n c) := ext_cell hb q1_2
  have b2 := Lib.hid (ext_trans b1.out hb)
  have t2 : w.heap.size ≤ w2.heap.size := b2.out.size
  clear q1_0 q1_1 q1_2
  have oc_v := Lib.hid (own_base (base' := w1.heap.size + 0) ho_v (by simp))
  clear ho_v
  clear hb
  go_wp2_with fail
  refine (HA.out _ Av cv (Reads.of_own oc_v.out)).mono ?_
  rintro e w3 ⟨Aw, cw, rfl, ho_w, hb⟩
  have s3 : w2.heap.size ≤ w3.heap.size := (by have := hb.size; (try simp at this); omega)
  have z3_0 : w.heap.size < w3.heap.size := (by omega)
  have q3_0 : w3.cell? ⟨w.heap.size, 0, none⟩ = some (.int .i64 u) := ext_cell hb q2_0
  have q3_1 : w3.cell? ⟨w.heap.size, 1, none⟩ = some (.int .i64 lo) := ext_cell hb q2_1
  have q3_2 : w3.cell? ⟨w.heap.size, 2, none⟩ = some (.slice A n c) := ext_cell hb q2_2
  have b3 := Lib.hid (ext_trans b2.out hb)
  have t3 : w.heap.size ≤ w3.heap.size := b3.out.size
  have o3_v := Lib.hid (own_ext oc_v.out hb)
  clear q2_0 q2_1 q2_2
  have oc_w := Lib.hid (own_base (base' := w2.heap.size + 0) ho_w (by simp))
  clear ho_w
  clear hb
  go_wp2_with fail
  refine (toFrame_any u lo A n c l _ hn ((H.out.ext (ext_alloc b3.out _) (Nat.le_refl _)).more (by first | omega | (simp <;> omega)))).mono ?_
  rintro e w4 ⟨Ax, cx, rfl, ho_x, hb⟩
  have s4 : w3.heap.size + 1 ≤ w4.heap.size := (by have := hb.size; (try simp at this); omega)
  have z4_0 : w.heap.size < w4.heap.size := (by omega)
  have z4_1 : w3.heap.size < w4.heap.size := (by omega)
  have q4_0 : w4.cell? ⟨w.heap.size, 0, none⟩ = some (.int .i64 u) := ext_cell hb (cell_old q3_0 _)
  have q4_1 : w4.cell? ⟨w.heap.size, 1, none⟩ = some (.int .i64 lo) := ext_cell hb (cell_old q3_1 _)
  have q4_2 : w4.cell? ⟨w.heap.size, 2, none⟩ = some (.slice A n c) := ext_cell hb (cell_old q3_2 _)
  have q4_3 : w4.cell? ⟨w3.heap.size, 0, none⟩ = some (.int .i64 U) := ext_cell hb (by simp [go_sem])
  have q4_4 : w4.cell? ⟨w3.heap.size, 1, none⟩ = some (.int .i64 LO) := ext_cell hb (by simp [go_sem])
  have q4_5 : w4.cell? ⟨w3.heap.size, 2, none⟩ = some (.slice Aw N cw) := ext_cell hb (by simp [go_sem])
  have b4 := Lib.hid (ext_trans (ext_alloc b3.out _) hb)
  have t4 : w.heap.size ≤ w4.heap.size := b4.out.size
  have o4_w := Lib.hid (own_ext (oc_w.out.alloc _) hb)
  clear q3_0 q3_1 q3_2
  have oc_x := Lib.hid (own_base (base' := w3.heap.size + 1) ho_x (by simp))
  clear ho_x
  clear hb
  go_wp2_with fail
  refine (HB.out _ Ax cx (Reads.of_own (oc_x.out.alloc _))).mono ?_
  rintro e w5 ⟨Ag, cg, rfl, ho_g, hb⟩
  have s5 : w4.heap.size + 1 ≤ w5.heap.size := (by have := hb.size; (try simp at this); omega)
  have z5_0 : w.heap.size < w5.heap.size := (by omega)
  have z5_1 : w3.heap.size < w5.heap.size := (by omega)
  have z5_2 : w4.heap.size < w5.heap.size := (by omega)
  have q5_0 : w5.cell? ⟨w.heap.size, 0, none⟩ = some (.int .i64 u) := ext_cell hb (cell_old q4_0 _)
  have q5_1 : w5.cell? ⟨w.heap.size, 1, none⟩ = some (.int .i64 lo) := ext_cell hb (cell_old q4_1 _)
  have q5_2 : w5.cell? ⟨w.heap.size, 2, none⟩ = some (.slice A n c) := ext_cell hb (cell_old q4_2 _)
  have q5_3 : w5.cell? ⟨w3.heap.size, 0, none⟩ = some (.int .i64 U) := ext_cell hb (cell_old q4_3 _)
  have q5_4 : w5.cell? ⟨w3.heap.size, 1, none⟩ = some (.int .i64 LO) := ext_cell hb (cell_old q4_4 _)
  have q5_5 : w5.cell? ⟨w3.heap.size, 2, none⟩ = some (.slice Aw N cw) := ext_cell hb (cell_old q4_5 _)
  have q5_6 : w5.cell? ⟨w4.heap.size, 0, none⟩ = some (.int .i64 u) := ext_cell hb (by simp [go_sem])
  have q5_7 : w5.cell? ⟨w4.heap.size, 1, none⟩ = some (.int .i64 lo) := ext_cell hb (by simp [go_sem])
  have q5_8 : w5.cell? ⟨w4.heap.size, 2, none⟩ = some (.slice Ax n cx) := ext_cell hb (by simp [go_sem])
  have b5 := Lib.hid (ext_trans (ext_alloc b4.out _) hb)
  have t5 : w.heap.size ≤ w5.heap.size := b5.out.size
  have o5_w := Lib.hid (own_ext (o4_w.out.alloc _) hb)
  have o5_x := Lib.hid (own_ext (oc_x.out.alloc _) hb)
  clear q4_0 q4_1 q4_2 q4_3 q4_4 q4_5
  have oc_g := Lib.hid (own_base (base' := w4.heap.size + 1) ho_g (by simp))
  clear ho_g
  clear hb
  go_wp2_with fail
  refine (eqFrame_same U LO Ag Aw N cg cw L _ hN (Reads.of_own (oc_g.out.alloc _)) (Reads.of_own (o5_w.out.alloc _))).mono ?_
  rintro e w6 ⟨rfl, hb⟩
  have s6 : w5.heap.size + 1 ≤ w6.heap.size := (by have := hb.size; (try simp at this); omega)
  have z6_0 : w.heap.size < w6.heap.size := (by omega)
  have z6_1 : w3.heap.size < w6.heap.size := (by omega)
  have z6_2 : w4.heap.size < w6.heap.size := (by omega)
  have z6_3 : w5.heap.size < w6.heap.size := (by omega)
  have q6_0 : w6.cell? ⟨w.heap.size, 0, none⟩ = some (.int .i64 u) := ext_cell hb (cell_old q5_0 _)
  have q6_1 : w6.cell? ⟨w.heap.size, 1, none⟩ = some (.int .i64 lo) := ext_cell hb (cell_old q5_1 _)
  have q6_2 : w6.cell? ⟨w.heap.size, 2, none⟩ = some (.slice A n c) := ext_cell hb (cell_old q5_2 _)
  have q6_3 : w6.cell? ⟨w3.heap.size, 0, none⟩ = some (.int .i64 U) := ext_cell hb (cell_old q5_3 _)
  have q6_4 : w6.cell? ⟨w3.heap.size, 1, none⟩ = some (.int .i64 LO) := ext_cell hb (cell_old q5_4 _)
  have q6_5 : w6.cell? ⟨w3.heap.size, 2, none⟩ = some (.slice Aw N cw) := ext_cell hb (cell_old q5_5 _)
  have q6_6 : w6.cell? ⟨w4.heap.size, 0, none⟩ = some (.int .i64 u) := ext_cell hb (cell_old q5_6 _)
  have q6_7 : w6.cell? ⟨w4.heap.size, 1, none⟩ = some (.int .i64 lo) := ext_cell hb (cell_old q5_7 _)
  have q6_8 : w6.cell? ⟨w4.heap.size, 2, none⟩ = some (.slice Ax n cx) := ext_cell hb (cell_old q5_8 _)
  have q6_9 : w6.cell? ⟨w5.heap.size, 0, none⟩ = some (.int .i64 U) := ext_cell hb (by simp [go_sem])
  have q6_10 : w6.cell? ⟨w5.heap.size, 1, none⟩ = some (.int .i64 LO) := ext_cell hb (by simp [go_sem])
  have q6_11 : w6.cell? ⟨w5.heap.size, 2, none⟩ = some (.slice Ag N cg) := ext_cell hb (by simp [go_sem])
  have b6 := Lib.hid (ext_trans (ext_alloc b5.out _) hb)
  have t6 : w.heap.size ≤ w6.heap.size := b6.out.size
  have o6_w := Lib.hid (own_ext (o5_w.out.alloc _) hb)
  have o6_x := Lib.hid (own_ext (o5_x.out.alloc _) hb)
  have o6_g := Lib.hid (own_ext (oc_g.out.alloc _) hb)
  clear q5_0 q5_1 q5_2 q5_3 q5_4 q5_5 q5_6 q5_7 q5_8
  clear hb
  go_upto_region 12 with fail
  go_cut [52] (fun s52 wx => s52 = .bool false ∧ Below w6.heap.size w6 wx)
  case first =>
    go_region_held3 (fun w' => w'.cell? ⟨w.heap.size, 0, none⟩ = some (.int .i64 u) ∧ w'.cell? ⟨w.heap.size, 1, none⟩ = some (.int .i64 lo) ∧ w'.cell? ⟨w.heap.size, 2, none⟩ = some (.slice A n c) ∧ w'.cell? ⟨w3.heap.size, 0, none⟩ = some (.int .i64 U) ∧ w'.cell? ⟨w3.heap.size, 1, none⟩ = some (.int .i64 LO) ∧ w'.cell? ⟨w3.heap.size, 2, none⟩ = some (.slice Aw N cw) ∧ w'.cell? ⟨w4.heap.size, 0, none⟩ = some (.int .i64 u) ∧ w'.cell? ⟨w4.heap.size, 1, none⟩ = some (.int .i64 lo) ∧ w'.cell? ⟨w4.heap.size, 2, none⟩ = some (.slice Ax n cx) ∧ w'.cell? ⟨w5.heap.size, 0, none⟩ = some (.int .i64 U) ∧ w'.cell? ⟨w5.heap.size, 1, none⟩ = some (.int .i64 LO) ∧ w'.cell? ⟨w5.heap.size, 2, none⟩ = some (.slice Ag N cg)) (first | (go_split_ands; ((repeat' refine And.intro ?_ ?_) <;> with_reducible (repeat (first | assumption | refine cell_drew ?_ | refine cell_old ?_ _))))) (first | (go_at_call 14; refine (toFrame_any u lo A n c l _ hn ((H.out.ext (ext_drew b6.out) (Nat.le_refl _)).more (by first | omega | (simp; omega) | (simp <;> omega)))).mono ?_; rintro e w' ⟨Ay, cy, rfl, hoy, hb⟩; have hoy := Lib.hid hoy; have hbY := Lib.hid hb; obtain ⟨hc, hf⟩ := bcell hb; have k0 : w'.cell? ⟨w.heap.size, 0, none⟩ = some (.int .i64 u) := ext_cell hb (by with_reducible (repeat (first | assumption | refine cell_drew ?_))); have k1 : w'.cell? ⟨w.heap.size, 1, none⟩ = some (.int .i64 lo) := ext_cell hb (by with_reducible (repeat (first | assumption | refine cell_drew ?_))); have k2 : w'.cell? ⟨w.heap.size, 2, none⟩ = some (.slice A n c) := ext_cell hb (by with_reducible (repeat (first | assumption | refine cell_drew ?_))); have k3 : w'.cell? ⟨w3.heap.size, 0, none⟩ = some (.int .i64 U) := ext_cell hb (by with_reducible (repeat (first | assumption | refine cell_drew ?_))); have k4 : w'.cell? ⟨w3.heap.size, 1, none⟩ = some (.int .i64 LO) := ext_cell hb (by with_reducible (repeat (first | assumption | refine cell_drew ?_))); have k5 : w'.cell? ⟨w3.heap.size, 2, none⟩ = some (.slice Aw N cw) := ext_cell hb (by with_reducible (repeat (first | assumption | refine cell_drew ?_))); have k6 : w'.cell? ⟨w4.heap.size, 0, none⟩ = some (.int .i64 u) := ext_cell hb (by with_reducible (repeat (first | assumption | refine cell_drew ?_))); have k7 : w'.cell? ⟨w4.heap.size, 1, none⟩ = some (.int .i64 lo) := ext_cell hb (by with_reducible (repeat (first | assumption | refine cell_drew ?_))); have k8 : w'.cell? ⟨w4.heap.size, 2, none⟩ = some (.slice Ax n cx) := ext_cell hb (by with_reducible (repeat (first | assumption | refine cell_drew ?_))); have k9 : w'.cell? ⟨w5.heap.size, 0, none⟩ = some (.int .i64 U) := ext_cell hb (by with_reducible (repeat (first | assumption | refine cell_drew ?_))); have k10 : w'.cell? ⟨w5.heap.size, 1, none⟩ = some (.int .i64 LO) := ext_cell hb (by with_reducible (repeat (first | assumption | refine cell_drew ?_))); have k11 : w'.cell? ⟨w5.heap.size, 2, none⟩ = some (.slice Ag N cg) := ext_cell hb (by with_reducible (repeat (first | assumption | refine cell_drew ?_)))) | (go_at_call 17; refine (eqFrame_same u lo Ax Ay n cx cy l _ hn (Reads.of_own (own_ext (World.ownsRow.drew o6_x.out) hbY.out)) (Reads.of_own hoy.out)).mono ?_; rintro e w' ⟨rfl, hb⟩; have hbZ := Lib.hid hb; obtain ⟨hc, hf⟩ := bcell hb; have k0 : w'.cell? ⟨w.heap.size, 0, none⟩ = some (.int .i64 u) := ext_cell hb (by with_reducible (repeat (first | assumption | refine cell_drew ?_))); have k1 : w'.cell? ⟨w.heap.size, 1, none⟩ = some (.int .i64 lo) := ext_cell hb (by with_reducible (repeat (first | assumption | refine cell_drew ?_))); have k2 : w'.cell? ⟨w.heap.size, 2, none⟩ = some (.slice A n c) := ext_cell hb (by with_reducible (repeat (first | assumption | refine cell_drew ?_))); have k3 : w'.cell? ⟨w3.heap.size, 0, none⟩ = some (.int .i64 U) := ext_cell hb (by with_reducible (repeat (first | assumption | refine cell_drew ?_))); have k4 : w'.cell? ⟨w3.heap.size, 1, none⟩ = some (.int .i64 LO) := ext_cell hb (by with_reducible (repeat (first | assumption | refine cell_drew ?_))); have k5 : w'.cell? ⟨w3.heap.size, 2, none⟩ = some (.slice Aw N cw) := ext_cell hb (by with_reducible (repeat (first | assumption | refine cell_drew ?_))); have k6 : w'.cell? ⟨w4.heap.size, 0, none⟩ = some (.int .i64 u) := ext_cell hb (by with_reducible (repeat (first | assumption | refine cell_drew ?_))); have k7 : w'.cell? ⟨w4.heap.size, 1, none⟩ = some (.int .i64 lo) := ext_cell hb (by with_reducible (repeat (first | assumption | refine cell_drew ?_))); have k8 : w'.cell? ⟨w4.heap.size, 2, none⟩ = some (.slice Ax n cx) := ext_cell hb (by with_reducible (repeat (first | assumption | refine cell_drew ?_))); have k9 : w'.cell? ⟨w5.heap.size, 0, none⟩ = some (.int .i64 U) := ext_cell hb (by with_reducible (repeat (first | assumption | refine cell_drew ?_))); have k10 : w'.cell? ⟨w5.heap.size, 1, none⟩ = some (.int .i64 LO) := ext_cell hb (by with_reducible (repeat (first | assumption | refine cell_drew ?_))); have k11 : w'.cell? ⟨w5.heap.size, 2, none⟩ = some (.slice Ag N cg) := ext_cell hb (by with_reducible (repeat (first | assumption | refine cell_drew ?_)))))
    all_goals (go_wp2_with fail; go_meet; exact ⟨rfl, ext_trans (ext_trans (ext_drew (ext_refl _)) hbY.out) hbZ.out⟩)
  case rest =>
    obtain ⟨rfl, hb⟩ := hcut
    obtain ⟨w7, hw7⟩ : ∃ x : World, x = wc := ⟨_, rfl⟩
    subst hw7
    have s7 : w6.heap.size ≤ w7.heap.size := (by have := hb.size; (try simp at this); omega)
    have z7_0 : w.heap.size < w7.heap.size := (by omega)
    have z7_1 : w3.heap.size < w7.heap.size := (by omega)
    have z7_2 : w4.heap.size < w7.heap.size := (by omega)
    have z7_3 : w5.heap.size < w7.heap.size := (by omega)
    have q7_0 : w7.cell? ⟨w.heap.size, 0, none⟩ = some (.int .i64 u) := ext_cell hb q6_0
    have q7_1 : w7.cell? ⟨w.heap.size, 1, none⟩ = some (.int .i64 lo) := ext_cell hb q6_1
    have q7_2 : w7.cell? ⟨w.heap.size, 2, none⟩ = some (.slice A n c) := ext_cell hb q6_2
    have q7_3 : w7.cell? ⟨w3.heap.size, 0, none⟩ = some (.int .i64 U) := ext_cell hb q6_3
    have q7_4 : w7.cell? ⟨w3.heap.size, 1, none⟩ = some (.int .i64 LO) := ext_cell hb q6_4
    have q7_5 : w7.cell? ⟨w3.heap.size, 2, none⟩ = some (.slice Aw N cw) := ext_cell hb q6_5
    have q7_6 : w7.cell? ⟨w4.heap.size, 0, none⟩ = some (.int .i64 u) := ext_cell hb q6_6
    have q7_7 : w7.cell? ⟨w4.heap.size, 1, none⟩ = some (.int .i64 lo) := ext_cell hb q6_7
    have q7_8 : w7.cell? ⟨w4.heap.size, 2, none⟩ = some (.slice Ax n cx) := ext_cell hb q6_8
    have q7_9 : w7.cell? ⟨w5.heap.size, 0, none⟩ = some (.int .i64 U) := ext_cell hb q6_9
    have q7_10 : w7.cell? ⟨w5.heap.size, 1, none⟩ = some (.int .i64 LO) := ext_cell hb q6_10
    have q7_11 : w7.cell? ⟨w5.heap.size, 2, none⟩ = some (.slice Ag N cg) := ext_cell hb q6_11
    have b7 := Lib.hid (ext_trans b6.out hb)
    have t7 : w.heap.size ≤ w7.heap.size := b7.out.size
    have o7_w := Lib.hid (own_ext o6_w.out hb)
    have o7_x := Lib.hid (own_ext o6_x.out hb)
    have o7_g := Lib.hid (own_ext o6_g.out hb)
    clear q6_0 q6_1 q6_2 q6_3 q6_4 q6_5 q6_6 q6_7 q6_8 q6_9 q6_10 q6_11
    clear hb
    go_wp2_with fail
    refine (markFrame_any u lo Ax n cx _ _ 1 _ (by omega) (by omega) (by omega) o7_x.out).mono ?_
    rintro e w8 ⟨rfl, ho, hg⟩
    have s8 : w7.heap.size ≤ w8.heap.size := (by have := hg.size; (try simp at this); omega)
    have z8_0 : w.heap.size < w8.heap.size := (by omega)
    have z8_1 : w3.heap.size < w8.heap.size := (by omega)
    have z8_2 : w4.heap.size < w8.heap.size := (by omega)
    have z8_3 : w5.heap.size < w8.heap.size := (by omega)
    have q8_0 : w8.cell? ⟨w.heap.size, 0, none⟩ = some (.int .i64 u) := cell_far_grown hg (own_far_lt (b := w.heap.size) oc_x.out (by omega)) q7_0
    have q8_1 : w8.cell? ⟨w.heap.size, 1, none⟩ = some (.int .i64 lo) := cell_far_grown hg (own_far_lt (b := w.heap.size) oc_x.out (by omega)) q7_1
    have q8_2 : w8.cell? ⟨w.heap.size, 2, none⟩ = some (.slice A n c) := cell_far_grown hg (own_far_lt (b := w.heap.size) oc_x.out (by omega)) q7_2
    have q8_3 : w8.cell? ⟨w3.heap.size, 0, none⟩ = some (.int .i64 U) := cell_far_grown hg (own_far_lt (b := w3.heap.size) oc_x.out (by omega)) q7_3
    have q8_4 : w8.cell? ⟨w3.heap.size, 1, none⟩ = some (.int .i64 LO) := cell_far_grown hg (own_far_lt (b := w3.heap.size) oc_x.out (by omega)) q7_4
    have q8_5 : w8.cell? ⟨w3.heap.size, 2, none⟩ = some (.slice Aw N cw) := cell_far_grown hg (own_far_lt (b := w3.heap.size) oc_x.out (by omega)) q7_5
    have q8_6 : w8.cell? ⟨w4.heap.size, 0, none⟩ = some (.int .i64 u) := cell_far_grown hg (own_far_ge (b := w4.heap.size) oc_x.out (by omega)) q7_6
    have q8_7 : w8.cell? ⟨w4.heap.size, 1, none⟩ = some (.int .i64 lo) := cell_far_grown hg (own_far_ge (b := w4.heap.size) oc_x.out (by omega)) q7_7
    have q8_8 : w8.cell? ⟨w4.heap.size, 2, none⟩ = some (.slice Ax n cx) := cell_far_grown hg (own_far_ge (b := w4.heap.size) oc_x.out (by omega)) q7_8
    have q8_9 : w8.cell? ⟨w5.heap.size, 0, none⟩ = some (.int .i64 U) := cell_far_grown hg (own_far_ge (b := w5.heap.size) oc_x.out (by omega)) q7_9
    have q8_10 : w8.cell? ⟨w5.heap.size, 1, none⟩ = some (.int .i64 LO) := cell_far_grown hg (own_far_ge (b := w5.heap.size) oc_x.out (by omega)) q7_10
    have q8_11 : w8.cell? ⟨w5.heap.size, 2, none⟩ = some (.slice Ag N cg) := cell_far_grown hg (own_far_ge (b := w5.heap.size) oc_x.out (by omega)) q7_11
    have b8 := Lib.hid (below_grown' o7_x.out (by omega) b7.out hg)
    have t8 : w.heap.size ≤ w8.heap.size := b8.out.size
    have o8_w := Lib.hid (o7_w.out.kept hg (own_ne' oc_w.out oc_x.out (by omega)))
    have o8_g := Lib.hid (o7_g.out.kept hg (own_ne oc_x.out oc_g.out (by omega)))
    clear q7_0 q7_1 q7_2 q7_3 q7_4 q7_5 q7_6 q7_7 q7_8 q7_9 q7_10 q7_11
    have o8_x := Lib.hid ho
    clear ho hg
    go_wp2_with fail
    refine (eqFrame_same U LO Ag Aw N cg cw L _ hN (Reads.of_own o8_g.out) (Reads.of_own o8_w.out)).mono ?_
    rintro e w9 ⟨rfl, hb⟩
    have s9 : w8.heap.size ≤ w9.heap.size := (by have := hb.size; (try simp at this); omega)
    have z9_0 : w.heap.size < w9.heap.size := (by omega)
    have z9_1 : w3.heap.size < w9.heap.size := (by omega)
    have z9_2 : w4.heap.size < w9.heap.size := (by omega)
    have z9_3 : w5.heap.size < w9.heap.size := (by omega)
    have q9_0 : w9.cell? ⟨w.heap.size, 0, none⟩ = some (.int .i64 u) := ext_cell hb q8_0
    have q9_1 : w9.cell? ⟨w.heap.size, 1, none⟩ = some (.int .i64 lo) := ext_cell hb q8_1
    have q9_2 : w9.cell? ⟨w.heap.size, 2, none⟩ = some (.slice A n c) := ext_cell hb q8_2
    have q9_3 : w9.cell? ⟨w3.heap.size, 0, none⟩ = some (.int .i64 U) := ext_cell hb q8_3
    have q9_4 : w9.cell? ⟨w3.heap.size, 1, none⟩ = some (.int .i64 LO) := ext_cell hb q8_4
    have q9_5 : w9.cell? ⟨w3.heap.size, 2, none⟩ = some (.slice Aw N cw) := ext_cell hb q8_5
    have q9_6 : w9.cell? ⟨w4.heap.size, 0, none⟩ = some (.int .i64 u) := ext_cell hb q8_6
    have q9_7 : w9.cell? ⟨w4.heap.size, 1, none⟩ = some (.int .i64 lo) := ext_cell hb q8_7
    have q9_8 : w9.cell? ⟨w4.heap.size, 2, none⟩ = some (.slice Ax n cx) := ext_cell hb q8_8
    have q9_9 : w9.cell? ⟨w5.heap.size, 0, none⟩ = some (.int .i64 U) := ext_cell hb q8_9
    have q9_10 : w9.cell? ⟨w5.heap.size, 1, none⟩ = some (.int .i64 LO) := ext_cell hb q8_10
    have q9_11 : w9.cell? ⟨w5.heap.size, 2, none⟩ = some (.slice Ag N cg) := ext_cell hb q8_11
    have b9 := Lib.hid (ext_trans b8.out hb)
    have t9 : w.heap.size ≤ w9.heap.size := b9.out.size
    have o9_w := Lib.hid (own_ext o8_w.out hb)
    have o9_x := Lib.hid (own_ext o8_x.out hb)
    have o9_g := Lib.hid (own_ext o8_g.out hb)
    clear q8_0 q8_1 q8_2 q8_3 q8_4 q8_5 q8_6 q8_7 q8_8 q8_9 q8_10 q8_11
    clear hb
    go_wp2_with fail
    refine (markFrame_any U LO Ag N cg _ _ 1 _ (by omega) (by omega) (by omega) o9_g.out).mono ?_
    rintro e w10 ⟨rfl, ho, hg⟩
    have s10 : w9.heap.size ≤ w10.heap.size := (by have := hg.size; (try simp at this); omega)
    have z10_0 : w.heap.size < w10.heap.size := (by omega)
    have z10_1 : w3.heap.size < w10.heap.size := (by omega)
    have z10_2 : w4.heap.size < w10.heap.size := (by omega)
    have z10_3 : w5.heap.size < w10.heap.size := (by omega)
    have q10_0 : w10.cell? ⟨w.heap.size, 0, none⟩ = some (.int .i64 u) := cell_far_grown hg (own_far_lt (b := w.heap.size) oc_g.out (by omega)) q9_0
    have q10_1 : w10.cell? ⟨w.heap.size, 1, none⟩ = some (.int .i64 lo) := cell_far_grown hg (own_far_lt (b := w.heap.size) oc_g.out (by omega)) q9_1
    have q10_2 : w10.cell? ⟨w.heap.size, 2, none⟩ = some (.slice A n c) := cell_far_grown hg (own_far_lt (b := w.heap.size) oc_g.out (by omega)) q9_2
    have q10_3 : w10.cell? ⟨w3.heap.size, 0, none⟩ = some (.int .i64 U) := cell_far_grown hg (own_far_lt (b := w3.heap.size) oc_g.out (by omega)) q9_3
    have q10_4 : w10.cell? ⟨w3.heap.size, 1, none⟩ = some (.int .i64 LO) := cell_far_grown hg (own_far_lt (b := w3.heap.size) oc_g.out (by omega)) q9_4
    have q10_5 : w10.cell? ⟨w3.heap.size, 2, none⟩ = some (.slice Aw N cw) := cell_far_grown hg (own_far_lt (b := w3.heap.size) oc_g.out (by omega)) q9_5
    have q10_6 : w10.cell? ⟨w4.heap.size, 0, none⟩ = some (.int .i64 u) := cell_far_grown hg (own_far_lt (b := w4.heap.size) oc_g.out (by omega)) q9_6
    have q10_7 : w10.cell? ⟨w4.heap.size, 1, none⟩ = some (.int .i64 lo) := cell_far_grown hg (own_far_lt (b := w4.heap.size) oc_g.out (by omega)) q9_7
    have q10_8 : w10.cell? ⟨w4.heap.size, 2, none⟩ = some (.slice Ax n cx) := cell_far_grown hg (own_far_lt (b := w4.heap.size) oc_g.out (by omega)) q9_8
    have q10_9 : w10.cell? ⟨w5.heap.size, 0, none⟩ = some (.int .i64 U) := cell_far_grown hg (own_far_ge (b := w5.heap.size) oc_g.out (by omega)) q9_9
    have q10_10 : w10.cell? ⟨w5.heap.size, 1, none⟩ = some (.int .i64 LO) := cell_far_grown hg (own_far_ge (b := w5.heap.size) oc_g.out (by omega)) q9_10
    have q10_11 : w10.cell? ⟨w5.heap.size, 2, none⟩ = some (.slice Ag N cg) := cell_far_grown hg (own_far_ge (b := w5.heap.size) oc_g.out (by omega)) q9_11
    have b10 := Lib.hid (below_grown' o9_g.out (by omega) b9.out hg)
    have t10 : w.heap.size ≤ w10.heap.size := b10.out.size
    have o10_w := Lib.hid (o9_w.out.kept hg (own_ne' oc_w.out oc_g.out (by omega)))
    have o10_x := Lib.hid (o9_x.out.kept hg (own_ne' oc_x.out oc_g.out (by omega)))
    clear q9_0 q9_1 q9_2 q9_3 q9_4 q9_5 q9_6 q9_7 q9_8 q9_9 q9_10 q9_11
    have o10_g := Lib.hid ho
    clear ho hg
    go_wp2_with fail
    refine (heldFrame_any U LO Ag N cg 1 _ (by omega) (by omega) (by omega) (Reads.of_own o10_g.out)).mono ?_
    rintro e w11 ⟨rfl, hb⟩
    have s11 : w10.heap.size ≤ w11.heap.size := (by have := hb.size; (try simp at this); omega)
    have z11_0 : w.heap.size < w11.heap.size := (by omega)
    have z11_1 : w3.heap.size < w11.heap.size := (by omega)
    have z11_2 : w4.heap.size < w11.heap.size := (by omega)
    have z11_3 : w5.heap.size < w11.heap.size := (by omega)
    have q11_0 : w11.cell? ⟨w.heap.size, 0, none⟩ = some (.int .i64 u) := ext_cell hb q10_0
    have q11_1 : w11.cell? ⟨w.heap.size, 1, none⟩ = some (.int .i64 lo) := ext_cell hb q10_1
    have q11_2 : w11.cell? ⟨w.heap.size, 2, none⟩ = some (.slice A n c) := ext_cell hb q10_2
    have q11_3 : w11.cell? ⟨w3.heap.size, 0, none⟩ = some (.int .i64 U) := ext_cell hb q10_3
    have q11_4 : w11.cell? ⟨w3.heap.size, 1, none⟩ = some (.int .i64 LO) := ext_cell hb q10_4
    have q11_5 : w11.cell? ⟨w3.heap.size, 2, none⟩ = some (.slice Aw N cw) := ext_cell hb q10_5
    have q11_6 : w11.cell? ⟨w4.heap.size, 0, none⟩ = some (.int .i64 u) := ext_cell hb q10_6
    have q11_7 : w11.cell? ⟨w4.heap.size, 1, none⟩ = some (.int .i64 lo) := ext_cell hb q10_7
    have q11_8 : w11.cell? ⟨w4.heap.size, 2, none⟩ = some (.slice Ax n cx) := ext_cell hb q10_8
    have q11_9 : w11.cell? ⟨w5.heap.size, 0, none⟩ = some (.int .i64 U) := ext_cell hb q10_9
    have q11_10 : w11.cell? ⟨w5.heap.size, 1, none⟩ = some (.int .i64 LO) := ext_cell hb q10_10
    have q11_11 : w11.cell? ⟨w5.heap.size, 2, none⟩ = some (.slice Ag N cg) := ext_cell hb q10_11
    have b11 := Lib.hid (ext_trans b10.out hb)
    have t11 : w.heap.size ≤ w11.heap.size := b11.out.size
    have o11_w := Lib.hid (own_ext o10_w.out hb)
    have o11_x := Lib.hid (own_ext o10_x.out hb)
    have o11_g := Lib.hid (own_ext o10_g.out hb)
    clear q10_0 q10_1 q10_2 q10_3 q10_4 q10_5 q10_6 q10_7 q10_8 q10_9 q10_10 q10_11
    clear hb
    go_wp2_with fail
    refine (toFrame_any u lo A n c l _ hn ((H.out.ext b11.out (Nat.le_refl _)).more (by first | omega | (simp <;> omega)))).mono ?_
    rintro e w12 ⟨Ap, cp, rfl, ho_p, hb⟩
    have s12 : w11.heap.size ≤ w12.heap.size := (by have := hb.size; (try simp at this); omega)
    have z12_0 : w.heap.size < w12.heap.size := (by omega)
    have z12_1 : w3.heap.size < w12.heap.size := (by omega)
    have z12_2 : w4.heap.size < w12.heap.size := (by omega)
    have z12_3 : w5.heap.size < w12.heap.size := (by omega)
    have q12_0 : w12.cell? ⟨w.heap.size, 0, none⟩ = some (.int .i64 u) := ext_cell hb q11_0
    have q12_1 : w12.cell? ⟨w.heap.size, 1, none⟩ = some (.int .i64 lo) := ext_cell hb q11_1
    have q12_2 : w12.cell? ⟨w.heap.size, 2, none⟩ = some (.slice A n c) := ext_cell hb q11_2
    have q12_3 : w12.cell? ⟨w3.heap.size, 0, none⟩ = some (.int .i64 U) := ext_cell hb q11_3
    have q12_4 : w12.cell? ⟨w3.heap.size, 1, none⟩ = some (.int .i64 LO) := ext_cell hb q11_4
    have q12_5 : w12.cell? ⟨w3.heap.size, 2, none⟩ = some (.slice Aw N cw) := ext_cell hb q11_5
    have q12_6 : w12.cell? ⟨w4.heap.size, 0, none⟩ = some (.int .i64 u) := ext_cell hb q11_6
    have q12_7 : w12.cell? ⟨w4.heap.size, 1, none⟩ = some (.int .i64 lo) := ext_cell hb q11_7
    have q12_8 : w12.cell? ⟨w4.heap.size, 2, none⟩ = some (.slice Ax n cx) := ext_cell hb q11_8
    have q12_9 : w12.cell? ⟨w5.heap.size, 0, none⟩ = some (.int .i64 U) := ext_cell hb q11_9
    have q12_10 : w12.cell? ⟨w5.heap.size, 1, none⟩ = some (.int .i64 LO) := ext_cell hb q11_10
    have q12_11 : w12.cell? ⟨w5.heap.size, 2, none⟩ = some (.slice Ag N cg) := ext_cell hb q11_11
    have b12 := Lib.hid (ext_trans b11.out hb)
    have t12 : w.heap.size ≤ w12.heap.size := b12.out.size
    have o12_w := Lib.hid (own_ext o11_w.out hb)
    have o12_x := Lib.hid (own_ext o11_x.out hb)
    have o12_g := Lib.hid (own_ext o11_g.out hb)
    clear q11_0 q11_1 q11_2 q11_3 q11_4 q11_5 q11_6 q11_7 q11_8 q11_9 q11_10 q11_11
    have oc_p := Lib.hid (own_base (base' := w11.heap.size + 0) ho_p (by simp))
    clear ho_p
    clear hb
    go_wp2_with fail
    refine (HB.out _ Ap cp (Reads.of_own oc_p.out)).mono ?_
    rintro e w13 ⟨Ah, ch, rfl, ho_h, hb⟩
    have s13 : w12.heap.size ≤ w13.heap.size := (by have := hb.size; (try simp at this); omega)
    have z13_0 : w.heap.size < w13.heap.size := (by omega)
    have z13_1 : w3.heap.size < w13.heap.size := (by omega)
    have z13_2 : w4.heap.size < w13.heap.size := (by omega)
    have z13_3 : w5.heap.size < w13.heap.size := (by omega)
    have q13_0 : w13.cell? ⟨w.heap.size, 0, none⟩ = some (.int .i64 u) := ext_cell hb q12_0
    have q13_1 : w13.cell? ⟨w.heap.size, 1, none⟩ = some (.int .i64 lo) := ext_cell hb q12_1
    have q13_2 : w13.cell? ⟨w.heap.size, 2, none⟩ = some (.slice A n c) := ext_cell hb q12_2
    have q13_3 : w13.cell? ⟨w3.heap.size, 0, none⟩ = some (.int .i64 U) := ext_cell hb q12_3
    have q13_4 : w13.cell? ⟨w3.heap.size, 1, none⟩ = some (.int .i64 LO) := ext_cell hb q12_4
    have q13_5 : w13.cell? ⟨w3.heap.size, 2, none⟩ = some (.slice Aw N cw) := ext_cell hb q12_5
    have q13_6 : w13.cell? ⟨w4.heap.size, 0, none⟩ = some (.int .i64 u) := ext_cell hb q12_6
    have q13_7 : w13.cell? ⟨w4.heap.size, 1, none⟩ = some (.int .i64 lo) := ext_cell hb q12_7
    have q13_8 : w13.cell? ⟨w4.heap.size, 2, none⟩ = some (.slice Ax n cx) := ext_cell hb q12_8
    have q13_9 : w13.cell? ⟨w5.heap.size, 0, none⟩ = some (.int .i64 U) := ext_cell hb q12_9
    have q13_10 : w13.cell? ⟨w5.heap.size, 1, none⟩ = some (.int .i64 LO) := ext_cell hb q12_10
    have q13_11 : w13.cell? ⟨w5.heap.size, 2, none⟩ = some (.slice Ag N cg) := ext_cell hb q12_11
    have b13 := Lib.hid (ext_trans b12.out hb)
    have t13 : w.heap.size ≤ w13.heap.size := b13.out.size
    have o13_w := Lib.hid (own_ext o12_w.out hb)
    have o13_x := Lib.hid (own_ext o12_x.out hb)
    have o13_g := Lib.hid (own_ext o12_g.out hb)
    have o13_p := Lib.hid (own_ext oc_p.out hb)
    clear q12_0 q12_1 q12_2 q12_3 q12_4 q12_5 q12_6 q12_7 q12_8 q12_9 q12_10 q12_11
    have oc_h := Lib.hid (own_base (base' := w12.heap.size + 0) ho_h (by simp))
    clear ho_h
    clear hb
    go_wp2_with fail
    refine (eqFrame_same U LO Ah Aw N ch cw L _ hN (Reads.of_own (oc_h.out.alloc _)) (Reads.of_own (o13_w.out.alloc _))).mono ?_
    rintro e w14 ⟨rfl, hb⟩
    have s14 : w13.heap.size + 1 ≤ w14.heap.size := (by have := hb.size; (try simp at this); omega)
    have z14_0 : w.heap.size < w14.heap.size := (by omega)
    have z14_1 : w3.heap.size < w14.heap.size := (by omega)
    have z14_2 : w4.heap.size < w14.heap.size := (by omega)
    have z14_3 : w5.heap.size < w14.heap.size := (by omega)
    have z14_4 : w13.heap.size < w14.heap.size := (by omega)
    have q14_0 : w14.cell? ⟨w.heap.size, 0, none⟩ = some (.int .i64 u) := ext_cell hb (cell_old q13_0 _)
    have q14_1 : w14.cell? ⟨w.heap.size, 1, none⟩ = some (.int .i64 lo) := ext_cell hb (cell_old q13_1 _)
    have q14_2 : w14.cell? ⟨w.heap.size, 2, none⟩ = some (.slice A n c) := ext_cell hb (cell_old q13_2 _)
    have q14_3 : w14.cell? ⟨w3.heap.size, 0, none⟩ = some (.int .i64 U) := ext_cell hb (cell_old q13_3 _)
    have q14_4 : w14.cell? ⟨w3.heap.size, 1, none⟩ = some (.int .i64 LO) := ext_cell hb (cell_old q13_4 _)
    have q14_5 : w14.cell? ⟨w3.heap.size, 2, none⟩ = some (.slice Aw N cw) := ext_cell hb (cell_old q13_5 _)
    have q14_6 : w14.cell? ⟨w4.heap.size, 0, none⟩ = some (.int .i64 u) := ext_cell hb (cell_old q13_6 _)
    have q14_7 : w14.cell? ⟨w4.heap.size, 1, none⟩ = some (.int .i64 lo) := ext_cell hb (cell_old q13_7 _)
    have q14_8 : w14.cell? ⟨w4.heap.size, 2, none⟩ = some (.slice Ax n cx) := ext_cell hb (cell_old q13_8 _)
    have q14_9 : w14.cell? ⟨w5.heap.size, 0, none⟩ = some (.int .i64 U) := ext_cell hb (cell_old q13_9 _)
    have q14_10 : w14.cell? ⟨w5.heap.size, 1, none⟩ = some (.int .i64 LO) := ext_cell hb (cell_old q13_10 _)
    have q14_11 : w14.cell? ⟨w5.heap.size, 2, none⟩ = some (.slice Ag N cg) := ext_cell hb (cell_old q13_11 _)
    have q14_12 : w14.cell? ⟨w13.heap.size, 0, none⟩ = some (.int .i64 U) := ext_cell hb (by simp [go_sem])
    have q14_13 : w14.cell? ⟨w13.heap.size, 1, none⟩ = some (.int .i64 LO) := ext_cell hb (by simp [go_sem])
    have q14_14 : w14.cell? ⟨w13.heap.size, 2, none⟩ = some (.slice Ah N ch) := ext_cell hb (by simp [go_sem])
    have b14 := Lib.hid (ext_trans (ext_alloc b13.out _) hb)
    have t14 : w.heap.size ≤ w14.heap.size := b14.out.size
    have o14_w := Lib.hid (own_ext (o13_w.out.alloc _) hb)
    have o14_x := Lib.hid (own_ext (o13_x.out.alloc _) hb)
    have o14_g := Lib.hid (own_ext (o13_g.out.alloc _) hb)
    have o14_h := Lib.hid (own_ext (oc_h.out.alloc _) hb)
    clear q13_0 q13_1 q13_2 q13_3 q13_4 q13_5 q13_6 q13_7 q13_8 q13_9 q13_10 q13_11
    clear hb
    go_wp2_with fail
    refine (heldFrame_any U LO Ag N cg 1 _ (by omega) (by omega) (by omega) (Reads.of_own o14_g.out)).mono ?_
    rintro e w15 ⟨rfl, hb⟩
    have s15 : w14.heap.size ≤ w15.heap.size := (by have := hb.size; (try simp at this); omega)
    have z15_0 : w.heap.size < w15.heap.size := (by omega)
    have z15_1 : w3.heap.size < w15.heap.size := (by omega)
    have z15_2 : w4.heap.size < w15.heap.size := (by omega)
    have z15_3 : w5.heap.size < w15.heap.size := (by omega)
    have z15_4 : w13.heap.size < w15.heap.size := (by omega)
    have q15_0 : w15.cell? ⟨w.heap.size, 0, none⟩ = some (.int .i64 u) := ext_cell hb q14_0
    have q15_1 : w15.cell? ⟨w.heap.size, 1, none⟩ = some (.int .i64 lo) := ext_cell hb q14_1
    have q15_2 : w15.cell? ⟨w.heap.size, 2, none⟩ = some (.slice A n c) := ext_cell hb q14_2
    have q15_3 : w15.cell? ⟨w3.heap.size, 0, none⟩ = some (.int .i64 U) := ext_cell hb q14_3
    have q15_4 : w15.cell? ⟨w3.heap.size, 1, none⟩ = some (.int .i64 LO) := ext_cell hb q14_4
    have q15_5 : w15.cell? ⟨w3.heap.size, 2, none⟩ = some (.slice Aw N cw) := ext_cell hb q14_5
    have q15_6 : w15.cell? ⟨w4.heap.size, 0, none⟩ = some (.int .i64 u) := ext_cell hb q14_6
    have q15_7 : w15.cell? ⟨w4.heap.size, 1, none⟩ = some (.int .i64 lo) := ext_cell hb q14_7
    have q15_8 : w15.cell? ⟨w4.heap.size, 2, none⟩ = some (.slice Ax n cx) := ext_cell hb q14_8
    have q15_9 : w15.cell? ⟨w5.heap.size, 0, none⟩ = some (.int .i64 U) := ext_cell hb q14_9
    have q15_10 : w15.cell? ⟨w5.heap.size, 1, none⟩ = some (.int .i64 LO) := ext_cell hb q14_10
    have q15_11 : w15.cell? ⟨w5.heap.size, 2, none⟩ = some (.slice Ag N cg) := ext_cell hb q14_11
    have q15_12 : w15.cell? ⟨w13.heap.size, 0, none⟩ = some (.int .i64 U) := ext_cell hb q14_12
    have q15_13 : w15.cell? ⟨w13.heap.size, 1, none⟩ = some (.int .i64 LO) := ext_cell hb q14_13
    have q15_14 : w15.cell? ⟨w13.heap.size, 2, none⟩ = some (.slice Ah N ch) := ext_cell hb q14_14
    have b15 := Lib.hid (ext_trans b14.out hb)
    have t15 : w.heap.size ≤ w15.heap.size := b15.out.size
    have o15_w := Lib.hid (own_ext o14_w.out hb)
    have o15_x := Lib.hid (own_ext o14_x.out hb)
    have o15_g := Lib.hid (own_ext o14_g.out hb)
    have o15_h := Lib.hid (own_ext o14_h.out hb)
    clear q14_0 q14_1 q14_2 q14_3 q14_4 q14_5 q14_6 q14_7 q14_8 q14_9 q14_10 q14_11 q14_12 q14_13 q14_14
    clear hb
    go_wp2
    go_ret
    exact ⟨rfl, b15.out⟩
set_option maxRecDepth 100000 in
set_option maxHeartbeats 4000000 in
theorem law_CompiledMoves (s : ByteArray) (u lo : Int) (A : Option Addr) (n c : Nat) (l : List R2) (w : World) (hs : s.size ≤ maxLen) (hn : n ≤ maxLen) (h : Reads w w.heap.size 2 A n (rowsV2 l)) :
    Calls Try.prog 3 #[.string s, frV u lo A n c] w fun e w' => e = .returned (.bool true) ∧ Below w.heap.size w w' := by
  unfold maxLen at hn hs
  have HS := Lib.hid (fun w => szFrame_any u lo A n c 1048576 w hn (by omega) (by omega))
  have H := Lib.hid h
  clear h
  by_cases hsb : (1048576 : Int) < s.size
  · go_enter Try.func3, Try.ntmps3
    go_wp2
    go_ret
    exact ⟨rfl, ext_alloc (ext_refl _) _⟩
  have hs' : s.size ≤ 16777216 := by omega
  by_cases hbig : (1048576 : Int) < n
  · rw [szv_no hbig] at HS
    go_enter Try.func3, Try.ntmps3
    go_wp2_with (go_at_call 12; refine (HS.out _).mono ?_; rintro e w' ⟨rfl, hb⟩)
    go_ret
    exact ⟨rfl, (by repeat (first | exact ext_refl _ | assumption | refine ext_alloc ?_ _ | refine ext_drew ?_ | refine ext_drewN ?_ _ | refine ext_set ?_ (by simp <;> omega) _ | refine ext_trans ?_ (by assumption)))⟩
  rw [szv_yes hbig] at HS
  have hneg : ¬ (1048576 : Int) - n < 0 := by omega
  have hn : n ≤ 1048576 := by omega
  have HA := Lib.hid (fun (w : World) (A : Option Addr) (c : Nat) h => specCompiledMoves_any u lo A n c l s w hs' hn h)
  have HB := Lib.hid (fun (w : World) (A : Option Addr) (c : Nat) h => implCompiledMoves_any u lo A n c l s w hs' hn h)
  have hN := cmpMs_len u lo l s
  unfold RetMv at HA HB
  obtain ⟨M, hM⟩ : ∃ M, cmpMs u lo l s = M := ⟨_, rfl⟩
  obtain ⟨ok, hok⟩ : ∃ ok, cmpOk u lo l s = ok := ⟨_, rfl⟩
  rw [hM, hok] at HA HB
  rw [hM] at hN
  obtain ⟨N, hNL⟩ : ∃ N, M.length = N := ⟨_, rfl⟩
  rw [hNL] at HA HB hN
  have hN : N ≤ 1048576 := by omega
  clear hM hok hNL
  go_enter Try.func3, Try.ntmps3
  go_wp2_with fail
  refine (HS.out _).mono ?_
  rintro e w1 ⟨rfl, hb⟩
  have s1 : w.heap.size + 1 ≤ w1.heap.size := (by have := hb.size; (try simp at this); omega)
  have z1_0 : w.heap.size < w1.heap.size := (by omega)
  have q1_0 : w1.cell? ⟨w.heap.size, 0, none⟩ = some (.int .i64 u) := ext_cell hb (by simp [go_sem])
  have q1_1 : w1.cell? ⟨w.heap.size, 1, none⟩ = some (.int .i64 lo) := ext_cell hb (by simp [go_sem])
  have q1_2 : w1.cell? ⟨w.heap.size, 2, none⟩ = some (.slice A n c) := ext_cell hb (by simp [go_sem])
  have b1 := Lib.hid (ext_trans (ext_alloc (ext_refl w) _) hb)
  have t1 : w.heap.size ≤ w1.heap.size := b1.out.size
  clear hb
  go_wp2_with fail
  refine (toFrame_any u lo A n c l _ hn ((H.out.ext b1.out (Nat.le_refl _)).more (by first | omega | (simp <;> omega)))).mono ?_
  rintro e w2 ⟨Av, cv, rfl, ho_v, hb⟩
  have s2 : w1.heap.size ≤ w2.heap.size := (by have := hb.size; (try simp at this); omega)
  have z2_0 : w.heap.size < w2.heap.size := (by omega)
  have q2_0 : w2.cell? ⟨w.heap.size, 0, none⟩ = some (.int .i64 u) := ext_cell hb q1_0
  have q2_1 : w2.cell? ⟨w.heap.size, 1, none⟩ = some (.int .i64 lo) := ext_cell hb q1_1
  have q2_2 : w2.cell? ⟨w.heap.size, 2, none⟩ = some (.slice A n c) := ext_cell hb q1_2
  have b2 := Lib.hid (ext_trans b1.out hb)
  have t2 : w.heap.size ≤ w2.heap.size := b2.out.size
  clear q1_0 q1_1 q1_2
  have oc_v := Lib.hid (own_base (base' := w1.heap.size + 0) ho_v (by simp))
  clear ho_v
  clear hb
  go_wp2_with fail
  refine (HA.out _ Av cv (Reads.of_own oc_v.out)).mono ?_
  rintro e w3 ⟨Aw, cw, rfl, ho_w, hb⟩
  have s3 : w2.heap.size ≤ w3.heap.size := (by have := hb.size; (try simp at this); omega)
  have z3_0 : w.heap.size < w3.heap.size := (by omega)
  have q3_0 : w3.cell? ⟨w.heap.size, 0, none⟩ = some (.int .i64 u) := ext_cell hb q2_0
  have q3_1 : w3.cell? ⟨w.heap.size, 1, none⟩ = some (.int .i64 lo) := ext_cell hb q2_1
  have q3_2 : w3.cell? ⟨w.heap.size, 2, none⟩ = some (.slice A n c) := ext_cell hb q2_2
  have b3 := Lib.hid (ext_trans b2.out hb)
  have t3 : w.heap.size ≤ w3.heap.size := b3.out.size
  have o3_v := Lib.hid (own_ext oc_v.out hb)
  clear q2_0 q2_1 q2_2
  have oc_w := Lib.hid (own_base (base' := w2.heap.size + 0) ho_w (by simp))
  clear ho_w
  clear hb
  go_wp2_with fail
  refine (toFrame_any u lo A n c l _ hn ((H.out.ext b3.out (Nat.le_refl _)).more (by first | omega | (simp <;> omega)))).mono ?_
  rintro e w4 ⟨Ax, cx, rfl, ho_x, hb⟩
  have s4 : w3.heap.size ≤ w4.heap.size := (by have := hb.size; (try simp at this); omega)
  have z4_0 : w.heap.size < w4.heap.size := (by omega)
  have q4_0 : w4.cell? ⟨w.heap.size, 0, none⟩ = some (.int .i64 u) := ext_cell hb q3_0
  have q4_1 : w4.cell? ⟨w.heap.size, 1, none⟩ = some (.int .i64 lo) := ext_cell hb q3_1
  have q4_2 : w4.cell? ⟨w.heap.size, 2, none⟩ = some (.slice A n c) := ext_cell hb q3_2
  have b4 := Lib.hid (ext_trans b3.out hb)
  have t4 : w.heap.size ≤ w4.heap.size := b4.out.size
  have o4_w := Lib.hid (own_ext oc_w.out hb)
  clear q3_0 q3_1 q3_2
  have oc_x := Lib.hid (own_base (base' := w3.heap.size + 0) ho_x (by simp))
  clear ho_x
  clear hb
  go_wp2_with fail
  refine (HB.out _ Ax cx (Reads.of_own (oc_x.out.alloc _))).mono ?_
  rintro e w5 ⟨Ag, cg, rfl, ho_g, hb⟩
  have s5 : w4.heap.size + 1 ≤ w5.heap.size := (by have := hb.size; (try simp at this); omega)
  have z5_0 : w.heap.size < w5.heap.size := (by omega)
  have z5_1 : w4.heap.size < w5.heap.size := (by omega)
  have q5_0 : w5.cell? ⟨w.heap.size, 0, none⟩ = some (.int .i64 u) := ext_cell hb (cell_old q4_0 _)
  have q5_1 : w5.cell? ⟨w.heap.size, 1, none⟩ = some (.int .i64 lo) := ext_cell hb (cell_old q4_1 _)
  have q5_2 : w5.cell? ⟨w.heap.size, 2, none⟩ = some (.slice A n c) := ext_cell hb (cell_old q4_2 _)
  have q5_3 : w5.cell? ⟨w4.heap.size, 0, none⟩ = some (.int .i64 u) := ext_cell hb (by simp [go_sem])
  have q5_4 : w5.cell? ⟨w4.heap.size, 1, none⟩ = some (.int .i64 lo) := ext_cell hb (by simp [go_sem])
  have q5_5 : w5.cell? ⟨w4.heap.size, 2, none⟩ = some (.slice Ax n cx) := ext_cell hb (by simp [go_sem])
  have b5 := Lib.hid (ext_trans (ext_alloc b4.out _) hb)
  have t5 : w.heap.size ≤ w5.heap.size := b5.out.size
  have o5_w := Lib.hid (own_ext (o4_w.out.alloc _) hb)
  have o5_x := Lib.hid (own_ext (oc_x.out.alloc _) hb)
  clear q4_0 q4_1 q4_2
  have oc_g := Lib.hid (own_base (base' := w4.heap.size + 1) ho_g (by simp))
  clear ho_g
  clear hb
  have heq := Lib.hid (fun (w : World) h h' => eqBeadMoveS_any Ag Aw N N cg cw M M w (by omega) (by omega) h h')
  rw [decide_eq_true rfl] at heq
  go_wp2_with fail
  refine (heq.out _ (Reads.of_own oc_g.out) (Reads.of_own o5_w.out)).mono ?_
  rintro e w6 ⟨rfl, hb⟩
  have s6 : w5.heap.size ≤ w6.heap.size := (by have := hb.size; (try simp at this); omega)
  have z6_0 : w.heap.size < w6.heap.size := (by omega)
  have z6_1 : w4.heap.size < w6.heap.size := (by omega)
  have q6_0 : w6.cell? ⟨w.heap.size, 0, none⟩ = some (.int .i64 u) := ext_cell hb q5_0
  have q6_1 : w6.cell? ⟨w.heap.size, 1, none⟩ = some (.int .i64 lo) := ext_cell hb q5_1
  have q6_2 : w6.cell? ⟨w.heap.size, 2, none⟩ = some (.slice A n c) := ext_cell hb q5_2
  have q6_3 : w6.cell? ⟨w4.heap.size, 0, none⟩ = some (.int .i64 u) := ext_cell hb q5_3
  have q6_4 : w6.cell? ⟨w4.heap.size, 1, none⟩ = some (.int .i64 lo) := ext_cell hb q5_4
  have q6_5 : w6.cell? ⟨w4.heap.size, 2, none⟩ = some (.slice Ax n cx) := ext_cell hb q5_5
  have b6 := Lib.hid (ext_trans b5.out hb)
  have t6 : w.heap.size ≤ w6.heap.size := b6.out.size
  have o6_w := Lib.hid (own_ext o5_w.out hb)
  have o6_x := Lib.hid (own_ext o5_x.out hb)
  have o6_g := Lib.hid (own_ext oc_g.out hb)
  clear q5_0 q5_1 q5_2 q5_3 q5_4 q5_5
  clear hb
  clear heq
  go_upto_region 12 with fail
  go_cut [52] (fun s52 wx => s52 = .bool false ∧ Below w6.heap.size w6 wx)
  case first =>
    go_region_held3 (fun w' => w'.cell? ⟨w.heap.size, 0, none⟩ = some (.int .i64 u) ∧ w'.cell? ⟨w.heap.size, 1, none⟩ = some (.int .i64 lo) ∧ w'.cell? ⟨w.heap.size, 2, none⟩ = some (.slice A n c) ∧ w'.cell? ⟨w4.heap.size, 0, none⟩ = some (.int .i64 u) ∧ w'.cell? ⟨w4.heap.size, 1, none⟩ = some (.int .i64 lo) ∧ w'.cell? ⟨w4.heap.size, 2, none⟩ = some (.slice Ax n cx)) (first | (go_split_ands; ((repeat' refine And.intro ?_ ?_) <;> with_reducible (repeat (first | assumption | refine cell_drew ?_ | refine cell_old ?_ _))))) (first | (go_at_call 14; refine (toFrame_any u lo A n c l _ hn ((H.out.ext (ext_drew b6.out) (Nat.le_refl _)).more (by first | omega | (simp; omega) | (simp <;> omega)))).mono ?_; rintro e w' ⟨Ay, cy, rfl, hoy, hb⟩; have hoy := Lib.hid hoy; have hbY := Lib.hid hb; obtain ⟨hc, hf⟩ := bcell hb; have k0 : w'.cell? ⟨w.heap.size, 0, none⟩ = some (.int .i64 u) := ext_cell hb (by with_reducible (repeat (first | assumption | refine cell_drew ?_))); have k1 : w'.cell? ⟨w.heap.size, 1, none⟩ = some (.int .i64 lo) := ext_cell hb (by with_reducible (repeat (first | assumption | refine cell_drew ?_))); have k2 : w'.cell? ⟨w.heap.size, 2, none⟩ = some (.slice A n c) := ext_cell hb (by with_reducible (repeat (first | assumption | refine cell_drew ?_))); have k3 : w'.cell? ⟨w4.heap.size, 0, none⟩ = some (.int .i64 u) := ext_cell hb (by with_reducible (repeat (first | assumption | refine cell_drew ?_))); have k4 : w'.cell? ⟨w4.heap.size, 1, none⟩ = some (.int .i64 lo) := ext_cell hb (by with_reducible (repeat (first | assumption | refine cell_drew ?_))); have k5 : w'.cell? ⟨w4.heap.size, 2, none⟩ = some (.slice Ax n cx) := ext_cell hb (by with_reducible (repeat (first | assumption | refine cell_drew ?_)))) | (go_at_call 17; refine (eqFrame_same u lo Ax Ay n cx cy l _ hn (Reads.of_own (own_ext (World.ownsRow.drew o6_x.out) hbY.out)) (Reads.of_own hoy.out)).mono ?_; rintro e w' ⟨rfl, hb⟩; have hbZ := Lib.hid hb; obtain ⟨hc, hf⟩ := bcell hb; have k0 : w'.cell? ⟨w.heap.size, 0, none⟩ = some (.int .i64 u) := ext_cell hb (by with_reducible (repeat (first | assumption | refine cell_drew ?_))); have k1 : w'.cell? ⟨w.heap.size, 1, none⟩ = some (.int .i64 lo) := ext_cell hb (by with_reducible (repeat (first | assumption | refine cell_drew ?_))); have k2 : w'.cell? ⟨w.heap.size, 2, none⟩ = some (.slice A n c) := ext_cell hb (by with_reducible (repeat (first | assumption | refine cell_drew ?_))); have k3 : w'.cell? ⟨w4.heap.size, 0, none⟩ = some (.int .i64 u) := ext_cell hb (by with_reducible (repeat (first | assumption | refine cell_drew ?_))); have k4 : w'.cell? ⟨w4.heap.size, 1, none⟩ = some (.int .i64 lo) := ext_cell hb (by with_reducible (repeat (first | assumption | refine cell_drew ?_))); have k5 : w'.cell? ⟨w4.heap.size, 2, none⟩ = some (.slice Ax n cx) := ext_cell hb (by with_reducible (repeat (first | assumption | refine cell_drew ?_)))))
    all_goals (go_wp2_with fail; go_meet; exact ⟨rfl, ext_trans (ext_trans (ext_drew (ext_refl _)) hbY.out) hbZ.out⟩)
  case rest =>
    obtain ⟨rfl, hb⟩ := hcut
    obtain ⟨w7, hw7⟩ : ∃ x : World, x = wc := ⟨_, rfl⟩
    subst hw7
    have s7 : w6.heap.size ≤ w7.heap.size := (by have := hb.size; (try simp at this); omega)
    have z7_0 : w.heap.size < w7.heap.size := (by omega)
    have z7_1 : w4.heap.size < w7.heap.size := (by omega)
    have q7_0 : w7.cell? ⟨w.heap.size, 0, none⟩ = some (.int .i64 u) := ext_cell hb q6_0
    have q7_1 : w7.cell? ⟨w.heap.size, 1, none⟩ = some (.int .i64 lo) := ext_cell hb q6_1
    have q7_2 : w7.cell? ⟨w.heap.size, 2, none⟩ = some (.slice A n c) := ext_cell hb q6_2
    have q7_3 : w7.cell? ⟨w4.heap.size, 0, none⟩ = some (.int .i64 u) := ext_cell hb q6_3
    have q7_4 : w7.cell? ⟨w4.heap.size, 1, none⟩ = some (.int .i64 lo) := ext_cell hb q6_4
    have q7_5 : w7.cell? ⟨w4.heap.size, 2, none⟩ = some (.slice Ax n cx) := ext_cell hb q6_5
    have b7 := Lib.hid (ext_trans b6.out hb)
    have t7 : w.heap.size ≤ w7.heap.size := b7.out.size
    have o7_w := Lib.hid (own_ext o6_w.out hb)
    have o7_x := Lib.hid (own_ext o6_x.out hb)
    have o7_g := Lib.hid (own_ext o6_g.out hb)
    clear q6_0 q6_1 q6_2 q6_3 q6_4 q6_5
    clear hb
    go_wp2_with fail
    refine (markFrame_any u lo Ax n cx _ _ 1 _ (by omega) (by omega) (by omega) o7_x.out).mono ?_
    rintro e w8 ⟨rfl, ho, hg⟩
    have s8 : w7.heap.size ≤ w8.heap.size := (by have := hg.size; (try simp at this); omega)
    have z8_0 : w.heap.size < w8.heap.size := (by omega)
    have z8_1 : w4.heap.size < w8.heap.size := (by omega)
    have q8_0 : w8.cell? ⟨w.heap.size, 0, none⟩ = some (.int .i64 u) := cell_far_grown hg (own_far_lt (b := w.heap.size) oc_x.out (by omega)) q7_0
    have q8_1 : w8.cell? ⟨w.heap.size, 1, none⟩ = some (.int .i64 lo) := cell_far_grown hg (own_far_lt (b := w.heap.size) oc_x.out (by omega)) q7_1
    have q8_2 : w8.cell? ⟨w.heap.size, 2, none⟩ = some (.slice A n c) := cell_far_grown hg (own_far_lt (b := w.heap.size) oc_x.out (by omega)) q7_2
    have q8_3 : w8.cell? ⟨w4.heap.size, 0, none⟩ = some (.int .i64 u) := cell_far_grown hg (own_far_ge (b := w4.heap.size) oc_x.out (by omega)) q7_3
    have q8_4 : w8.cell? ⟨w4.heap.size, 1, none⟩ = some (.int .i64 lo) := cell_far_grown hg (own_far_ge (b := w4.heap.size) oc_x.out (by omega)) q7_4
    have q8_5 : w8.cell? ⟨w4.heap.size, 2, none⟩ = some (.slice Ax n cx) := cell_far_grown hg (own_far_ge (b := w4.heap.size) oc_x.out (by omega)) q7_5
    have b8 := Lib.hid (below_grown' o7_x.out (by omega) b7.out hg)
    have t8 : w.heap.size ≤ w8.heap.size := b8.out.size
    have o8_w := Lib.hid (o7_w.out.kept hg (own_ne' oc_w.out oc_x.out (by omega)))
    have o8_g := Lib.hid (o7_g.out.kept hg (own_ne oc_x.out oc_g.out (by omega)))
    clear q7_0 q7_1 q7_2 q7_3 q7_4 q7_5
    have o8_x := Lib.hid ho
    clear ho hg
    have heq := Lib.hid (fun (w : World) h h' => eqBeadMoveS_any Ag Aw N N cg cw M M w (by omega) (by omega) h h')
    rw [decide_eq_true rfl] at heq
    go_wp2_with fail
    refine (heq.out _ (Reads.of_own o8_g.out) (Reads.of_own o8_w.out)).mono ?_
    rintro e w9 ⟨rfl, hb⟩
    have s9 : w8.heap.size ≤ w9.heap.size := (by have := hb.size; (try simp at this); omega)
    have z9_0 : w.heap.size < w9.heap.size := (by omega)
    have z9_1 : w4.heap.size < w9.heap.size := (by omega)
    have q9_0 : w9.cell? ⟨w.heap.size, 0, none⟩ = some (.int .i64 u) := ext_cell hb q8_0
    have q9_1 : w9.cell? ⟨w.heap.size, 1, none⟩ = some (.int .i64 lo) := ext_cell hb q8_1
    have q9_2 : w9.cell? ⟨w.heap.size, 2, none⟩ = some (.slice A n c) := ext_cell hb q8_2
    have q9_3 : w9.cell? ⟨w4.heap.size, 0, none⟩ = some (.int .i64 u) := ext_cell hb q8_3
    have q9_4 : w9.cell? ⟨w4.heap.size, 1, none⟩ = some (.int .i64 lo) := ext_cell hb q8_4
    have q9_5 : w9.cell? ⟨w4.heap.size, 2, none⟩ = some (.slice Ax n cx) := ext_cell hb q8_5
    have b9 := Lib.hid (ext_trans b8.out hb)
    have t9 : w.heap.size ≤ w9.heap.size := b9.out.size
    have o9_w := Lib.hid (own_ext o8_w.out hb)
    have o9_x := Lib.hid (own_ext o8_x.out hb)
    have o9_g := Lib.hid (own_ext o8_g.out hb)
    clear q8_0 q8_1 q8_2 q8_3 q8_4 q8_5
    clear hb
    clear heq
    go_wp2_with fail
    refine (markBeadMoveS_any Ag N cg _ _ 1 _ (by omega) (by omega) (by omega) o9_g.out).mono ?_
    rintro e w10 ⟨rfl, ho, hg⟩
    have s10 : w9.heap.size ≤ w10.heap.size := (by have := hg.size; (try simp at this); omega)
    have z10_0 : w.heap.size < w10.heap.size := (by omega)
    have z10_1 : w4.heap.size < w10.heap.size := (by omega)
    have q10_0 : w10.cell? ⟨w.heap.size, 0, none⟩ = some (.int .i64 u) := cell_far_grown hg (own_far_lt (b := w.heap.size) oc_g.out (by omega)) q9_0
    have q10_1 : w10.cell? ⟨w.heap.size, 1, none⟩ = some (.int .i64 lo) := cell_far_grown hg (own_far_lt (b := w.heap.size) oc_g.out (by omega)) q9_1
    have q10_2 : w10.cell? ⟨w.heap.size, 2, none⟩ = some (.slice A n c) := cell_far_grown hg (own_far_lt (b := w.heap.size) oc_g.out (by omega)) q9_2
    have q10_3 : w10.cell? ⟨w4.heap.size, 0, none⟩ = some (.int .i64 u) := cell_far_grown hg (own_far_lt (b := w4.heap.size) oc_g.out (by omega)) q9_3
    have q10_4 : w10.cell? ⟨w4.heap.size, 1, none⟩ = some (.int .i64 lo) := cell_far_grown hg (own_far_lt (b := w4.heap.size) oc_g.out (by omega)) q9_4
    have q10_5 : w10.cell? ⟨w4.heap.size, 2, none⟩ = some (.slice Ax n cx) := cell_far_grown hg (own_far_lt (b := w4.heap.size) oc_g.out (by omega)) q9_5
    have b10 := Lib.hid (below_grown' o9_g.out (by omega) b9.out hg)
    have t10 : w.heap.size ≤ w10.heap.size := b10.out.size
    have o10_w := Lib.hid (o9_w.out.kept hg (own_ne' oc_w.out oc_g.out (by omega)))
    have o10_x := Lib.hid (o9_x.out.kept hg (own_ne' oc_x.out oc_g.out (by omega)))
    clear q9_0 q9_1 q9_2 q9_3 q9_4 q9_5
    have o10_g := Lib.hid ho
    clear ho hg
    go_wp2_with fail
    refine (heldBeadMoveS_any Ag N cg 1 _ (by omega) (by omega) (by omega) (Reads.of_own o10_g.out)).mono ?_
    rintro e wz ⟨rfl, rfl⟩
    go_wp2_with fail
    refine (toFrame_any u lo A n c l _ hn ((H.out.ext b10.out (Nat.le_refl _)).more (by first | omega | (simp <;> omega)))).mono ?_
    rintro e w11 ⟨Ap, cp, rfl, ho_p, hb⟩
    have s11 : w10.heap.size ≤ w11.heap.size := (by have := hb.size; (try simp at this); omega)
    have z11_0 : w.heap.size < w11.heap.size := (by omega)
    have z11_1 : w4.heap.size < w11.heap.size := (by omega)
    have q11_0 : w11.cell? ⟨w.heap.size, 0, none⟩ = some (.int .i64 u) := ext_cell hb q10_0
    have q11_1 : w11.cell? ⟨w.heap.size, 1, none⟩ = some (.int .i64 lo) := ext_cell hb q10_1
    have q11_2 : w11.cell? ⟨w.heap.size, 2, none⟩ = some (.slice A n c) := ext_cell hb q10_2
    have q11_3 : w11.cell? ⟨w4.heap.size, 0, none⟩ = some (.int .i64 u) := ext_cell hb q10_3
    have q11_4 : w11.cell? ⟨w4.heap.size, 1, none⟩ = some (.int .i64 lo) := ext_cell hb q10_4
    have q11_5 : w11.cell? ⟨w4.heap.size, 2, none⟩ = some (.slice Ax n cx) := ext_cell hb q10_5
    have b11 := Lib.hid (ext_trans b10.out hb)
    have t11 : w.heap.size ≤ w11.heap.size := b11.out.size
    have o11_w := Lib.hid (own_ext o10_w.out hb)
    have o11_x := Lib.hid (own_ext o10_x.out hb)
    have o11_g := Lib.hid (own_ext o10_g.out hb)
    clear q10_0 q10_1 q10_2 q10_3 q10_4 q10_5
    have oc_p := Lib.hid (own_base (base' := w10.heap.size + 0) ho_p (by simp))
    clear ho_p
    clear hb
    go_wp2_with fail
    refine (HB.out _ Ap cp (Reads.of_own oc_p.out)).mono ?_
    rintro e w12 ⟨Ah, ch, rfl, ho_h, hb⟩
    have s12 : w11.heap.size ≤ w12.heap.size := (by have := hb.size; (try simp at this); omega)
    have z12_0 : w.heap.size < w12.heap.size := (by omega)
    have z12_1 : w4.heap.size < w12.heap.size := (by omega)
    have q12_0 : w12.cell? ⟨w.heap.size, 0, none⟩ = some (.int .i64 u) := ext_cell hb q11_0
    have q12_1 : w12.cell? ⟨w.heap.size, 1, none⟩ = some (.int .i64 lo) := ext_cell hb q11_1
    have q12_2 : w12.cell? ⟨w.heap.size, 2, none⟩ = some (.slice A n c) := ext_cell hb q11_2
    have q12_3 : w12.cell? ⟨w4.heap.size, 0, none⟩ = some (.int .i64 u) := ext_cell hb q11_3
    have q12_4 : w12.cell? ⟨w4.heap.size, 1, none⟩ = some (.int .i64 lo) := ext_cell hb q11_4
    have q12_5 : w12.cell? ⟨w4.heap.size, 2, none⟩ = some (.slice Ax n cx) := ext_cell hb q11_5
    have b12 := Lib.hid (ext_trans b11.out hb)
    have t12 : w.heap.size ≤ w12.heap.size := b12.out.size
    have o12_w := Lib.hid (own_ext o11_w.out hb)
    have o12_x := Lib.hid (own_ext o11_x.out hb)
    have o12_g := Lib.hid (own_ext o11_g.out hb)
    have o12_p := Lib.hid (own_ext oc_p.out hb)
    clear q11_0 q11_1 q11_2 q11_3 q11_4 q11_5
    have oc_h := Lib.hid (own_base (base' := w11.heap.size + 0) ho_h (by simp))
    clear ho_h
    clear hb
    have heq := Lib.hid (fun (w : World) h h' => eqBeadMoveS_any Ah Aw N N ch cw M M w (by omega) (by omega) h h')
    rw [decide_eq_true rfl] at heq
    go_wp2_with fail
    refine (heq.out _ (Reads.of_own oc_h.out) (Reads.of_own o12_w.out)).mono ?_
    rintro e w13 ⟨rfl, hb⟩
    have s13 : w12.heap.size ≤ w13.heap.size := (by have := hb.size; (try simp at this); omega)
    have z13_0 : w.heap.size < w13.heap.size := (by omega)
    have z13_1 : w4.heap.size < w13.heap.size := (by omega)
    have q13_0 : w13.cell? ⟨w.heap.size, 0, none⟩ = some (.int .i64 u) := ext_cell hb q12_0
    have q13_1 : w13.cell? ⟨w.heap.size, 1, none⟩ = some (.int .i64 lo) := ext_cell hb q12_1
    have q13_2 : w13.cell? ⟨w.heap.size, 2, none⟩ = some (.slice A n c) := ext_cell hb q12_2
    have q13_3 : w13.cell? ⟨w4.heap.size, 0, none⟩ = some (.int .i64 u) := ext_cell hb q12_3
    have q13_4 : w13.cell? ⟨w4.heap.size, 1, none⟩ = some (.int .i64 lo) := ext_cell hb q12_4
    have q13_5 : w13.cell? ⟨w4.heap.size, 2, none⟩ = some (.slice Ax n cx) := ext_cell hb q12_5
    have b13 := Lib.hid (ext_trans b12.out hb)
    have t13 : w.heap.size ≤ w13.heap.size := b13.out.size
    have o13_w := Lib.hid (own_ext o12_w.out hb)
    have o13_x := Lib.hid (own_ext o12_x.out hb)
    have o13_g := Lib.hid (own_ext o12_g.out hb)
    have o13_h := Lib.hid (own_ext oc_h.out hb)
    clear q12_0 q12_1 q12_2 q12_3 q12_4 q12_5
    clear hb
    clear heq
    go_wp2_with fail
    refine (heldBeadMoveS_any Ag N cg 1 _ (by omega) (by omega) (by omega) (Reads.of_own o13_g.out)).mono ?_
    rintro e wz ⟨rfl, rfl⟩
    go_wp2
    go_ret
    exact ⟨rfl, b13.out⟩
set_option maxRecDepth 100000 in
set_option maxHeartbeats 4000000 in
theorem law_FirstFailure (s : ByteArray) (u lo : Int) (A : Option Addr) (n c : Nat) (l : List R2) (w : World) (hs : s.size ≤ maxLen) (hn : n ≤ maxLen) (h : Reads w w.heap.size 2 A n (rowsV2 l)) :
    Calls Try.prog 4 #[.string s, frV u lo A n c] w fun e w' => e = .returned (.bool true) ∧ Below w.heap.size w w' := by
  unfold maxLen at hn hs
  have HS := Lib.hid (fun w => szFrame_any u lo A n c 1048576 w hn (by omega) (by omega))
  have H := Lib.hid h
  clear h
  by_cases hsb : (1048576 : Int) < s.size
  · go_enter Try.func4, Try.ntmps4
    go_wp2
    go_ret
    exact ⟨rfl, ext_alloc (ext_refl _) _⟩
  have hs' : s.size ≤ 16777216 := by omega
  by_cases hbig : (1048576 : Int) < n
  · rw [szv_no hbig] at HS
    go_enter Try.func4, Try.ntmps4
    go_wp2_with (go_at_call 12; refine (HS.out _).mono ?_; rintro e w' ⟨rfl, hb⟩)
    go_ret
    exact ⟨rfl, (by repeat (first | exact ext_refl _ | assumption | refine ext_alloc ?_ _ | refine ext_drew ?_ | refine ext_drewN ?_ _ | refine ext_set ?_ (by simp <;> omega) _ | refine ext_trans ?_ (by assumption)))⟩
  rw [szv_yes hbig] at HS
  have hneg : ¬ (1048576 : Int) - n < 0 := by omega
  have hn : n ≤ 1048576 := by omega
  have HA := Lib.hid (fun (w : World) (A : Option Addr) (c : Nat) h => specFirstFailure_any u lo A n c l s w hs' hn h)
  have HB := Lib.hid (fun (w : World) (A : Option Addr) (c : Nat) h => implFirstFailure_any u lo A n c l s w hs' hn h)
  obtain ⟨V, hV⟩ : ∃ V, ffV u lo l s = V := ⟨_, rfl⟩
  obtain ⟨ok, hok⟩ : ∃ ok, runB u lo l s = ok := ⟨_, rfl⟩
  rw [hV, hok] at HA HB
  clear hV hok
  go_enter Try.func4, Try.ntmps4
  go_wp2_with fail
  refine (HS.out _).mono ?_
  rintro e w1 ⟨rfl, hb⟩
  have s1 : w.heap.size + 1 ≤ w1.heap.size := (by have := hb.size; (try simp at this); omega)
  have z1_0 : w.heap.size < w1.heap.size := (by omega)
  have q1_0 : w1.cell? ⟨w.heap.size, 0, none⟩ = some (.int .i64 u) := ext_cell hb (by simp [go_sem])
  have q1_1 : w1.cell? ⟨w.heap.size, 1, none⟩ = some (.int .i64 lo) := ext_cell hb (by simp [go_sem])
  have q1_2 : w1.cell? ⟨w.heap.size, 2, none⟩ = some (.slice A n c) := ext_cell hb (by simp [go_sem])
  have b1 := Lib.hid (ext_trans (ext_alloc (ext_refl w) _) hb)
  have t1 : w.heap.size ≤ w1.heap.size := b1.out.size
  clear hb
  go_wp2_with fail
  refine (toFrame_any u lo A n c l _ hn ((H.out.ext b1.out (Nat.le_refl _)).more (by first | omega | (simp <;> omega)))).mono ?_
  rintro e w2 ⟨Av, cv, rfl, ho_v, hb⟩
  have s2 : w1.heap.size ≤ w2.heap.size := (by have := hb.size; (try simp at this); omega)
  have z2_0 : w.heap.size < w2.heap.size := (by omega)
  have q2_0 : w2.cell? ⟨w.heap.size, 0, none⟩ = some (.int .i64 u) := ext_cell hb q1_0
  have q2_1 : w2.cell? ⟨w.heap.size, 1, none⟩ = some (.int .i64 lo) := ext_cell hb q1_1
  have q2_2 : w2.cell? ⟨w.heap.size, 2, none⟩ = some (.slice A n c) := ext_cell hb q1_2
  have b2 := Lib.hid (ext_trans b1.out hb)
  have t2 : w.heap.size ≤ w2.heap.size := b2.out.size
  clear q1_0 q1_1 q1_2
  have oc_v := Lib.hid (own_base (base' := w1.heap.size + 0) ho_v (by simp))
  clear ho_v
  clear hb
  go_wp2_with fail
  refine (HA.out _ Av cv (Reads.of_own oc_v.out)).mono ?_
  rintro e w3 ⟨rfl, hb⟩
  have s3 : w2.heap.size ≤ w3.heap.size := (by have := hb.size; (try simp at this); omega)
  have z3_0 : w.heap.size < w3.heap.size := (by omega)
  have q3_0 : w3.cell? ⟨w.heap.size, 0, none⟩ = some (.int .i64 u) := ext_cell hb q2_0
  have q3_1 : w3.cell? ⟨w.heap.size, 1, none⟩ = some (.int .i64 lo) := ext_cell hb q2_1
  have q3_2 : w3.cell? ⟨w.heap.size, 2, none⟩ = some (.slice A n c) := ext_cell hb q2_2
  have b3 := Lib.hid (ext_trans b2.out hb)
  have t3 : w.heap.size ≤ w3.heap.size := b3.out.size
  have o3_v := Lib.hid (own_ext oc_v.out hb)
  clear q2_0 q2_1 q2_2
  clear hb
  go_wp2_with fail
  refine (toFrame_any u lo A n c l _ hn ((H.out.ext b3.out (Nat.le_refl _)).more (by first | omega | (simp <;> omega)))).mono ?_
  rintro e w4 ⟨Ax, cx, rfl, ho_x, hb⟩
  have s4 : w3.heap.size ≤ w4.heap.size := (by have := hb.size; (try simp at this); omega)
  have z4_0 : w.heap.size < w4.heap.size := (by omega)
  have q4_0 : w4.cell? ⟨w.heap.size, 0, none⟩ = some (.int .i64 u) := ext_cell hb q3_0
  have q4_1 : w4.cell? ⟨w.heap.size, 1, none⟩ = some (.int .i64 lo) := ext_cell hb q3_1
  have q4_2 : w4.cell? ⟨w.heap.size, 2, none⟩ = some (.slice A n c) := ext_cell hb q3_2
  have b4 := Lib.hid (ext_trans b3.out hb)
  have t4 : w.heap.size ≤ w4.heap.size := b4.out.size
  clear q3_0 q3_1 q3_2
  have oc_x := Lib.hid (own_base (base' := w3.heap.size + 0) ho_x (by simp))
  clear ho_x
  clear hb
  go_wp2_with fail
  refine (HB.out _ Ax cx (Reads.of_own (oc_x.out.alloc _))).mono ?_
  rintro e w5 ⟨rfl, hb⟩
  have s5 : w4.heap.size + 1 ≤ w5.heap.size := (by have := hb.size; (try simp at this); omega)
  have z5_0 : w.heap.size < w5.heap.size := (by omega)
  have z5_1 : w4.heap.size < w5.heap.size := (by omega)
  have q5_0 : w5.cell? ⟨w.heap.size, 0, none⟩ = some (.int .i64 u) := ext_cell hb (cell_old q4_0 _)
  have q5_1 : w5.cell? ⟨w.heap.size, 1, none⟩ = some (.int .i64 lo) := ext_cell hb (cell_old q4_1 _)
  have q5_2 : w5.cell? ⟨w.heap.size, 2, none⟩ = some (.slice A n c) := ext_cell hb (cell_old q4_2 _)
  have q5_3 : w5.cell? ⟨w4.heap.size, 0, none⟩ = some (.int .i64 u) := ext_cell hb (by simp [go_sem])
  have q5_4 : w5.cell? ⟨w4.heap.size, 1, none⟩ = some (.int .i64 lo) := ext_cell hb (by simp [go_sem])
  have q5_5 : w5.cell? ⟨w4.heap.size, 2, none⟩ = some (.slice Ax n cx) := ext_cell hb (by simp [go_sem])
  have b5 := Lib.hid (ext_trans (ext_alloc b4.out _) hb)
  have t5 : w.heap.size ≤ w5.heap.size := b5.out.size
  have o5_x := Lib.hid (own_ext (oc_x.out.alloc _) hb)
  clear q4_0 q4_1 q4_2
  clear hb
  go_upto_region 12 with fail
  go_cut [46] (fun s46 wx => s46 = .bool false ∧ Below w5.heap.size w5 wx)
  case first =>
    go_region_held3 (fun w' => w'.cell? ⟨w.heap.size, 0, none⟩ = some (.int .i64 u) ∧ w'.cell? ⟨w.heap.size, 1, none⟩ = some (.int .i64 lo) ∧ w'.cell? ⟨w.heap.size, 2, none⟩ = some (.slice A n c) ∧ w'.cell? ⟨w4.heap.size, 0, none⟩ = some (.int .i64 u) ∧ w'.cell? ⟨w4.heap.size, 1, none⟩ = some (.int .i64 lo) ∧ w'.cell? ⟨w4.heap.size, 2, none⟩ = some (.slice Ax n cx)) (first | (go_split_ands; ((repeat' refine And.intro ?_ ?_) <;> with_reducible (repeat (first | assumption | refine cell_drew ?_ | refine cell_old ?_ _))))) (first | (go_at_call 14; refine (toFrame_any u lo A n c l _ hn ((H.out.ext (ext_drew b5.out) (Nat.le_refl _)).more (by first | omega | (simp; omega) | (simp <;> omega)))).mono ?_; rintro e w' ⟨Ay, cy, rfl, hoy, hb⟩; have hoy := Lib.hid hoy; have hbY := Lib.hid hb; obtain ⟨hc, hf⟩ := bcell hb; have k0 : w'.cell? ⟨w.heap.size, 0, none⟩ = some (.int .i64 u) := ext_cell hb (by with_reducible (repeat (first | assumption | refine cell_drew ?_))); have k1 : w'.cell? ⟨w.heap.size, 1, none⟩ = some (.int .i64 lo) := ext_cell hb (by with_reducible (repeat (first | assumption | refine cell_drew ?_))); have k2 : w'.cell? ⟨w.heap.size, 2, none⟩ = some (.slice A n c) := ext_cell hb (by with_reducible (repeat (first | assumption | refine cell_drew ?_))); have k3 : w'.cell? ⟨w4.heap.size, 0, none⟩ = some (.int .i64 u) := ext_cell hb (by with_reducible (repeat (first | assumption | refine cell_drew ?_))); have k4 : w'.cell? ⟨w4.heap.size, 1, none⟩ = some (.int .i64 lo) := ext_cell hb (by with_reducible (repeat (first | assumption | refine cell_drew ?_))); have k5 : w'.cell? ⟨w4.heap.size, 2, none⟩ = some (.slice Ax n cx) := ext_cell hb (by with_reducible (repeat (first | assumption | refine cell_drew ?_)))) | (go_at_call 17; refine (eqFrame_same u lo Ax Ay n cx cy l _ hn (Reads.of_own (own_ext (World.ownsRow.drew o5_x.out) hbY.out)) (Reads.of_own hoy.out)).mono ?_; rintro e w' ⟨rfl, hb⟩; have hbZ := Lib.hid hb; obtain ⟨hc, hf⟩ := bcell hb; have k0 : w'.cell? ⟨w.heap.size, 0, none⟩ = some (.int .i64 u) := ext_cell hb (by with_reducible (repeat (first | assumption | refine cell_drew ?_))); have k1 : w'.cell? ⟨w.heap.size, 1, none⟩ = some (.int .i64 lo) := ext_cell hb (by with_reducible (repeat (first | assumption | refine cell_drew ?_))); have k2 : w'.cell? ⟨w.heap.size, 2, none⟩ = some (.slice A n c) := ext_cell hb (by with_reducible (repeat (first | assumption | refine cell_drew ?_))); have k3 : w'.cell? ⟨w4.heap.size, 0, none⟩ = some (.int .i64 u) := ext_cell hb (by with_reducible (repeat (first | assumption | refine cell_drew ?_))); have k4 : w'.cell? ⟨w4.heap.size, 1, none⟩ = some (.int .i64 lo) := ext_cell hb (by with_reducible (repeat (first | assumption | refine cell_drew ?_))); have k5 : w'.cell? ⟨w4.heap.size, 2, none⟩ = some (.slice Ax n cx) := ext_cell hb (by with_reducible (repeat (first | assumption | refine cell_drew ?_)))))
    all_goals (go_wp2_with fail; go_meet; exact ⟨rfl, ext_trans (ext_trans (ext_drew (ext_refl _)) hbY.out) hbZ.out⟩)
  case rest =>
    obtain ⟨rfl, hb⟩ := hcut
    obtain ⟨w6, hw6⟩ : ∃ x : World, x = wc := ⟨_, rfl⟩
    subst hw6
    have s6 : w5.heap.size ≤ w6.heap.size := (by have := hb.size; (try simp at this); omega)
    have z6_0 : w.heap.size < w6.heap.size := (by omega)
    have z6_1 : w4.heap.size < w6.heap.size := (by omega)
    have q6_0 : w6.cell? ⟨w.heap.size, 0, none⟩ = some (.int .i64 u) := ext_cell hb q5_0
    have q6_1 : w6.cell? ⟨w.heap.size, 1, none⟩ = some (.int .i64 lo) := ext_cell hb q5_1
    have q6_2 : w6.cell? ⟨w.heap.size, 2, none⟩ = some (.slice A n c) := ext_cell hb q5_2
    have q6_3 : w6.cell? ⟨w4.heap.size, 0, none⟩ = some (.int .i64 u) := ext_cell hb q5_3
    have q6_4 : w6.cell? ⟨w4.heap.size, 1, none⟩ = some (.int .i64 lo) := ext_cell hb q5_4
    have q6_5 : w6.cell? ⟨w4.heap.size, 2, none⟩ = some (.slice Ax n cx) := ext_cell hb q5_5
    have b6 := Lib.hid (ext_trans b5.out hb)
    have t6 : w.heap.size ≤ w6.heap.size := b6.out.size
    have o6_x := Lib.hid (own_ext o5_x.out hb)
    clear q5_0 q5_1 q5_2 q5_3 q5_4 q5_5
    clear hb
    go_wp2
    go_ret
    exact ⟨rfl, b6.out⟩
end Go.Proofs.Ytlkfffohjeoooaa
