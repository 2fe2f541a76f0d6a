/- The law FnMoves, walked. -/
import Derived.Deep.CutBlock
import Derived.Test.YtkpfelfgpjodiaaVMvH
import Derived.Test.YtkpfelfgpjodiaaVMvI
import Derived.Test.YtkpfelfgpjodiaaVMvJ
import Derived.Test.YtkpfelfgpjodiaaVM11
import Derived.Test.YtkpfelfgpjodiaaVPlM
import Derived.Test.YtkpfelfgpjodiaaVM4
import Derived.Test.YtkpfelfgpjodiaaVM1
import Derived.Test.YtkpfelfgpjodiaaVVFr
namespace Go.Proofs.Ytkpfelfgpjodiaa
open Go.RowKit
set_option linter.unusedVariables false
set_option linter.unusedSimpArgs false
theorem implPl_any (u lo : Int) (A : Option Addr) (n c : Nat) (l : List R2) (B : Option Addr) (k cb : Nat) (ms : List R3) (w : World) (hn' : n ≤ 1048576) (hk : k ≤ 1048576) (h : Reads w w.heap.size 2 A n (rowsV2 l)) (hm : Reads w w.heap.size 3 B k (rowsV3 ms)) :
 Calls Try.prog 9 #[frV u lo A n c, .slice B k cb] w (RetFrB w (plF u lo l ms) (plB u lo l ms)) := implPlayMoves_any u lo A n c l B k cb ms w hn' hk h hm
theorem specPl_any (u lo : Int) (A : Option Addr) (n c : Nat) (l : List R2) (B : Option Addr) (k cb : Nat) (ms : List R3) (w : World) (hn' : n ≤ 1048576) (hk : k ≤ 1048576) (h : Reads w w.heap.size 2 A n (rowsV2 l)) (hm : Reads w w.heap.size 3 B k (rowsV3 ms)) :
 Calls Try.prog 10 #[frV u lo A n c, .slice B k cb] w (RetFrB w (plF u lo l ms) (plB u lo l ms)) := specPlayMoves_any u lo A n c l B k cb ms w hn' hk h hm
set_option maxRecDepth 100000 in
set_option maxHeartbeats 8000000 in
theorem law_FnMoves (A : Option Addr) (n c : Nat) (w : World) (h : Code w w.heap.size A n) (hn63 : n ≤ maxLen) :
 Calls Try.prog 3 #[.slice A n c] w fun e w' => e = .returned (.bool true) ∧ Below w.heap.size w w' := by
 have HV := Lib.hid (fun w => vBig_any A n c w)
 by_cases hbig : (65536 : Int) < n
 · rw [decide_eq_true hbig] at HV
   go_enter Try.func3, Try.ntmps3
   go_wp2_with (go_at_call 7; refine (HV.out _).mono ?_; rintro e w' ⟨rfl, hb⟩)
   go_ret
   exact ⟨rfl, (by repeat (first | exact ext_refl _ | assumption | refine ext_alloc ?_ _ | refine ext_drew ?_ | refine ext_drewN ?_ _ | refine ext_set ?_ (by simp <;> omega) _ | refine ext_trans ?_ (by assumption)))⟩
 · rw [decide_eq_false hbig] at HV
   have hn : n ≤ 65536 := by omega
   have H := Lib.hid h
   clear h hbig hn63
   go_enter Try.func3, Try.ntmps3
   go_wp2_with fail
   refine (HV.out _).mono ?_
   rintro e w1 ⟨rfl, hb⟩
   have s1 : w.heap.size ≤ w1.heap.size := (by have := hb.size; (try simp at this); omega)
   have b1 := Lib.hid (ext_trans (ext_refl w) hb)
   have t1 : w.heap.size ≤ w1.heap.size := b1.out.size
   clear hb
   go_wp2_with fail
   refine (drawPlayMoves_any A n c _ ((H.out.below b1.out).more b1.out.size) hn).mono ?_
   rintro e w2 ⟨u, lo, l, As, cs, ms, Am, cm, rfl, hIN, hms, ho_m, ho_s, hb⟩
   have s2 : w1.heap.size ≤ w2.heap.size := (by have := hb.size; (try simp at this); omega)
   have b2 := Lib.hid (ext_trans b1.out hb)
   have t2 : w.heap.size ≤ w2.heap.size := b2.out.size
   clear hb
   have oc_m := Lib.hid (own_base (base' := w1.heap.size + 0) ho_m (by simp))
   clear ho_m
   have oc_s := Lib.hid (own_base (base' := w1.heap.size + 0) ho_s (by simp))
   clear ho_s
   have hl9 : l.length ≤ 9 := hIN.2.2.2.2.2.1
   clear hIN
   have HB := Lib.hid (fun (w : World) h hm => implPl_any u lo As l.length cs l Am ms.length cm ms w (by omega) (by omega) h hm)
   have HA := Lib.hid (fun (w : World) h hm => specPl_any u lo As l.length cs l Am ms.length cm ms w (by omega) (by omega) h hm)
   have hlaw := @fmv_law u lo l ms
   have hLn := plF_len u lo l ms
   obtain ⟨R, hR⟩ : ∃ o9, plF u lo l ms = o9 := ⟨_, rfl⟩
   rw [hR] at HA HB hlaw hLn
   obtain ⟨ok, hok⟩ : ∃ o9, plB u lo l ms = o9 := ⟨_, rfl⟩
   rw [hok] at HA HB hlaw
   obtain ⟨U, LO, L⟩ := R
   unfold RetFrB at HA HB
   dsimp only at HA HB hLn hlaw
   have HLAW := Lib.hid hlaw
   have k1 : (ok != ok) = false := by cases ok <;> rfl
   clear hR hok hlaw
   go_wp2_with fail
   refine (HB.out _ (Reads.of_own (oc_s.out.alloc _)) (Reads.of_own (oc_m.out.alloc _))).mono ?_
   rintro e w3 ⟨Ab, cb, rfl, ho_b, hb⟩
   have s3 : w2.heap.size + 1 ≤ w3.heap.size := (by have := hb.size; (try simp at this); omega)
   have z3_0 : w2.heap.size < w3.heap.size := (by omega)
   have q3_0 : w3.cell? ⟨w2.heap.size, 0, none⟩ = some (.int .i64 u) := ext_cell hb (by simp [go_sem])
   have q3_1 : w3.cell? ⟨w2.heap.size, 1, none⟩ = some (.int .i64 lo) := ext_cell hb (by simp [go_sem])
   have q3_2 : w3.cell? ⟨w2.heap.size, 2, none⟩ = some (.slice As l.length cs) := ext_cell hb (by simp [go_sem])
   have b3 := Lib.hid (ext_trans (ext_alloc b2.out _) hb)
   have t3 : w.heap.size ≤ w3.heap.size := b3.out.size
   have o3_m := Lib.hid (own_ext (oc_m.out.alloc _) hb)
   have o3_s := Lib.hid (own_ext (oc_s.out.alloc _) hb)
   have oc_b := Lib.hid (own_base (base' := w2.heap.size + 1) ho_b (by simp))
   clear ho_b
   clear hb
   go_wp2_with fail
   refine (HA.out _ (Reads.of_own (o3_s.out.alloc _)) (Reads.of_own (o3_m.out.alloc _))).mono ?_
   rintro e w4 ⟨Aa, ca, rfl, ho_a, hb⟩
   have s4 : w3.heap.size + 1 ≤ w4.heap.size := (by have := hb.size; (try simp at this); omega)
   have z4_0 : w2.heap.size < w4.heap.size := (by omega)
   have z4_1 : w3.heap.size < w4.heap.size := (by omega)
   have q4_0 : w4.cell? ⟨w2.heap.size, 0, none⟩ = some (.int .i64 u) := ext_cell hb (cell_old q3_0 _)
   have q4_1 : w4.cell? ⟨w2.heap.size, 1, none⟩ = some (.int .i64 lo) := ext_cell hb (cell_old q3_1 _)
   have q4_2 : w4.cell? ⟨w2.heap.size, 2, none⟩ = some (.slice As l.length cs) := ext_cell hb (cell_old q3_2 _)
   have q4_3 : w4.cell? ⟨w3.heap.size, 0, none⟩ = some (.int .i64 U) := ext_cell hb (by simp [go_sem])
   have q4_4 : w4.cell? ⟨w3.heap.size, 1, none⟩ = some (.int .i64 LO) := ext_cell hb (by simp [go_sem])
   have q4_5 : w4.cell? ⟨w3.heap.size, 2, none⟩ = some (.slice Ab L.length cb) := ext_cell hb (by simp [go_sem])
   have b4 := Lib.hid (ext_trans (ext_alloc b3.out _) hb)
   have t4 : w.heap.size ≤ w4.heap.size := b4.out.size
   have o4_m := Lib.hid (own_ext (o3_m.out.alloc _) hb)
   have o4_s := Lib.hid (own_ext (o3_s.out.alloc _) hb)
   have o4_b := Lib.hid (own_ext (oc_b.out.alloc _) hb)
   clear q3_0 q3_1 q3_2
   have oc_a := Lib.hid (own_base (base' := w3.heap.size + 1) ho_a (by simp))
   clear ho_a
   clear hb
   go_wp2_with fail
   refine (vFrame_same U LO Ab Aa L.length cb ca L _ (by omega) (Reads.of_own (o4_b.out.alloc _)) (Reads.of_own (oc_a.out.alloc _))).mono ?_
   rintro e w5 ⟨rfl, hb⟩
   have s5 : w4.heap.size + 1 ≤ w5.heap.size := (by have := hb.size; (try simp at this); omega)
   have z5_0 : w2.heap.size < w5.heap.size := (by omega)
   have z5_1 : w3.heap.size < w5.heap.size := (by omega)
   have z5_2 : w4.heap.size < w5.heap.size := (by omega)
   have q5_0 : w5.cell? ⟨w2.heap.size, 0, none⟩ = some (.int .i64 u) := ext_cell hb (cell_old q4_0 _)
   have q5_1 : w5.cell? ⟨w2.heap.size, 1, none⟩ = some (.int .i64 lo) := ext_cell hb (cell_old q4_1 _)
   have q5_2 : w5.cell? ⟨w2.heap.size, 2, none⟩ = some (.slice As l.length cs) := ext_cell hb (cell_old q4_2 _)
   have q5_3 : w5.cell? ⟨w3.heap.size, 0, none⟩ = some (.int .i64 U) := ext_cell hb (cell_old q4_3 _)
   have q5_4 : w5.cell? ⟨w3.heap.size, 1, none⟩ = some (.int .i64 LO) := ext_cell hb (cell_old q4_4 _)
   have q5_5 : w5.cell? ⟨w3.heap.size, 2, none⟩ = some (.slice Ab L.length cb) := ext_cell hb (cell_old q4_5 _)
   have q5_6 : w5.cell? ⟨w4.heap.size, 0, none⟩ = some (.int .i64 U) := ext_cell hb (by simp [go_sem])
   have q5_7 : w5.cell? ⟨w4.heap.size, 1, none⟩ = some (.int .i64 LO) := ext_cell hb (by simp [go_sem])
   have q5_8 : w5.cell? ⟨w4.heap.size, 2, none⟩ = some (.slice Aa L.length ca) := ext_cell hb (by simp [go_sem])
   have b5 := Lib.hid (ext_trans (ext_alloc b4.out _) hb)
   have t5 : w.heap.size ≤ w5.heap.size := b5.out.size
   have o5_m := Lib.hid (own_ext (o4_m.out.alloc _) hb)
   have o5_s := Lib.hid (own_ext (o4_s.out.alloc _) hb)
   have o5_b := Lib.hid (own_ext (o4_b.out.alloc _) hb)
   have o5_a := Lib.hid (own_ext (oc_a.out.alloc _) hb)
   clear q4_0 q4_1 q4_2 q4_3 q4_4 q4_5
   clear hb
   go_upto_if 72 with fail
   go_cut [72] (fun s72 wx => Below w.heap.size w wx)
   case first => as_aux_lemma =>
    rcases ok with _ | _
    · go_wp2_with fail
      go_meet
      exact b5.out
    obtain ⟨bt, hf, hfx, hmv, hpf, hpb, hcb, hnum, hmb, hbt, hbm, hqf, hqb, hble, hbl⟩ := HLAW.out rfl
    have HU := Lib.hid (fun (w : World) h => implUndoMoves_any Am ms.length cm ms w (by omega) h)
    rw [hmv, show unL ms = undo ms by unfold unL; rw [if_pos hmv]] at HU
    have hun := undo_len ms
    obtain ⟨un, hu9⟩ : ∃ o9, undo ms = o9 := ⟨_, rfl⟩
    rw [hu9] at HU hun hpf hpb
    obtain ⟨nu, hnu⟩ : ∃ o9, un.length = o9 := ⟨_, rfl⟩
    rw [hnu] at HU hun
    have HP1 := Lib.hid (fun (w : World) (Au : Option Addr) (cu : Nat) h hm => implPl_any U LO Ab L.length cb L Au nu cu un w (by omega) (by omega) h hm)
    rw [hpf, hpb] at HP1
    have HCH := Lib.hid (fun (w : World) h => implChangeOf_any Am ms.length cm ms (l.length : Int) w (by omega) h)
    rw [hcb] at HCH
    have HN1 := Lib.hid (fun (w : World) h => nrOn_any u lo As l.length cs l w (by omega) h)
    rw [hf, if_pos rfl] at HN1
    have HN2 := Lib.hid (fun (w : World) h => nrOn_any U LO Ab L.length cb L w (by omega) h)
    rw [hfx, if_pos rfl, hnum] at HN2
    have hnb := numR_bounds hf l.length
    rw [List.take_of_length_le (Nat.le_refl _)] at hnb
    have hnb2 := numR_bounds hfx L.length
    rw [List.take_of_length_le (Nat.le_refl _), hnum] at hnb2
    obtain ⟨N, hN⟩ : ∃ o9, numR l = o9 := ⟨_, rfl⟩
    obtain ⟨C, hC⟩ : ∃ o9, chV ms (l.length : Int) = o9 := ⟨_, rfl⟩
    rw [hN] at HN1 HN2 hnb hnb2
    rw [hC] at HN2 HCH hnb2
    have HBT := Lib.hid (fun (w : World) h h' => implMovesBetween_any u lo As l.length cs l U LO Ab L.length cb L w (by omega) (by omega) h h')
    rw [hmb, hbt] at HBT
    have HP2 := Lib.hid (fun (w : World) (Au : Option Addr) (cu : Nat) h hm => implPl_any u lo As l.length cs l Au bt.length cu bt w (by omega) (by omega) h hm)
    rw [hqf, hqb] at HP2
    have HBS := Lib.hid (fun (w : World) (Au : Option Addr) (cu : Nat) h => implBeadsOf_any Au bt.length cu bt w (by omega) h)
    rw [hbm, if_pos rfl] at HBS
    have HBA := Lib.hid (fun (w : World) h => implBeadsOf_any Am ms.length cm ms w (by omega) h)
    rw [hmv, if_pos rfl] at HBA
    obtain ⟨p, hp⟩ : ∃ o9, beads bt = o9 := ⟨_, rfl⟩
    obtain ⟨q, hq⟩ : ∃ o9, beads ms = o9 := ⟨_, rfl⟩
    rw [hp] at HBS hble
    rw [hq] at HBA hble
    obtain ⟨nb, hnb9⟩ : ∃ o9, bt.length = o9 := ⟨_, rfl⟩
    rw [hnb9] at HBT HP2 HBS hbl
    unfold RetSliceB at HU HBT
    unfold RetFrB at HP1 HP2
    unfold RetV at HCH HBS HBA
    dsimp only at HP1 HP2
    have k3 : (N + C - N != C) = false := by simp; omega
    have k4 : ¬ q < p := by omega
    have k5 : ¬ (ms.length : Int) < (nb : Int) := by omega
    have k6 : wrap64 (N + C - N) = C := by unfold wrap64; omega
    have k7 : (C != C) = false := by simp
    have HNU := Lib.hid hnu
    have HNB := Lib.hid hnb9
    clear hf hfx hmv hpf hpb hcb hnum hmb hbt hbm hqf hqb hu9 hN hC hp hq hnu hnb9 hun hbl hble
    go_wp2_with fail
    refine (HU.out _ (Reads.of_own o5_m.out)).mono ?_
    rintro e w6 ⟨An, cn, rfl, ho_n, hb⟩
    have s6 : w5.heap.size ≤ w6.heap.size := (by have := hb.size; (try simp at this); omega)
    have z6_0 : w2.heap.size < w6.heap.size := (by omega)
    have z6_1 : w3.heap.size < w6.heap.size := (by omega)
    have z6_2 : w4.heap.size < w6.heap.size := (by omega)
    have q6_0 : w6.cell? ⟨w2.heap.size, 0, none⟩ = some (.int .i64 u) := ext_cell hb q5_0
    have q6_1 : w6.cell? ⟨w2.heap.size, 1, none⟩ = some (.int .i64 lo) := ext_cell hb q5_1
    have q6_2 : w6.cell? ⟨w2.heap.size, 2, none⟩ = some (.slice As l.length cs) := ext_cell hb q5_2
    have q6_3 : w6.cell? ⟨w3.heap.size, 0, none⟩ = some (.int .i64 U) := ext_cell hb q5_3
    have q6_4 : w6.cell? ⟨w3.heap.size, 1, none⟩ = some (.int .i64 LO) := ext_cell hb q5_4
    have q6_5 : w6.cell? ⟨w3.heap.size, 2, none⟩ = some (.slice Ab L.length cb) := ext_cell hb q5_5
    have q6_6 : w6.cell? ⟨w4.heap.size, 0, none⟩ = some (.int .i64 U) := ext_cell hb q5_6
    have q6_7 : w6.cell? ⟨w4.heap.size, 1, none⟩ = some (.int .i64 LO) := ext_cell hb q5_7
    have q6_8 : w6.cell? ⟨w4.heap.size, 2, none⟩ = some (.slice Aa L.length ca) := ext_cell hb q5_8
    have b6 := Lib.hid (ext_trans b5.out hb)
    have t6 : w.heap.size ≤ w6.heap.size := b6.out.size
    have o6_m := Lib.hid (own_ext o5_m.out hb)
    have o6_s := Lib.hid (own_ext o5_s.out hb)
    have o6_b := Lib.hid (own_ext o5_b.out hb)
    have o6_a := Lib.hid (own_ext o5_a.out hb)
    clear q5_0 q5_1 q5_2 q5_3 q5_4 q5_5 q5_6 q5_7 q5_8
    have oc_n := Lib.hid (own_base (base' := w5.heap.size + 0) ho_n (by simp))
    clear ho_n
    clear hb
    go_wp2_with fail
    refine (HP1.out _ An cn (Reads.of_own o6_b.out) (Reads.of_own oc_n.out)).mono ?_
    rintro e w7 ⟨Ak, ck, rfl, ho_k, hb⟩
    have s7 : w6.heap.size ≤ w7.heap.size := (by have := hb.size; (try simp at this); omega)
    have z7_0 : w2.heap.size < w7.heap.size := (by omega)
    have z7_1 : w3.heap.size < w7.heap.size := (by omega)
    have z7_2 : w4.heap.size < w7.heap.size := (by omega)
    have q7_0 : w7.cell? ⟨w2.heap.size, 0, none⟩ = some (.int .i64 u) := ext_cell hb q6_0
    have q7_1 : w7.cell? ⟨w2.heap.size, 1, none⟩ = some (.int .i64 lo) := ext_cell hb q6_1
    have q7_2 : w7.cell? ⟨w2.heap.size, 2, none⟩ = some (.slice As l.length cs) := ext_cell hb q6_2
    have q7_3 : w7.cell? ⟨w3.heap.size, 0, none⟩ = some (.int .i64 U) := ext_cell hb q6_3
    have q7_4 : w7.cell? ⟨w3.heap.size, 1, none⟩ = some (.int .i64 LO) := ext_cell hb q6_4
    have q7_5 : w7.cell? ⟨w3.heap.size, 2, none⟩ = some (.slice Ab L.length cb) := ext_cell hb q6_5
    have q7_6 : w7.cell? ⟨w4.heap.size, 0, none⟩ = some (.int .i64 U) := ext_cell hb q6_6
    have q7_7 : w7.cell? ⟨w4.heap.size, 1, none⟩ = some (.int .i64 LO) := ext_cell hb q6_7
    have q7_8 : w7.cell? ⟨w4.heap.size, 2, none⟩ = some (.slice Aa L.length ca) := ext_cell hb q6_8
    have b7 := Lib.hid (ext_trans b6.out hb)
    have t7 : w.heap.size ≤ w7.heap.size := b7.out.size
    have o7_m := Lib.hid (own_ext o6_m.out hb)
    have o7_s := Lib.hid (own_ext o6_s.out hb)
    have o7_b := Lib.hid (own_ext o6_b.out hb)
    have o7_a := Lib.hid (own_ext o6_a.out hb)
    have o7_n := Lib.hid (own_ext oc_n.out hb)
    clear q6_0 q6_1 q6_2 q6_3 q6_4 q6_5 q6_6 q6_7 q6_8
    have oc_k := Lib.hid (own_base (base' := w6.heap.size + 0) ho_k (by simp))
    clear ho_k
    clear hb
    go_wp2_with fail
    refine (HCH.out _ (Reads.of_own (o7_m.out.alloc _))).mono ?_
    rintro e w8 ⟨rfl, hb⟩
    have s8 : w7.heap.size + 1 ≤ w8.heap.size := (by have := hb.size; (try simp at this); omega)
    have z8_0 : w2.heap.size < w8.heap.size := (by omega)
    have z8_1 : w3.heap.size < w8.heap.size := (by omega)
    have z8_2 : w4.heap.size < w8.heap.size := (by omega)
    have z8_3 : w7.heap.size < w8.heap.size := (by omega)
    have q8_0 : w8.cell? ⟨w2.heap.size, 0, none⟩ = some (.int .i64 u) := ext_cell hb (cell_old q7_0 _)
    have q8_1 : w8.cell? ⟨w2.heap.size, 1, none⟩ = some (.int .i64 lo) := ext_cell hb (cell_old q7_1 _)
    have q8_2 : w8.cell? ⟨w2.heap.size, 2, none⟩ = some (.slice As l.length cs) := ext_cell hb (cell_old q7_2 _)
    have q8_3 : w8.cell? ⟨w3.heap.size, 0, none⟩ = some (.int .i64 U) := ext_cell hb (cell_old q7_3 _)
    have q8_4 : w8.cell? ⟨w3.heap.size, 1, none⟩ = some (.int .i64 LO) := ext_cell hb (cell_old q7_4 _)
    have q8_5 : w8.cell? ⟨w3.heap.size, 2, none⟩ = some (.slice Ab L.length cb) := ext_cell hb (cell_old q7_5 _)
    have q8_6 : w8.cell? ⟨w4.heap.size, 0, none⟩ = some (.int .i64 U) := ext_cell hb (cell_old q7_6 _)
    have q8_7 : w8.cell? ⟨w4.heap.size, 1, none⟩ = some (.int .i64 LO) := ext_cell hb (cell_old q7_7 _)
    have q8_8 : w8.cell? ⟨w4.heap.size, 2, none⟩ = some (.slice Aa L.length ca) := ext_cell hb (cell_old q7_8 _)
    have q8_9 : w8.cell? ⟨w7.heap.size, 0, none⟩ = some (.int .i64 u) := ext_cell hb (by simp [go_sem])
    have q8_10 : w8.cell? ⟨w7.heap.size, 1, none⟩ = some (.int .i64 lo) := ext_cell hb (by simp [go_sem])
    have q8_11 : w8.cell? ⟨w7.heap.size, 2, none⟩ = some (.slice Ak l.length ck) := ext_cell hb (by simp [go_sem])
    have b8 := Lib.hid (ext_trans (ext_alloc b7.out _) hb)
    have t8 : w.heap.size ≤ w8.heap.size := b8.out.size
    have o8_m := Lib.hid (own_ext (o7_m.out.alloc _) hb)
    have o8_s := Lib.hid (own_ext (o7_s.out.alloc _) hb)
    have o8_b := Lib.hid (own_ext (o7_b.out.alloc _) hb)
    have o8_a := Lib.hid (own_ext (o7_a.out.alloc _) hb)
    have o8_n := Lib.hid (own_ext (o7_n.out.alloc _) hb)
    have o8_k := Lib.hid (own_ext (oc_k.out.alloc _) hb)
    clear q7_0 q7_1 q7_2 q7_3 q7_4 q7_5 q7_6 q7_7 q7_8
    clear hb
    go_wp2_with fail
    refine (HN1.out _ (Reads.of_own o8_s.out)).mono ?_
    rintro e w9 ⟨rfl, hb⟩
    have s9 : w8.heap.size ≤ w9.heap.size := (by have := hb.size; (try simp at this); omega)
    have z9_0 : w2.heap.size < w9.heap.size := (by omega)
    have z9_1 : w3.heap.size < w9.heap.size := (by omega)
    have z9_2 : w4.heap.size < w9.heap.size := (by omega)
    have z9_3 : w7.heap.size < w9.heap.size := (by omega)
    have q9_0 : w9.cell? ⟨w2.heap.size, 0, none⟩ = some (.int .i64 u) := ext_cell hb q8_0
    have q9_1 : w9.cell? ⟨w2.heap.size, 1, none⟩ = some (.int .i64 lo) := ext_cell hb q8_1
    have q9_2 : w9.cell? ⟨w2.heap.size, 2, none⟩ = some (.slice As l.length cs) := ext_cell hb q8_2
    have q9_3 : w9.cell? ⟨w3.heap.size, 0, none⟩ = some (.int .i64 U) := ext_cell hb q8_3
    have q9_4 : w9.cell? ⟨w3.heap.size, 1, none⟩ = some (.int .i64 LO) := ext_cell hb q8_4
    have q9_5 : w9.cell? ⟨w3.heap.size, 2, none⟩ = some (.slice Ab L.length cb) := ext_cell hb q8_5
    have q9_6 : w9.cell? ⟨w4.heap.size, 0, none⟩ = some (.int .i64 U) := ext_cell hb q8_6
    have q9_7 : w9.cell? ⟨w4.heap.size, 1, none⟩ = some (.int .i64 LO) := ext_cell hb q8_7
    have q9_8 : w9.cell? ⟨w4.heap.size, 2, none⟩ = some (.slice Aa L.length ca) := ext_cell hb q8_8
    have q9_9 : w9.cell? ⟨w7.heap.size, 0, none⟩ = some (.int .i64 u) := ext_cell hb q8_9
    have q9_10 : w9.cell? ⟨w7.heap.size, 1, none⟩ = some (.int .i64 lo) := ext_cell hb q8_10
    have q9_11 : w9.cell? ⟨w7.heap.size, 2, none⟩ = some (.slice Ak l.length ck) := ext_cell hb q8_11
    have b9 := Lib.hid (ext_trans b8.out hb)
    have t9 : w.heap.size ≤ w9.heap.size := b9.out.size
    have o9_m := Lib.hid (own_ext o8_m.out hb)
    have o9_s := Lib.hid (own_ext o8_s.out hb)
    have o9_b := Lib.hid (own_ext o8_b.out hb)
    have o9_a := Lib.hid (own_ext o8_a.out hb)
    have o9_n := Lib.hid (own_ext o8_n.out hb)
    have o9_k := Lib.hid (own_ext o8_k.out hb)
    clear q8_0 q8_1 q8_2 q8_3 q8_4 q8_5 q8_6 q8_7 q8_8 q8_9 q8_10 q8_11
    clear hb
    go_wp2_with fail
    refine (HN2.out _ (Reads.of_own o9_b.out)).mono ?_
    rintro e w10 ⟨rfl, hb⟩
    have s10 : w9.heap.size ≤ w10.heap.size := (by have := hb.size; (try simp at this); omega)
    have z10_0 : w2.heap.size < w10.heap.size := (by omega)
    have z10_1 : w3.heap.size < w10.heap.size := (by omega)
    have z10_2 : w4.heap.size < w10.heap.size := (by omega)
    have z10_3 : w7.heap.size < w10.heap.size := (by omega)
    have q10_0 : w10.cell? ⟨w2.heap.size, 0, none⟩ = some (.int .i64 u) := ext_cell hb q9_0
    have q10_1 : w10.cell? ⟨w2.heap.size, 1, none⟩ = some (.int .i64 lo) := ext_cell hb q9_1
    have q10_2 : w10.cell? ⟨w2.heap.size, 2, none⟩ = some (.slice As l.length cs) := ext_cell hb q9_2
    have q10_3 : w10.cell? ⟨w3.heap.size, 0, none⟩ = some (.int .i64 U) := ext_cell hb q9_3
    have q10_4 : w10.cell? ⟨w3.heap.size, 1, none⟩ = some (.int .i64 LO) := ext_cell hb q9_4
    have q10_5 : w10.cell? ⟨w3.heap.size, 2, none⟩ = some (.slice Ab L.length cb) := ext_cell hb q9_5
    have q10_6 : w10.cell? ⟨w4.heap.size, 0, none⟩ = some (.int .i64 U) := ext_cell hb q9_6
    have q10_7 : w10.cell? ⟨w4.heap.size, 1, none⟩ = some (.int .i64 LO) := ext_cell hb q9_7
    have q10_8 : w10.cell? ⟨w4.heap.size, 2, none⟩ = some (.slice Aa L.length ca) := ext_cell hb q9_8
    have q10_9 : w10.cell? ⟨w7.heap.size, 0, none⟩ = some (.int .i64 u) := ext_cell hb q9_9
    have q10_10 : w10.cell? ⟨w7.heap.size, 1, none⟩ = some (.int .i64 lo) := ext_cell hb q9_10
    have q10_11 : w10.cell? ⟨w7.heap.size, 2, none⟩ = some (.slice Ak l.length ck) := ext_cell hb q9_11
    have b10 := Lib.hid (ext_trans b9.out hb)
    have t10 : w.heap.size ≤ w10.heap.size := b10.out.size
    have o10_m := Lib.hid (own_ext o9_m.out hb)
    have o10_s := Lib.hid (own_ext o9_s.out hb)
    have o10_b := Lib.hid (own_ext o9_b.out hb)
    have o10_a := Lib.hid (own_ext o9_a.out hb)
    have o10_n := Lib.hid (own_ext o9_n.out hb)
    have o10_k := Lib.hid (own_ext o9_k.out hb)
    clear q9_0 q9_1 q9_2 q9_3 q9_4 q9_5 q9_6 q9_7 q9_8 q9_9 q9_10 q9_11
    clear hb
    go_wp2_with fail
    refine (vFrame_same u lo Ak As l.length ck cs l _ (by omega) (Reads.of_own o10_k.out) (Reads.of_own o10_s.out)).mono ?_
    rintro e w11 ⟨rfl, hb⟩
    have s11 : w10.heap.size ≤ w11.heap.size := (by have := hb.size; (try simp at this); omega)
    have z11_0 : w2.heap.size < w11.heap.size := (by omega)
    have z11_1 : w3.heap.size < w11.heap.size := (by omega)
    have z11_2 : w4.heap.size < w11.heap.size := (by omega)
    have z11_3 : w7.heap.size < w11.heap.size := (by omega)
    have q11_0 : w11.cell? ⟨w2.heap.size, 0, none⟩ = some (.int .i64 u) := ext_cell hb q10_0
    have q11_1 : w11.cell? ⟨w2.heap.size, 1, none⟩ = some (.int .i64 lo) := ext_cell hb q10_1
    have q11_2 : w11.cell? ⟨w2.heap.size, 2, none⟩ = some (.slice As l.length cs) := ext_cell hb q10_2
    have q11_3 : w11.cell? ⟨w3.heap.size, 0, none⟩ = some (.int .i64 U) := ext_cell hb q10_3
    have q11_4 : w11.cell? ⟨w3.heap.size, 1, none⟩ = some (.int .i64 LO) := ext_cell hb q10_4
    have q11_5 : w11.cell? ⟨w3.heap.size, 2, none⟩ = some (.slice Ab L.length cb) := ext_cell hb q10_5
    have q11_6 : w11.cell? ⟨w4.heap.size, 0, none⟩ = some (.int .i64 U) := ext_cell hb q10_6
    have q11_7 : w11.cell? ⟨w4.heap.size, 1, none⟩ = some (.int .i64 LO) := ext_cell hb q10_7
    have q11_8 : w11.cell? ⟨w4.heap.size, 2, none⟩ = some (.slice Aa L.length ca) := ext_cell hb q10_8
    have q11_9 : w11.cell? ⟨w7.heap.size, 0, none⟩ = some (.int .i64 u) := ext_cell hb q10_9
    have q11_10 : w11.cell? ⟨w7.heap.size, 1, none⟩ = some (.int .i64 lo) := ext_cell hb q10_10
    have q11_11 : w11.cell? ⟨w7.heap.size, 2, none⟩ = some (.slice Ak l.length ck) := ext_cell hb q10_11
    have b11 := Lib.hid (ext_trans b10.out hb)
    have t11 : w.heap.size ≤ w11.heap.size := b11.out.size
    have o11_m := Lib.hid (own_ext o10_m.out hb)
    have o11_s := Lib.hid (own_ext o10_s.out hb)
    have o11_b := Lib.hid (own_ext o10_b.out hb)
    have o11_a := Lib.hid (own_ext o10_a.out hb)
    have o11_n := Lib.hid (own_ext o10_n.out hb)
    have o11_k := Lib.hid (own_ext o10_k.out hb)
    clear q10_0 q10_1 q10_2 q10_3 q10_4 q10_5 q10_6 q10_7 q10_8 q10_9 q10_10 q10_11
    clear hb
    go_wp2_with fail
    refine (HBT.out _ (Reads.of_own o11_s.out) (Reads.of_own o11_b.out)).mono ?_
    rintro e w12 ⟨At, ct, rfl, ho_t, hb⟩
    have s12 : w11.heap.size ≤ w12.heap.size := (by have := hb.size; (try simp at this); omega)
    have z12_0 : w2.heap.size < w12.heap.size := (by omega)
    have z12_1 : w3.heap.size < w12.heap.size := (by omega)
    have z12_2 : w4.heap.size < w12.heap.size := (by omega)
    have z12_3 : w7.heap.size < w12.heap.size := (by omega)
    have q12_0 : w12.cell? ⟨w2.heap.size, 0, none⟩ = some (.int .i64 u) := ext_cell hb q11_0
    have q12_1 : w12.cell? ⟨w2.heap.size, 1, none⟩ = some (.int .i64 lo) := ext_cell hb q11_1
    have q12_2 : w12.cell? ⟨w2.heap.size, 2, none⟩ = some (.slice As l.length cs) := ext_cell hb q11_2
    have q12_3 : w12.cell? ⟨w3.heap.size, 0, none⟩ = some (.int .i64 U) := ext_cell hb q11_3
    have q12_4 : w12.cell? ⟨w3.heap.size, 1, none⟩ = some (.int .i64 LO) := ext_cell hb q11_4
    have q12_5 : w12.cell? ⟨w3.heap.size, 2, none⟩ = some (.slice Ab L.length cb) := ext_cell hb q11_5
    have q12_6 : w12.cell? ⟨w4.heap.size, 0, none⟩ = some (.int .i64 U) := ext_cell hb q11_6
    have q12_7 : w12.cell? ⟨w4.heap.size, 1, none⟩ = some (.int .i64 LO) := ext_cell hb q11_7
    have q12_8 : w12.cell? ⟨w4.heap.size, 2, none⟩ = some (.slice Aa L.length ca) := ext_cell hb q11_8
    have q12_9 : w12.cell? ⟨w7.heap.size, 0, none⟩ = some (.int .i64 u) := ext_cell hb q11_9
    have q12_10 : w12.cell? ⟨w7.heap.size, 1, none⟩ = some (.int .i64 lo) := ext_cell hb q11_10
    have q12_11 : w12.cell? ⟨w7.heap.size, 2, none⟩ = some (.slice Ak l.length ck) := ext_cell hb q11_11
    have b12 := Lib.hid (ext_trans b11.out hb)
    have t12 : w.heap.size ≤ w12.heap.size := b12.out.size
    have o12_m := Lib.hid (own_ext o11_m.out hb)
    have o12_s := Lib.hid (own_ext o11_s.out hb)
    have o12_b := Lib.hid (own_ext o11_b.out hb)
    have o12_a := Lib.hid (own_ext o11_a.out hb)
    have o12_n := Lib.hid (own_ext o11_n.out hb)
    have o12_k := Lib.hid (own_ext o11_k.out hb)
    clear q11_0 q11_1 q11_2 q11_3 q11_4 q11_5 q11_6 q11_7 q11_8 q11_9 q11_10 q11_11
    have oc_t := Lib.hid (own_base (base' := w11.heap.size + 0) ho_t (by simp))
    clear ho_t
    clear hb
    go_wp2_with fail
    refine (HP2.out _ At ct (Reads.of_own o12_s.out) (Reads.of_own oc_t.out)).mono ?_
    rintro e w13 ⟨Ag, cg, rfl, ho_g, hb⟩
    have s13 : w12.heap.size ≤ w13.heap.size := (by have := hb.size; (try simp at this); omega)
    have z13_0 : w2.heap.size < w13.heap.size := (by omega)
    have z13_1 : w3.heap.size < w13.heap.size := (by omega)
    have z13_2 : w4.heap.size < w13.heap.size := (by omega)
    have z13_3 : w7.heap.size < w13.heap.size := (by omega)
    have q13_0 : w13.cell? ⟨w2.heap.size, 0, none⟩ = some (.int .i64 u) := ext_cell hb q12_0
    have q13_1 : w13.cell? ⟨w2.heap.size, 1, none⟩ = some (.int .i64 lo) := ext_cell hb q12_1
    have q13_2 : w13.cell? ⟨w2.heap.size, 2, none⟩ = some (.slice As l.length cs) := ext_cell hb q12_2
    have q13_3 : w13.cell? ⟨w3.heap.size, 0, none⟩ = some (.int .i64 U) := ext_cell hb q12_3
    have q13_4 : w13.cell? ⟨w3.heap.size, 1, none⟩ = some (.int .i64 LO) := ext_cell hb q12_4
    have q13_5 : w13.cell? ⟨w3.heap.size, 2, none⟩ = some (.slice Ab L.length cb) := ext_cell hb q12_5
    have q13_6 : w13.cell? ⟨w4.heap.size, 0, none⟩ = some (.int .i64 U) := ext_cell hb q12_6
    have q13_7 : w13.cell? ⟨w4.heap.size, 1, none⟩ = some (.int .i64 LO) := ext_cell hb q12_7
    have q13_8 : w13.cell? ⟨w4.heap.size, 2, none⟩ = some (.slice Aa L.length ca) := ext_cell hb q12_8
    have q13_9 : w13.cell? ⟨w7.heap.size, 0, none⟩ = some (.int .i64 u) := ext_cell hb q12_9
    have q13_10 : w13.cell? ⟨w7.heap.size, 1, none⟩ = some (.int .i64 lo) := ext_cell hb q12_10
    have q13_11 : w13.cell? ⟨w7.heap.size, 2, none⟩ = some (.slice Ak l.length ck) := ext_cell hb q12_11
    have b13 := Lib.hid (ext_trans b12.out hb)
    have t13 : w.heap.size ≤ w13.heap.size := b13.out.size
    have o13_m := Lib.hid (own_ext o12_m.out hb)
    have o13_s := Lib.hid (own_ext o12_s.out hb)
    have o13_b := Lib.hid (own_ext o12_b.out hb)
    have o13_a := Lib.hid (own_ext o12_a.out hb)
    have o13_n := Lib.hid (own_ext o12_n.out hb)
    have o13_k := Lib.hid (own_ext o12_k.out hb)
    have o13_t := Lib.hid (own_ext oc_t.out hb)
    clear q12_0 q12_1 q12_2 q12_3 q12_4 q12_5 q12_6 q12_7 q12_8 q12_9 q12_10 q12_11
    have oc_g := Lib.hid (own_base (base' := w12.heap.size + 0) ho_g (by simp))
    clear ho_g
    clear hb
    go_wp2_with fail
    refine (HBS.out _ At ct (Reads.of_own (o13_t.out.alloc _))).mono ?_
    rintro e w14 ⟨rfl, hb⟩
    have s14 : w13.heap.size + 1 ≤ w14.heap.size := (by have := hb.size; (try simp at this); omega)
    have z14_0 : w2.heap.size < w14.heap.size := (by omega)
    have z14_1 : w3.heap.size < w14.heap.size := (by omega)
    have z14_2 : w4.heap.size < w14.heap.size := (by omega)
    have z14_3 : w7.heap.size < w14.heap.size := (by omega)
    have z14_4 : w13.heap.size < w14.heap.size := (by omega)
    have q14_0 : w14.cell? ⟨w2.heap.size, 0, none⟩ = some (.int .i64 u) := ext_cell hb (cell_old q13_0 _)
    have q14_1 : w14.cell? ⟨w2.heap.size, 1, none⟩ = some (.int .i64 lo) := ext_cell hb (cell_old q13_1 _)
    have q14_2 : w14.cell? ⟨w2.heap.size, 2, none⟩ = some (.slice As l.length cs) := ext_cell hb (cell_old q13_2 _)
    have q14_3 : w14.cell? ⟨w3.heap.size, 0, none⟩ = some (.int .i64 U) := ext_cell hb (cell_old q13_3 _)
    have q14_4 : w14.cell? ⟨w3.heap.size, 1, none⟩ = some (.int .i64 LO) := ext_cell hb (cell_old q13_4 _)
    have q14_5 : w14.cell? ⟨w3.heap.size, 2, none⟩ = some (.slice Ab L.length cb) := ext_cell hb (cell_old q13_5 _)
    have q14_6 : w14.cell? ⟨w4.heap.size, 0, none⟩ = some (.int .i64 U) := ext_cell hb (cell_old q13_6 _)
    have q14_7 : w14.cell? ⟨w4.heap.size, 1, none⟩ = some (.int .i64 LO) := ext_cell hb (cell_old q13_7 _)
    have q14_8 : w14.cell? ⟨w4.heap.size, 2, none⟩ = some (.slice Aa L.length ca) := ext_cell hb (cell_old q13_8 _)
    have q14_9 : w14.cell? ⟨w7.heap.size, 0, none⟩ = some (.int .i64 u) := ext_cell hb (cell_old q13_9 _)
    have q14_10 : w14.cell? ⟨w7.heap.size, 1, none⟩ = some (.int .i64 lo) := ext_cell hb (cell_old q13_10 _)
    have q14_11 : w14.cell? ⟨w7.heap.size, 2, none⟩ = some (.slice Ak l.length ck) := ext_cell hb (cell_old q13_11 _)
    have q14_12 : w14.cell? ⟨w13.heap.size, 0, none⟩ = some (.int .i64 U) := ext_cell hb (by simp [go_sem])
    have q14_13 : w14.cell? ⟨w13.heap.size, 1, none⟩ = some (.int .i64 LO) := ext_cell hb (by simp [go_sem])
    have q14_14 : w14.cell? ⟨w13.heap.size, 2, none⟩ = some (.slice Ag L.length cg) := ext_cell hb (by simp [go_sem])
    have b14 := Lib.hid (ext_trans (ext_alloc b13.out _) hb)
    have t14 : w.heap.size ≤ w14.heap.size := b14.out.size
    have o14_m := Lib.hid (own_ext (o13_m.out.alloc _) hb)
    have o14_s := Lib.hid (own_ext (o13_s.out.alloc _) hb)
    have o14_b := Lib.hid (own_ext (o13_b.out.alloc _) hb)
    have o14_a := Lib.hid (own_ext (o13_a.out.alloc _) hb)
    have o14_n := Lib.hid (own_ext (o13_n.out.alloc _) hb)
    have o14_k := Lib.hid (own_ext (o13_k.out.alloc _) hb)
    have o14_t := Lib.hid (own_ext (o13_t.out.alloc _) hb)
    have o14_g := Lib.hid (own_ext (oc_g.out.alloc _) hb)
    clear q13_0 q13_1 q13_2 q13_3 q13_4 q13_5 q13_6 q13_7 q13_8 q13_9 q13_10 q13_11
    clear hb
    go_wp2_with fail
    refine (HBA.out _ (Reads.of_own o14_m.out)).mono ?_
    rintro e w15 ⟨rfl, hb⟩
    have s15 : w14.heap.size ≤ w15.heap.size := (by have := hb.size; (try simp at this); omega)
    have z15_0 : w2.heap.size < w15.heap.size := (by omega)
    have z15_1 : w3.heap.size < w15.heap.size := (by omega)
    have z15_2 : w4.heap.size < w15.heap.size := (by omega)
    have z15_3 : w7.heap.size < w15.heap.size := (by omega)
    have z15_4 : w13.heap.size < w15.heap.size := (by omega)
    have q15_0 : w15.cell? ⟨w2.heap.size, 0, none⟩ = some (.int .i64 u) := ext_cell hb q14_0
    have q15_1 : w15.cell? ⟨w2.heap.size, 1, none⟩ = some (.int .i64 lo) := ext_cell hb q14_1
    have q15_2 : w15.cell? ⟨w2.heap.size, 2, none⟩ = some (.slice As l.length cs) := ext_cell hb q14_2
    have q15_3 : w15.cell? ⟨w3.heap.size, 0, none⟩ = some (.int .i64 U) := ext_cell hb q14_3
    have q15_4 : w15.cell? ⟨w3.heap.size, 1, none⟩ = some (.int .i64 LO) := ext_cell hb q14_4
    have q15_5 : w15.cell? ⟨w3.heap.size, 2, none⟩ = some (.slice Ab L.length cb) := ext_cell hb q14_5
    have q15_6 : w15.cell? ⟨w4.heap.size, 0, none⟩ = some (.int .i64 U) := ext_cell hb q14_6
    have q15_7 : w15.cell? ⟨w4.heap.size, 1, none⟩ = some (.int .i64 LO) := ext_cell hb q14_7
    have q15_8 : w15.cell? ⟨w4.heap.size, 2, none⟩ = some (.slice Aa L.length ca) := ext_cell hb q14_8
    have q15_9 : w15.cell? ⟨w7.heap.size, 0, none⟩ = some (.int .i64 u) := ext_cell hb q14_9
    have q15_10 : w15.cell? ⟨w7.heap.size, 1, none⟩ = some (.int .i64 lo) := ext_cell hb q14_10
    have q15_11 : w15.cell? ⟨w7.heap.size, 2, none⟩ = some (.slice Ak l.length ck) := ext_cell hb q14_11
    have q15_12 : w15.cell? ⟨w13.heap.size, 0, none⟩ = some (.int .i64 U) := ext_cell hb q14_12
    have q15_13 : w15.cell? ⟨w13.heap.size, 1, none⟩ = some (.int .i64 LO) := ext_cell hb q14_13
    have q15_14 : w15.cell? ⟨w13.heap.size, 2, none⟩ = some (.slice Ag L.length cg) := ext_cell hb q14_14
    have b15 := Lib.hid (ext_trans b14.out hb)
    have t15 : w.heap.size ≤ w15.heap.size := b15.out.size
    have o15_m := Lib.hid (own_ext o14_m.out hb)
    have o15_s := Lib.hid (own_ext o14_s.out hb)
    have o15_b := Lib.hid (own_ext o14_b.out hb)
    have o15_a := Lib.hid (own_ext o14_a.out hb)
    have o15_n := Lib.hid (own_ext o14_n.out hb)
    have o15_k := Lib.hid (own_ext o14_k.out hb)
    have o15_t := Lib.hid (own_ext o14_t.out hb)
    have o15_g := Lib.hid (own_ext o14_g.out hb)
    clear q14_0 q14_1 q14_2 q14_3 q14_4 q14_5 q14_6 q14_7 q14_8 q14_9 q14_10 q14_11 q14_12 q14_13 q14_14
    clear hb
    go_wp2_with fail
    refine (vFrame_same U LO Ag Ab L.length cg cb L _ (by omega) (Reads.of_own o15_g.out) (Reads.of_own o15_b.out)).mono ?_
    rintro e w16 ⟨rfl, hb⟩
    have s16 : w15.heap.size ≤ w16.heap.size := (by have := hb.size; (try simp at this); omega)
    have z16_0 : w2.heap.size < w16.heap.size := (by omega)
    have z16_1 : w3.heap.size < w16.heap.size := (by omega)
    have z16_2 : w4.heap.size < w16.heap.size := (by omega)
    have z16_3 : w7.heap.size < w16.heap.size := (by omega)
    have z16_4 : w13.heap.size < w16.heap.size := (by omega)
    have q16_0 : w16.cell? ⟨w2.heap.size, 0, none⟩ = some (.int .i64 u) := ext_cell hb q15_0
    have q16_1 : w16.cell? ⟨w2.heap.size, 1, none⟩ = some (.int .i64 lo) := ext_cell hb q15_1
    have q16_2 : w16.cell? ⟨w2.heap.size, 2, none⟩ = some (.slice As l.length cs) := ext_cell hb q15_2
    have q16_3 : w16.cell? ⟨w3.heap.size, 0, none⟩ = some (.int .i64 U) := ext_cell hb q15_3
    have q16_4 : w16.cell? ⟨w3.heap.size, 1, none⟩ = some (.int .i64 LO) := ext_cell hb q15_4
    have q16_5 : w16.cell? ⟨w3.heap.size, 2, none⟩ = some (.slice Ab L.length cb) := ext_cell hb q15_5
    have q16_6 : w16.cell? ⟨w4.heap.size, 0, none⟩ = some (.int .i64 U) := ext_cell hb q15_6
    have q16_7 : w16.cell? ⟨w4.heap.size, 1, none⟩ = some (.int .i64 LO) := ext_cell hb q15_7
    have q16_8 : w16.cell? ⟨w4.heap.size, 2, none⟩ = some (.slice Aa L.length ca) := ext_cell hb q15_8
    have q16_9 : w16.cell? ⟨w7.heap.size, 0, none⟩ = some (.int .i64 u) := ext_cell hb q15_9
    have q16_10 : w16.cell? ⟨w7.heap.size, 1, none⟩ = some (.int .i64 lo) := ext_cell hb q15_10
    have q16_11 : w16.cell? ⟨w7.heap.size, 2, none⟩ = some (.slice Ak l.length ck) := ext_cell hb q15_11
    have q16_12 : w16.cell? ⟨w13.heap.size, 0, none⟩ = some (.int .i64 U) := ext_cell hb q15_12
    have q16_13 : w16.cell? ⟨w13.heap.size, 1, none⟩ = some (.int .i64 LO) := ext_cell hb q15_13
    have q16_14 : w16.cell? ⟨w13.heap.size, 2, none⟩ = some (.slice Ag L.length cg) := ext_cell hb q15_14
    have b16 := Lib.hid (ext_trans b15.out hb)
    have t16 : w.heap.size ≤ w16.heap.size := b16.out.size
    have o16_m := Lib.hid (own_ext o15_m.out hb)
    have o16_s := Lib.hid (own_ext o15_s.out hb)
    have o16_b := Lib.hid (own_ext o15_b.out hb)
    have o16_a := Lib.hid (own_ext o15_a.out hb)
    have o16_n := Lib.hid (own_ext o15_n.out hb)
    have o16_k := Lib.hid (own_ext o15_k.out hb)
    have o16_t := Lib.hid (own_ext o15_t.out hb)
    have o16_g := Lib.hid (own_ext o15_g.out hb)
    clear q15_0 q15_1 q15_2 q15_3 q15_4 q15_5 q15_6 q15_7 q15_8 q15_9 q15_10 q15_11 q15_12 q15_13 q15_14
    clear hb
    go_wp2_with fail
    go_meet
    exact b16.out
   case rest => as_aux_lemma =>
    obtain ⟨w17, hw17⟩ : ∃ x : World, x = wc := ⟨_, rfl⟩
    subst hw17
    have b17 := Lib.hid hcut
    have t17 : w.heap.size ≤ w17.heap.size := hcut.size
    clear hcut
    clear HLAW HA HB k1 hl9 hLn hms
    go_wp2_with fail
    refine (drawMoveBeads_any A n c _ ((H.out.below b17.out).more b17.out.size) hn).mono ?_
    rintro e w18 ⟨u0, lo0, l0, Ax, cx, m, rfl, hIN, ho_x, hb⟩
    have s18 : w17.heap.size ≤ w18.heap.size := (by have := hb.size; (try simp at this); omega)
    have b18 := Lib.hid (ext_trans b17.out hb)
    have t18 : w.heap.size ≤ w18.heap.size := b18.out.size
    clear hb
    have oc_x := Lib.hid (own_base (base' := w17.heap.size + 0) ho_x (by simp))
    clear ho_x
    have hl9 : l0.length ≤ 9 := hIN.2.2.2.2.2.1
    clear hIN
    have HB := Lib.hid (fun (w : World) h => implMoveBeads_any u0 lo0 Ax l0.length cx l0 m w (by omega) h)
    have HA := Lib.hid (fun (w : World) h => specMoveBeads_any u0 lo0 Ax l0.length cx l0 m w (by omega) h)
    have HIB := Lib.hid (fun (w : World) => IsBeadMove_any m w)
    have HIA := Lib.hid (fun (w : World) => specIsBeadMove_any m w)
    have hLn := mbeF_len u0 lo0 l0 m
    obtain ⟨R, hR⟩ : ∃ o9, mbeF u0 lo0 l0 m = o9 := ⟨_, rfl⟩
    rw [hR] at HA HB hLn
    obtain ⟨ok, hok⟩ : ∃ o9, mbeB u0 lo0 l0 m = o9 := ⟨_, rfl⟩
    rw [hok] at HA HB
    obtain ⟨om, hom⟩ : ∃ o9, okM m = o9 := ⟨_, rfl⟩
    rw [hom] at HIA HIB
    obtain ⟨U, LO, L⟩ := R
    unfold RetFrB at HA HB
    (try unfold RetV at HIA)
    (try unfold RetV at HIB)
    dsimp only at HA HB hLn
    unfold R3.val at HA HB HIA HIB
    have k1 : (ok != ok) = false := by cases ok <;> rfl
    have k2 : (om != om) = false := by cases om <;> rfl
    clear hR hok hom
    go_wp2_with fail
    refine (HB.out _ (Reads.of_own ((oc_x.out.alloc _).alloc _))).mono ?_
    rintro e w19 ⟨Ab, cb, rfl, ho_b, hb⟩
    have s19 : w18.heap.size + 2 ≤ w19.heap.size := (by have := hb.size; (try simp at this); omega)
    have z19_0 : w18.heap.size < w19.heap.size := (by omega)
    have z19_1 : w18.heap.size + 1 < w19.heap.size := (by omega)
    have q19_0 : w19.cell? ⟨w18.heap.size, 0, none⟩ = some (.int .i64 u0) := ext_cell hb (by simp [go_sem])
    have q19_1 : w19.cell? ⟨w18.heap.size, 1, none⟩ = some (.int .i64 lo0) := ext_cell hb (by simp [go_sem])
    have q19_2 : w19.cell? ⟨w18.heap.size, 2, none⟩ = some (.slice Ax l0.length cx) := ext_cell hb (by simp [go_sem])
    have q19_3 : w19.cell? ⟨w18.heap.size + 1, 0, none⟩ = some (.int .i64 m.a) := ext_cell hb (by simp [go_sem])
    have q19_4 : w19.cell? ⟨w18.heap.size + 1, 1, none⟩ = some (.int .i64 m.b) := ext_cell hb (by simp [go_sem])
    have q19_5 : w19.cell? ⟨w18.heap.size + 1, 2, none⟩ = some (.int .i64 m.c) := ext_cell hb (by simp [go_sem])
    have b19 := Lib.hid (ext_trans (ext_alloc (ext_alloc b18.out _) _) hb)
    have t19 : w.heap.size ≤ w19.heap.size := b19.out.size
    have o19_x := Lib.hid (own_ext ((oc_x.out.alloc _).alloc _) hb)
    have oc_b := Lib.hid (own_base (base' := w18.heap.size + 2) ho_b (by simp))
    clear ho_b
    clear hb
    go_wp2_with fail
    refine (HA.out _ (Reads.of_own (o19_x.out.alloc _))).mono ?_
    rintro e w20 ⟨Aa, ca, rfl, ho_a, hb⟩
    have s20 : w19.heap.size + 1 ≤ w20.heap.size := (by have := hb.size; (try simp at this); omega)
    have z20_0 : w18.heap.size < w20.heap.size := (by omega)
    have z20_1 : w18.heap.size + 1 < w20.heap.size := (by omega)
    have z20_2 : w19.heap.size < w20.heap.size := (by omega)
    have q20_0 : w20.cell? ⟨w18.heap.size, 0, none⟩ = some (.int .i64 u0) := ext_cell hb (cell_old q19_0 _)
    have q20_1 : w20.cell? ⟨w18.heap.size, 1, none⟩ = some (.int .i64 lo0) := ext_cell hb (cell_old q19_1 _)
    have q20_2 : w20.cell? ⟨w18.heap.size, 2, none⟩ = some (.slice Ax l0.length cx) := ext_cell hb (cell_old q19_2 _)
    have q20_3 : w20.cell? ⟨w18.heap.size + 1, 0, none⟩ = some (.int .i64 m.a) := ext_cell hb (cell_old q19_3 _)
    have q20_4 : w20.cell? ⟨w18.heap.size + 1, 1, none⟩ = some (.int .i64 m.b) := ext_cell hb (cell_old q19_4 _)
    have q20_5 : w20.cell? ⟨w18.heap.size + 1, 2, none⟩ = some (.int .i64 m.c) := ext_cell hb (cell_old q19_5 _)
    have q20_6 : w20.cell? ⟨w19.heap.size, 0, none⟩ = some (.int .i64 U) := ext_cell hb (by simp [go_sem])
    have q20_7 : w20.cell? ⟨w19.heap.size, 1, none⟩ = some (.int .i64 LO) := ext_cell hb (by simp [go_sem])
    have q20_8 : w20.cell? ⟨w19.heap.size, 2, none⟩ = some (.slice Ab L.length cb) := ext_cell hb (by simp [go_sem])
    have b20 := Lib.hid (ext_trans (ext_alloc b19.out _) hb)
    have t20 : w.heap.size ≤ w20.heap.size := b20.out.size
    have o20_x := Lib.hid (own_ext (o19_x.out.alloc _) hb)
    have o20_b := Lib.hid (own_ext (oc_b.out.alloc _) hb)
    clear q19_0 q19_1 q19_2 q19_3 q19_4 q19_5
    have oc_a := Lib.hid (own_base (base' := w19.heap.size + 1) ho_a (by simp))
    clear ho_a
    clear hb
    obtain ⟨w21, hw21⟩ : ∃ x : World, x = (w20.alloc (.cells #[.int .i64 U, .int .i64 LO, .slice Aa L.length ca] 26)) := ⟨_, rfl⟩
    have hb : Below (w20.alloc (.cells #[.int .i64 U, .int .i64 LO, .slice Aa L.length ca] 26)).heap.size (w20.alloc (.cells #[.int .i64 U, .int .i64 LO, .slice Aa L.length ca] 26)) w21 := by rw [hw21]; exact ext_refl _
    have s21 : w20.heap.size + 1 ≤ w21.heap.size := (by have := hb.size; (try simp at this); omega)
    have z21_0 : w18.heap.size < w21.heap.size := (by omega)
    have z21_1 : w18.heap.size + 1 < w21.heap.size := (by omega)
    have z21_2 : w19.heap.size < w21.heap.size := (by omega)
    have z21_3 : w20.heap.size < w21.heap.size := (by omega)
    have q21_0 : w21.cell? ⟨w18.heap.size, 0, none⟩ = some (.int .i64 u0) := ext_cell hb (cell_old q20_0 _)
    have q21_1 : w21.cell? ⟨w18.heap.size, 1, none⟩ = some (.int .i64 lo0) := ext_cell hb (cell_old q20_1 _)
    have q21_2 : w21.cell? ⟨w18.heap.size, 2, none⟩ = some (.slice Ax l0.length cx) := ext_cell hb (cell_old q20_2 _)
    have q21_3 : w21.cell? ⟨w18.heap.size + 1, 0, none⟩ = some (.int .i64 m.a) := ext_cell hb (cell_old q20_3 _)
    have q21_4 : w21.cell? ⟨w18.heap.size + 1, 1, none⟩ = some (.int .i64 m.b) := ext_cell hb (cell_old q20_4 _)
    have q21_5 : w21.cell? ⟨w18.heap.size + 1, 2, none⟩ = some (.int .i64 m.c) := ext_cell hb (cell_old q20_5 _)
    have q21_6 : w21.cell? ⟨w19.heap.size, 0, none⟩ = some (.int .i64 U) := ext_cell hb (cell_old q20_6 _)
    have q21_7 : w21.cell? ⟨w19.heap.size, 1, none⟩ = some (.int .i64 LO) := ext_cell hb (cell_old q20_7 _)
    have q21_8 : w21.cell? ⟨w19.heap.size, 2, none⟩ = some (.slice Ab L.length cb) := ext_cell hb (cell_old q20_8 _)
    have q21_9 : w21.cell? ⟨w20.heap.size, 0, none⟩ = some (.int .i64 U) := ext_cell hb (by simp [go_sem])
    have q21_10 : w21.cell? ⟨w20.heap.size, 1, none⟩ = some (.int .i64 LO) := ext_cell hb (by simp [go_sem])
    have q21_11 : w21.cell? ⟨w20.heap.size, 2, none⟩ = some (.slice Aa L.length ca) := ext_cell hb (by simp [go_sem])
    have b21 := Lib.hid (ext_trans (ext_alloc b20.out _) hb)
    have t21 : w.heap.size ≤ w21.heap.size := b21.out.size
    have o21_x := Lib.hid (own_ext (o20_x.out.alloc _) hb)
    have o21_b := Lib.hid (own_ext (o20_b.out.alloc _) hb)
    have o21_a := Lib.hid (own_ext (oc_a.out.alloc _) hb)
    clear q20_0 q20_1 q20_2 q20_3 q20_4 q20_5 q20_6 q20_7 q20_8
    clear hb
    go_upto_region 25 with fail
    rw [← hw21]
    clear hw21
    go_cut [219] (fun s9 wx => s9 = .bool false ∧ Below w21.heap.size w21 wx)
    case first => as_aux_lemma =>
     have HV1 := Lib.hid (fun (m9 : Later w21) => vFrame_same U LO Ab Aa L.length cb ca L m9.world (by omega) (Reads.of_own (own_ext o21_b.out m9.h)) (Reads.of_own (own_ext o21_a.out m9.h)))
     have HV2 := Lib.hid (fun (m9 : Later w21) => HIB.out m9.world)
     have HV3 := Lib.hid (fun (m9 : Later w21) => HIA.out m9.world)
     (refine wp_region_later (by kernel_rfl) (by kernel_rfl) ?_; (repeat (go_big_quiet_step (first | (go_at_call 11; with_reducible exact Calls.later_of (HV1.out _)) | (go_at_call 20; with_reducible exact Calls.later_of (HV2.out _)) | (go_at_call 21; with_reducible exact Calls.later_of (HV3.out _))))); refine wpQuiet_nil ?_; intro wA hw1; obtain ⟨⟨wl, hb⟩, hw1'⟩ := hw1; simp only at hw1'; subst hw1')
     go_wp2_with fail
     go_meet
     exact ⟨rfl, hb⟩
    case rest => as_aux_lemma =>
     obtain ⟨rfl, hb⟩ := hcut
     obtain ⟨w22, hw22⟩ : ∃ x : World, x = wc := ⟨_, rfl⟩
     subst hw22
     have s22 : w21.heap.size ≤ w22.heap.size := (by have := hb.size; (try simp at this); omega)
     have z22_0 : w18.heap.size < w22.heap.size := (by omega)
     have z22_1 : w18.heap.size + 1 < w22.heap.size := (by omega)
     have z22_2 : w19.heap.size < w22.heap.size := (by omega)
     have z22_3 : w20.heap.size < w22.heap.size := (by omega)
     have q22_0 : w22.cell? ⟨w18.heap.size, 0, none⟩ = some (.int .i64 u0) := ext_cell hb q21_0
     have q22_1 : w22.cell? ⟨w18.heap.size, 1, none⟩ = some (.int .i64 lo0) := ext_cell hb q21_1
     have q22_2 : w22.cell? ⟨w18.heap.size, 2, none⟩ = some (.slice Ax l0.length cx) := ext_cell hb q21_2
     have q22_3 : w22.cell? ⟨w18.heap.size + 1, 0, none⟩ = some (.int .i64 m.a) := ext_cell hb q21_3
     have q22_4 : w22.cell? ⟨w18.heap.size + 1, 1, none⟩ = some (.int .i64 m.b) := ext_cell hb q21_4
     have q22_5 : w22.cell? ⟨w18.heap.size + 1, 2, none⟩ = some (.int .i64 m.c) := ext_cell hb q21_5
     have q22_6 : w22.cell? ⟨w19.heap.size, 0, none⟩ = some (.int .i64 U) := ext_cell hb q21_6
     have q22_7 : w22.cell? ⟨w19.heap.size, 1, none⟩ = some (.int .i64 LO) := ext_cell hb q21_7
     have q22_8 : w22.cell? ⟨w19.heap.size, 2, none⟩ = some (.slice Ab L.length cb) := ext_cell hb q21_8
     have q22_9 : w22.cell? ⟨w20.heap.size, 0, none⟩ = some (.int .i64 U) := ext_cell hb q21_9
     have q22_10 : w22.cell? ⟨w20.heap.size, 1, none⟩ = some (.int .i64 LO) := ext_cell hb q21_10
     have q22_11 : w22.cell? ⟨w20.heap.size, 2, none⟩ = some (.slice Aa L.length ca) := ext_cell hb q21_11
     have b22 := Lib.hid (ext_trans b21.out hb)
     have t22 : w.heap.size ≤ w22.heap.size := b22.out.size
     have o22_x := Lib.hid (own_ext o21_x.out hb)
     have o22_b := Lib.hid (own_ext o21_b.out hb)
     have o22_a := Lib.hid (own_ext o21_a.out hb)
     clear q21_0 q21_1 q21_2 q21_3 q21_4 q21_5 q21_6 q21_7 q21_8 q21_9 q21_10 q21_11
     clear hb
     go_wp2_with fail
     refine (drawUndoMoves_any A n c _ ((H.out.below b22.out).more b22.out.size) hn).mono ?_
     rintro e w23 ⟨y9, Ay, cy, rfl, hy61, ho_y, hb⟩
     have s23 : w22.heap.size ≤ w23.heap.size := (by have := hb.size; (try simp at this); omega)
     have z23_0 : w18.heap.size < w23.heap.size := (by omega)
     have z23_1 : w18.heap.size + 1 < w23.heap.size := (by omega)
     have z23_2 : w19.heap.size < w23.heap.size := (by omega)
     have z23_3 : w20.heap.size < w23.heap.size := (by omega)
     have q23_0 : w23.cell? ⟨w18.heap.size, 0, none⟩ = some (.int .i64 u0) := ext_cell hb q22_0
     have q23_1 : w23.cell? ⟨w18.heap.size, 1, none⟩ = some (.int .i64 lo0) := ext_cell hb q22_1
     have q23_2 : w23.cell? ⟨w18.heap.size, 2, none⟩ = some (.slice Ax l0.length cx) := ext_cell hb q22_2
     have q23_3 : w23.cell? ⟨w18.heap.size + 1, 0, none⟩ = some (.int .i64 m.a) := ext_cell hb q22_3
     have q23_4 : w23.cell? ⟨w18.heap.size + 1, 1, none⟩ = some (.int .i64 m.b) := ext_cell hb q22_4
     have q23_5 : w23.cell? ⟨w18.heap.size + 1, 2, none⟩ = some (.int .i64 m.c) := ext_cell hb q22_5
     have q23_6 : w23.cell? ⟨w19.heap.size, 0, none⟩ = some (.int .i64 U) := ext_cell hb q22_6
     have q23_7 : w23.cell? ⟨w19.heap.size, 1, none⟩ = some (.int .i64 LO) := ext_cell hb q22_7
     have q23_8 : w23.cell? ⟨w19.heap.size, 2, none⟩ = some (.slice Ab L.length cb) := ext_cell hb q22_8
     have q23_9 : w23.cell? ⟨w20.heap.size, 0, none⟩ = some (.int .i64 U) := ext_cell hb q22_9
     have q23_10 : w23.cell? ⟨w20.heap.size, 1, none⟩ = some (.int .i64 LO) := ext_cell hb q22_10
     have q23_11 : w23.cell? ⟨w20.heap.size, 2, none⟩ = some (.slice Aa L.length ca) := ext_cell hb q22_11
     have b23 := Lib.hid (ext_trans b22.out hb)
     have t23 : w.heap.size ≤ w23.heap.size := b23.out.size
     have o23_x := Lib.hid (own_ext o22_x.out hb)
     have o23_b := Lib.hid (own_ext o22_b.out hb)
     have o23_a := Lib.hid (own_ext o22_a.out hb)
     clear q22_0 q22_1 q22_2 q22_3 q22_4 q22_5 q22_6 q22_7 q22_8 q22_9 q22_10 q22_11
     clear hb
     have oc_y := Lib.hid (own_base (base' := w22.heap.size + 0) ho_y (by simp))
     clear ho_y
     have HB2 := Lib.hid (fun (w : World) h => implUndoMoves_any Ay y9.length cy y9 w (by omega) h)
     have HA2 := Lib.hid (fun (w : World) h => specUndoMoves_any Ay y9.length cy y9 w (by omega) h)
     have hUn := unL_len y9
     obtain ⟨un, hun⟩ : ∃ o9, unL y9 = o9 := ⟨_, rfl⟩
     obtain ⟨okm, hokm⟩ : ∃ o9, mvsB y9 = o9 := ⟨_, rfl⟩
     rw [hun] at HB2 HA2 hUn
     rw [hokm] at HB2 HA2
     obtain ⟨nu, hnu⟩ : ∃ o9, un.length = o9 := ⟨_, rfl⟩
     rw [hnu] at HB2 HA2 hUn
     unfold RetSliceB at HB2 HA2
     have hnu9 : nu ≤ 1048576 := by omega
     have k3 : (okm != okm) = false := by cases okm <;> rfl
     clear hun hokm hnu
     go_wp2_with fail
     refine (HB2.out _ (Reads.of_own oc_y.out)).mono ?_
     rintro e w24 ⟨Ad, cd, rfl, ho_d, hb⟩
     have s24 : w23.heap.size ≤ w24.heap.size := (by have := hb.size; (try simp at this); omega)
     have z24_0 : w18.heap.size < w24.heap.size := (by omega)
     have z24_1 : w18.heap.size + 1 < w24.heap.size := (by omega)
     have z24_2 : w19.heap.size < w24.heap.size := (by omega)
     have z24_3 : w20.heap.size < w24.heap.size := (by omega)
     have q24_0 : w24.cell? ⟨w18.heap.size, 0, none⟩ = some (.int .i64 u0) := ext_cell hb q23_0
     have q24_1 : w24.cell? ⟨w18.heap.size, 1, none⟩ = some (.int .i64 lo0) := ext_cell hb q23_1
     have q24_2 : w24.cell? ⟨w18.heap.size, 2, none⟩ = some (.slice Ax l0.length cx) := ext_cell hb q23_2
     have q24_3 : w24.cell? ⟨w18.heap.size + 1, 0, none⟩ = some (.int .i64 m.a) := ext_cell hb q23_3
     have q24_4 : w24.cell? ⟨w18.heap.size + 1, 1, none⟩ = some (.int .i64 m.b) := ext_cell hb q23_4
     have q24_5 : w24.cell? ⟨w18.heap.size + 1, 2, none⟩ = some (.int .i64 m.c) := ext_cell hb q23_5
     have q24_6 : w24.cell? ⟨w19.heap.size, 0, none⟩ = some (.int .i64 U) := ext_cell hb q23_6
     have q24_7 : w24.cell? ⟨w19.heap.size, 1, none⟩ = some (.int .i64 LO) := ext_cell hb q23_7
     have q24_8 : w24.cell? ⟨w19.heap.size, 2, none⟩ = some (.slice Ab L.length cb) := ext_cell hb q23_8
     have q24_9 : w24.cell? ⟨w20.heap.size, 0, none⟩ = some (.int .i64 U) := ext_cell hb q23_9
     have q24_10 : w24.cell? ⟨w20.heap.size, 1, none⟩ = some (.int .i64 LO) := ext_cell hb q23_10
     have q24_11 : w24.cell? ⟨w20.heap.size, 2, none⟩ = some (.slice Aa L.length ca) := ext_cell hb q23_11
     have b24 := Lib.hid (ext_trans b23.out hb)
     have t24 : w.heap.size ≤ w24.heap.size := b24.out.size
     have o24_x := Lib.hid (own_ext o23_x.out hb)
     have o24_b := Lib.hid (own_ext o23_b.out hb)
     have o24_a := Lib.hid (own_ext o23_a.out hb)
     have o24_y := Lib.hid (own_ext oc_y.out hb)
     clear q23_0 q23_1 q23_2 q23_3 q23_4 q23_5 q23_6 q23_7 q23_8 q23_9 q23_10 q23_11
     have oc_d := Lib.hid (own_base (base' := w23.heap.size + 0) ho_d (by simp))
     clear ho_d
     clear hb
     go_wp2_with fail
     refine (HA2.out _ (Reads.of_own o24_y.out)).mono ?_
     rintro e w25 ⟨Ae, ce, rfl, ho_e, hb⟩
     have s25 : w24.heap.size ≤ w25.heap.size := (by have := hb.size; (try simp at this); omega)
     have z25_0 : w18.heap.size < w25.heap.size := (by omega)
     have z25_1 : w18.heap.size + 1 < w25.heap.size := (by omega)
     have z25_2 : w19.heap.size < w25.heap.size := (by omega)
     have z25_3 : w20.heap.size < w25.heap.size := (by omega)
     have q25_0 : w25.cell? ⟨w18.heap.size, 0, none⟩ = some (.int .i64 u0) := ext_cell hb q24_0
     have q25_1 : w25.cell? ⟨w18.heap.size, 1, none⟩ = some (.int .i64 lo0) := ext_cell hb q24_1
     have q25_2 : w25.cell? ⟨w18.heap.size, 2, none⟩ = some (.slice Ax l0.length cx) := ext_cell hb q24_2
     have q25_3 : w25.cell? ⟨w18.heap.size + 1, 0, none⟩ = some (.int .i64 m.a) := ext_cell hb q24_3
     have q25_4 : w25.cell? ⟨w18.heap.size + 1, 1, none⟩ = some (.int .i64 m.b) := ext_cell hb q24_4
     have q25_5 : w25.cell? ⟨w18.heap.size + 1, 2, none⟩ = some (.int .i64 m.c) := ext_cell hb q24_5
     have q25_6 : w25.cell? ⟨w19.heap.size, 0, none⟩ = some (.int .i64 U) := ext_cell hb q24_6
     have q25_7 : w25.cell? ⟨w19.heap.size, 1, none⟩ = some (.int .i64 LO) := ext_cell hb q24_7
     have q25_8 : w25.cell? ⟨w19.heap.size, 2, none⟩ = some (.slice Ab L.length cb) := ext_cell hb q24_8
     have q25_9 : w25.cell? ⟨w20.heap.size, 0, none⟩ = some (.int .i64 U) := ext_cell hb q24_9
     have q25_10 : w25.cell? ⟨w20.heap.size, 1, none⟩ = some (.int .i64 LO) := ext_cell hb q24_10
     have q25_11 : w25.cell? ⟨w20.heap.size, 2, none⟩ = some (.slice Aa L.length ca) := ext_cell hb q24_11
     have b25 := Lib.hid (ext_trans b24.out hb)
     have t25 : w.heap.size ≤ w25.heap.size := b25.out.size
     have o25_x := Lib.hid (own_ext o24_x.out hb)
     have o25_b := Lib.hid (own_ext o24_b.out hb)
     have o25_a := Lib.hid (own_ext o24_a.out hb)
     have o25_y := Lib.hid (own_ext o24_y.out hb)
     have o25_d := Lib.hid (own_ext oc_d.out hb)
     clear q24_0 q24_1 q24_2 q24_3 q24_4 q24_5 q24_6 q24_7 q24_8 q24_9 q24_10 q24_11
     have oc_e := Lib.hid (own_base (base' := w24.heap.size + 0) ho_e (by simp))
     clear ho_e
     clear hb
     go_wp2_with fail
     refine (vMoves_same Ad Ae nu cd ce un _ hnu9 (Reads.of_own o25_d.out) (Reads.of_own oc_e.out)).mono ?_
     rintro e w26 ⟨rfl, hb⟩
     have s26 : w25.heap.size ≤ w26.heap.size := (by have := hb.size; (try simp at this); omega)
     have z26_0 : w18.heap.size < w26.heap.size := (by omega)
     have z26_1 : w18.heap.size + 1 < w26.heap.size := (by omega)
     have z26_2 : w19.heap.size < w26.heap.size := (by omega)
     have z26_3 : w20.heap.size < w26.heap.size := (by omega)
     have q26_0 : w26.cell? ⟨w18.heap.size, 0, none⟩ = some (.int .i64 u0) := ext_cell hb q25_0
     have q26_1 : w26.cell? ⟨w18.heap.size, 1, none⟩ = some (.int .i64 lo0) := ext_cell hb q25_1
     have q26_2 : w26.cell? ⟨w18.heap.size, 2, none⟩ = some (.slice Ax l0.length cx) := ext_cell hb q25_2
     have q26_3 : w26.cell? ⟨w18.heap.size + 1, 0, none⟩ = some (.int .i64 m.a) := ext_cell hb q25_3
     have q26_4 : w26.cell? ⟨w18.heap.size + 1, 1, none⟩ = some (.int .i64 m.b) := ext_cell hb q25_4
     have q26_5 : w26.cell? ⟨w18.heap.size + 1, 2, none⟩ = some (.int .i64 m.c) := ext_cell hb q25_5
     have q26_6 : w26.cell? ⟨w19.heap.size, 0, none⟩ = some (.int .i64 U) := ext_cell hb q25_6
     have q26_7 : w26.cell? ⟨w19.heap.size, 1, none⟩ = some (.int .i64 LO) := ext_cell hb q25_7
     have q26_8 : w26.cell? ⟨w19.heap.size, 2, none⟩ = some (.slice Ab L.length cb) := ext_cell hb q25_8
     have q26_9 : w26.cell? ⟨w20.heap.size, 0, none⟩ = some (.int .i64 U) := ext_cell hb q25_9
     have q26_10 : w26.cell? ⟨w20.heap.size, 1, none⟩ = some (.int .i64 LO) := ext_cell hb q25_10
     have q26_11 : w26.cell? ⟨w20.heap.size, 2, none⟩ = some (.slice Aa L.length ca) := ext_cell hb q25_11
     have b26 := Lib.hid (ext_trans b25.out hb)
     have t26 : w.heap.size ≤ w26.heap.size := b26.out.size
     have o26_x := Lib.hid (own_ext o25_x.out hb)
     have o26_b := Lib.hid (own_ext o25_b.out hb)
     have o26_a := Lib.hid (own_ext o25_a.out hb)
     have o26_y := Lib.hid (own_ext o25_y.out hb)
     have o26_d := Lib.hid (own_ext o25_d.out hb)
     have o26_e := Lib.hid (own_ext oc_e.out hb)
     clear q25_0 q25_1 q25_2 q25_3 q25_4 q25_5 q25_6 q25_7 q25_8 q25_9 q25_10 q25_11
     clear hb
     go_wp2_with fail
     refine (drawMovesBetween_any A n c _ ((H.out.below b26.out).more b26.out.size) hn).mono ?_
     rintro e w27 ⟨u1, lo1, l1, A1, c1, u3, lo3, l3, A3, c3, rfl, hI1, hI3, ho_p, ho_q, hb⟩
     have s27 : w26.heap.size ≤ w27.heap.size := (by have := hb.size; (try simp at this); omega)
     have z27_0 : w18.heap.size < w27.heap.size := (by omega)
     have z27_1 : w18.heap.size + 1 < w27.heap.size := (by omega)
     have z27_2 : w19.heap.size < w27.heap.size := (by omega)
     have z27_3 : w20.heap.size < w27.heap.size := (by omega)
     have q27_0 : w27.cell? ⟨w18.heap.size, 0, none⟩ = some (.int .i64 u0) := ext_cell hb q26_0
     have q27_1 : w27.cell? ⟨w18.heap.size, 1, none⟩ = some (.int .i64 lo0) := ext_cell hb q26_1
     have q27_2 : w27.cell? ⟨w18.heap.size, 2, none⟩ = some (.slice Ax l0.length cx) := ext_cell hb q26_2
     have q27_3 : w27.cell? ⟨w18.heap.size + 1, 0, none⟩ = some (.int .i64 m.a) := ext_cell hb q26_3
     have q27_4 : w27.cell? ⟨w18.heap.size + 1, 1, none⟩ = some (.int .i64 m.b) := ext_cell hb q26_4
     have q27_5 : w27.cell? ⟨w18.heap.size + 1, 2, none⟩ = some (.int .i64 m.c) := ext_cell hb q26_5
     have q27_6 : w27.cell? ⟨w19.heap.size, 0, none⟩ = some (.int .i64 U) := ext_cell hb q26_6
     have q27_7 : w27.cell? ⟨w19.heap.size, 1, none⟩ = some (.int .i64 LO) := ext_cell hb q26_7
     have q27_8 : w27.cell? ⟨w19.heap.size, 2, none⟩ = some (.slice Ab L.length cb) := ext_cell hb q26_8
     have q27_9 : w27.cell? ⟨w20.heap.size, 0, none⟩ = some (.int .i64 U) := ext_cell hb q26_9
     have q27_10 : w27.cell? ⟨w20.heap.size, 1, none⟩ = some (.int .i64 LO) := ext_cell hb q26_10
     have q27_11 : w27.cell? ⟨w20.heap.size, 2, none⟩ = some (.slice Aa L.length ca) := ext_cell hb q26_11
     have b27 := Lib.hid (ext_trans b26.out hb)
     have t27 : w.heap.size ≤ w27.heap.size := b27.out.size
     have o27_x := Lib.hid (own_ext o26_x.out hb)
     have o27_b := Lib.hid (own_ext o26_b.out hb)
     have o27_a := Lib.hid (own_ext o26_a.out hb)
     have o27_y := Lib.hid (own_ext o26_y.out hb)
     have o27_d := Lib.hid (own_ext o26_d.out hb)
     have o27_e := Lib.hid (own_ext o26_e.out hb)
     clear q26_0 q26_1 q26_2 q26_3 q26_4 q26_5 q26_6 q26_7 q26_8 q26_9 q26_10 q26_11
     clear hb
     have oc_p := Lib.hid (own_base (base' := w26.heap.size + 0) ho_p (by simp))
     clear ho_p
     have oc_q := Lib.hid (own_base (base' := w26.heap.size + 0) ho_q (by simp))
     clear ho_q
     have hl1 : l1.length ≤ 9 := hI1.2.2.2.2.2.1
     have hl3 : l3.length ≤ 9 := hI3.2.2.2.2.2.1
     clear hI1 hI3
     have HB3 := Lib.hid (fun (w : World) h h' => implMovesBetween_any u1 lo1 A1 l1.length c1 l1 u3 lo3 A3 l3.length c3 l3 w (by omega) (by omega) h h')
     have HA3 := Lib.hid (fun (w : World) h h' => specMovesBetween_any u1 lo1 A1 l1.length c1 l1 u3 lo3 A3 l3.length c3 l3 w (by omega) (by omega) h h')
     have hBn := mbL_len u1 lo1 l1 u3 lo3 l3
     obtain ⟨bt, hbt⟩ : ∃ o9, mbL u1 lo1 l1 u3 lo3 l3 = o9 := ⟨_, rfl⟩
     obtain ⟨okb, hokb⟩ : ∃ o9, mbB u1 lo1 l1 u3 lo3 l3 = o9 := ⟨_, rfl⟩
     rw [hbt, hokb] at HB3 HA3
     rw [hbt] at hBn
     obtain ⟨nb, hnb⟩ : ∃ o9, bt.length = o9 := ⟨_, rfl⟩
     rw [hnb] at HB3 HA3 hBn
     unfold RetSliceB at HB3 HA3
     have hnb9 : nb ≤ 1048576 := by omega
     have k4 : (okb == okb) = true := by cases okb <;> rfl
     clear hbt hokb hnb
     go_wp2_with fail
     refine (HB3.out _ (Reads.of_own ((oc_p.out.alloc _).alloc _)) (Reads.of_own ((oc_q.out.alloc _).alloc _))).mono ?_
     rintro e w28 ⟨Af, cf, rfl, ho_f, hb⟩
     have s28 : w27.heap.size + 2 ≤ w28.heap.size := (by have := hb.size; (try simp at this); omega)
     have z28_0 : w18.heap.size < w28.heap.size := (by omega)
     have z28_1 : w18.heap.size + 1 < w28.heap.size := (by omega)
     have z28_2 : w19.heap.size < w28.heap.size := (by omega)
     have z28_3 : w20.heap.size < w28.heap.size := (by omega)
     have z28_4 : w27.heap.size < w28.heap.size := (by omega)
     have z28_5 : w27.heap.size + 1 < w28.heap.size := (by omega)
     have q28_0 : w28.cell? ⟨w18.heap.size, 0, none⟩ = some (.int .i64 u0) := ext_cell hb (cell_old (cell_old q27_0 _) _)
     have q28_1 : w28.cell? ⟨w18.heap.size, 1, none⟩ = some (.int .i64 lo0) := ext_cell hb (cell_old (cell_old q27_1 _) _)
     have q28_2 : w28.cell? ⟨w18.heap.size, 2, none⟩ = some (.slice Ax l0.length cx) := ext_cell hb (cell_old (cell_old q27_2 _) _)
     have q28_3 : w28.cell? ⟨w18.heap.size + 1, 0, none⟩ = some (.int .i64 m.a) := ext_cell hb (cell_old (cell_old q27_3 _) _)
     have q28_4 : w28.cell? ⟨w18.heap.size + 1, 1, none⟩ = some (.int .i64 m.b) := ext_cell hb (cell_old (cell_old q27_4 _) _)
     have q28_5 : w28.cell? ⟨w18.heap.size + 1, 2, none⟩ = some (.int .i64 m.c) := ext_cell hb (cell_old (cell_old q27_5 _) _)
     have q28_6 : w28.cell? ⟨w19.heap.size, 0, none⟩ = some (.int .i64 U) := ext_cell hb (cell_old (cell_old q27_6 _) _)
     have q28_7 : w28.cell? ⟨w19.heap.size, 1, none⟩ = some (.int .i64 LO) := ext_cell hb (cell_old (cell_old q27_7 _) _)
     have q28_8 : w28.cell? ⟨w19.heap.size, 2, none⟩ = some (.slice Ab L.length cb) := ext_cell hb (cell_old (cell_old q27_8 _) _)
     have q28_9 : w28.cell? ⟨w20.heap.size, 0, none⟩ = some (.int .i64 U) := ext_cell hb (cell_old (cell_old q27_9 _) _)
     have q28_10 : w28.cell? ⟨w20.heap.size, 1, none⟩ = some (.int .i64 LO) := ext_cell hb (cell_old (cell_old q27_10 _) _)
     have q28_11 : w28.cell? ⟨w20.heap.size, 2, none⟩ = some (.slice Aa L.length ca) := ext_cell hb (cell_old (cell_old q27_11 _) _)
     have q28_12 : w28.cell? ⟨w27.heap.size, 0, none⟩ = some (.int .i64 u1) := ext_cell hb (by simp [go_sem])
     have q28_13 : w28.cell? ⟨w27.heap.size, 1, none⟩ = some (.int .i64 lo1) := ext_cell hb (by simp [go_sem])
     have q28_14 : w28.cell? ⟨w27.heap.size, 2, none⟩ = some (.slice A1 l1.length c1) := ext_cell hb (by simp [go_sem])
     have q28_15 : w28.cell? ⟨w27.heap.size + 1, 0, none⟩ = some (.int .i64 u3) := ext_cell hb (by simp [go_sem])
     have q28_16 : w28.cell? ⟨w27.heap.size + 1, 1, none⟩ = some (.int .i64 lo3) := ext_cell hb (by simp [go_sem])
     have q28_17 : w28.cell? ⟨w27.heap.size + 1, 2, none⟩ = some (.slice A3 l3.length c3) := ext_cell hb (by simp [go_sem])
     have b28 := Lib.hid (ext_trans (ext_alloc (ext_alloc b27.out _) _) hb)
     have t28 : w.heap.size ≤ w28.heap.size := b28.out.size
     have o28_x := Lib.hid (own_ext ((o27_x.out.alloc _).alloc _) hb)
     have o28_b := Lib.hid (own_ext ((o27_b.out.alloc _).alloc _) hb)
     have o28_a := Lib.hid (own_ext ((o27_a.out.alloc _).alloc _) hb)
     have o28_y := Lib.hid (own_ext ((o27_y.out.alloc _).alloc _) hb)
     have o28_d := Lib.hid (own_ext ((o27_d.out.alloc _).alloc _) hb)
     have o28_e := Lib.hid (own_ext ((o27_e.out.alloc _).alloc _) hb)
     have o28_p := Lib.hid (own_ext ((oc_p.out.alloc _).alloc _) hb)
     have o28_q := Lib.hid (own_ext ((oc_q.out.alloc _).alloc _) hb)
     clear q27_0 q27_1 q27_2 q27_3 q27_4 q27_5 q27_6 q27_7 q27_8 q27_9 q27_10 q27_11
     have oc_f := Lib.hid (own_base (base' := w27.heap.size + 2) ho_f (by simp))
     clear ho_f
     clear hb
     go_wp2_with fail
     refine (HA3.out _ (Reads.of_own o28_p.out) (Reads.of_own o28_q.out)).mono ?_
     rintro e w29 ⟨Ah, ch, rfl, ho_h, hb⟩
     have s29 : w28.heap.size ≤ w29.heap.size := (by have := hb.size; (try simp at this); omega)
     have z29_0 : w18.heap.size < w29.heap.size := (by omega)
     have z29_1 : w18.heap.size + 1 < w29.heap.size := (by omega)
     have z29_2 : w19.heap.size < w29.heap.size := (by omega)
     have z29_3 : w20.heap.size < w29.heap.size := (by omega)
     have z29_4 : w27.heap.size < w29.heap.size := (by omega)
     have z29_5 : w27.heap.size + 1 < w29.heap.size := (by omega)
     have q29_0 : w29.cell? ⟨w18.heap.size, 0, none⟩ = some (.int .i64 u0) := ext_cell hb q28_0
     have q29_1 : w29.cell? ⟨w18.heap.size, 1, none⟩ = some (.int .i64 lo0) := ext_cell hb q28_1
     have q29_2 : w29.cell? ⟨w18.heap.size, 2, none⟩ = some (.slice Ax l0.length cx) := ext_cell hb q28_2
     have q29_3 : w29.cell? ⟨w18.heap.size + 1, 0, none⟩ = some (.int .i64 m.a) := ext_cell hb q28_3
     have q29_4 : w29.cell? ⟨w18.heap.size + 1, 1, none⟩ = some (.int .i64 m.b) := ext_cell hb q28_4
     have q29_5 : w29.cell? ⟨w18.heap.size + 1, 2, none⟩ = some (.int .i64 m.c) := ext_cell hb q28_5
     have q29_6 : w29.cell? ⟨w19.heap.size, 0, none⟩ = some (.int .i64 U) := ext_cell hb q28_6
     have q29_7 : w29.cell? ⟨w19.heap.size, 1, none⟩ = some (.int .i64 LO) := ext_cell hb q28_7
     have q29_8 : w29.cell? ⟨w19.heap.size, 2, none⟩ = some (.slice Ab L.length cb) := ext_cell hb q28_8
     have q29_9 : w29.cell? ⟨w20.heap.size, 0, none⟩ = some (.int .i64 U) := ext_cell hb q28_9
     have q29_10 : w29.cell? ⟨w20.heap.size, 1, none⟩ = some (.int .i64 LO) := ext_cell hb q28_10
     have q29_11 : w29.cell? ⟨w20.heap.size, 2, none⟩ = some (.slice Aa L.length ca) := ext_cell hb q28_11
     have q29_12 : w29.cell? ⟨w27.heap.size, 0, none⟩ = some (.int .i64 u1) := ext_cell hb q28_12
     have q29_13 : w29.cell? ⟨w27.heap.size, 1, none⟩ = some (.int .i64 lo1) := ext_cell hb q28_13
     have q29_14 : w29.cell? ⟨w27.heap.size, 2, none⟩ = some (.slice A1 l1.length c1) := ext_cell hb q28_14
     have q29_15 : w29.cell? ⟨w27.heap.size + 1, 0, none⟩ = some (.int .i64 u3) := ext_cell hb q28_15
     have q29_16 : w29.cell? ⟨w27.heap.size + 1, 1, none⟩ = some (.int .i64 lo3) := ext_cell hb q28_16
     have q29_17 : w29.cell? ⟨w27.heap.size + 1, 2, none⟩ = some (.slice A3 l3.length c3) := ext_cell hb q28_17
     have b29 := Lib.hid (ext_trans b28.out hb)
     have t29 : w.heap.size ≤ w29.heap.size := b29.out.size
     have o29_x := Lib.hid (own_ext o28_x.out hb)
     have o29_b := Lib.hid (own_ext o28_b.out hb)
     have o29_a := Lib.hid (own_ext o28_a.out hb)
     have o29_y := Lib.hid (own_ext o28_y.out hb)
     have o29_d := Lib.hid (own_ext o28_d.out hb)
     have o29_e := Lib.hid (own_ext o28_e.out hb)
     have o29_p := Lib.hid (own_ext o28_p.out hb)
     have o29_q := Lib.hid (own_ext o28_q.out hb)
     have o29_f := Lib.hid (own_ext oc_f.out hb)
     clear q28_0 q28_1 q28_2 q28_3 q28_4 q28_5 q28_6 q28_7 q28_8 q28_9 q28_10 q28_11 q28_12 q28_13 q28_14 q28_15 q28_16 q28_17
     have oc_h := Lib.hid (own_base (base' := w28.heap.size + 0) ho_h (by simp))
     clear ho_h
     clear hb
     go_wp2_with fail
     refine (vMoves_same Af Ah nb cf ch bt _ hnb9 (Reads.of_own o29_f.out) (Reads.of_own oc_h.out)).mono ?_
     rintro e w30 ⟨rfl, hb⟩
     have s30 : w29.heap.size ≤ w30.heap.size := (by have := hb.size; (try simp at this); omega)
     have z30_0 : w18.heap.size < w30.heap.size := (by omega)
     have z30_1 : w18.heap.size + 1 < w30.heap.size := (by omega)
     have z30_2 : w19.heap.size < w30.heap.size := (by omega)
     have z30_3 : w20.heap.size < w30.heap.size := (by omega)
     have z30_4 : w27.heap.size < w30.heap.size := (by omega)
     have z30_5 : w27.heap.size + 1 < w30.heap.size := (by omega)
     have q30_0 : w30.cell? ⟨w18.heap.size, 0, none⟩ = some (.int .i64 u0) := ext_cell hb q29_0
     have q30_1 : w30.cell? ⟨w18.heap.size, 1, none⟩ = some (.int .i64 lo0) := ext_cell hb q29_1
     have q30_2 : w30.cell? ⟨w18.heap.size, 2, none⟩ = some (.slice Ax l0.length cx) := ext_cell hb q29_2
     have q30_3 : w30.cell? ⟨w18.heap.size + 1, 0, none⟩ = some (.int .i64 m.a) := ext_cell hb q29_3
     have q30_4 : w30.cell? ⟨w18.heap.size + 1, 1, none⟩ = some (.int .i64 m.b) := ext_cell hb q29_4
     have q30_5 : w30.cell? ⟨w18.heap.size + 1, 2, none⟩ = some (.int .i64 m.c) := ext_cell hb q29_5
     have q30_6 : w30.cell? ⟨w19.heap.size, 0, none⟩ = some (.int .i64 U) := ext_cell hb q29_6
     have q30_7 : w30.cell? ⟨w19.heap.size, 1, none⟩ = some (.int .i64 LO) := ext_cell hb q29_7
     have q30_8 : w30.cell? ⟨w19.heap.size, 2, none⟩ = some (.slice Ab L.length cb) := ext_cell hb q29_8
     have q30_9 : w30.cell? ⟨w20.heap.size, 0, none⟩ = some (.int .i64 U) := ext_cell hb q29_9
     have q30_10 : w30.cell? ⟨w20.heap.size, 1, none⟩ = some (.int .i64 LO) := ext_cell hb q29_10
     have q30_11 : w30.cell? ⟨w20.heap.size, 2, none⟩ = some (.slice Aa L.length ca) := ext_cell hb q29_11
     have q30_12 : w30.cell? ⟨w27.heap.size, 0, none⟩ = some (.int .i64 u1) := ext_cell hb q29_12
     have q30_13 : w30.cell? ⟨w27.heap.size, 1, none⟩ = some (.int .i64 lo1) := ext_cell hb q29_13
     have q30_14 : w30.cell? ⟨w27.heap.size, 2, none⟩ = some (.slice A1 l1.length c1) := ext_cell hb q29_14
     have q30_15 : w30.cell? ⟨w27.heap.size + 1, 0, none⟩ = some (.int .i64 u3) := ext_cell hb q29_15
     have q30_16 : w30.cell? ⟨w27.heap.size + 1, 1, none⟩ = some (.int .i64 lo3) := ext_cell hb q29_16
     have q30_17 : w30.cell? ⟨w27.heap.size + 1, 2, none⟩ = some (.slice A3 l3.length c3) := ext_cell hb q29_17
     have b30 := Lib.hid (ext_trans b29.out hb)
     have t30 : w.heap.size ≤ w30.heap.size := b30.out.size
     have o30_x := Lib.hid (own_ext o29_x.out hb)
     have o30_b := Lib.hid (own_ext o29_b.out hb)
     have o30_a := Lib.hid (own_ext o29_a.out hb)
     have o30_y := Lib.hid (own_ext o29_y.out hb)
     have o30_d := Lib.hid (own_ext o29_d.out hb)
     have o30_e := Lib.hid (own_ext o29_e.out hb)
     have o30_p := Lib.hid (own_ext o29_p.out hb)
     have o30_q := Lib.hid (own_ext o29_q.out hb)
     have o30_f := Lib.hid (own_ext o29_f.out hb)
     have o30_h := Lib.hid (own_ext oc_h.out hb)
     clear q29_0 q29_1 q29_2 q29_3 q29_4 q29_5 q29_6 q29_7 q29_8 q29_9 q29_10 q29_11 q29_12 q29_13 q29_14 q29_15 q29_16 q29_17
     clear hb
     go_wp2
     go_ret
     exact ⟨rfl, b30.out⟩
end Go.Proofs.Ytkpfelfgpjodiaa
