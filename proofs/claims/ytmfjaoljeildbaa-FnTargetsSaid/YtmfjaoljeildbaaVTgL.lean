/- The law FnTargets, walked. -/
import Derived.Deep.CutBlock
import Derived.Test.YtmfjaoljeildbaaVM11
import Derived.Test.YtmfjaoljeildbaaVBsQ
import Derived.Test.YtmfjaoljeildbaaVM5
import Derived.Test.YtmfjaoljeildbaaVPlM
import Derived.Test.YtmfjaoljeildbaaVM4
import Derived.Test.YtmfjaoljeildbaaVVFr
import Derived.Test.YtmfjaoljeildbaaVM1
namespace Go.Proofs.Ytmfjaoljeildbaa
open Go.RowKit
set_option linter.unusedVariables false
set_option linter.unusedSimpArgs false
set_option maxRecDepth 100000 in
set_option maxHeartbeats 8000000 in
theorem law_FnTargets (A : Option Addr) (n c : Nat) (w : World) (h : Code w w.heap.size A n) (hn63 : n ≤ maxLen) :
 Calls Try.prog 3 #[.slice A n c] w fun e w' => e = .returned (.bool true) ∧ Below w.heap.size w w' := by
 have HV := Lib.hid (fun w => vBig_any A n c w)
 by_cases hbig : (65536 : Int) < n
 · rw [decide_eq_true hbig] at HV
   go_enter Try.func3, Try.ntmps3
   go_wp2_with (go_at_call 5; refine (HV.out _).mono ?_; rintro e w' ⟨rfl, hb⟩)
   go_ret
   exact ⟨rfl, (by repeat (first | exact ext_refl _ | assumption | refine ext_alloc ?_ _ | refine ext_drew ?_ | refine ext_drewN ?_ _ | refine ext_set ?_ (by simp <;> omega) _ | refine ext_trans ?_ (by assumption)))⟩
 · rw [decide_eq_false hbig] at HV
   have hn : n ≤ 65536 := by omega
   have H := Lib.hid h
   clear h hbig hn63
   go_enter Try.func3, Try.ntmps3
   go_wp2_with fail
   refine (HV.out _).mono ?_
   rintro e w1 ⟨rfl, hb⟩
   have s1 : w.heap.size ≤ w1.heap.size := (by have := hb.size; (try simp at this); omega)
   have b1 := Lib.hid (ext_trans (ext_refl w) hb)
   have t1 : w.heap.size ≤ w1.heap.size := b1.out.size
   clear hb
   go_wp2_with fail
   refine (drawNearestTarget_any A n c _ ((H.out.below b1.out).more b1.out.size) hn).mono ?_
   rintro e w2 ⟨u, lo, l, As, cs, z, rfl, hIN, z0, z9, ho_s, hb⟩
   have s2 : w1.heap.size ≤ w2.heap.size := (by have := hb.size; (try simp at this); omega)
   have b2 := Lib.hid (ext_trans b1.out hb)
   have t2 : w.heap.size ≤ w2.heap.size := b2.out.size
   clear hb
   have oc_s := Lib.hid (own_base (base' := w1.heap.size + 0) ho_s (by simp))
   clear ho_s
   have hl9 : l.length ≤ 9 := hIN.2.2.2.2.2.1
   clear hIN
   have HNB := Lib.hid (fun (w : World) h => (implNearestTarget_any u lo As l.length cs l z w (by omega) (by omega) h).mono fun e w' h => near_frB h)
   have HNA := Lib.hid (fun (w : World) h => (specNearestTarget_any u lo As l.length cs l z w (by omega) (by omega) h).mono fun e w' h => near_frB h)
   have HFB := Lib.hid (fun (w : World) h => implFewestMoves_any u lo As l.length cs l z w (by omega) (by omega) h)
   have HFA := Lib.hid (fun (w : World) h => specFewestMoves_any u lo As l.length cs l z w (by omega) (by omega) h)
   have HMB := Lib.hid (fun (w : World) h => implMovesTo_any u lo As l.length cs l z w (by omega) (by omega) h)
   have HMA := Lib.hid (fun (w : World) h => specMovesTo_any u lo As l.length cs l z w (by omega) (by omega) h)
   have HTB := Lib.hid (fun (w : World) h => implTargetCount_any u lo As l.length cs l z w (by omega) (by omega) h)
   have HTA := Lib.hid (fun (w : World) h => specTargetCount_any u lo As l.length cs l z w (by omega) (by omega) h)
   have HWB := Lib.hid (fun (w : World) h => implFewestBeads_any u lo As l.length cs l z w (by omega) (by omega) h)
   have HSB := Lib.hid (fun (w : World) h => implSavedMoves_any u lo As l.length cs l z w (by omega) (by omega) h)
   have hlaw := @near_law u lo l z
   have hask := ask_ok u lo l z
   have hLn := nearF_len u lo l z
   have hMn := nearMs_len u lo l z
   have hsv := sav_ge u lo l z
   have hnF : (nearW u lo l z).ok = true → nearF u lo l z = (u, lo, (nearW u lo l z).l) := fun h => if_pos h
   obtain ⟨R, hR⟩ : ∃ x, nearF u lo l z = x := ⟨_, rfl⟩
   rw [hR] at HNB HNA hLn hnF
   obtain ⟨S, hS⟩ : ∃ x, nearW u lo l z = x := ⟨_, rfl⟩
   rw [hS] at HNB HNA HFB HFA HMB HMA hlaw hask hnF
   obtain ⟨ms, hms⟩ : ∃ x, nearMs u lo l z = x := ⟨_, rfl⟩
   rw [hms] at HMB HMA hlaw hMn
   obtain ⟨FW, hFW⟩ : ∃ x, fewW u lo l z = x := ⟨_, rfl⟩
   rw [hFW] at HWB hlaw
   obtain ⟨T, hT⟩ : ∃ x, (tgN u lo l z : Int) = x := ⟨_, rfl⟩
   rw [hT] at HTB HTA hask
   obtain ⟨K, hK⟩ : ∃ x, askB u lo l z = x := ⟨_, rfl⟩
   rw [hK] at HTB HTA hask
   obtain ⟨V, hV⟩ : ∃ x, savV u lo l z = x := ⟨_, rfl⟩
   rw [hV] at HSB hsv
   obtain ⟨vb, hvb⟩ : ∃ x, savB u lo l z = x := ⟨_, rfl⟩
   rw [hvb] at HSB
   obtain ⟨Sl, X, Sb, ok⟩ := S
   obtain ⟨Fl, Fm, B, fo⟩ := FW
   obtain ⟨U, LO, L⟩ := R
   dsimp only at HNB HNA HFB HFA HMB HMA HWB hask hnF hLn
   unfold RetFrB at HNB HNA
   unfold RetSliceB at HMA HMB
   unfold RetV at HFB HFA HTB HTA HWB HSB
   dsimp only at HNB HNA
   obtain ⟨nm, hnm⟩ : ∃ x, ms.length = x := ⟨_, rfl⟩
   rw [hnm] at HMA HMB hMn
   have HNM := Lib.hid hnm
   have HLAW := Lib.hid hlaw
   have HNF := Lib.hid hnF
   have HASK := Lib.hid hask
   have k1 : (ok != ok) = false := by cases ok <;> rfl
   have k2 : (X != X) = false := by simp
   have k3 : (T != T) = false := by simp
   have k4 : (K != K) = false := by cases K <;> rfl
   clear hR hS hms hFW hT hK hV hvb hlaw hnm hnF hask
   go_wp2_with fail
   refine (HNB.out _ (Reads.of_own (oc_s.out.alloc _))).mono ?_
   rintro e w3 ⟨Ab, cb, rfl, ho_b, hb⟩
   have s3 : w2.heap.size + 1 ≤ w3.heap.size := (by have := hb.size; (try simp at this); omega)
   have z3_0 : w2.heap.size < w3.heap.size := (by omega)
   have q3_0 : w3.cell? ⟨w2.heap.size, 0, none⟩ = some (.int .i64 u) := ext_cell hb (by simp [go_sem])
   have q3_1 : w3.cell? ⟨w2.heap.size, 1, none⟩ = some (.int .i64 lo) := ext_cell hb (by simp [go_sem])
   have q3_2 : w3.cell? ⟨w2.heap.size, 2, none⟩ = some (.slice As l.length cs) := ext_cell hb (by simp [go_sem])
   have b3 := Lib.hid (ext_trans (ext_alloc b2.out _) hb)
   have t3 : w.heap.size ≤ w3.heap.size := b3.out.size
   have o3_s := Lib.hid (own_ext (oc_s.out.alloc _) hb)
   have oc_b := Lib.hid (own_base (base' := w2.heap.size + 1) ho_b (by simp))
   clear ho_b
   clear hb
   go_wp2_with fail
   refine (HNA.out _ (Reads.of_own (o3_s.out.alloc _))).mono ?_
   rintro e w4 ⟨Aa, ca, rfl, ho_a, hb⟩
   have s4 : w3.heap.size + 1 ≤ w4.heap.size := (by have := hb.size; (try simp at this); omega)
   have z4_0 : w2.heap.size < w4.heap.size := (by omega)
   have z4_1 : w3.heap.size < w4.heap.size := (by omega)
   have q4_0 : w4.cell? ⟨w2.heap.size, 0, none⟩ = some (.int .i64 u) := ext_cell hb (cell_old q3_0 _)
   have q4_1 : w4.cell? ⟨w2.heap.size, 1, none⟩ = some (.int .i64 lo) := ext_cell hb (cell_old q3_1 _)
   have q4_2 : w4.cell? ⟨w2.heap.size, 2, none⟩ = some (.slice As l.length cs) := ext_cell hb (cell_old q3_2 _)
   have q4_3 : w4.cell? ⟨w3.heap.size, 0, none⟩ = some (.int .i64 U) := ext_cell hb (by simp [go_sem])
   have q4_4 : w4.cell? ⟨w3.heap.size, 1, none⟩ = some (.int .i64 LO) := ext_cell hb (by simp [go_sem])
   have q4_5 : w4.cell? ⟨w3.heap.size, 2, none⟩ = some (.slice Ab L.length cb) := ext_cell hb (by simp [go_sem])
   have b4 := Lib.hid (ext_trans (ext_alloc b3.out _) hb)
   have t4 : w.heap.size ≤ w4.heap.size := b4.out.size
   have o4_s := Lib.hid (own_ext (o3_s.out.alloc _) hb)
   have o4_b := Lib.hid (own_ext (oc_b.out.alloc _) hb)
   clear q3_0 q3_1 q3_2
   have oc_a := Lib.hid (own_base (base' := w3.heap.size + 1) ho_a (by simp))
   clear ho_a
   clear hb
   go_wp2_with fail
   refine (vFrame_same U LO Ab Aa L.length cb ca L _ (by omega) (Reads.of_own (o4_b.out.alloc _)) (Reads.of_own (oc_a.out.alloc _))).mono ?_
   rintro e w5 ⟨rfl, hb⟩
   have s5 : w4.heap.size + 1 ≤ w5.heap.size := (by have := hb.size; (try simp at this); omega)
   have z5_0 : w2.heap.size < w5.heap.size := (by omega)
   have z5_1 : w3.heap.size < w5.heap.size := (by omega)
   have z5_2 : w4.heap.size < w5.heap.size := (by omega)
   have q5_0 : w5.cell? ⟨w2.heap.size, 0, none⟩ = some (.int .i64 u) := ext_cell hb (cell_old q4_0 _)
   have q5_1 : w5.cell? ⟨w2.heap.size, 1, none⟩ = some (.int .i64 lo) := ext_cell hb (cell_old q4_1 _)
   have q5_2 : w5.cell? ⟨w2.heap.size, 2, none⟩ = some (.slice As l.length cs) := ext_cell hb (cell_old q4_2 _)
   have q5_3 : w5.cell? ⟨w3.heap.size, 0, none⟩ = some (.int .i64 U) := ext_cell hb (cell_old q4_3 _)
   have q5_4 : w5.cell? ⟨w3.heap.size, 1, none⟩ = some (.int .i64 LO) := ext_cell hb (cell_old q4_4 _)
   have q5_5 : w5.cell? ⟨w3.heap.size, 2, none⟩ = some (.slice Ab L.length cb) := ext_cell hb (cell_old q4_5 _)
   have q5_6 : w5.cell? ⟨w4.heap.size, 0, none⟩ = some (.int .i64 U) := ext_cell hb (by simp [go_sem])
   have q5_7 : w5.cell? ⟨w4.heap.size, 1, none⟩ = some (.int .i64 LO) := ext_cell hb (by simp [go_sem])
   have q5_8 : w5.cell? ⟨w4.heap.size, 2, none⟩ = some (.slice Aa L.length ca) := ext_cell hb (by simp [go_sem])
   have b5 := Lib.hid (ext_trans (ext_alloc b4.out _) hb)
   have t5 : w.heap.size ≤ w5.heap.size := b5.out.size
   have o5_s := Lib.hid (own_ext (o4_s.out.alloc _) hb)
   have o5_b := Lib.hid (own_ext (o4_b.out.alloc _) hb)
   have o5_a := Lib.hid (own_ext (oc_a.out.alloc _) hb)
   clear q4_0 q4_1 q4_2 q4_3 q4_4 q4_5
   clear hb
   go_wp2_with fail
   refine (HFB.out _ (Reads.of_own o5_s.out)).mono ?_
   rintro e w6 ⟨rfl, hb⟩
   have s6 : w5.heap.size ≤ w6.heap.size := (by have := hb.size; (try simp at this); omega)
   have z6_0 : w2.heap.size < w6.heap.size := (by omega)
   have z6_1 : w3.heap.size < w6.heap.size := (by omega)
   have z6_2 : w4.heap.size < w6.heap.size := (by omega)
   have q6_0 : w6.cell? ⟨w2.heap.size, 0, none⟩ = some (.int .i64 u) := ext_cell hb q5_0
   have q6_1 : w6.cell? ⟨w2.heap.size, 1, none⟩ = some (.int .i64 lo) := ext_cell hb q5_1
   have q6_2 : w6.cell? ⟨w2.heap.size, 2, none⟩ = some (.slice As l.length cs) := ext_cell hb q5_2
   have q6_3 : w6.cell? ⟨w3.heap.size, 0, none⟩ = some (.int .i64 U) := ext_cell hb q5_3
   have q6_4 : w6.cell? ⟨w3.heap.size, 1, none⟩ = some (.int .i64 LO) := ext_cell hb q5_4
   have q6_5 : w6.cell? ⟨w3.heap.size, 2, none⟩ = some (.slice Ab L.length cb) := ext_cell hb q5_5
   have q6_6 : w6.cell? ⟨w4.heap.size, 0, none⟩ = some (.int .i64 U) := ext_cell hb q5_6
   have q6_7 : w6.cell? ⟨w4.heap.size, 1, none⟩ = some (.int .i64 LO) := ext_cell hb q5_7
   have q6_8 : w6.cell? ⟨w4.heap.size, 2, none⟩ = some (.slice Aa L.length ca) := ext_cell hb q5_8
   have b6 := Lib.hid (ext_trans b5.out hb)
   have t6 : w.heap.size ≤ w6.heap.size := b6.out.size
   have o6_s := Lib.hid (own_ext o5_s.out hb)
   have o6_b := Lib.hid (own_ext o5_b.out hb)
   have o6_a := Lib.hid (own_ext o5_a.out hb)
   clear q5_0 q5_1 q5_2 q5_3 q5_4 q5_5 q5_6 q5_7 q5_8
   clear hb
   go_wp2_with fail
   refine (HFA.out _ (Reads.of_own o6_s.out)).mono ?_
   rintro e w7 ⟨rfl, hb⟩
   have s7 : w6.heap.size ≤ w7.heap.size := (by have := hb.size; (try simp at this); omega)
   have z7_0 : w2.heap.size < w7.heap.size := (by omega)
   have z7_1 : w3.heap.size < w7.heap.size := (by omega)
   have z7_2 : w4.heap.size < w7.heap.size := (by omega)
   have q7_0 : w7.cell? ⟨w2.heap.size, 0, none⟩ = some (.int .i64 u) := ext_cell hb q6_0
   have q7_1 : w7.cell? ⟨w2.heap.size, 1, none⟩ = some (.int .i64 lo) := ext_cell hb q6_1
   have q7_2 : w7.cell? ⟨w2.heap.size, 2, none⟩ = some (.slice As l.length cs) := ext_cell hb q6_2
   have q7_3 : w7.cell? ⟨w3.heap.size, 0, none⟩ = some (.int .i64 U) := ext_cell hb q6_3
   have q7_4 : w7.cell? ⟨w3.heap.size, 1, none⟩ = some (.int .i64 LO) := ext_cell hb q6_4
   have q7_5 : w7.cell? ⟨w3.heap.size, 2, none⟩ = some (.slice Ab L.length cb) := ext_cell hb q6_5
   have q7_6 : w7.cell? ⟨w4.heap.size, 0, none⟩ = some (.int .i64 U) := ext_cell hb q6_6
   have q7_7 : w7.cell? ⟨w4.heap.size, 1, none⟩ = some (.int .i64 LO) := ext_cell hb q6_7
   have q7_8 : w7.cell? ⟨w4.heap.size, 2, none⟩ = some (.slice Aa L.length ca) := ext_cell hb q6_8
   have b7 := Lib.hid (ext_trans b6.out hb)
   have t7 : w.heap.size ≤ w7.heap.size := b7.out.size
   have o7_s := Lib.hid (own_ext o6_s.out hb)
   have o7_b := Lib.hid (own_ext o6_b.out hb)
   have o7_a := Lib.hid (own_ext o6_a.out hb)
   clear q6_0 q6_1 q6_2 q6_3 q6_4 q6_5 q6_6 q6_7 q6_8
   clear hb
   go_wp2_with fail
   refine (HMB.out _ (Reads.of_own o7_s.out)).mono ?_
   rintro e w8 ⟨Am, cm, rfl, ho_m, hb⟩
   have s8 : w7.heap.size ≤ w8.heap.size := (by have := hb.size; (try simp at this); omega)
   have z8_0 : w2.heap.size < w8.heap.size := (by omega)
   have z8_1 : w3.heap.size < w8.heap.size := (by omega)
   have z8_2 : w4.heap.size < w8.heap.size := (by omega)
   have q8_0 : w8.cell? ⟨w2.heap.size, 0, none⟩ = some (.int .i64 u) := ext_cell hb q7_0
   have q8_1 : w8.cell? ⟨w2.heap.size, 1, none⟩ = some (.int .i64 lo) := ext_cell hb q7_1
   have q8_2 : w8.cell? ⟨w2.heap.size, 2, none⟩ = some (.slice As l.length cs) := ext_cell hb q7_2
   have q8_3 : w8.cell? ⟨w3.heap.size, 0, none⟩ = some (.int .i64 U) := ext_cell hb q7_3
   have q8_4 : w8.cell? ⟨w3.heap.size, 1, none⟩ = some (.int .i64 LO) := ext_cell hb q7_4
   have q8_5 : w8.cell? ⟨w3.heap.size, 2, none⟩ = some (.slice Ab L.length cb) := ext_cell hb q7_5
   have q8_6 : w8.cell? ⟨w4.heap.size, 0, none⟩ = some (.int .i64 U) := ext_cell hb q7_6
   have q8_7 : w8.cell? ⟨w4.heap.size, 1, none⟩ = some (.int .i64 LO) := ext_cell hb q7_7
   have q8_8 : w8.cell? ⟨w4.heap.size, 2, none⟩ = some (.slice Aa L.length ca) := ext_cell hb q7_8
   have b8 := Lib.hid (ext_trans b7.out hb)
   have t8 : w.heap.size ≤ w8.heap.size := b8.out.size
   have o8_s := Lib.hid (own_ext o7_s.out hb)
   have o8_b := Lib.hid (own_ext o7_b.out hb)
   have o8_a := Lib.hid (own_ext o7_a.out hb)
   clear q7_0 q7_1 q7_2 q7_3 q7_4 q7_5 q7_6 q7_7 q7_8
   have oc_m := Lib.hid (own_base (base' := w7.heap.size + 0) ho_m (by simp))
   clear ho_m
   clear hb
   go_wp2_with fail
   refine (HMA.out _ (Reads.of_own o8_s.out)).mono ?_
   rintro e w9 ⟨Ak, ck, rfl, ho_k, hb⟩
   have s9 : w8.heap.size ≤ w9.heap.size := (by have := hb.size; (try simp at this); omega)
   have z9_0 : w2.heap.size < w9.heap.size := (by omega)
   have z9_1 : w3.heap.size < w9.heap.size := (by omega)
   have z9_2 : w4.heap.size < w9.heap.size := (by omega)
   have q9_0 : w9.cell? ⟨w2.heap.size, 0, none⟩ = some (.int .i64 u) := ext_cell hb q8_0
   have q9_1 : w9.cell? ⟨w2.heap.size, 1, none⟩ = some (.int .i64 lo) := ext_cell hb q8_1
   have q9_2 : w9.cell? ⟨w2.heap.size, 2, none⟩ = some (.slice As l.length cs) := ext_cell hb q8_2
   have q9_3 : w9.cell? ⟨w3.heap.size, 0, none⟩ = some (.int .i64 U) := ext_cell hb q8_3
   have q9_4 : w9.cell? ⟨w3.heap.size, 1, none⟩ = some (.int .i64 LO) := ext_cell hb q8_4
   have q9_5 : w9.cell? ⟨w3.heap.size, 2, none⟩ = some (.slice Ab L.length cb) := ext_cell hb q8_5
   have q9_6 : w9.cell? ⟨w4.heap.size, 0, none⟩ = some (.int .i64 U) := ext_cell hb q8_6
   have q9_7 : w9.cell? ⟨w4.heap.size, 1, none⟩ = some (.int .i64 LO) := ext_cell hb q8_7
   have q9_8 : w9.cell? ⟨w4.heap.size, 2, none⟩ = some (.slice Aa L.length ca) := ext_cell hb q8_8
   have b9 := Lib.hid (ext_trans b8.out hb)
   have t9 : w.heap.size ≤ w9.heap.size := b9.out.size
   have o9_s := Lib.hid (own_ext o8_s.out hb)
   have o9_b := Lib.hid (own_ext o8_b.out hb)
   have o9_a := Lib.hid (own_ext o8_a.out hb)
   have o9_m := Lib.hid (own_ext oc_m.out hb)
   clear q8_0 q8_1 q8_2 q8_3 q8_4 q8_5 q8_6 q8_7 q8_8
   have oc_k := Lib.hid (own_base (base' := w8.heap.size + 0) ho_k (by simp))
   clear ho_k
   clear hb
   go_wp2_with fail
   refine (vMoves_same Am Ak nm cm ck ms _ (by omega) (Reads.of_own o9_m.out) (Reads.of_own oc_k.out)).mono ?_
   rintro e w10 ⟨rfl, hb⟩
   have s10 : w9.heap.size ≤ w10.heap.size := (by have := hb.size; (try simp at this); omega)
   have z10_0 : w2.heap.size < w10.heap.size := (by omega)
   have z10_1 : w3.heap.size < w10.heap.size := (by omega)
   have z10_2 : w4.heap.size < w10.heap.size := (by omega)
   have q10_0 : w10.cell? ⟨w2.heap.size, 0, none⟩ = some (.int .i64 u) := ext_cell hb q9_0
   have q10_1 : w10.cell? ⟨w2.heap.size, 1, none⟩ = some (.int .i64 lo) := ext_cell hb q9_1
   have q10_2 : w10.cell? ⟨w2.heap.size, 2, none⟩ = some (.slice As l.length cs) := ext_cell hb q9_2
   have q10_3 : w10.cell? ⟨w3.heap.size, 0, none⟩ = some (.int .i64 U) := ext_cell hb q9_3
   have q10_4 : w10.cell? ⟨w3.heap.size, 1, none⟩ = some (.int .i64 LO) := ext_cell hb q9_4
   have q10_5 : w10.cell? ⟨w3.heap.size, 2, none⟩ = some (.slice Ab L.length cb) := ext_cell hb q9_5
   have q10_6 : w10.cell? ⟨w4.heap.size, 0, none⟩ = some (.int .i64 U) := ext_cell hb q9_6
   have q10_7 : w10.cell? ⟨w4.heap.size, 1, none⟩ = some (.int .i64 LO) := ext_cell hb q9_7
   have q10_8 : w10.cell? ⟨w4.heap.size, 2, none⟩ = some (.slice Aa L.length ca) := ext_cell hb q9_8
   have b10 := Lib.hid (ext_trans b9.out hb)
   have t10 : w.heap.size ≤ w10.heap.size := b10.out.size
   have o10_s := Lib.hid (own_ext o9_s.out hb)
   have o10_b := Lib.hid (own_ext o9_b.out hb)
   have o10_a := Lib.hid (own_ext o9_a.out hb)
   have o10_m := Lib.hid (own_ext o9_m.out hb)
   have o10_k := Lib.hid (own_ext oc_k.out hb)
   clear q9_0 q9_1 q9_2 q9_3 q9_4 q9_5 q9_6 q9_7 q9_8
   clear hb
   go_wp2_with fail
   refine (HTB.out _ (Reads.of_own o10_s.out)).mono ?_
   rintro e w11 ⟨rfl, hb⟩
   have s11 : w10.heap.size ≤ w11.heap.size := (by have := hb.size; (try simp at this); omega)
   have z11_0 : w2.heap.size < w11.heap.size := (by omega)
   have z11_1 : w3.heap.size < w11.heap.size := (by omega)
   have z11_2 : w4.heap.size < w11.heap.size := (by omega)
   have q11_0 : w11.cell? ⟨w2.heap.size, 0, none⟩ = some (.int .i64 u) := ext_cell hb q10_0
   have q11_1 : w11.cell? ⟨w2.heap.size, 1, none⟩ = some (.int .i64 lo) := ext_cell hb q10_1
   have q11_2 : w11.cell? ⟨w2.heap.size, 2, none⟩ = some (.slice As l.length cs) := ext_cell hb q10_2
   have q11_3 : w11.cell? ⟨w3.heap.size, 0, none⟩ = some (.int .i64 U) := ext_cell hb q10_3
   have q11_4 : w11.cell? ⟨w3.heap.size, 1, none⟩ = some (.int .i64 LO) := ext_cell hb q10_4
   have q11_5 : w11.cell? ⟨w3.heap.size, 2, none⟩ = some (.slice Ab L.length cb) := ext_cell hb q10_5
   have q11_6 : w11.cell? ⟨w4.heap.size, 0, none⟩ = some (.int .i64 U) := ext_cell hb q10_6
   have q11_7 : w11.cell? ⟨w4.heap.size, 1, none⟩ = some (.int .i64 LO) := ext_cell hb q10_7
   have q11_8 : w11.cell? ⟨w4.heap.size, 2, none⟩ = some (.slice Aa L.length ca) := ext_cell hb q10_8
   have b11 := Lib.hid (ext_trans b10.out hb)
   have t11 : w.heap.size ≤ w11.heap.size := b11.out.size
   have o11_s := Lib.hid (own_ext o10_s.out hb)
   have o11_b := Lib.hid (own_ext o10_b.out hb)
   have o11_a := Lib.hid (own_ext o10_a.out hb)
   have o11_m := Lib.hid (own_ext o10_m.out hb)
   have o11_k := Lib.hid (own_ext o10_k.out hb)
   clear q10_0 q10_1 q10_2 q10_3 q10_4 q10_5 q10_6 q10_7 q10_8
   clear hb
   go_wp2_with fail
   refine (HTA.out _ (Reads.of_own o11_s.out)).mono ?_
   rintro e w12 ⟨rfl, hb⟩
   have s12 : w11.heap.size ≤ w12.heap.size := (by have := hb.size; (try simp at this); omega)
   have z12_0 : w2.heap.size < w12.heap.size := (by omega)
   have z12_1 : w3.heap.size < w12.heap.size := (by omega)
   have z12_2 : w4.heap.size < w12.heap.size := (by omega)
   have q12_0 : w12.cell? ⟨w2.heap.size, 0, none⟩ = some (.int .i64 u) := ext_cell hb q11_0
   have q12_1 : w12.cell? ⟨w2.heap.size, 1, none⟩ = some (.int .i64 lo) := ext_cell hb q11_1
   have q12_2 : w12.cell? ⟨w2.heap.size, 2, none⟩ = some (.slice As l.length cs) := ext_cell hb q11_2
   have q12_3 : w12.cell? ⟨w3.heap.size, 0, none⟩ = some (.int .i64 U) := ext_cell hb q11_3
   have q12_4 : w12.cell? ⟨w3.heap.size, 1, none⟩ = some (.int .i64 LO) := ext_cell hb q11_4
   have q12_5 : w12.cell? ⟨w3.heap.size, 2, none⟩ = some (.slice Ab L.length cb) := ext_cell hb q11_5
   have q12_6 : w12.cell? ⟨w4.heap.size, 0, none⟩ = some (.int .i64 U) := ext_cell hb q11_6
   have q12_7 : w12.cell? ⟨w4.heap.size, 1, none⟩ = some (.int .i64 LO) := ext_cell hb q11_7
   have q12_8 : w12.cell? ⟨w4.heap.size, 2, none⟩ = some (.slice Aa L.length ca) := ext_cell hb q11_8
   have b12 := Lib.hid (ext_trans b11.out hb)
   have t12 : w.heap.size ≤ w12.heap.size := b12.out.size
   have o12_s := Lib.hid (own_ext o11_s.out hb)
   have o12_b := Lib.hid (own_ext o11_b.out hb)
   have o12_a := Lib.hid (own_ext o11_a.out hb)
   have o12_m := Lib.hid (own_ext o11_m.out hb)
   have o12_k := Lib.hid (own_ext o11_k.out hb)
   clear q11_0 q11_1 q11_2 q11_3 q11_4 q11_5 q11_6 q11_7 q11_8
   clear hb
   go_upto_region 18 with fail
   go_cut [150] (fun s150 wx => s150 = .bool false ∧ w12 = wx)
   case first =>
    have ha := HASK.out
    cases K
    · rw [Bool.false_and] at ha
      subst ha
      go_wp2_with fail
      go_meet
      exact ⟨rfl, rfl⟩
    · rw [Bool.true_and] at ha
      by_cases hT0 : 0 < T
      · rw [decide_eq_true hT0] at ha
        subst ha
        have hT1 : decide (0 < T) = true := decide_eq_true hT0
        go_wp2_with fail
        go_meet
        exact ⟨rfl, rfl⟩
      · rw [decide_eq_false hT0] at ha
        subst ha
        have hT1 : decide (0 < T) = false := decide_eq_false hT0
        go_wp2_with fail
        go_meet
        exact ⟨rfl, rfl⟩
   case rest =>
    obtain ⟨rfl, rfl⟩ := hcut
    clear HASK
    go_upto_if 151 with fail
    go_cut [151] (fun s151 wx => Below w.heap.size w wx)
    case first => as_aux_lemma =>
     rcases ok with _ | _
     · go_wp2_with fail
       go_meet
       exact b12.out
     have hl := HLAW.out rfl
     have hf2 := HNF.out rfl
     injection hf2 with e1 e2
     injection e2 with e2 e3
     have hf := hl.fr
     have hfr2 := hl.fr2
     have hnum := hl.num
     have hpf := hl.pf
     have hpb := hl.pb
     have hlen := hl.len
     have hmv := hl.mv
     have hfew := hl.few
     have hle := hl.le
     have hge := hl.ge
     dsimp only at hfr2 hnum hpf hlen hfew hle hge
     have hfr3 : frB U LO L = true := by rw [e1, e2, e3]; exact hfr2
     have hnum3 : numR L = z := by rw [e3]; exact hnum
     have hpf3 : plF u lo l ms = (U, LO, L) := by rw [e1, e2, e3]; exact hpf
     clear e1 e2 e3 hfr2 hnum hpf
     subst hfew
     rw [HNM.out] at hlen
     have HN2 := Lib.hid (fun (w : World) h => nrOn_any U LO Ab L.length cb L w (by omega) h)
     rw [hfr3, if_pos rfl, hnum3] at HN2
     have HP := Lib.hid (fun (w : World) h hm => implPlayMoves_any u lo As l.length cs l Am nm cm ms w (by omega) (by omega) h hm)
     rw [show (if frB u lo l && mvsB ms then playF u lo l ms else (0, 0, [])) = (U, LO, L) from hpf3, show (frB u lo l && mvsB ms && (playS u lo l ms).isSome) = true from hpb] at HP
     unfold RetFrB at HP
     dsimp only at HP
     have HBD := Lib.hid (fun (w : World) h => implBeadsOf_any Am nm cm ms w (by omega) h)
     rw [hmv, if_pos rfl] at HBD
     unfold RetV at HBD
     obtain ⟨BM, hBM⟩ : ∃ x, beads ms = x := ⟨_, rfl⟩
     rw [hBM] at HBD hle
     have k5 : (z != z) = false := by simp
     have k6 : ((nm : Int) != X) = false := by rw [hlen]; simp
     have k7 : ¬ BM < B := by omega
     have k7b : decide (BM < B) = false := decide_eq_false k7
     have k8 : ¬ B < X := by omega
     have k8b : decide (B < X) = false := decide_eq_false k8
     have k9 : ¬ V < 0 := by omega
     have k9b : decide (V < 0) = false := decide_eq_false k9
     clear hl hf hfr3 hnum3 hpf3 hpb hlen hmv hle hge hBM HLAW HNF
     go_wp2_with fail
     refine (HN2.out _ (Reads.of_own o12_b.out)).mono ?_
     rintro e w13 ⟨rfl, hb⟩
     have s13 : w12.heap.size ≤ w13.heap.size := (by have := hb.size; (try simp at this); omega)
     have z13_0 : w2.heap.size < w13.heap.size := (by omega)
     have z13_1 : w3.heap.size < w13.heap.size := (by omega)
     have z13_2 : w4.heap.size < w13.heap.size := (by omega)
     have q13_0 : w13.cell? ⟨w2.heap.size, 0, none⟩ = some (.int .i64 u) := ext_cell hb q12_0
     have q13_1 : w13.cell? ⟨w2.heap.size, 1, none⟩ = some (.int .i64 lo) := ext_cell hb q12_1
     have q13_2 : w13.cell? ⟨w2.heap.size, 2, none⟩ = some (.slice As l.length cs) := ext_cell hb q12_2
     have q13_3 : w13.cell? ⟨w3.heap.size, 0, none⟩ = some (.int .i64 U) := ext_cell hb q12_3
     have q13_4 : w13.cell? ⟨w3.heap.size, 1, none⟩ = some (.int .i64 LO) := ext_cell hb q12_4
     have q13_5 : w13.cell? ⟨w3.heap.size, 2, none⟩ = some (.slice Ab L.length cb) := ext_cell hb q12_5
     have q13_6 : w13.cell? ⟨w4.heap.size, 0, none⟩ = some (.int .i64 U) := ext_cell hb q12_6
     have q13_7 : w13.cell? ⟨w4.heap.size, 1, none⟩ = some (.int .i64 LO) := ext_cell hb q12_7
     have q13_8 : w13.cell? ⟨w4.heap.size, 2, none⟩ = some (.slice Aa L.length ca) := ext_cell hb q12_8
     have b13 := Lib.hid (ext_trans b12.out hb)
     have t13 : w.heap.size ≤ w13.heap.size := b13.out.size
     have o13_s := Lib.hid (own_ext o12_s.out hb)
     have o13_b := Lib.hid (own_ext o12_b.out hb)
     have o13_a := Lib.hid (own_ext o12_a.out hb)
     have o13_m := Lib.hid (own_ext o12_m.out hb)
     have o13_k := Lib.hid (own_ext o12_k.out hb)
     clear q12_0 q12_1 q12_2 q12_3 q12_4 q12_5 q12_6 q12_7 q12_8
     clear hb
     go_wp2_with fail
     refine (HP.out _ (Reads.of_own o13_s.out) (Reads.of_own o13_m.out)).mono ?_
     rintro e w14 ⟨Ap, cp, rfl, ho_p, hb⟩
     have s14 : w13.heap.size ≤ w14.heap.size := (by have := hb.size; (try simp at this); omega)
     have z14_0 : w2.heap.size < w14.heap.size := (by omega)
     have z14_1 : w3.heap.size < w14.heap.size := (by omega)
     have z14_2 : w4.heap.size < w14.heap.size := (by omega)
     have q14_0 : w14.cell? ⟨w2.heap.size, 0, none⟩ = some (.int .i64 u) := ext_cell hb q13_0
     have q14_1 : w14.cell? ⟨w2.heap.size, 1, none⟩ = some (.int .i64 lo) := ext_cell hb q13_1
     have q14_2 : w14.cell? ⟨w2.heap.size, 2, none⟩ = some (.slice As l.length cs) := ext_cell hb q13_2
     have q14_3 : w14.cell? ⟨w3.heap.size, 0, none⟩ = some (.int .i64 U) := ext_cell hb q13_3
     have q14_4 : w14.cell? ⟨w3.heap.size, 1, none⟩ = some (.int .i64 LO) := ext_cell hb q13_4
     have q14_5 : w14.cell? ⟨w3.heap.size, 2, none⟩ = some (.slice Ab L.length cb) := ext_cell hb q13_5
     have q14_6 : w14.cell? ⟨w4.heap.size, 0, none⟩ = some (.int .i64 U) := ext_cell hb q13_6
     have q14_7 : w14.cell? ⟨w4.heap.size, 1, none⟩ = some (.int .i64 LO) := ext_cell hb q13_7
     have q14_8 : w14.cell? ⟨w4.heap.size, 2, none⟩ = some (.slice Aa L.length ca) := ext_cell hb q13_8
     have b14 := Lib.hid (ext_trans b13.out hb)
     have t14 : w.heap.size ≤ w14.heap.size := b14.out.size
     have o14_s := Lib.hid (own_ext o13_s.out hb)
     have o14_b := Lib.hid (own_ext o13_b.out hb)
     have o14_a := Lib.hid (own_ext o13_a.out hb)
     have o14_m := Lib.hid (own_ext o13_m.out hb)
     have o14_k := Lib.hid (own_ext o13_k.out hb)
     clear q13_0 q13_1 q13_2 q13_3 q13_4 q13_5 q13_6 q13_7 q13_8
     have oc_p := Lib.hid (own_base (base' := w13.heap.size + 0) ho_p (by simp))
     clear ho_p
     clear hb
     go_wp2_with fail
     refine (HWB.out _ (Reads.of_own (o14_s.out.alloc _))).mono ?_
     rintro e w15 ⟨rfl, hb⟩
     have s15 : w14.heap.size + 1 ≤ w15.heap.size := (by have := hb.size; (try simp at this); omega)
     have z15_0 : w2.heap.size < w15.heap.size := (by omega)
     have z15_1 : w3.heap.size < w15.heap.size := (by omega)
     have z15_2 : w4.heap.size < w15.heap.size := (by omega)
     have z15_3 : w14.heap.size < w15.heap.size := (by omega)
     have q15_0 : w15.cell? ⟨w2.heap.size, 0, none⟩ = some (.int .i64 u) := ext_cell hb (cell_old q14_0 _)
     have q15_1 : w15.cell? ⟨w2.heap.size, 1, none⟩ = some (.int .i64 lo) := ext_cell hb (cell_old q14_1 _)
     have q15_2 : w15.cell? ⟨w2.heap.size, 2, none⟩ = some (.slice As l.length cs) := ext_cell hb (cell_old q14_2 _)
     have q15_3 : w15.cell? ⟨w3.heap.size, 0, none⟩ = some (.int .i64 U) := ext_cell hb (cell_old q14_3 _)
     have q15_4 : w15.cell? ⟨w3.heap.size, 1, none⟩ = some (.int .i64 LO) := ext_cell hb (cell_old q14_4 _)
     have q15_5 : w15.cell? ⟨w3.heap.size, 2, none⟩ = some (.slice Ab L.length cb) := ext_cell hb (cell_old q14_5 _)
     have q15_6 : w15.cell? ⟨w4.heap.size, 0, none⟩ = some (.int .i64 U) := ext_cell hb (cell_old q14_6 _)
     have q15_7 : w15.cell? ⟨w4.heap.size, 1, none⟩ = some (.int .i64 LO) := ext_cell hb (cell_old q14_7 _)
     have q15_8 : w15.cell? ⟨w4.heap.size, 2, none⟩ = some (.slice Aa L.length ca) := ext_cell hb (cell_old q14_8 _)
     have q15_9 : w15.cell? ⟨w14.heap.size, 0, none⟩ = some (.int .i64 U) := ext_cell hb (by simp [go_sem])
     have q15_10 : w15.cell? ⟨w14.heap.size, 1, none⟩ = some (.int .i64 LO) := ext_cell hb (by simp [go_sem])
     have q15_11 : w15.cell? ⟨w14.heap.size, 2, none⟩ = some (.slice Ap L.length cp) := ext_cell hb (by simp [go_sem])
     have b15 := Lib.hid (ext_trans (ext_alloc b14.out _) hb)
     have t15 : w.heap.size ≤ w15.heap.size := b15.out.size
     have o15_s := Lib.hid (own_ext (o14_s.out.alloc _) hb)
     have o15_b := Lib.hid (own_ext (o14_b.out.alloc _) hb)
     have o15_a := Lib.hid (own_ext (o14_a.out.alloc _) hb)
     have o15_m := Lib.hid (own_ext (o14_m.out.alloc _) hb)
     have o15_k := Lib.hid (own_ext (o14_k.out.alloc _) hb)
     have o15_p := Lib.hid (own_ext (oc_p.out.alloc _) hb)
     clear q14_0 q14_1 q14_2 q14_3 q14_4 q14_5 q14_6 q14_7 q14_8
     clear hb
     go_wp2_with fail
     refine (HBD.out _ (Reads.of_own o15_m.out)).mono ?_
     rintro e w16 ⟨rfl, hb⟩
     have s16 : w15.heap.size ≤ w16.heap.size := (by have := hb.size; (try simp at this); omega)
     have z16_0 : w2.heap.size < w16.heap.size := (by omega)
     have z16_1 : w3.heap.size < w16.heap.size := (by omega)
     have z16_2 : w4.heap.size < w16.heap.size := (by omega)
     have z16_3 : w14.heap.size < w16.heap.size := (by omega)
     have q16_0 : w16.cell? ⟨w2.heap.size, 0, none⟩ = some (.int .i64 u) := ext_cell hb q15_0
     have q16_1 : w16.cell? ⟨w2.heap.size, 1, none⟩ = some (.int .i64 lo) := ext_cell hb q15_1
     have q16_2 : w16.cell? ⟨w2.heap.size, 2, none⟩ = some (.slice As l.length cs) := ext_cell hb q15_2
     have q16_3 : w16.cell? ⟨w3.heap.size, 0, none⟩ = some (.int .i64 U) := ext_cell hb q15_3
     have q16_4 : w16.cell? ⟨w3.heap.size, 1, none⟩ = some (.int .i64 LO) := ext_cell hb q15_4
     have q16_5 : w16.cell? ⟨w3.heap.size, 2, none⟩ = some (.slice Ab L.length cb) := ext_cell hb q15_5
     have q16_6 : w16.cell? ⟨w4.heap.size, 0, none⟩ = some (.int .i64 U) := ext_cell hb q15_6
     have q16_7 : w16.cell? ⟨w4.heap.size, 1, none⟩ = some (.int .i64 LO) := ext_cell hb q15_7
     have q16_8 : w16.cell? ⟨w4.heap.size, 2, none⟩ = some (.slice Aa L.length ca) := ext_cell hb q15_8
     have q16_9 : w16.cell? ⟨w14.heap.size, 0, none⟩ = some (.int .i64 U) := ext_cell hb q15_9
     have q16_10 : w16.cell? ⟨w14.heap.size, 1, none⟩ = some (.int .i64 LO) := ext_cell hb q15_10
     have q16_11 : w16.cell? ⟨w14.heap.size, 2, none⟩ = some (.slice Ap L.length cp) := ext_cell hb q15_11
     have b16 := Lib.hid (ext_trans b15.out hb)
     have t16 : w.heap.size ≤ w16.heap.size := b16.out.size
     have o16_s := Lib.hid (own_ext o15_s.out hb)
     have o16_b := Lib.hid (own_ext o15_b.out hb)
     have o16_a := Lib.hid (own_ext o15_a.out hb)
     have o16_m := Lib.hid (own_ext o15_m.out hb)
     have o16_k := Lib.hid (own_ext o15_k.out hb)
     have o16_p := Lib.hid (own_ext o15_p.out hb)
     clear q15_0 q15_1 q15_2 q15_3 q15_4 q15_5 q15_6 q15_7 q15_8 q15_9 q15_10 q15_11
     clear hb
     go_wp2_with fail
     refine (vFrame_same U LO Ap Ab L.length cp cb L _ (by omega) (Reads.of_own o16_p.out) (Reads.of_own o16_b.out)).mono ?_
     rintro e w17 ⟨rfl, hb⟩
     have s17 : w16.heap.size ≤ w17.heap.size := (by have := hb.size; (try simp at this); omega)
     have z17_0 : w2.heap.size < w17.heap.size := (by omega)
     have z17_1 : w3.heap.size < w17.heap.size := (by omega)
     have z17_2 : w4.heap.size < w17.heap.size := (by omega)
     have z17_3 : w14.heap.size < w17.heap.size := (by omega)
     have q17_0 : w17.cell? ⟨w2.heap.size, 0, none⟩ = some (.int .i64 u) := ext_cell hb q16_0
     have q17_1 : w17.cell? ⟨w2.heap.size, 1, none⟩ = some (.int .i64 lo) := ext_cell hb q16_1
     have q17_2 : w17.cell? ⟨w2.heap.size, 2, none⟩ = some (.slice As l.length cs) := ext_cell hb q16_2
     have q17_3 : w17.cell? ⟨w3.heap.size, 0, none⟩ = some (.int .i64 U) := ext_cell hb q16_3
     have q17_4 : w17.cell? ⟨w3.heap.size, 1, none⟩ = some (.int .i64 LO) := ext_cell hb q16_4
     have q17_5 : w17.cell? ⟨w3.heap.size, 2, none⟩ = some (.slice Ab L.length cb) := ext_cell hb q16_5
     have q17_6 : w17.cell? ⟨w4.heap.size, 0, none⟩ = some (.int .i64 U) := ext_cell hb q16_6
     have q17_7 : w17.cell? ⟨w4.heap.size, 1, none⟩ = some (.int .i64 LO) := ext_cell hb q16_7
     have q17_8 : w17.cell? ⟨w4.heap.size, 2, none⟩ = some (.slice Aa L.length ca) := ext_cell hb q16_8
     have q17_9 : w17.cell? ⟨w14.heap.size, 0, none⟩ = some (.int .i64 U) := ext_cell hb q16_9
     have q17_10 : w17.cell? ⟨w14.heap.size, 1, none⟩ = some (.int .i64 LO) := ext_cell hb q16_10
     have q17_11 : w17.cell? ⟨w14.heap.size, 2, none⟩ = some (.slice Ap L.length cp) := ext_cell hb q16_11
     have b17 := Lib.hid (ext_trans b16.out hb)
     have t17 : w.heap.size ≤ w17.heap.size := b17.out.size
     have o17_s := Lib.hid (own_ext o16_s.out hb)
     have o17_b := Lib.hid (own_ext o16_b.out hb)
     have o17_a := Lib.hid (own_ext o16_a.out hb)
     have o17_m := Lib.hid (own_ext o16_m.out hb)
     have o17_k := Lib.hid (own_ext o16_k.out hb)
     have o17_p := Lib.hid (own_ext o16_p.out hb)
     clear q16_0 q16_1 q16_2 q16_3 q16_4 q16_5 q16_6 q16_7 q16_8 q16_9 q16_10 q16_11
     clear hb
     go_wp2_with fail
     refine (HSB.out _ (Reads.of_own o17_s.out)).mono ?_
     rintro e w18 ⟨rfl, hb⟩
     have s18 : w17.heap.size ≤ w18.heap.size := (by have := hb.size; (try simp at this); omega)
     have z18_0 : w2.heap.size < w18.heap.size := (by omega)
     have z18_1 : w3.heap.size < w18.heap.size := (by omega)
     have z18_2 : w4.heap.size < w18.heap.size := (by omega)
     have z18_3 : w14.heap.size < w18.heap.size := (by omega)
     have q18_0 : w18.cell? ⟨w2.heap.size, 0, none⟩ = some (.int .i64 u) := ext_cell hb q17_0
     have q18_1 : w18.cell? ⟨w2.heap.size, 1, none⟩ = some (.int .i64 lo) := ext_cell hb q17_1
     have q18_2 : w18.cell? ⟨w2.heap.size, 2, none⟩ = some (.slice As l.length cs) := ext_cell hb q17_2
     have q18_3 : w18.cell? ⟨w3.heap.size, 0, none⟩ = some (.int .i64 U) := ext_cell hb q17_3
     have q18_4 : w18.cell? ⟨w3.heap.size, 1, none⟩ = some (.int .i64 LO) := ext_cell hb q17_4
     have q18_5 : w18.cell? ⟨w3.heap.size, 2, none⟩ = some (.slice Ab L.length cb) := ext_cell hb q17_5
     have q18_6 : w18.cell? ⟨w4.heap.size, 0, none⟩ = some (.int .i64 U) := ext_cell hb q17_6
     have q18_7 : w18.cell? ⟨w4.heap.size, 1, none⟩ = some (.int .i64 LO) := ext_cell hb q17_7
     have q18_8 : w18.cell? ⟨w4.heap.size, 2, none⟩ = some (.slice Aa L.length ca) := ext_cell hb q17_8
     have q18_9 : w18.cell? ⟨w14.heap.size, 0, none⟩ = some (.int .i64 U) := ext_cell hb q17_9
     have q18_10 : w18.cell? ⟨w14.heap.size, 1, none⟩ = some (.int .i64 LO) := ext_cell hb q17_10
     have q18_11 : w18.cell? ⟨w14.heap.size, 2, none⟩ = some (.slice Ap L.length cp) := ext_cell hb q17_11
     have b18 := Lib.hid (ext_trans b17.out hb)
     have t18 : w.heap.size ≤ w18.heap.size := b18.out.size
     have o18_s := Lib.hid (own_ext o17_s.out hb)
     have o18_b := Lib.hid (own_ext o17_b.out hb)
     have o18_a := Lib.hid (own_ext o17_a.out hb)
     have o18_m := Lib.hid (own_ext o17_m.out hb)
     have o18_k := Lib.hid (own_ext o17_k.out hb)
     have o18_p := Lib.hid (own_ext o17_p.out hb)
     clear q17_0 q17_1 q17_2 q17_3 q17_4 q17_5 q17_6 q17_7 q17_8 q17_9 q17_10 q17_11
     clear hb
     cases vb
     · skip
       go_wp2_with fail
       go_meet
       exact b18.out
     · skip
       go_wp2_with fail
       go_meet
       exact b18.out
    case rest => as_aux_lemma =>
     obtain ⟨w19, hw19⟩ : ∃ x : World, x = wc := ⟨_, rfl⟩
     subst hw19
     have b19 := Lib.hid hcut
     have t19 : w.heap.size ≤ w19.heap.size := hcut.size
     clear hcut
     clear HLAW HNF HNM HNB HNA HFB HFA HMB HMA HTB HTA HWB HSB k1 k2 k3 k4 hl9 hLn hMn hsv z0 z9
     go_wp2_with fail
     refine (drawFewestBeads_any A n c _ ((H.out.below b19.out).more b19.out.size) hn).mono ?_
     rintro e w20 ⟨u2, lo2, l2, Ax, cx, k, rfl, hIN, z0, z9, ho_x, hb⟩
     have s20 : w19.heap.size ≤ w20.heap.size := (by have := hb.size; (try simp at this); omega)
     have b20 := Lib.hid (ext_trans b19.out hb)
     have t20 : w.heap.size ≤ w20.heap.size := b20.out.size
     clear hb
     have oc_x := Lib.hid (own_base (base' := w19.heap.size + 0) ho_x (by simp))
     clear ho_x
     have hl9 : l2.length ≤ 9 := hIN.2.2.2.2.2.1
     clear hIN
     have HB := Lib.hid (fun (w : World) h => implFewestBeads_any u2 lo2 Ax l2.length cx l2 k w (by omega) (by omega) h)
     have HA := Lib.hid (fun (w : World) h => specFewestBeads_any u2 lo2 Ax l2.length cx l2 k w (by omega) (by omega) h)
     obtain ⟨FW, hFW⟩ : ∃ x, fewW u2 lo2 l2 k = x := ⟨_, rfl⟩
     rw [hFW] at HB HA
     obtain ⟨Fl, Fm, Bd, fo⟩ := FW
     dsimp only at HB HA
     unfold RetV at HA HB
     have k1 : (fo != fo) = false := by cases fo <;> rfl
     have k2 : (Bd != Bd) = false := by simp
     clear hFW
     go_wp2_with fail
     refine (HB.out _ (Reads.of_own (oc_x.out.alloc _))).mono ?_
     rintro e w21 ⟨rfl, hb⟩
     have s21 : w20.heap.size + 1 ≤ w21.heap.size := (by have := hb.size; (try simp at this); omega)
     have z21_0 : w20.heap.size < w21.heap.size := (by omega)
     have q21_0 : w21.cell? ⟨w20.heap.size, 0, none⟩ = some (.int .i64 u2) := ext_cell hb (by simp [go_sem])
     have q21_1 : w21.cell? ⟨w20.heap.size, 1, none⟩ = some (.int .i64 lo2) := ext_cell hb (by simp [go_sem])
     have q21_2 : w21.cell? ⟨w20.heap.size, 2, none⟩ = some (.slice Ax l2.length cx) := ext_cell hb (by simp [go_sem])
     have b21 := Lib.hid (ext_trans (ext_alloc b20.out _) hb)
     have t21 : w.heap.size ≤ w21.heap.size := b21.out.size
     have o21_x := Lib.hid (own_ext (oc_x.out.alloc _) hb)
     clear hb
     go_wp2_with fail
     refine (HA.out _ (Reads.of_own o21_x.out)).mono ?_
     rintro e w22 ⟨rfl, hb⟩
     have s22 : w21.heap.size ≤ w22.heap.size := (by have := hb.size; (try simp at this); omega)
     have z22_0 : w20.heap.size < w22.heap.size := (by omega)
     have q22_0 : w22.cell? ⟨w20.heap.size, 0, none⟩ = some (.int .i64 u2) := ext_cell hb q21_0
     have q22_1 : w22.cell? ⟨w20.heap.size, 1, none⟩ = some (.int .i64 lo2) := ext_cell hb q21_1
     have q22_2 : w22.cell? ⟨w20.heap.size, 2, none⟩ = some (.slice Ax l2.length cx) := ext_cell hb q21_2
     have b22 := Lib.hid (ext_trans b21.out hb)
     have t22 : w.heap.size ≤ w22.heap.size := b22.out.size
     have o22_x := Lib.hid (own_ext o21_x.out hb)
     clear q21_0 q21_1 q21_2
     clear hb
     clear o22_x
     clear HB HA hl9 z0 z9
     go_wp2_with fail
     refine (drawSavedMoves_any A n c _ ((H.out.below b22.out).more b22.out.size) hn).mono ?_
     rintro e w23 ⟨u3, lo3, l3, Ay, cy, m3, rfl, hIN, z0, z9, ho_y, hb⟩
     have s23 : w22.heap.size ≤ w23.heap.size := (by have := hb.size; (try simp at this); omega)
     have z23_0 : w20.heap.size < w23.heap.size := (by omega)
     have q23_0 : w23.cell? ⟨w20.heap.size, 0, none⟩ = some (.int .i64 u2) := ext_cell hb q22_0
     have q23_1 : w23.cell? ⟨w20.heap.size, 1, none⟩ = some (.int .i64 lo2) := ext_cell hb q22_1
     have q23_2 : w23.cell? ⟨w20.heap.size, 2, none⟩ = some (.slice Ax l2.length cx) := ext_cell hb q22_2
     have b23 := Lib.hid (ext_trans b22.out hb)
     have t23 : w.heap.size ≤ w23.heap.size := b23.out.size
     clear q22_0 q22_1 q22_2
     clear hb
     have oc_y := Lib.hid (own_base (base' := w22.heap.size + 0) ho_y (by simp))
     clear ho_y
     have hl9 : l3.length ≤ 9 := hIN.2.2.2.2.2.1
     clear hIN
     have HB := Lib.hid (fun (w : World) h => implSavedMoves_any u3 lo3 Ay l3.length cy l3 m3 w (by omega) (by omega) h)
     have HA := Lib.hid (fun (w : World) h => specSavedMoves_any u3 lo3 Ay l3.length cy l3 m3 w (by omega) (by omega) h)
     obtain ⟨V, hV⟩ : ∃ x, savV u3 lo3 l3 m3 = x := ⟨_, rfl⟩
     rw [hV] at HB HA
     obtain ⟨vb, hvb⟩ : ∃ x, savB u3 lo3 l3 m3 = x := ⟨_, rfl⟩
     rw [hvb] at HB HA
     unfold RetV at HA HB
     have k3 : (vb == vb) = true := by cases vb <;> rfl
     have k4 : (V == V) = true := by simp
     clear hV hvb
     go_wp2_with fail
     refine (HB.out _ (Reads.of_own (oc_y.out.alloc _))).mono ?_
     rintro e w24 ⟨rfl, hb⟩
     have s24 : w23.heap.size + 1 ≤ w24.heap.size := (by have := hb.size; (try simp at this); omega)
     have z24_0 : w20.heap.size < w24.heap.size := (by omega)
     have z24_1 : w23.heap.size < w24.heap.size := (by omega)
     have q24_0 : w24.cell? ⟨w20.heap.size, 0, none⟩ = some (.int .i64 u2) := ext_cell hb (cell_old q23_0 _)
     have q24_1 : w24.cell? ⟨w20.heap.size, 1, none⟩ = some (.int .i64 lo2) := ext_cell hb (cell_old q23_1 _)
     have q24_2 : w24.cell? ⟨w20.heap.size, 2, none⟩ = some (.slice Ax l2.length cx) := ext_cell hb (cell_old q23_2 _)
     have q24_3 : w24.cell? ⟨w23.heap.size, 0, none⟩ = some (.int .i64 u3) := ext_cell hb (by simp [go_sem])
     have q24_4 : w24.cell? ⟨w23.heap.size, 1, none⟩ = some (.int .i64 lo3) := ext_cell hb (by simp [go_sem])
     have q24_5 : w24.cell? ⟨w23.heap.size, 2, none⟩ = some (.slice Ay l3.length cy) := ext_cell hb (by simp [go_sem])
     have b24 := Lib.hid (ext_trans (ext_alloc b23.out _) hb)
     have t24 : w.heap.size ≤ w24.heap.size := b24.out.size
     have o24_y := Lib.hid (own_ext (oc_y.out.alloc _) hb)
     clear q23_0 q23_1 q23_2
     clear hb
     go_wp2_with fail
     refine (HA.out _ (Reads.of_own o24_y.out)).mono ?_
     rintro e w25 ⟨rfl, hb⟩
     have s25 : w24.heap.size ≤ w25.heap.size := (by have := hb.size; (try simp at this); omega)
     have z25_0 : w20.heap.size < w25.heap.size := (by omega)
     have z25_1 : w23.heap.size < w25.heap.size := (by omega)
     have q25_0 : w25.cell? ⟨w20.heap.size, 0, none⟩ = some (.int .i64 u2) := ext_cell hb q24_0
     have q25_1 : w25.cell? ⟨w20.heap.size, 1, none⟩ = some (.int .i64 lo2) := ext_cell hb q24_1
     have q25_2 : w25.cell? ⟨w20.heap.size, 2, none⟩ = some (.slice Ax l2.length cx) := ext_cell hb q24_2
     have q25_3 : w25.cell? ⟨w23.heap.size, 0, none⟩ = some (.int .i64 u3) := ext_cell hb q24_3
     have q25_4 : w25.cell? ⟨w23.heap.size, 1, none⟩ = some (.int .i64 lo3) := ext_cell hb q24_4
     have q25_5 : w25.cell? ⟨w23.heap.size, 2, none⟩ = some (.slice Ay l3.length cy) := ext_cell hb q24_5
     have b25 := Lib.hid (ext_trans b24.out hb)
     have t25 : w.heap.size ≤ w25.heap.size := b25.out.size
     have o25_y := Lib.hid (own_ext o24_y.out hb)
     clear q24_0 q24_1 q24_2 q24_3 q24_4 q24_5
     clear hb
     go_wp2
     go_ret
     exact ⟨rfl, b25.out⟩
end Go.Proofs.Ytmfjaoljeildbaa
