/- The law FnTaking, walked. -/
import Derived.Deep.CutBlock
import Derived.Test.YtajdmeajkgdioaaVAdB
import Derived.Test.YtajdmeajkgdioaaVAdQ
import Derived.Test.YtajdmeajkgdioaaVM11
import Derived.Test.YtajdmeajkgdioaaVM4
import Derived.Test.YtajdmeajkgdioaaVPlM
import Derived.Test.YtajdmeajkgdioaaVM5
import Derived.Test.YtajdmeajkgdioaaVFrR
import Derived.Test.YtajdmeajkgdioaaVM1
import Derived.Test.YtajdmeajkgdioaaVVFr
namespace Go.Proofs.Ytajdmeajkgdioaa
open Go.RowKit
set_option linter.unusedVariables false
set_option linter.unusedSimpArgs false
set_option maxRecDepth 100000 in
set_option maxHeartbeats 8000000 in
theorem law_FnTaking (A : Option Addr) (n c : Nat) (w : World) (h : Code w w.heap.size A n) (hn63 : n ≤ maxLen) :
 Calls Try.prog 4 #[.slice A n c] w fun e w' => e = .returned (.bool true) ∧ Below w.heap.size w w' := by
 have HV := Lib.hid (fun w => vBig_any A n c w)
 by_cases hbig : (65536 : Int) < n
 · rw [decide_eq_true hbig] at HV
   go_enter Try.func4, Try.ntmps4
   go_wp2_with (go_at_call 6; refine (HV.out _).mono ?_; rintro e w' ⟨rfl, hb⟩)
   go_ret
   exact ⟨rfl, (by repeat (first | exact ext_refl _ | assumption | refine ext_alloc ?_ _ | refine ext_drew ?_ | refine ext_drewN ?_ _ | refine ext_set ?_ (by simp <;> omega) _ | refine ext_trans ?_ (by assumption)))⟩
 · rw [decide_eq_false hbig] at HV
   have hn : n ≤ 65536 := by omega
   have H := Lib.hid h
   clear h hbig hn63
   go_enter Try.func4, Try.ntmps4
   go_wp2_with fail
   refine (HV.out _).mono ?_
   rintro e w1 ⟨rfl, hb⟩
   have s1 : w.heap.size ≤ w1.heap.size := (by have := hb.size; (try simp at this); omega)
   have b1 := Lib.hid (ext_trans (ext_refl w) hb)
   have t1 : w.heap.size ≤ w1.heap.size := b1.out.size
   clear hb
   go_wp2_with fail
   refine (drawTakeNumber_any A n c _ ((H.out.below b1.out).more b1.out.size) hn).mono ?_
   rintro e w2 ⟨u, lo, l, As, cs, z, rfl, hIN, z0, z9, ho_s, hb⟩
   have s2 : w1.heap.size ≤ w2.heap.size := (by have := hb.size; (try simp at this); omega)
   have b2 := Lib.hid (ext_trans b1.out hb)
   have t2 : w.heap.size ≤ w2.heap.size := b2.out.size
   clear hb
   have oc_s := Lib.hid (own_base (base' := w1.heap.size + 0) ho_s (by simp))
   clear ho_s
   have hl9 : l.length ≤ 9 := hIN.2.2.2.2.2.1
   clear hIN
   have HB := Lib.hid (fun (w : World) h => implTakeNumber_any u lo As l.length cs l z w (by omega) h)
   have HA := Lib.hid (fun (w : World) h => specTakeNumber_any u lo As l.length cs l z w (by omega) h)
   have HMB := Lib.hid (fun (w : World) h => implTakeNumberMoves_any u lo As l.length cs l z w (by omega) h)
   have HMA := Lib.hid (fun (w : World) h => specTakeNumberMoves_any u lo As l.length cs l z w (by omega) h)
   have HQB := Lib.hid (fun (w : World) h => implBorrowsOf_any u lo As l.length cs l z w (by omega) h)
   have HQA := Lib.hid (fun (w : World) h => specBorrowsOf_any u lo As l.length cs l z w (by omega) h)
   have hlaw := ftkLaw u lo l z
   have hsum := ftkSum u lo l z
   have hLn := takeNF_len u lo l z
   have hMn := takeNms_len u lo l z
   obtain ⟨Q, hQ⟩ : ∃ x, (takeNst l z).ask = x := ⟨_, rfl⟩
   rw [hQ] at HQA HQB hsum
   obtain ⟨R, hR⟩ : ∃ x, takeNF u lo l z = x := ⟨_, rfl⟩
   rw [hR] at HA HB hlaw hLn
   obtain ⟨ok, hok⟩ : ∃ x, takeNok u lo l z = x := ⟨_, rfl⟩
   rw [hok] at HA HB HQA HQB hlaw hsum
   obtain ⟨Q2, hQ2⟩ : ∃ x, (if ok = true then Q else 0) = x := ⟨_, rfl⟩
   rw [hQ2] at HQA HQB
   obtain ⟨ms, hms⟩ : ∃ x, takeNms u lo l z = x := ⟨_, rfl⟩
   rw [hms] at HMA HMB hlaw hMn
   obtain ⟨okm, hokm⟩ : ∃ x, takeNmok u lo l z = x := ⟨_, rfl⟩
   rw [hokm] at HMA HMB hlaw
   obtain ⟨U, LO, L⟩ := R
   unfold RetFrB at HA HB
   unfold RetMv RetSliceB at HMA HMB
   unfold RetV at HQA HQB
   dsimp only at HA HB hLn hlaw
   obtain ⟨nm, hnm⟩ : ∃ x, ms.length = x := ⟨_, rfl⟩
   rw [hnm] at HMA HMB hMn
   have HNM := Lib.hid hnm
   have HLAW := Lib.hid hlaw
   have HSUM := Lib.hid hsum
   have HQ2 := Lib.hid hQ2
   have k1 : (ok != ok) = false := by cases ok <;> rfl
   have k2 : (okm != okm) = false := by cases okm <;> rfl
   have k4 : (Q2 != Q2) = false := by simp
   clear hR hok hms hokm hlaw hnm hsum hQ hQ2
   go_wp2_with fail
   refine (HB.out _ (Reads.of_own (oc_s.out.alloc _))).mono ?_
   rintro e w3 ⟨Ab, cb, rfl, ho_b, hb⟩
   have s3 : w2.heap.size + 1 ≤ w3.heap.size := (by have := hb.size; (try simp at this); omega)
   have z3_0 : w2.heap.size < w3.heap.size := (by omega)
   have q3_0 : w3.cell? ⟨w2.heap.size, 0, none⟩ = some (.int .i64 u) := ext_cell hb (by simp [go_sem])
   have q3_1 : w3.cell? ⟨w2.heap.size, 1, none⟩ = some (.int .i64 lo) := ext_cell hb (by simp [go_sem])
   have q3_2 : w3.cell? ⟨w2.heap.size, 2, none⟩ = some (.slice As l.length cs) := ext_cell hb (by simp [go_sem])
   have b3 := Lib.hid (ext_trans (ext_alloc b2.out _) hb)
   have t3 : w.heap.size ≤ w3.heap.size := b3.out.size
   have o3_s := Lib.hid (own_ext (oc_s.out.alloc _) hb)
   have oc_b := Lib.hid (own_base (base' := w2.heap.size + 1) ho_b (by simp))
   clear ho_b
   clear hb
   go_wp2_with fail
   refine (HA.out _ (Reads.of_own (o3_s.out.alloc _))).mono ?_
   rintro e w4 ⟨Aa, ca, rfl, ho_a, hb⟩
   have s4 : w3.heap.size + 1 ≤ w4.heap.size := (by have := hb.size; (try simp at this); omega)
   have z4_0 : w2.heap.size < w4.heap.size := (by omega)
   have z4_1 : w3.heap.size < w4.heap.size := (by omega)
   have q4_0 : w4.cell? ⟨w2.heap.size, 0, none⟩ = some (.int .i64 u) := ext_cell hb (cell_old q3_0 _)
   have q4_1 : w4.cell? ⟨w2.heap.size, 1, none⟩ = some (.int .i64 lo) := ext_cell hb (cell_old q3_1 _)
   have q4_2 : w4.cell? ⟨w2.heap.size, 2, none⟩ = some (.slice As l.length cs) := ext_cell hb (cell_old q3_2 _)
   have q4_3 : w4.cell? ⟨w3.heap.size, 0, none⟩ = some (.int .i64 U) := ext_cell hb (by simp [go_sem])
   have q4_4 : w4.cell? ⟨w3.heap.size, 1, none⟩ = some (.int .i64 LO) := ext_cell hb (by simp [go_sem])
   have q4_5 : w4.cell? ⟨w3.heap.size, 2, none⟩ = some (.slice Ab L.length cb) := ext_cell hb (by simp [go_sem])
   have b4 := Lib.hid (ext_trans (ext_alloc b3.out _) hb)
   have t4 : w.heap.size ≤ w4.heap.size := b4.out.size
   have o4_s := Lib.hid (own_ext (o3_s.out.alloc _) hb)
   have o4_b := Lib.hid (own_ext (oc_b.out.alloc _) hb)
   clear q3_0 q3_1 q3_2
   have oc_a := Lib.hid (own_base (base' := w3.heap.size + 1) ho_a (by simp))
   clear ho_a
   clear hb
   go_wp2_with fail
   refine (vFrame_same U LO Ab Aa L.length cb ca L _ (by omega) (Reads.of_own (o4_b.out.alloc _)) (Reads.of_own (oc_a.out.alloc _))).mono ?_
   rintro e w5 ⟨rfl, hb⟩
   have s5 : w4.heap.size + 1 ≤ w5.heap.size := (by have := hb.size; (try simp at this); omega)
   have z5_0 : w2.heap.size < w5.heap.size := (by omega)
   have z5_1 : w3.heap.size < w5.heap.size := (by omega)
   have z5_2 : w4.heap.size < w5.heap.size := (by omega)
   have q5_0 : w5.cell? ⟨w2.heap.size, 0, none⟩ = some (.int .i64 u) := ext_cell hb (cell_old q4_0 _)
   have q5_1 : w5.cell? ⟨w2.heap.size, 1, none⟩ = some (.int .i64 lo) := ext_cell hb (cell_old q4_1 _)
   have q5_2 : w5.cell? ⟨w2.heap.size, 2, none⟩ = some (.slice As l.length cs) := ext_cell hb (cell_old q4_2 _)
   have q5_3 : w5.cell? ⟨w3.heap.size, 0, none⟩ = some (.int .i64 U) := ext_cell hb (cell_old q4_3 _)
   have q5_4 : w5.cell? ⟨w3.heap.size, 1, none⟩ = some (.int .i64 LO) := ext_cell hb (cell_old q4_4 _)
   have q5_5 : w5.cell? ⟨w3.heap.size, 2, none⟩ = some (.slice Ab L.length cb) := ext_cell hb (cell_old q4_5 _)
   have q5_6 : w5.cell? ⟨w4.heap.size, 0, none⟩ = some (.int .i64 U) := ext_cell hb (by simp [go_sem])
   have q5_7 : w5.cell? ⟨w4.heap.size, 1, none⟩ = some (.int .i64 LO) := ext_cell hb (by simp [go_sem])
   have q5_8 : w5.cell? ⟨w4.heap.size, 2, none⟩ = some (.slice Aa L.length ca) := ext_cell hb (by simp [go_sem])
   have b5 := Lib.hid (ext_trans (ext_alloc b4.out _) hb)
   have t5 : w.heap.size ≤ w5.heap.size := b5.out.size
   have o5_s := Lib.hid (own_ext (o4_s.out.alloc _) hb)
   have o5_b := Lib.hid (own_ext (o4_b.out.alloc _) hb)
   have o5_a := Lib.hid (own_ext (oc_a.out.alloc _) hb)
   clear q4_0 q4_1 q4_2 q4_3 q4_4 q4_5
   clear hb
   go_wp2_with fail
   refine (HMB.out _ (Reads.of_own o5_s.out)).mono ?_
   rintro e w6 ⟨Am, cm, rfl, ho_m, hb⟩
   have s6 : w5.heap.size ≤ w6.heap.size := (by have := hb.size; (try simp at this); omega)
   have z6_0 : w2.heap.size < w6.heap.size := (by omega)
   have z6_1 : w3.heap.size < w6.heap.size := (by omega)
   have z6_2 : w4.heap.size < w6.heap.size := (by omega)
   have q6_0 : w6.cell? ⟨w2.heap.size, 0, none⟩ = some (.int .i64 u) := ext_cell hb q5_0
   have q6_1 : w6.cell? ⟨w2.heap.size, 1, none⟩ = some (.int .i64 lo) := ext_cell hb q5_1
   have q6_2 : w6.cell? ⟨w2.heap.size, 2, none⟩ = some (.slice As l.length cs) := ext_cell hb q5_2
   have q6_3 : w6.cell? ⟨w3.heap.size, 0, none⟩ = some (.int .i64 U) := ext_cell hb q5_3
   have q6_4 : w6.cell? ⟨w3.heap.size, 1, none⟩ = some (.int .i64 LO) := ext_cell hb q5_4
   have q6_5 : w6.cell? ⟨w3.heap.size, 2, none⟩ = some (.slice Ab L.length cb) := ext_cell hb q5_5
   have q6_6 : w6.cell? ⟨w4.heap.size, 0, none⟩ = some (.int .i64 U) := ext_cell hb q5_6
   have q6_7 : w6.cell? ⟨w4.heap.size, 1, none⟩ = some (.int .i64 LO) := ext_cell hb q5_7
   have q6_8 : w6.cell? ⟨w4.heap.size, 2, none⟩ = some (.slice Aa L.length ca) := ext_cell hb q5_8
   have b6 := Lib.hid (ext_trans b5.out hb)
   have t6 : w.heap.size ≤ w6.heap.size := b6.out.size
   have o6_s := Lib.hid (own_ext o5_s.out hb)
   have o6_b := Lib.hid (own_ext o5_b.out hb)
   have o6_a := Lib.hid (own_ext o5_a.out hb)
   clear q5_0 q5_1 q5_2 q5_3 q5_4 q5_5 q5_6 q5_7 q5_8
   have oc_m := Lib.hid (own_base (base' := w5.heap.size + 0) ho_m (by simp))
   clear ho_m
   clear hb
   go_wp2_with fail
   refine (HMA.out _ (Reads.of_own o6_s.out)).mono ?_
   rintro e w7 ⟨Ak, ck, rfl, ho_k, hb⟩
   have s7 : w6.heap.size ≤ w7.heap.size := (by have := hb.size; (try simp at this); omega)
   have z7_0 : w2.heap.size < w7.heap.size := (by omega)
   have z7_1 : w3.heap.size < w7.heap.size := (by omega)
   have z7_2 : w4.heap.size < w7.heap.size := (by omega)
   have q7_0 : w7.cell? ⟨w2.heap.size, 0, none⟩ = some (.int .i64 u) := ext_cell hb q6_0
   have q7_1 : w7.cell? ⟨w2.heap.size, 1, none⟩ = some (.int .i64 lo) := ext_cell hb q6_1
   have q7_2 : w7.cell? ⟨w2.heap.size, 2, none⟩ = some (.slice As l.length cs) := ext_cell hb q6_2
   have q7_3 : w7.cell? ⟨w3.heap.size, 0, none⟩ = some (.int .i64 U) := ext_cell hb q6_3
   have q7_4 : w7.cell? ⟨w3.heap.size, 1, none⟩ = some (.int .i64 LO) := ext_cell hb q6_4
   have q7_5 : w7.cell? ⟨w3.heap.size, 2, none⟩ = some (.slice Ab L.length cb) := ext_cell hb q6_5
   have q7_6 : w7.cell? ⟨w4.heap.size, 0, none⟩ = some (.int .i64 U) := ext_cell hb q6_6
   have q7_7 : w7.cell? ⟨w4.heap.size, 1, none⟩ = some (.int .i64 LO) := ext_cell hb q6_7
   have q7_8 : w7.cell? ⟨w4.heap.size, 2, none⟩ = some (.slice Aa L.length ca) := ext_cell hb q6_8
   have b7 := Lib.hid (ext_trans b6.out hb)
   have t7 : w.heap.size ≤ w7.heap.size := b7.out.size
   have o7_s := Lib.hid (own_ext o6_s.out hb)
   have o7_b := Lib.hid (own_ext o6_b.out hb)
   have o7_a := Lib.hid (own_ext o6_a.out hb)
   have o7_m := Lib.hid (own_ext oc_m.out hb)
   clear q6_0 q6_1 q6_2 q6_3 q6_4 q6_5 q6_6 q6_7 q6_8
   have oc_k := Lib.hid (own_base (base' := w6.heap.size + 0) ho_k (by simp))
   clear ho_k
   clear hb
   go_wp2_with fail
   refine (vMoves_same Am Ak nm cm ck ms _ (by omega) (Reads.of_own o7_m.out) (Reads.of_own oc_k.out)).mono ?_
   rintro e w8 ⟨rfl, hb⟩
   have s8 : w7.heap.size ≤ w8.heap.size := (by have := hb.size; (try simp at this); omega)
   have z8_0 : w2.heap.size < w8.heap.size := (by omega)
   have z8_1 : w3.heap.size < w8.heap.size := (by omega)
   have z8_2 : w4.heap.size < w8.heap.size := (by omega)
   have q8_0 : w8.cell? ⟨w2.heap.size, 0, none⟩ = some (.int .i64 u) := ext_cell hb q7_0
   have q8_1 : w8.cell? ⟨w2.heap.size, 1, none⟩ = some (.int .i64 lo) := ext_cell hb q7_1
   have q8_2 : w8.cell? ⟨w2.heap.size, 2, none⟩ = some (.slice As l.length cs) := ext_cell hb q7_2
   have q8_3 : w8.cell? ⟨w3.heap.size, 0, none⟩ = some (.int .i64 U) := ext_cell hb q7_3
   have q8_4 : w8.cell? ⟨w3.heap.size, 1, none⟩ = some (.int .i64 LO) := ext_cell hb q7_4
   have q8_5 : w8.cell? ⟨w3.heap.size, 2, none⟩ = some (.slice Ab L.length cb) := ext_cell hb q7_5
   have q8_6 : w8.cell? ⟨w4.heap.size, 0, none⟩ = some (.int .i64 U) := ext_cell hb q7_6
   have q8_7 : w8.cell? ⟨w4.heap.size, 1, none⟩ = some (.int .i64 LO) := ext_cell hb q7_7
   have q8_8 : w8.cell? ⟨w4.heap.size, 2, none⟩ = some (.slice Aa L.length ca) := ext_cell hb q7_8
   have b8 := Lib.hid (ext_trans b7.out hb)
   have t8 : w.heap.size ≤ w8.heap.size := b8.out.size
   have o8_s := Lib.hid (own_ext o7_s.out hb)
   have o8_b := Lib.hid (own_ext o7_b.out hb)
   have o8_a := Lib.hid (own_ext o7_a.out hb)
   have o8_m := Lib.hid (own_ext o7_m.out hb)
   have o8_k := Lib.hid (own_ext oc_k.out hb)
   clear q7_0 q7_1 q7_2 q7_3 q7_4 q7_5 q7_6 q7_7 q7_8
   clear hb
   go_wp2_with fail
   refine (HQB.out _ (Reads.of_own o8_s.out)).mono ?_
   rintro e w9 ⟨rfl, hb⟩
   have s9 : w8.heap.size ≤ w9.heap.size := (by have := hb.size; (try simp at this); omega)
   have z9_0 : w2.heap.size < w9.heap.size := (by omega)
   have z9_1 : w3.heap.size < w9.heap.size := (by omega)
   have z9_2 : w4.heap.size < w9.heap.size := (by omega)
   have q9_0 : w9.cell? ⟨w2.heap.size, 0, none⟩ = some (.int .i64 u) := ext_cell hb q8_0
   have q9_1 : w9.cell? ⟨w2.heap.size, 1, none⟩ = some (.int .i64 lo) := ext_cell hb q8_1
   have q9_2 : w9.cell? ⟨w2.heap.size, 2, none⟩ = some (.slice As l.length cs) := ext_cell hb q8_2
   have q9_3 : w9.cell? ⟨w3.heap.size, 0, none⟩ = some (.int .i64 U) := ext_cell hb q8_3
   have q9_4 : w9.cell? ⟨w3.heap.size, 1, none⟩ = some (.int .i64 LO) := ext_cell hb q8_4
   have q9_5 : w9.cell? ⟨w3.heap.size, 2, none⟩ = some (.slice Ab L.length cb) := ext_cell hb q8_5
   have q9_6 : w9.cell? ⟨w4.heap.size, 0, none⟩ = some (.int .i64 U) := ext_cell hb q8_6
   have q9_7 : w9.cell? ⟨w4.heap.size, 1, none⟩ = some (.int .i64 LO) := ext_cell hb q8_7
   have q9_8 : w9.cell? ⟨w4.heap.size, 2, none⟩ = some (.slice Aa L.length ca) := ext_cell hb q8_8
   have b9 := Lib.hid (ext_trans b8.out hb)
   have t9 : w.heap.size ≤ w9.heap.size := b9.out.size
   have o9_s := Lib.hid (own_ext o8_s.out hb)
   have o9_b := Lib.hid (own_ext o8_b.out hb)
   have o9_a := Lib.hid (own_ext o8_a.out hb)
   have o9_m := Lib.hid (own_ext o8_m.out hb)
   have o9_k := Lib.hid (own_ext o8_k.out hb)
   clear q8_0 q8_1 q8_2 q8_3 q8_4 q8_5 q8_6 q8_7 q8_8
   clear hb
   go_wp2_with fail
   refine (HQA.out _ (Reads.of_own o9_s.out)).mono ?_
   rintro e w10 ⟨rfl, hb⟩
   have s10 : w9.heap.size ≤ w10.heap.size := (by have := hb.size; (try simp at this); omega)
   have z10_0 : w2.heap.size < w10.heap.size := (by omega)
   have z10_1 : w3.heap.size < w10.heap.size := (by omega)
   have z10_2 : w4.heap.size < w10.heap.size := (by omega)
   have q10_0 : w10.cell? ⟨w2.heap.size, 0, none⟩ = some (.int .i64 u) := ext_cell hb q9_0
   have q10_1 : w10.cell? ⟨w2.heap.size, 1, none⟩ = some (.int .i64 lo) := ext_cell hb q9_1
   have q10_2 : w10.cell? ⟨w2.heap.size, 2, none⟩ = some (.slice As l.length cs) := ext_cell hb q9_2
   have q10_3 : w10.cell? ⟨w3.heap.size, 0, none⟩ = some (.int .i64 U) := ext_cell hb q9_3
   have q10_4 : w10.cell? ⟨w3.heap.size, 1, none⟩ = some (.int .i64 LO) := ext_cell hb q9_4
   have q10_5 : w10.cell? ⟨w3.heap.size, 2, none⟩ = some (.slice Ab L.length cb) := ext_cell hb q9_5
   have q10_6 : w10.cell? ⟨w4.heap.size, 0, none⟩ = some (.int .i64 U) := ext_cell hb q9_6
   have q10_7 : w10.cell? ⟨w4.heap.size, 1, none⟩ = some (.int .i64 LO) := ext_cell hb q9_7
   have q10_8 : w10.cell? ⟨w4.heap.size, 2, none⟩ = some (.slice Aa L.length ca) := ext_cell hb q9_8
   have b10 := Lib.hid (ext_trans b9.out hb)
   have t10 : w.heap.size ≤ w10.heap.size := b10.out.size
   have o10_s := Lib.hid (own_ext o9_s.out hb)
   have o10_b := Lib.hid (own_ext o9_b.out hb)
   have o10_a := Lib.hid (own_ext o9_a.out hb)
   have o10_m := Lib.hid (own_ext o9_m.out hb)
   have o10_k := Lib.hid (own_ext o9_k.out hb)
   clear q9_0 q9_1 q9_2 q9_3 q9_4 q9_5 q9_6 q9_7 q9_8
   clear hb
   go_upto_if 110 with fail
   go_cut [110] (fun s110 wx => Below w.heap.size w wx)
   case first => as_aux_lemma =>
    rcases ok with _ | _
    · go_wp2_with fail
      go_meet
      exact b10.out
    obtain ⟨hf1, ⟨z1, z2⟩, ⟨n1, n2⟩, hba, hbo, hpl⟩ := HLAW.out rfl
    obtain ⟨hs1, hs2, hs3⟩ := HSUM.out rfl
    have hq2 := HQ2.out
    rw [if_pos rfl] at hq2
    subst hq2
    have HN1 := Lib.hid (fun (w : World) h => nrOn_any u lo As l.length cs l w (by omega) h)
    rw [hf1, if_pos rfl] at HN1
    have HBK := Lib.hid (fun (w : World) h => implAddNumber_any U LO Ab L.length cb L z w (by omega) h)
    rw [hba, hbo] at HBK
    unfold RetFrB at HBK
    dsimp only at HBK
    have HD := Lib.hid (fun x (w : World) h0 h1 => vds_any x w h0 h1)
    have hd1 := dsZ_bounds 10 (numR l)
    have hd2 := dsZ_bounds 10 z
    have hd3 := dsZ_bounds 10 (numR l - z)
    obtain ⟨N, hN⟩ : ∃ x, numR l = x := ⟨_, rfl⟩
    rw [hN] at HN1 n1 n2 z2 hs1 hd1 hd3
    have HD1 := Lib.hid (fun (w : World) => HD.out N w (by omega) (by omega))
    have HD2 := Lib.hid (fun (w : World) => HD.out z w (by omega) (by omega))
    have HD3 := Lib.hid (fun (w : World) => HD.out (N - z) w (by omega) (by omega))
    obtain ⟨D1, hD1⟩ : ∃ x, dsZ 10 N = x := ⟨_, rfl⟩
    rw [hD1] at HD1 hs1 hd1
    obtain ⟨D2, hD2⟩ : ∃ x, dsZ 10 z = x := ⟨_, rfl⟩
    rw [hD2] at HD2 hs1 hd2
    obtain ⟨D3, hD3⟩ : ∃ x, dsZ 10 (N - z) = x := ⟨_, rfl⟩
    rw [hD3] at HD3 hs1 hd3
    have HP0 := Lib.hid hpl
    have k3 : (D1 - D2 + 9 * Q != D3) = false := by rw [hs1]; simp
    have HS1 := Lib.hid hs1
    clear hf1 hN hpl hba hbo hD1 hD2 hD3 HD hs1
    go_wp2_with fail
    refine (HBK.out _ (Reads.of_own o10_b.out)).mono ?_
    rintro e w11 ⟨Aq, cq, rfl, ho_q, hb⟩
    have s11 : w10.heap.size ≤ w11.heap.size := (by have := hb.size; (try simp at this); omega)
    have z11_0 : w2.heap.size < w11.heap.size := (by omega)
    have z11_1 : w3.heap.size < w11.heap.size := (by omega)
    have z11_2 : w4.heap.size < w11.heap.size := (by omega)
    have q11_0 : w11.cell? ⟨w2.heap.size, 0, none⟩ = some (.int .i64 u) := ext_cell hb q10_0
    have q11_1 : w11.cell? ⟨w2.heap.size, 1, none⟩ = some (.int .i64 lo) := ext_cell hb q10_1
    have q11_2 : w11.cell? ⟨w2.heap.size, 2, none⟩ = some (.slice As l.length cs) := ext_cell hb q10_2
    have q11_3 : w11.cell? ⟨w3.heap.size, 0, none⟩ = some (.int .i64 U) := ext_cell hb q10_3
    have q11_4 : w11.cell? ⟨w3.heap.size, 1, none⟩ = some (.int .i64 LO) := ext_cell hb q10_4
    have q11_5 : w11.cell? ⟨w3.heap.size, 2, none⟩ = some (.slice Ab L.length cb) := ext_cell hb q10_5
    have q11_6 : w11.cell? ⟨w4.heap.size, 0, none⟩ = some (.int .i64 U) := ext_cell hb q10_6
    have q11_7 : w11.cell? ⟨w4.heap.size, 1, none⟩ = some (.int .i64 LO) := ext_cell hb q10_7
    have q11_8 : w11.cell? ⟨w4.heap.size, 2, none⟩ = some (.slice Aa L.length ca) := ext_cell hb q10_8
    have b11 := Lib.hid (ext_trans b10.out hb)
    have t11 : w.heap.size ≤ w11.heap.size := b11.out.size
    have o11_s := Lib.hid (own_ext o10_s.out hb)
    have o11_b := Lib.hid (own_ext o10_b.out hb)
    have o11_a := Lib.hid (own_ext o10_a.out hb)
    have o11_m := Lib.hid (own_ext o10_m.out hb)
    have o11_k := Lib.hid (own_ext o10_k.out hb)
    clear q10_0 q10_1 q10_2 q10_3 q10_4 q10_5 q10_6 q10_7 q10_8
    have oc_q := Lib.hid (own_base (base' := w10.heap.size + 0) ho_q (by simp))
    clear ho_q
    clear hb
    go_wp2_with fail
    refine (vFrame_same u lo Aq As l.length cq cs l _ (by omega) (Reads.of_own (oc_q.out.alloc _)) (Reads.of_own (o11_s.out.alloc _))).mono ?_
    rintro e w12 ⟨rfl, hb⟩
    have s12 : w11.heap.size + 1 ≤ w12.heap.size := (by have := hb.size; (try simp at this); omega)
    have z12_0 : w2.heap.size < w12.heap.size := (by omega)
    have z12_1 : w3.heap.size < w12.heap.size := (by omega)
    have z12_2 : w4.heap.size < w12.heap.size := (by omega)
    have z12_3 : w11.heap.size < w12.heap.size := (by omega)
    have q12_0 : w12.cell? ⟨w2.heap.size, 0, none⟩ = some (.int .i64 u) := ext_cell hb (cell_old q11_0 _)
    have q12_1 : w12.cell? ⟨w2.heap.size, 1, none⟩ = some (.int .i64 lo) := ext_cell hb (cell_old q11_1 _)
    have q12_2 : w12.cell? ⟨w2.heap.size, 2, none⟩ = some (.slice As l.length cs) := ext_cell hb (cell_old q11_2 _)
    have q12_3 : w12.cell? ⟨w3.heap.size, 0, none⟩ = some (.int .i64 U) := ext_cell hb (cell_old q11_3 _)
    have q12_4 : w12.cell? ⟨w3.heap.size, 1, none⟩ = some (.int .i64 LO) := ext_cell hb (cell_old q11_4 _)
    have q12_5 : w12.cell? ⟨w3.heap.size, 2, none⟩ = some (.slice Ab L.length cb) := ext_cell hb (cell_old q11_5 _)
    have q12_6 : w12.cell? ⟨w4.heap.size, 0, none⟩ = some (.int .i64 U) := ext_cell hb (cell_old q11_6 _)
    have q12_7 : w12.cell? ⟨w4.heap.size, 1, none⟩ = some (.int .i64 LO) := ext_cell hb (cell_old q11_7 _)
    have q12_8 : w12.cell? ⟨w4.heap.size, 2, none⟩ = some (.slice Aa L.length ca) := ext_cell hb (cell_old q11_8 _)
    have q12_9 : w12.cell? ⟨w11.heap.size, 0, none⟩ = some (.int .i64 u) := ext_cell hb (by simp [go_sem])
    have q12_10 : w12.cell? ⟨w11.heap.size, 1, none⟩ = some (.int .i64 lo) := ext_cell hb (by simp [go_sem])
    have q12_11 : w12.cell? ⟨w11.heap.size, 2, none⟩ = some (.slice Aq l.length cq) := ext_cell hb (by simp [go_sem])
    have b12 := Lib.hid (ext_trans (ext_alloc b11.out _) hb)
    have t12 : w.heap.size ≤ w12.heap.size := b12.out.size
    have o12_s := Lib.hid (own_ext (o11_s.out.alloc _) hb)
    have o12_b := Lib.hid (own_ext (o11_b.out.alloc _) hb)
    have o12_a := Lib.hid (own_ext (o11_a.out.alloc _) hb)
    have o12_m := Lib.hid (own_ext (o11_m.out.alloc _) hb)
    have o12_k := Lib.hid (own_ext (o11_k.out.alloc _) hb)
    have o12_q := Lib.hid (own_ext (oc_q.out.alloc _) hb)
    clear q11_0 q11_1 q11_2 q11_3 q11_4 q11_5 q11_6 q11_7 q11_8
    clear hb
    go_upto_if 125 with fail
    go_cut [125] (fun s125 wx => Below w12.heap.size w12 wx)
    case first => as_aux_lemma =>
     rcases okm with _ | _
     · go_wp2_with fail
       go_meet
       exact ext_refl _
     obtain ⟨hpf, hpo⟩ := HP0.out rfl
     have HP := Lib.hid (fun (w : World) h hm => implPlayMoves_any u lo As l.length cs l Am nm cm ms w (by omega) (by omega) h hm)
     rw [hpf, hpo] at HP
     unfold RetFrB at HP
     dsimp only at HP
     clear hpf hpo
     have hbB := Lib.hid (ext_refl w12)
     go_wp2_with fail
     refine (HP.out _ (Reads.of_own o12_s.out) (Reads.of_own o12_m.out)).mono ?_
     rintro e w13 ⟨Ap, cp, rfl, ho_p, hb⟩
     have hbB := Lib.hid (ext_trans hbB.out hb)
     have s13 : w12.heap.size ≤ w13.heap.size := (by have := hb.size; (try simp at this); omega)
     have z13_0 : w2.heap.size < w13.heap.size := (by omega)
     have z13_1 : w3.heap.size < w13.heap.size := (by omega)
     have z13_2 : w4.heap.size < w13.heap.size := (by omega)
     have z13_3 : w11.heap.size < w13.heap.size := (by omega)
     have q13_0 : w13.cell? ⟨w2.heap.size, 0, none⟩ = some (.int .i64 u) := ext_cell hb q12_0
     have q13_1 : w13.cell? ⟨w2.heap.size, 1, none⟩ = some (.int .i64 lo) := ext_cell hb q12_1
     have q13_2 : w13.cell? ⟨w2.heap.size, 2, none⟩ = some (.slice As l.length cs) := ext_cell hb q12_2
     have q13_3 : w13.cell? ⟨w3.heap.size, 0, none⟩ = some (.int .i64 U) := ext_cell hb q12_3
     have q13_4 : w13.cell? ⟨w3.heap.size, 1, none⟩ = some (.int .i64 LO) := ext_cell hb q12_4
     have q13_5 : w13.cell? ⟨w3.heap.size, 2, none⟩ = some (.slice Ab L.length cb) := ext_cell hb q12_5
     have q13_6 : w13.cell? ⟨w4.heap.size, 0, none⟩ = some (.int .i64 U) := ext_cell hb q12_6
     have q13_7 : w13.cell? ⟨w4.heap.size, 1, none⟩ = some (.int .i64 LO) := ext_cell hb q12_7
     have q13_8 : w13.cell? ⟨w4.heap.size, 2, none⟩ = some (.slice Aa L.length ca) := ext_cell hb q12_8
     have q13_9 : w13.cell? ⟨w11.heap.size, 0, none⟩ = some (.int .i64 u) := ext_cell hb q12_9
     have q13_10 : w13.cell? ⟨w11.heap.size, 1, none⟩ = some (.int .i64 lo) := ext_cell hb q12_10
     have q13_11 : w13.cell? ⟨w11.heap.size, 2, none⟩ = some (.slice Aq l.length cq) := ext_cell hb q12_11
     have b13 := Lib.hid (ext_trans b12.out hb)
     have t13 : w.heap.size ≤ w13.heap.size := b13.out.size
     have o13_s := Lib.hid (own_ext o12_s.out hb)
     have o13_b := Lib.hid (own_ext o12_b.out hb)
     have o13_a := Lib.hid (own_ext o12_a.out hb)
     have o13_m := Lib.hid (own_ext o12_m.out hb)
     have o13_k := Lib.hid (own_ext o12_k.out hb)
     have o13_q := Lib.hid (own_ext o12_q.out hb)
     clear q12_0 q12_1 q12_2 q12_3 q12_4 q12_5 q12_6 q12_7 q12_8 q12_9 q12_10 q12_11
     have oc_p := Lib.hid (own_base (base' := w12.heap.size + 0) ho_p (by simp))
     clear ho_p
     clear hb
     go_wp2_with fail
     refine (vFrame_same U LO Ap Ab L.length cp cb L _ (by omega) (Reads.of_own (oc_p.out.alloc _)) (Reads.of_own (o13_b.out.alloc _))).mono ?_
     rintro e w14 ⟨rfl, hb⟩
     have hbB := Lib.hid (ext_trans (ext_alloc hbB.out _) hb)
     have s14 : w13.heap.size + 1 ≤ w14.heap.size := (by have := hb.size; (try simp at this); omega)
     have z14_0 : w2.heap.size < w14.heap.size := (by omega)
     have z14_1 : w3.heap.size < w14.heap.size := (by omega)
     have z14_2 : w4.heap.size < w14.heap.size := (by omega)
     have z14_3 : w11.heap.size < w14.heap.size := (by omega)
     have z14_4 : w13.heap.size < w14.heap.size := (by omega)
     have q14_0 : w14.cell? ⟨w2.heap.size, 0, none⟩ = some (.int .i64 u) := ext_cell hb (cell_old q13_0 _)
     have q14_1 : w14.cell? ⟨w2.heap.size, 1, none⟩ = some (.int .i64 lo) := ext_cell hb (cell_old q13_1 _)
     have q14_2 : w14.cell? ⟨w2.heap.size, 2, none⟩ = some (.slice As l.length cs) := ext_cell hb (cell_old q13_2 _)
     have q14_3 : w14.cell? ⟨w3.heap.size, 0, none⟩ = some (.int .i64 U) := ext_cell hb (cell_old q13_3 _)
     have q14_4 : w14.cell? ⟨w3.heap.size, 1, none⟩ = some (.int .i64 LO) := ext_cell hb (cell_old q13_4 _)
     have q14_5 : w14.cell? ⟨w3.heap.size, 2, none⟩ = some (.slice Ab L.length cb) := ext_cell hb (cell_old q13_5 _)
     have q14_6 : w14.cell? ⟨w4.heap.size, 0, none⟩ = some (.int .i64 U) := ext_cell hb (cell_old q13_6 _)
     have q14_7 : w14.cell? ⟨w4.heap.size, 1, none⟩ = some (.int .i64 LO) := ext_cell hb (cell_old q13_7 _)
     have q14_8 : w14.cell? ⟨w4.heap.size, 2, none⟩ = some (.slice Aa L.length ca) := ext_cell hb (cell_old q13_8 _)
     have q14_9 : w14.cell? ⟨w11.heap.size, 0, none⟩ = some (.int .i64 u) := ext_cell hb (cell_old q13_9 _)
     have q14_10 : w14.cell? ⟨w11.heap.size, 1, none⟩ = some (.int .i64 lo) := ext_cell hb (cell_old q13_10 _)
     have q14_11 : w14.cell? ⟨w11.heap.size, 2, none⟩ = some (.slice Aq l.length cq) := ext_cell hb (cell_old q13_11 _)
     have q14_12 : w14.cell? ⟨w13.heap.size, 0, none⟩ = some (.int .i64 U) := ext_cell hb (by simp [go_sem])
     have q14_13 : w14.cell? ⟨w13.heap.size, 1, none⟩ = some (.int .i64 LO) := ext_cell hb (by simp [go_sem])
     have q14_14 : w14.cell? ⟨w13.heap.size, 2, none⟩ = some (.slice Ap L.length cp) := ext_cell hb (by simp [go_sem])
     have b14 := Lib.hid (ext_trans (ext_alloc b13.out _) hb)
     have t14 : w.heap.size ≤ w14.heap.size := b14.out.size
     have o14_s := Lib.hid (own_ext (o13_s.out.alloc _) hb)
     have o14_b := Lib.hid (own_ext (o13_b.out.alloc _) hb)
     have o14_a := Lib.hid (own_ext (o13_a.out.alloc _) hb)
     have o14_m := Lib.hid (own_ext (o13_m.out.alloc _) hb)
     have o14_k := Lib.hid (own_ext (o13_k.out.alloc _) hb)
     have o14_q := Lib.hid (own_ext (o13_q.out.alloc _) hb)
     have o14_p := Lib.hid (own_ext (oc_p.out.alloc _) hb)
     clear q13_0 q13_1 q13_2 q13_3 q13_4 q13_5 q13_6 q13_7 q13_8 q13_9 q13_10 q13_11
     clear hb
     go_wp2_with fail
     go_meet
     exact hbB.out
    case rest =>
     have hb := hcut
     obtain ⟨w13, hw13⟩ : ∃ x : World, x = wc := ⟨_, rfl⟩
     subst hw13
     have s13 : w12.heap.size ≤ w13.heap.size := (by have := hb.size; (try simp at this); omega)
     have z13_0 : w2.heap.size < w13.heap.size := (by omega)
     have z13_1 : w3.heap.size < w13.heap.size := (by omega)
     have z13_2 : w4.heap.size < w13.heap.size := (by omega)
     have z13_3 : w11.heap.size < w13.heap.size := (by omega)
     have q13_0 : w13.cell? ⟨w2.heap.size, 0, none⟩ = some (.int .i64 u) := ext_cell hb q12_0
     have q13_1 : w13.cell? ⟨w2.heap.size, 1, none⟩ = some (.int .i64 lo) := ext_cell hb q12_1
     have q13_2 : w13.cell? ⟨w2.heap.size, 2, none⟩ = some (.slice As l.length cs) := ext_cell hb q12_2
     have q13_3 : w13.cell? ⟨w3.heap.size, 0, none⟩ = some (.int .i64 U) := ext_cell hb q12_3
     have q13_4 : w13.cell? ⟨w3.heap.size, 1, none⟩ = some (.int .i64 LO) := ext_cell hb q12_4
     have q13_5 : w13.cell? ⟨w3.heap.size, 2, none⟩ = some (.slice Ab L.length cb) := ext_cell hb q12_5
     have q13_6 : w13.cell? ⟨w4.heap.size, 0, none⟩ = some (.int .i64 U) := ext_cell hb q12_6
     have q13_7 : w13.cell? ⟨w4.heap.size, 1, none⟩ = some (.int .i64 LO) := ext_cell hb q12_7
     have q13_8 : w13.cell? ⟨w4.heap.size, 2, none⟩ = some (.slice Aa L.length ca) := ext_cell hb q12_8
     have q13_9 : w13.cell? ⟨w11.heap.size, 0, none⟩ = some (.int .i64 u) := ext_cell hb q12_9
     have q13_10 : w13.cell? ⟨w11.heap.size, 1, none⟩ = some (.int .i64 lo) := ext_cell hb q12_10
     have q13_11 : w13.cell? ⟨w11.heap.size, 2, none⟩ = some (.slice Aq l.length cq) := ext_cell hb q12_11
     have b13 := Lib.hid (ext_trans b12.out hb)
     have t13 : w.heap.size ≤ w13.heap.size := b13.out.size
     have o13_s := Lib.hid (own_ext o12_s.out hb)
     have o13_b := Lib.hid (own_ext o12_b.out hb)
     have o13_a := Lib.hid (own_ext o12_a.out hb)
     have o13_m := Lib.hid (own_ext o12_m.out hb)
     have o13_k := Lib.hid (own_ext o12_k.out hb)
     have o13_q := Lib.hid (own_ext o12_q.out hb)
     clear q12_0 q12_1 q12_2 q12_3 q12_4 q12_5 q12_6 q12_7 q12_8 q12_9 q12_10 q12_11
     clear hb hcut
     go_wp2_with fail
     refine (HN1.out _ (Reads.of_own o13_s.out)).mono ?_
     rintro e w14 ⟨rfl, hb⟩
     have s14 : w13.heap.size ≤ w14.heap.size := (by have := hb.size; (try simp at this); omega)
     have z14_0 : w2.heap.size < w14.heap.size := (by omega)
     have z14_1 : w3.heap.size < w14.heap.size := (by omega)
     have z14_2 : w4.heap.size < w14.heap.size := (by omega)
     have z14_3 : w11.heap.size < w14.heap.size := (by omega)
     have q14_0 : w14.cell? ⟨w2.heap.size, 0, none⟩ = some (.int .i64 u) := ext_cell hb q13_0
     have q14_1 : w14.cell? ⟨w2.heap.size, 1, none⟩ = some (.int .i64 lo) := ext_cell hb q13_1
     have q14_2 : w14.cell? ⟨w2.heap.size, 2, none⟩ = some (.slice As l.length cs) := ext_cell hb q13_2
     have q14_3 : w14.cell? ⟨w3.heap.size, 0, none⟩ = some (.int .i64 U) := ext_cell hb q13_3
     have q14_4 : w14.cell? ⟨w3.heap.size, 1, none⟩ = some (.int .i64 LO) := ext_cell hb q13_4
     have q14_5 : w14.cell? ⟨w3.heap.size, 2, none⟩ = some (.slice Ab L.length cb) := ext_cell hb q13_5
     have q14_6 : w14.cell? ⟨w4.heap.size, 0, none⟩ = some (.int .i64 U) := ext_cell hb q13_6
     have q14_7 : w14.cell? ⟨w4.heap.size, 1, none⟩ = some (.int .i64 LO) := ext_cell hb q13_7
     have q14_8 : w14.cell? ⟨w4.heap.size, 2, none⟩ = some (.slice Aa L.length ca) := ext_cell hb q13_8
     have q14_9 : w14.cell? ⟨w11.heap.size, 0, none⟩ = some (.int .i64 u) := ext_cell hb q13_9
     have q14_10 : w14.cell? ⟨w11.heap.size, 1, none⟩ = some (.int .i64 lo) := ext_cell hb q13_10
     have q14_11 : w14.cell? ⟨w11.heap.size, 2, none⟩ = some (.slice Aq l.length cq) := ext_cell hb q13_11
     have b14 := Lib.hid (ext_trans b13.out hb)
     have t14 : w.heap.size ≤ w14.heap.size := b14.out.size
     have o14_s := Lib.hid (own_ext o13_s.out hb)
     have o14_b := Lib.hid (own_ext o13_b.out hb)
     have o14_a := Lib.hid (own_ext o13_a.out hb)
     have o14_m := Lib.hid (own_ext o13_m.out hb)
     have o14_k := Lib.hid (own_ext o13_k.out hb)
     have o14_q := Lib.hid (own_ext o13_q.out hb)
     clear q13_0 q13_1 q13_2 q13_3 q13_4 q13_5 q13_6 q13_7 q13_8 q13_9 q13_10 q13_11
     clear hb
     go_wp2_with fail
     refine (HD1.out _).mono ?_
     rintro e wz ⟨rfl, rfl⟩
     go_wp2_with fail
     refine (HD2.out _).mono ?_
     rintro e wz ⟨rfl, rfl⟩
     go_wp2_with fail
     refine (HD3.out _).mono ?_
     rintro e wz ⟨rfl, rfl⟩
     go_wp2_with fail
     go_meet
     exact b14.out
   case rest => as_aux_lemma =>
    obtain ⟨w15, hw15⟩ : ∃ x : World, x = wc := ⟨_, rfl⟩
    subst hw15
    have b15 := Lib.hid hcut
    have t15 : w.heap.size ≤ w15.heap.size := hcut.size
    clear hcut
    clear HLAW HSUM HQ2 HNM HA HB HMA HMB HQA HQB k1 k2 k4 hl9 hLn hMn
    go_wp2_with fail
    refine (drawTakeDigit_any A n c _ ((H.out.below b15.out).more b15.out.size) hn).mono ?_
    rintro e w16 ⟨u2, lo2, l2, Ax, cx, r, d, rfl, hIN, r0, r9, d0, d9, ho_x, hb⟩
    have s16 : w15.heap.size ≤ w16.heap.size := (by have := hb.size; (try simp at this); omega)
    have b16 := Lib.hid (ext_trans b15.out hb)
    have t16 : w.heap.size ≤ w16.heap.size := b16.out.size
    clear hb
    have oc_x := Lib.hid (own_base (base' := w15.heap.size + 0) ho_x (by simp))
    clear ho_x
    have hl9 : l2.length ≤ 9 := hIN.2.2.2.2.2.1
    clear hIN
    have HB := Lib.hid (fun (w : World) h => implTakeDigit_any u2 lo2 Ax l2.length cx l2 r d w (by omega) h)
    have HA := Lib.hid (fun (w : World) h => specTakeDigit_any u2 lo2 Ax l2.length cx l2 r d w (by omega) h)
    have HMB := Lib.hid (fun (w : World) h => implTakeDigitMoves_any u2 lo2 Ax l2.length cx l2 r d w (by omega) h)
    have HMA := Lib.hid (fun (w : World) h => specTakeDigitMoves_any u2 lo2 Ax l2.length cx l2 r d w (by omega) h)
    have hlaw := fatDLaw u2 lo2 l2 r d
    have hLn := takeDF_len u2 lo2 l2 r d
    have hMn := takeDms_len u2 lo2 l2 r d
    obtain ⟨R, hR⟩ : ∃ x, takeDF u2 lo2 l2 r d = x := ⟨_, rfl⟩
    rw [hR] at HA HB hlaw hLn
    obtain ⟨ok, hok⟩ : ∃ x, takeDigitB u2 lo2 l2 r d = x := ⟨_, rfl⟩
    rw [hok] at HA HB HMA HMB hlaw
    obtain ⟨ms, hms⟩ : ∃ x, takeDms u2 lo2 l2 r d = x := ⟨_, rfl⟩
    rw [hms] at HMA HMB hMn
    obtain ⟨U, LO, L⟩ := R
    unfold RetFrB at HA HB
    unfold RetMv RetSliceB at HMA HMB
    dsimp only at HA HB hLn hlaw
    obtain ⟨nm, hnm⟩ : ∃ x, ms.length = x := ⟨_, rfl⟩
    rw [hnm] at HMA HMB hMn
    have HNM := Lib.hid hnm
    have HLAW := Lib.hid hlaw
    have k1 : (ok != ok) = false := by cases ok <;> rfl
    clear hR hok hms hlaw hnm
    go_wp2_with fail
    refine (HB.out _ (Reads.of_own (oc_x.out.alloc _))).mono ?_
    rintro e w17 ⟨Ab, cb, rfl, ho_b, hb⟩
    have s17 : w16.heap.size + 1 ≤ w17.heap.size := (by have := hb.size; (try simp at this); omega)
    have z17_0 : w16.heap.size < w17.heap.size := (by omega)
    have q17_0 : w17.cell? ⟨w16.heap.size, 0, none⟩ = some (.int .i64 u2) := ext_cell hb (by simp [go_sem])
    have q17_1 : w17.cell? ⟨w16.heap.size, 1, none⟩ = some (.int .i64 lo2) := ext_cell hb (by simp [go_sem])
    have q17_2 : w17.cell? ⟨w16.heap.size, 2, none⟩ = some (.slice Ax l2.length cx) := ext_cell hb (by simp [go_sem])
    have b17 := Lib.hid (ext_trans (ext_alloc b16.out _) hb)
    have t17 : w.heap.size ≤ w17.heap.size := b17.out.size
    have o17_x := Lib.hid (own_ext (oc_x.out.alloc _) hb)
    have oc_b := Lib.hid (own_base (base' := w16.heap.size + 1) ho_b (by simp))
    clear ho_b
    clear hb
    go_wp2_with fail
    refine (HA.out _ (Reads.of_own (o17_x.out.alloc _))).mono ?_
    rintro e w18 ⟨Aa, ca, rfl, ho_a, hb⟩
    have s18 : w17.heap.size + 1 ≤ w18.heap.size := (by have := hb.size; (try simp at this); omega)
    have z18_0 : w16.heap.size < w18.heap.size := (by omega)
    have z18_1 : w17.heap.size < w18.heap.size := (by omega)
    have q18_0 : w18.cell? ⟨w16.heap.size, 0, none⟩ = some (.int .i64 u2) := ext_cell hb (cell_old q17_0 _)
    have q18_1 : w18.cell? ⟨w16.heap.size, 1, none⟩ = some (.int .i64 lo2) := ext_cell hb (cell_old q17_1 _)
    have q18_2 : w18.cell? ⟨w16.heap.size, 2, none⟩ = some (.slice Ax l2.length cx) := ext_cell hb (cell_old q17_2 _)
    have q18_3 : w18.cell? ⟨w17.heap.size, 0, none⟩ = some (.int .i64 U) := ext_cell hb (by simp [go_sem])
    have q18_4 : w18.cell? ⟨w17.heap.size, 1, none⟩ = some (.int .i64 LO) := ext_cell hb (by simp [go_sem])
    have q18_5 : w18.cell? ⟨w17.heap.size, 2, none⟩ = some (.slice Ab L.length cb) := ext_cell hb (by simp [go_sem])
    have b18 := Lib.hid (ext_trans (ext_alloc b17.out _) hb)
    have t18 : w.heap.size ≤ w18.heap.size := b18.out.size
    have o18_x := Lib.hid (own_ext (o17_x.out.alloc _) hb)
    have o18_b := Lib.hid (own_ext (oc_b.out.alloc _) hb)
    clear q17_0 q17_1 q17_2
    have oc_a := Lib.hid (own_base (base' := w17.heap.size + 1) ho_a (by simp))
    clear ho_a
    clear hb
    go_wp2_with fail
    refine (vFrame_same U LO Ab Aa L.length cb ca L _ (by omega) (Reads.of_own (o18_b.out.alloc _)) (Reads.of_own (oc_a.out.alloc _))).mono ?_
    rintro e w19 ⟨rfl, hb⟩
    have s19 : w18.heap.size + 1 ≤ w19.heap.size := (by have := hb.size; (try simp at this); omega)
    have z19_0 : w16.heap.size < w19.heap.size := (by omega)
    have z19_1 : w17.heap.size < w19.heap.size := (by omega)
    have z19_2 : w18.heap.size < w19.heap.size := (by omega)
    have q19_0 : w19.cell? ⟨w16.heap.size, 0, none⟩ = some (.int .i64 u2) := ext_cell hb (cell_old q18_0 _)
    have q19_1 : w19.cell? ⟨w16.heap.size, 1, none⟩ = some (.int .i64 lo2) := ext_cell hb (cell_old q18_1 _)
    have q19_2 : w19.cell? ⟨w16.heap.size, 2, none⟩ = some (.slice Ax l2.length cx) := ext_cell hb (cell_old q18_2 _)
    have q19_3 : w19.cell? ⟨w17.heap.size, 0, none⟩ = some (.int .i64 U) := ext_cell hb (cell_old q18_3 _)
    have q19_4 : w19.cell? ⟨w17.heap.size, 1, none⟩ = some (.int .i64 LO) := ext_cell hb (cell_old q18_4 _)
    have q19_5 : w19.cell? ⟨w17.heap.size, 2, none⟩ = some (.slice Ab L.length cb) := ext_cell hb (cell_old q18_5 _)
    have q19_6 : w19.cell? ⟨w18.heap.size, 0, none⟩ = some (.int .i64 U) := ext_cell hb (by simp [go_sem])
    have q19_7 : w19.cell? ⟨w18.heap.size, 1, none⟩ = some (.int .i64 LO) := ext_cell hb (by simp [go_sem])
    have q19_8 : w19.cell? ⟨w18.heap.size, 2, none⟩ = some (.slice Aa L.length ca) := ext_cell hb (by simp [go_sem])
    have b19 := Lib.hid (ext_trans (ext_alloc b18.out _) hb)
    have t19 : w.heap.size ≤ w19.heap.size := b19.out.size
    have o19_x := Lib.hid (own_ext (o18_x.out.alloc _) hb)
    have o19_b := Lib.hid (own_ext (o18_b.out.alloc _) hb)
    have o19_a := Lib.hid (own_ext (oc_a.out.alloc _) hb)
    clear q18_0 q18_1 q18_2 q18_3 q18_4 q18_5
    clear hb
    go_wp2_with fail
    refine (HMB.out _ (Reads.of_own o19_x.out)).mono ?_
    rintro e w20 ⟨Am, cm, rfl, ho_m, hb⟩
    have s20 : w19.heap.size ≤ w20.heap.size := (by have := hb.size; (try simp at this); omega)
    have z20_0 : w16.heap.size < w20.heap.size := (by omega)
    have z20_1 : w17.heap.size < w20.heap.size := (by omega)
    have z20_2 : w18.heap.size < w20.heap.size := (by omega)
    have q20_0 : w20.cell? ⟨w16.heap.size, 0, none⟩ = some (.int .i64 u2) := ext_cell hb q19_0
    have q20_1 : w20.cell? ⟨w16.heap.size, 1, none⟩ = some (.int .i64 lo2) := ext_cell hb q19_1
    have q20_2 : w20.cell? ⟨w16.heap.size, 2, none⟩ = some (.slice Ax l2.length cx) := ext_cell hb q19_2
    have q20_3 : w20.cell? ⟨w17.heap.size, 0, none⟩ = some (.int .i64 U) := ext_cell hb q19_3
    have q20_4 : w20.cell? ⟨w17.heap.size, 1, none⟩ = some (.int .i64 LO) := ext_cell hb q19_4
    have q20_5 : w20.cell? ⟨w17.heap.size, 2, none⟩ = some (.slice Ab L.length cb) := ext_cell hb q19_5
    have q20_6 : w20.cell? ⟨w18.heap.size, 0, none⟩ = some (.int .i64 U) := ext_cell hb q19_6
    have q20_7 : w20.cell? ⟨w18.heap.size, 1, none⟩ = some (.int .i64 LO) := ext_cell hb q19_7
    have q20_8 : w20.cell? ⟨w18.heap.size, 2, none⟩ = some (.slice Aa L.length ca) := ext_cell hb q19_8
    have b20 := Lib.hid (ext_trans b19.out hb)
    have t20 : w.heap.size ≤ w20.heap.size := b20.out.size
    have o20_x := Lib.hid (own_ext o19_x.out hb)
    have o20_b := Lib.hid (own_ext o19_b.out hb)
    have o20_a := Lib.hid (own_ext o19_a.out hb)
    clear q19_0 q19_1 q19_2 q19_3 q19_4 q19_5 q19_6 q19_7 q19_8
    have oc_m := Lib.hid (own_base (base' := w19.heap.size + 0) ho_m (by simp))
    clear ho_m
    clear hb
    go_wp2_with fail
    refine (HMA.out _ (Reads.of_own o20_x.out)).mono ?_
    rintro e w21 ⟨Ak, ck, rfl, ho_k, hb⟩
    have s21 : w20.heap.size ≤ w21.heap.size := (by have := hb.size; (try simp at this); omega)
    have z21_0 : w16.heap.size < w21.heap.size := (by omega)
    have z21_1 : w17.heap.size < w21.heap.size := (by omega)
    have z21_2 : w18.heap.size < w21.heap.size := (by omega)
    have q21_0 : w21.cell? ⟨w16.heap.size, 0, none⟩ = some (.int .i64 u2) := ext_cell hb q20_0
    have q21_1 : w21.cell? ⟨w16.heap.size, 1, none⟩ = some (.int .i64 lo2) := ext_cell hb q20_1
    have q21_2 : w21.cell? ⟨w16.heap.size, 2, none⟩ = some (.slice Ax l2.length cx) := ext_cell hb q20_2
    have q21_3 : w21.cell? ⟨w17.heap.size, 0, none⟩ = some (.int .i64 U) := ext_cell hb q20_3
    have q21_4 : w21.cell? ⟨w17.heap.size, 1, none⟩ = some (.int .i64 LO) := ext_cell hb q20_4
    have q21_5 : w21.cell? ⟨w17.heap.size, 2, none⟩ = some (.slice Ab L.length cb) := ext_cell hb q20_5
    have q21_6 : w21.cell? ⟨w18.heap.size, 0, none⟩ = some (.int .i64 U) := ext_cell hb q20_6
    have q21_7 : w21.cell? ⟨w18.heap.size, 1, none⟩ = some (.int .i64 LO) := ext_cell hb q20_7
    have q21_8 : w21.cell? ⟨w18.heap.size, 2, none⟩ = some (.slice Aa L.length ca) := ext_cell hb q20_8
    have b21 := Lib.hid (ext_trans b20.out hb)
    have t21 : w.heap.size ≤ w21.heap.size := b21.out.size
    have o21_x := Lib.hid (own_ext o20_x.out hb)
    have o21_b := Lib.hid (own_ext o20_b.out hb)
    have o21_a := Lib.hid (own_ext o20_a.out hb)
    have o21_m := Lib.hid (own_ext oc_m.out hb)
    clear q20_0 q20_1 q20_2 q20_3 q20_4 q20_5 q20_6 q20_7 q20_8
    have oc_k := Lib.hid (own_base (base' := w20.heap.size + 0) ho_k (by simp))
    clear ho_k
    clear hb
    go_wp2_with fail
    refine (vMoves_same Am Ak nm cm ck ms _ (by omega) (Reads.of_own o21_m.out) (Reads.of_own oc_k.out)).mono ?_
    rintro e w22 ⟨rfl, hb⟩
    have s22 : w21.heap.size ≤ w22.heap.size := (by have := hb.size; (try simp at this); omega)
    have z22_0 : w16.heap.size < w22.heap.size := (by omega)
    have z22_1 : w17.heap.size < w22.heap.size := (by omega)
    have z22_2 : w18.heap.size < w22.heap.size := (by omega)
    have q22_0 : w22.cell? ⟨w16.heap.size, 0, none⟩ = some (.int .i64 u2) := ext_cell hb q21_0
    have q22_1 : w22.cell? ⟨w16.heap.size, 1, none⟩ = some (.int .i64 lo2) := ext_cell hb q21_1
    have q22_2 : w22.cell? ⟨w16.heap.size, 2, none⟩ = some (.slice Ax l2.length cx) := ext_cell hb q21_2
    have q22_3 : w22.cell? ⟨w17.heap.size, 0, none⟩ = some (.int .i64 U) := ext_cell hb q21_3
    have q22_4 : w22.cell? ⟨w17.heap.size, 1, none⟩ = some (.int .i64 LO) := ext_cell hb q21_4
    have q22_5 : w22.cell? ⟨w17.heap.size, 2, none⟩ = some (.slice Ab L.length cb) := ext_cell hb q21_5
    have q22_6 : w22.cell? ⟨w18.heap.size, 0, none⟩ = some (.int .i64 U) := ext_cell hb q21_6
    have q22_7 : w22.cell? ⟨w18.heap.size, 1, none⟩ = some (.int .i64 LO) := ext_cell hb q21_7
    have q22_8 : w22.cell? ⟨w18.heap.size, 2, none⟩ = some (.slice Aa L.length ca) := ext_cell hb q21_8
    have b22 := Lib.hid (ext_trans b21.out hb)
    have t22 : w.heap.size ≤ w22.heap.size := b22.out.size
    have o22_x := Lib.hid (own_ext o21_x.out hb)
    have o22_b := Lib.hid (own_ext o21_b.out hb)
    have o22_a := Lib.hid (own_ext o21_a.out hb)
    have o22_m := Lib.hid (own_ext o21_m.out hb)
    have o22_k := Lib.hid (own_ext oc_k.out hb)
    clear q21_0 q21_1 q21_2 q21_3 q21_4 q21_5 q21_6 q21_7 q21_8
    clear hb
    rcases ok with _ | _
    · go_wp2
      go_ret
      exact ⟨rfl, b22.out⟩
    obtain ⟨hba, hbo⟩ := HLAW.out rfl
    have HP := Lib.hid (fun (w : World) h => implAddDigit_any U LO Ab L.length cb L r d w (by omega) h)
    rw [hba, hbo] at HP
    unfold RetFrB at HP
    dsimp only at HP
    clear hba hbo
    go_wp2_with fail
    refine (HP.out _ (Reads.of_own o22_b.out)).mono ?_
    rintro e w23 ⟨Ap, cp, rfl, ho_p, hb⟩
    have s23 : w22.heap.size ≤ w23.heap.size := (by have := hb.size; (try simp at this); omega)
    have z23_0 : w16.heap.size < w23.heap.size := (by omega)
    have z23_1 : w17.heap.size < w23.heap.size := (by omega)
    have z23_2 : w18.heap.size < w23.heap.size := (by omega)
    have q23_0 : w23.cell? ⟨w16.heap.size, 0, none⟩ = some (.int .i64 u2) := ext_cell hb q22_0
    have q23_1 : w23.cell? ⟨w16.heap.size, 1, none⟩ = some (.int .i64 lo2) := ext_cell hb q22_1
    have q23_2 : w23.cell? ⟨w16.heap.size, 2, none⟩ = some (.slice Ax l2.length cx) := ext_cell hb q22_2
    have q23_3 : w23.cell? ⟨w17.heap.size, 0, none⟩ = some (.int .i64 U) := ext_cell hb q22_3
    have q23_4 : w23.cell? ⟨w17.heap.size, 1, none⟩ = some (.int .i64 LO) := ext_cell hb q22_4
    have q23_5 : w23.cell? ⟨w17.heap.size, 2, none⟩ = some (.slice Ab L.length cb) := ext_cell hb q22_5
    have q23_6 : w23.cell? ⟨w18.heap.size, 0, none⟩ = some (.int .i64 U) := ext_cell hb q22_6
    have q23_7 : w23.cell? ⟨w18.heap.size, 1, none⟩ = some (.int .i64 LO) := ext_cell hb q22_7
    have q23_8 : w23.cell? ⟨w18.heap.size, 2, none⟩ = some (.slice Aa L.length ca) := ext_cell hb q22_8
    have b23 := Lib.hid (ext_trans b22.out hb)
    have t23 : w.heap.size ≤ w23.heap.size := b23.out.size
    have o23_x := Lib.hid (own_ext o22_x.out hb)
    have o23_b := Lib.hid (own_ext o22_b.out hb)
    have o23_a := Lib.hid (own_ext o22_a.out hb)
    have o23_m := Lib.hid (own_ext o22_m.out hb)
    have o23_k := Lib.hid (own_ext o22_k.out hb)
    clear q22_0 q22_1 q22_2 q22_3 q22_4 q22_5 q22_6 q22_7 q22_8
    have oc_p := Lib.hid (own_base (base' := w22.heap.size + 0) ho_p (by simp))
    clear ho_p
    clear hb
    go_wp2_with fail
    refine (vFrame_same u2 lo2 Ap Ax l2.length cp cx l2 _ (by omega) (Reads.of_own (oc_p.out.alloc _)) (Reads.of_own (o23_x.out.alloc _))).mono ?_
    rintro e w24 ⟨rfl, hb⟩
    have s24 : w23.heap.size + 1 ≤ w24.heap.size := (by have := hb.size; (try simp at this); omega)
    have z24_0 : w16.heap.size < w24.heap.size := (by omega)
    have z24_1 : w17.heap.size < w24.heap.size := (by omega)
    have z24_2 : w18.heap.size < w24.heap.size := (by omega)
    have z24_3 : w23.heap.size < w24.heap.size := (by omega)
    have q24_0 : w24.cell? ⟨w16.heap.size, 0, none⟩ = some (.int .i64 u2) := ext_cell hb (cell_old q23_0 _)
    have q24_1 : w24.cell? ⟨w16.heap.size, 1, none⟩ = some (.int .i64 lo2) := ext_cell hb (cell_old q23_1 _)
    have q24_2 : w24.cell? ⟨w16.heap.size, 2, none⟩ = some (.slice Ax l2.length cx) := ext_cell hb (cell_old q23_2 _)
    have q24_3 : w24.cell? ⟨w17.heap.size, 0, none⟩ = some (.int .i64 U) := ext_cell hb (cell_old q23_3 _)
    have q24_4 : w24.cell? ⟨w17.heap.size, 1, none⟩ = some (.int .i64 LO) := ext_cell hb (cell_old q23_4 _)
    have q24_5 : w24.cell? ⟨w17.heap.size, 2, none⟩ = some (.slice Ab L.length cb) := ext_cell hb (cell_old q23_5 _)
    have q24_6 : w24.cell? ⟨w18.heap.size, 0, none⟩ = some (.int .i64 U) := ext_cell hb (cell_old q23_6 _)
    have q24_7 : w24.cell? ⟨w18.heap.size, 1, none⟩ = some (.int .i64 LO) := ext_cell hb (cell_old q23_7 _)
    have q24_8 : w24.cell? ⟨w18.heap.size, 2, none⟩ = some (.slice Aa L.length ca) := ext_cell hb (cell_old q23_8 _)
    have q24_9 : w24.cell? ⟨w23.heap.size, 0, none⟩ = some (.int .i64 u2) := ext_cell hb (by simp [go_sem])
    have q24_10 : w24.cell? ⟨w23.heap.size, 1, none⟩ = some (.int .i64 lo2) := ext_cell hb (by simp [go_sem])
    have q24_11 : w24.cell? ⟨w23.heap.size, 2, none⟩ = some (.slice Ap l2.length cp) := ext_cell hb (by simp [go_sem])
    have b24 := Lib.hid (ext_trans (ext_alloc b23.out _) hb)
    have t24 : w.heap.size ≤ w24.heap.size := b24.out.size
    have o24_x := Lib.hid (own_ext (o23_x.out.alloc _) hb)
    have o24_b := Lib.hid (own_ext (o23_b.out.alloc _) hb)
    have o24_a := Lib.hid (own_ext (o23_a.out.alloc _) hb)
    have o24_m := Lib.hid (own_ext (o23_m.out.alloc _) hb)
    have o24_k := Lib.hid (own_ext (o23_k.out.alloc _) hb)
    have o24_p := Lib.hid (own_ext (oc_p.out.alloc _) hb)
    clear q23_0 q23_1 q23_2 q23_3 q23_4 q23_5 q23_6 q23_7 q23_8
    clear hb
    go_wp2
    go_ret
    exact ⟨rfl, b24.out⟩
end Go.Proofs.Ytajdmeajkgdioaa
