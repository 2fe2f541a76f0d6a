/- The law FnConsole, walked. -/
import Derived.IntWalk
import Derived.Test.YtclihlihaigddaaVDrwY
import Derived.Test.YtclihlihaigddaaVM3
import Derived.Test.YtclihlihaigddaaVM1
namespace Go.Proofs.Ytclihlihaigddaa
open Go.RowKit
set_option linter.unusedVariables false
set_option linter.unusedSimpArgs false
theorem log_of {D P Q : Int} {l : List R5} {d p : ByteArray} {z : Int} (h : conB D l P Q d p z = true) : logB d p z = true := by
 simp only [conB, Bool.and_eq_true] at h
 exact h.2
/-- what a command does to a console, as the law asks -/
theorem con_case {q : Sch4} {d p : ByteArray} {z : Int} {line : ByteArray} {D5 P5 Q5 : Int} {L5 : List R5} {P2 : ByteArray} {Z2 : Int} {tx : ByteArray} (hC : exC (q, d, p, z) line = ((D5, L5, P5, Q5), d, P2, Z2)) (ht : exR (q, d, p, z) line = tx) :
 ((D5, L5, P5, Q5) = q ∧ P2 = p ∧ Z2 = z ∧ (tx = ⟨#[110, 111]⟩ ∨ tx = ⟨#[98, 97, 100]⟩ ∨ tx = ⟨#[102, 117, 108, 108]⟩)) ∨
 (∃ (N : Nat) (Lr : List CR), z = N ∧ N ≤ 59 ∧ Z2 = (N : Int) + 1 ∧ Lr.length = N + 1 ∧ lrL d P2 ((N : Int) + 1) = Lr ∧ conB D5 L5 P5 Q5 d P2 ((N : Int) + 1) = true ∧ Lr[N]? = some (line, tx) ∧ P2 ≠ p) := by
 rcases ex_fact q d p z line with ⟨e, h⟩ | ⟨e, hk⟩
 · left
   rw [hC] at e
   injection e with e1 e2
   injection e2 with _ e3
   injection e3 with e3 e4
   rw [ht] at h
   exact ⟨e1, e3, e4, h⟩
 · right
   rw [hC] at e
   rw [ht] at e hk
   injection e with e1 e2
   injection e2 with _ e3
   injection e3 with e3 e4
   obtain ⟨_, hl⟩ := conQ_parts hk.old
   have hlen := lr_len hl
   have hr : lrL d (p ++ lineB z line tx) (z + 1) = lrL d p z ++ [(line, tx)] := hk.recs
   have hn : conB (afQ q (repO q line)).1 (afQ q (repO q line)).2.1 (afQ q (repO q line)).2.2.1 (afQ q (repO q line)).2.2.2 d (p ++ lineB z line tx) (z + 1) = true := hk.new
   have h60 := hk.z60
   rw [← e1, ← e3] at hn
   rw [← e3] at hr
   refine ⟨(lrL d p z).length, lrL d p z ++ [(line, tx)], hlen, by omega, by rw [e4]; omega, by simp, ?_, ?_, by simp, ?_⟩
   · rw [← hlen]; exact hr
   · rw [← hlen]; exact hn
   · intro h
     rw [h] at e3
     have h2 := congrArg ByteArray.size e3
     obtain ⟨kk, hkk⟩ := Int.eq_ofNat_of_zero_le hk.z0
     rw [ByteArray.size_append, hkk, lineB_len] at h2
     omega
set_option maxRecDepth 100000 in
set_option maxHeartbeats 8000000 in
theorem law_FnConsole (A : Option Addr) (n c : Nat) (w : World) (h : Code w w.heap.size A n) (hn63 : n ≤ maxLen) :
 Calls Try.prog 9 #[.slice A n c] w fun e w' => e = .returned (.bool true) ∧ Below w.heap.size w w' := by
 have HV := Lib.hid (fun w => vBig_any A n c w)
 by_cases hbig : (65536 : Int) < n
 · rw [decide_eq_true hbig] at HV
   go_enter Try.func9, Try.ntmps9
   go_wp2_with (go_at_call 37; refine (HV.out _).mono ?_; rintro e w' ⟨rfl, hb⟩)
   go_ret
   exact ⟨rfl, (by repeat (first | exact ext_refl _ | assumption | refine ext_alloc ?_ _ | refine ext_drew ?_ | refine ext_drewN ?_ _ | refine ext_set ?_ (by simp <;> omega) _ | refine ext_trans ?_ (by assumption)))⟩
 · rw [decide_eq_false hbig] at HV
   have hn : n ≤ 65536 := by omega
   have H := Lib.hid h
   clear h hbig hn63
   go_enter Try.func9, Try.ntmps9
   go_wp2_with fail
   refine (HV.out _).mono ?_
   rintro e w1 ⟨rfl, hb⟩
   have s1 : w.heap.size ≤ w1.heap.size := (by have := hb.size; (try simp at this); omega)
   have b1 := Lib.hid (ext_trans (ext_refl w) hb)
   have t1 : w.heap.size ≤ w1.heap.size := b1.out.size
   clear hb
   go_wp2_with fail
   refine (drawExec_any A n c _ ((H.out.below b1.out).more b1.out.size) hn).mono ?_
   rintro e w2 ⟨D, P, Q, l, As, cs, d, p, z, line, rfl, hl9, hdp, hline, ho_s, hb⟩
   have s2 : w1.heap.size ≤ w2.heap.size := (by have := hb.size; (try simp at this); omega)
   have b2 := Lib.hid (ext_trans b1.out hb)
   have t2 : w.heap.size ≤ w2.heap.size := b2.out.size
   clear hb
   have oc_s := Lib.hid (own_base (base' := w1.heap.size + 0) ho_s (by simp))
   clear ho_s
   have hP := exP_size (D, l, P, Q) d p z line
   have hT := exT_size (D, l, P, Q) d p z line
   have hQ := exQ_len (D, l, P, Q) d p z line
   have HEI := Lib.hid (fun (w : World) (A : Option Addr) (c : Nat) hA h => implEx_any D P Q d p z A l.length c l line w (by omega) (by omega) (by omega) (by omega) hA h)
   have HES := Lib.hid (fun (w : World) (A : Option Addr) (c : Nat) hA h => specEx_any D P Q d p z A l.length c l line w (by omega) (by omega) (by omega) (by omega) hA h)
   have HVI := Lib.hid (fun (w : World) (A : Option Addr) (c : Nat) h => implIsValidConsole_any D P Q d p z A l.length c l w (by omega) (by omega) (by omega) h)
   have HVS := Lib.hid (fun (w : World) (A : Option Addr) (c : Nat) h => specIsValidConsole_any D P Q d p z A l.length c l w (by omega) (by omega) (by omega) h)
   rcases hC : exC ((D, l, P, Q), d, p, z) line with ⟨⟨D5, L5, P5, Q5⟩, d5, P2, Z2⟩
   have hd5 : d5 = d := by have := congrArg (fun C : Con => C.2.1) hC; exact this.symm
   subst hd5
   obtain ⟨tx, htx⟩ : ∃ tx, exR ((D, l, P, Q), d5, p, z) line = tx := ⟨_, rfl⟩
   have hcase := con_case hC htx
   have hq1 : exQ (D, l, P, Q) d5 p z line = (D5, L5, P5, Q5) := congrArg (fun C : Con => C.1) hC
   have hq2 : exP (D, l, P, Q) d5 p z line = P2 := congrArg (fun C : Con => C.2.2.1) hC
   have hq3 : exZ (D, l, P, Q) d5 p z line = Z2 := congrArg (fun C : Con => C.2.2.2) hC
   have hq4 : exT (D, l, P, Q) d5 p z line = tx := htx
   rw [hq1, hq2, hq3, hq4] at HEI HES
   rw [hq1] at hQ
   rw [hq2] at hP
   rw [hq4] at hT
   have hQ : L5.length ≤ l.length ∨ L5.length ≤ 8 := hQ
   have hL5 : L5.length ≤ 9 := by omega
   have HVM := Lib.hid (fun (w : World) (A : Option Addr) (c : Nat) h => implIsValidConsole_any D5 P5 Q5 d5 P2 Z2 A L5.length c L5 w (by omega) (by omega) (by omega) h)
   have HLR := Lib.hid (fun (w : World) => implRecords_any d5 P2 Z2 w (by omega) (by omega))
   unfold RetSliceB at HLR
   obtain ⟨okc, hokc⟩ : ∃ okc, conB D l P Q d5 p z = okc := ⟨_, rfl⟩
   rw [hokc] at HVI HVS
   have HCS := Lib.hid hcase
   have hnt := ba_nyes (rfl : tx = tx)
   have hbn : (okc != okc) = false := by cases okc <;> rfl
   clear hC htx hcase hq1 hq2 hq3 hq4 hokc hQ
   have hsl := slOk_own oc_s.out
   go_wp2_with fail
   refine (HEI.out _ As cs hsl (Reads.of_own (oc_s.out.alloc _))).mono ?_
   rintro e w3 ⟨Am, cm, rfl, ho_m, hb⟩
   have s3 : w2.heap.size + 1 ≤ w3.heap.size := (by have := hb.size; (try simp at this); omega)
   have z3_0 : w2.heap.size < w3.heap.size := (by omega)
   have q3_0 : w3.cell? ⟨w2.heap.size, 0, none⟩ = some (.int .i64 D) := ext_cell hb (by simp [go_sem])
   have q3_1 : w3.cell? ⟨w2.heap.size, 1, none⟩ = some (.slice As l.length cs) := ext_cell hb (by simp [go_sem])
   have q3_2 : w3.cell? ⟨w2.heap.size, 2, none⟩ = some (.int .i64 P) := ext_cell hb (by simp [go_sem])
   have q3_3 : w3.cell? ⟨w2.heap.size, 3, none⟩ = some (.int .i64 Q) := ext_cell hb (by simp [go_sem])
   have q3_4 : w3.cell? ⟨w2.heap.size, 4, none⟩ = some (.string d5) := ext_cell hb (by simp [go_sem])
   have q3_5 : w3.cell? ⟨w2.heap.size, 5, none⟩ = some (.string p) := ext_cell hb (by simp [go_sem])
   have q3_6 : w3.cell? ⟨w2.heap.size, 6, none⟩ = some (.int .i64 z) := ext_cell hb (by simp [go_sem])
   have b3 := Lib.hid (ext_trans (ext_alloc b2.out _) hb)
   have t3 : w.heap.size ≤ w3.heap.size := b3.out.size
   have o3_s := Lib.hid (own_ext (oc_s.out.alloc _) hb)
   have oc_m := Lib.hid (own_base (base' := w2.heap.size + 1) ho_m (by simp))
   clear ho_m
   clear hb
   go_wp2_with fail
   refine (HES.out _ As cs hsl (Reads.of_own (o3_s.out.alloc _))).mono ?_
   rintro e w4 ⟨Ab, cb, rfl, ho_b, hb⟩
   have s4 : w3.heap.size + 1 ≤ w4.heap.size := (by have := hb.size; (try simp at this); omega)
   have z4_0 : w2.heap.size < w4.heap.size := (by omega)
   have z4_1 : w3.heap.size < w4.heap.size := (by omega)
   have q4_0 : w4.cell? ⟨w2.heap.size, 0, none⟩ = some (.int .i64 D) := ext_cell hb (cell_old q3_0 _)
   have q4_1 : w4.cell? ⟨w2.heap.size, 1, none⟩ = some (.slice As l.length cs) := ext_cell hb (cell_old q3_1 _)
   have q4_2 : w4.cell? ⟨w2.heap.size, 2, none⟩ = some (.int .i64 P) := ext_cell hb (cell_old q3_2 _)
   have q4_3 : w4.cell? ⟨w2.heap.size, 3, none⟩ = some (.int .i64 Q) := ext_cell hb (cell_old q3_3 _)
   have q4_4 : w4.cell? ⟨w2.heap.size, 4, none⟩ = some (.string d5) := ext_cell hb (cell_old q3_4 _)
   have q4_5 : w4.cell? ⟨w2.heap.size, 5, none⟩ = some (.string p) := ext_cell hb (cell_old q3_5 _)
   have q4_6 : w4.cell? ⟨w2.heap.size, 6, none⟩ = some (.int .i64 z) := ext_cell hb (cell_old q3_6 _)
   have q4_7 : w4.cell? ⟨w3.heap.size, 0, none⟩ = some (.int .i64 D5) := ext_cell hb (by simp [go_sem])
   have q4_8 : w4.cell? ⟨w3.heap.size, 1, none⟩ = some (.slice Am L5.length cm) := ext_cell hb (by simp [go_sem])
   have q4_9 : w4.cell? ⟨w3.heap.size, 2, none⟩ = some (.int .i64 P5) := ext_cell hb (by simp [go_sem])
   have q4_10 : w4.cell? ⟨w3.heap.size, 3, none⟩ = some (.int .i64 Q5) := ext_cell hb (by simp [go_sem])
   have q4_11 : w4.cell? ⟨w3.heap.size, 4, none⟩ = some (.string d5) := ext_cell hb (by simp [go_sem])
   have q4_12 : w4.cell? ⟨w3.heap.size, 5, none⟩ = some (.string P2) := ext_cell hb (by simp [go_sem])
   have q4_13 : w4.cell? ⟨w3.heap.size, 6, none⟩ = some (.int .i64 Z2) := ext_cell hb (by simp [go_sem])
   have b4 := Lib.hid (ext_trans (ext_alloc b3.out _) hb)
   have t4 : w.heap.size ≤ w4.heap.size := b4.out.size
   have o4_s := Lib.hid (own_ext (o3_s.out.alloc _) hb)
   have o4_m := Lib.hid (own_ext (oc_m.out.alloc _) hb)
   clear q3_0 q3_1 q3_2 q3_3 q3_4 q3_5 q3_6
   have oc_b := Lib.hid (own_base (base' := w3.heap.size + 1) ho_b (by simp))
   clear ho_b
   clear hb
   obtain ⟨w5, hw5⟩ : ∃ x : World, x = (w4.alloc (.cells #[.int .i64 D5, .slice Ab L5.length cb, .int .i64 P5, .int .i64 Q5, .string d5, .string P2, .int .i64 Z2] 28)) := ⟨_, rfl⟩
   have hb : Below (w4.alloc (.cells #[.int .i64 D5, .slice Ab L5.length cb, .int .i64 P5, .int .i64 Q5, .string d5, .string P2, .int .i64 Z2] 28)).heap.size (w4.alloc (.cells #[.int .i64 D5, .slice Ab L5.length cb, .int .i64 P5, .int .i64 Q5, .string d5, .string P2, .int .i64 Z2] 28)) w5 := by rw [hw5]; exact ext_refl _
   have s5 : w4.heap.size + 1 ≤ w5.heap.size := (by have := hb.size; (try simp at this); omega)
   have z5_0 : w2.heap.size < w5.heap.size := (by omega)
   have z5_1 : w3.heap.size < w5.heap.size := (by omega)
   have z5_2 : w4.heap.size < w5.heap.size := (by omega)
   have q5_0 : w5.cell? ⟨w2.heap.size, 0, none⟩ = some (.int .i64 D) := ext_cell hb (cell_old q4_0 _)
   have q5_1 : w5.cell? ⟨w2.heap.size, 1, none⟩ = some (.slice As l.length cs) := ext_cell hb (cell_old q4_1 _)
   have q5_2 : w5.cell? ⟨w2.heap.size, 2, none⟩ = some (.int .i64 P) := ext_cell hb (cell_old q4_2 _)
   have q5_3 : w5.cell? ⟨w2.heap.size, 3, none⟩ = some (.int .i64 Q) := ext_cell hb (cell_old q4_3 _)
   have q5_4 : w5.cell? ⟨w2.heap.size, 4, none⟩ = some (.string d5) := ext_cell hb (cell_old q4_4 _)
   have q5_5 : w5.cell? ⟨w2.heap.size, 5, none⟩ = some (.string p) := ext_cell hb (cell_old q4_5 _)
   have q5_6 : w5.cell? ⟨w2.heap.size, 6, none⟩ = some (.int .i64 z) := ext_cell hb (cell_old q4_6 _)
   have q5_7 : w5.cell? ⟨w3.heap.size, 0, none⟩ = some (.int .i64 D5) := ext_cell hb (cell_old q4_7 _)
   have q5_8 : w5.cell? ⟨w3.heap.size, 1, none⟩ = some (.slice Am L5.length cm) := ext_cell hb (cell_old q4_8 _)
   have q5_9 : w5.cell? ⟨w3.heap.size, 2, none⟩ = some (.int .i64 P5) := ext_cell hb (cell_old q4_9 _)
   have q5_10 : w5.cell? ⟨w3.heap.size, 3, none⟩ = some (.int .i64 Q5) := ext_cell hb (cell_old q4_10 _)
   have q5_11 : w5.cell? ⟨w3.heap.size, 4, none⟩ = some (.string d5) := ext_cell hb (cell_old q4_11 _)
   have q5_12 : w5.cell? ⟨w3.heap.size, 5, none⟩ = some (.string P2) := ext_cell hb (cell_old q4_12 _)
   have q5_13 : w5.cell? ⟨w3.heap.size, 6, none⟩ = some (.int .i64 Z2) := ext_cell hb (cell_old q4_13 _)
   have q5_14 : w5.cell? ⟨w4.heap.size, 0, none⟩ = some (.int .i64 D5) := ext_cell hb (by simp [go_sem])
   have q5_15 : w5.cell? ⟨w4.heap.size, 1, none⟩ = some (.slice Ab L5.length cb) := ext_cell hb (by simp [go_sem])
   have q5_16 : w5.cell? ⟨w4.heap.size, 2, none⟩ = some (.int .i64 P5) := ext_cell hb (by simp [go_sem])
   have q5_17 : w5.cell? ⟨w4.heap.size, 3, none⟩ = some (.int .i64 Q5) := ext_cell hb (by simp [go_sem])
   have q5_18 : w5.cell? ⟨w4.heap.size, 4, none⟩ = some (.string d5) := ext_cell hb (by simp [go_sem])
   have q5_19 : w5.cell? ⟨w4.heap.size, 5, none⟩ = some (.string P2) := ext_cell hb (by simp [go_sem])
   have q5_20 : w5.cell? ⟨w4.heap.size, 6, none⟩ = some (.int .i64 Z2) := ext_cell hb (by simp [go_sem])
   have b5 := Lib.hid (ext_trans (ext_alloc b4.out _) hb)
   have t5 : w.heap.size ≤ w5.heap.size := b5.out.size
   have o5_s := Lib.hid (own_ext (o4_s.out.alloc _) hb)
   have o5_m := Lib.hid (own_ext (o4_m.out.alloc _) hb)
   have o5_b := Lib.hid (own_ext (oc_b.out.alloc _) hb)
   clear q4_0 q4_1 q4_2 q4_3 q4_4 q4_5 q4_6 q4_7 q4_8 q4_9 q4_10 q4_11 q4_12 q4_13
   clear hb
   go_upto_region 6 with fail
   rw [← hw5]
   clear hw5
   have HV1 := Lib.hid (fun (m : Later w5) => vConsole_same D5 P5 Q5 d5 P2 Z2 Am Ab L5.length cm cb L5 m.world (by omega) (Reads.of_own (own_ext o5_m.out m.h)) (Reads.of_own (own_ext o5_b.out m.h)))
   have HV2 := Lib.hid (fun (m : Later w5) => HVI.out m.world As cs (Reads.of_own (own_ext o5_s.out m.h)))
   have HV3 := Lib.hid (fun (m : Later w5) => HVS.out m.world As cs (Reads.of_own (own_ext o5_s.out m.h)))
   (refine wp_region_later (by kernel_rfl) (by kernel_rfl) ?_; (repeat (go_big_quiet_step (first | (go_at_call 39; with_reducible exact Calls.later_of (HV1.out _)) | (go_at_call 23; with_reducible exact Calls.later_of (HV2.out _)) | (go_at_call 21; with_reducible exact Calls.later_of (HV3.out _))))); refine wpQuiet_nil ?_; intro w6 hw1; obtain ⟨⟨wl, hb⟩, hw1'⟩ := hw1; simp only at hw1'; subst hw1')
   have s6 : w5.heap.size ≤ w6.heap.size := (by have := hb.size; (try simp at this); omega)
   have z6_0 : w2.heap.size < w6.heap.size := (by omega)
   have z6_1 : w3.heap.size < w6.heap.size := (by omega)
   have z6_2 : w4.heap.size < w6.heap.size := (by omega)
   have q6_0 : w6.cell? ⟨w2.heap.size, 0, none⟩ = some (.int .i64 D) := ext_cell hb q5_0
   have q6_1 : w6.cell? ⟨w2.heap.size, 1, none⟩ = some (.slice As l.length cs) := ext_cell hb q5_1
   have q6_2 : w6.cell? ⟨w2.heap.size, 2, none⟩ = some (.int .i64 P) := ext_cell hb q5_2
   have q6_3 : w6.cell? ⟨w2.heap.size, 3, none⟩ = some (.int .i64 Q) := ext_cell hb q5_3
   have q6_4 : w6.cell? ⟨w2.heap.size, 4, none⟩ = some (.string d5) := ext_cell hb q5_4
   have q6_5 : w6.cell? ⟨w2.heap.size, 5, none⟩ = some (.string p) := ext_cell hb q5_5
   have q6_6 : w6.cell? ⟨w2.heap.size, 6, none⟩ = some (.int .i64 z) := ext_cell hb q5_6
   have q6_7 : w6.cell? ⟨w3.heap.size, 0, none⟩ = some (.int .i64 D5) := ext_cell hb q5_7
   have q6_8 : w6.cell? ⟨w3.heap.size, 1, none⟩ = some (.slice Am L5.length cm) := ext_cell hb q5_8
   have q6_9 : w6.cell? ⟨w3.heap.size, 2, none⟩ = some (.int .i64 P5) := ext_cell hb q5_9
   have q6_10 : w6.cell? ⟨w3.heap.size, 3, none⟩ = some (.int .i64 Q5) := ext_cell hb q5_10
   have q6_11 : w6.cell? ⟨w3.heap.size, 4, none⟩ = some (.string d5) := ext_cell hb q5_11
   have q6_12 : w6.cell? ⟨w3.heap.size, 5, none⟩ = some (.string P2) := ext_cell hb q5_12
   have q6_13 : w6.cell? ⟨w3.heap.size, 6, none⟩ = some (.int .i64 Z2) := ext_cell hb q5_13
   have q6_14 : w6.cell? ⟨w4.heap.size, 0, none⟩ = some (.int .i64 D5) := ext_cell hb q5_14
   have q6_15 : w6.cell? ⟨w4.heap.size, 1, none⟩ = some (.slice Ab L5.length cb) := ext_cell hb q5_15
   have q6_16 : w6.cell? ⟨w4.heap.size, 2, none⟩ = some (.int .i64 P5) := ext_cell hb q5_16
   have q6_17 : w6.cell? ⟨w4.heap.size, 3, none⟩ = some (.int .i64 Q5) := ext_cell hb q5_17
   have q6_18 : w6.cell? ⟨w4.heap.size, 4, none⟩ = some (.string d5) := ext_cell hb q5_18
   have q6_19 : w6.cell? ⟨w4.heap.size, 5, none⟩ = some (.string P2) := ext_cell hb q5_19
   have q6_20 : w6.cell? ⟨w4.heap.size, 6, none⟩ = some (.int .i64 Z2) := ext_cell hb q5_20
   have b6 := Lib.hid (ext_trans b5.out hb)
   have t6 : w.heap.size ≤ w6.heap.size := b6.out.size
   have o6_s := Lib.hid (own_ext o5_s.out hb)
   have o6_m := Lib.hid (own_ext o5_m.out hb)
   have o6_b := Lib.hid (own_ext o5_b.out hb)
   clear q5_0 q5_1 q5_2 q5_3 q5_4 q5_5 q5_6 q5_7 q5_8 q5_9 q5_10 q5_11 q5_12 q5_13 q5_14 q5_15 q5_16 q5_17 q5_18 q5_19 q5_20
   clear hb
   rcases HCS.out with ⟨hq, rfl, rfl, htx⟩ | ⟨N, Lr, rfl, hN, rfl, hLr, hlr, hcb, hLN, hPp⟩
   · injection hq with h1 h2
     injection h2 with h2 h3
     injection h3 with h3 h4
     subst h1 h2 h3 h4
     go_wp2_with fail
     refine (vConsole_same D5 P5 Q5 d5 P2 Z2 Am As L5.length cm cs L5 _ (by omega) (Reads.of_own o6_m.out) (Reads.of_own o6_s.out)).mono ?_
     rintro e w9 ⟨rfl, hb⟩
     have hbe := Lib.hid (ext_trans b6.out hb)
     clear hb
     rcases htx with rfl | rfl | rfl
     all_goals
      go_wp2
      go_ret
      exact ⟨rfl, hbe.out⟩
   · have hz1 : ¬ P2.toList = p.toList := by have := ba_no hPp; simpa using this
     clear hPp
     rw [hlr, hLr, show logB d5 P2 ((N : Int) + 1) = true from log_of hcb] at HLR
     rw [hcb] at HVM
     go_wp2_with fail
     refine (HLR.out _).mono ?_
     rintro e w7 ⟨Ar, cr, rfl, ho_r, hb⟩
     have s7 : w6.heap.size ≤ w7.heap.size := (by have := hb.size; (try simp at this); omega)
     have z7_0 : w2.heap.size < w7.heap.size := (by omega)
     have z7_1 : w3.heap.size < w7.heap.size := (by omega)
     have z7_2 : w4.heap.size < w7.heap.size := (by omega)
     have q7_0 : w7.cell? ⟨w2.heap.size, 0, none⟩ = some (.int .i64 D) := ext_cell hb q6_0
     have q7_1 : w7.cell? ⟨w2.heap.size, 1, none⟩ = some (.slice As l.length cs) := ext_cell hb q6_1
     have q7_2 : w7.cell? ⟨w2.heap.size, 2, none⟩ = some (.int .i64 P) := ext_cell hb q6_2
     have q7_3 : w7.cell? ⟨w2.heap.size, 3, none⟩ = some (.int .i64 Q) := ext_cell hb q6_3
     have q7_4 : w7.cell? ⟨w2.heap.size, 4, none⟩ = some (.string d5) := ext_cell hb q6_4
     have q7_5 : w7.cell? ⟨w2.heap.size, 5, none⟩ = some (.string p) := ext_cell hb q6_5
     have q7_6 : w7.cell? ⟨w2.heap.size, 6, none⟩ = some (.int .i64 (N : Int)) := ext_cell hb q6_6
     have q7_7 : w7.cell? ⟨w3.heap.size, 0, none⟩ = some (.int .i64 D5) := ext_cell hb q6_7
     have q7_8 : w7.cell? ⟨w3.heap.size, 1, none⟩ = some (.slice Am L5.length cm) := ext_cell hb q6_8
     have q7_9 : w7.cell? ⟨w3.heap.size, 2, none⟩ = some (.int .i64 P5) := ext_cell hb q6_9
     have q7_10 : w7.cell? ⟨w3.heap.size, 3, none⟩ = some (.int .i64 Q5) := ext_cell hb q6_10
     have q7_11 : w7.cell? ⟨w3.heap.size, 4, none⟩ = some (.string d5) := ext_cell hb q6_11
     have q7_12 : w7.cell? ⟨w3.heap.size, 5, none⟩ = some (.string P2) := ext_cell hb q6_12
     have q7_13 : w7.cell? ⟨w3.heap.size, 6, none⟩ = some (.int .i64 ((N : Int) + 1)) := ext_cell hb q6_13
     have q7_14 : w7.cell? ⟨w4.heap.size, 0, none⟩ = some (.int .i64 D5) := ext_cell hb q6_14
     have q7_15 : w7.cell? ⟨w4.heap.size, 1, none⟩ = some (.slice Ab L5.length cb) := ext_cell hb q6_15
     have q7_16 : w7.cell? ⟨w4.heap.size, 2, none⟩ = some (.int .i64 P5) := ext_cell hb q6_16
     have q7_17 : w7.cell? ⟨w4.heap.size, 3, none⟩ = some (.int .i64 Q5) := ext_cell hb q6_17
     have q7_18 : w7.cell? ⟨w4.heap.size, 4, none⟩ = some (.string d5) := ext_cell hb q6_18
     have q7_19 : w7.cell? ⟨w4.heap.size, 5, none⟩ = some (.string P2) := ext_cell hb q6_19
     have q7_20 : w7.cell? ⟨w4.heap.size, 6, none⟩ = some (.int .i64 ((N : Int) + 1)) := ext_cell hb q6_20
     have b7 := Lib.hid (ext_trans b6.out hb)
     have t7 : w.heap.size ≤ w7.heap.size := b7.out.size
     have o7_s := Lib.hid (own_ext o6_s.out hb)
     have o7_m := Lib.hid (own_ext o6_m.out hb)
     have o7_b := Lib.hid (own_ext o6_b.out hb)
     clear q6_0 q6_1 q6_2 q6_3 q6_4 q6_5 q6_6 q6_7 q6_8 q6_9 q6_10 q6_11 q6_12 q6_13 q6_14 q6_15 q6_16 q6_17 q6_18 q6_19 q6_20
     have oc_r := Lib.hid (own_base (base' := w6.heap.size + 0) ho_r (by simp))
     clear ho_r
     clear hb
     go_wp2_with fail
     refine (HVM.out _ Am cm (Reads.of_own o7_m.out)).mono ?_
     rintro e w8 ⟨rfl, hb⟩
     have s8 : w7.heap.size ≤ w8.heap.size := (by have := hb.size; (try simp at this); omega)
     have z8_0 : w2.heap.size < w8.heap.size := (by omega)
     have z8_1 : w3.heap.size < w8.heap.size := (by omega)
     have z8_2 : w4.heap.size < w8.heap.size := (by omega)
     have q8_0 : w8.cell? ⟨w2.heap.size, 0, none⟩ = some (.int .i64 D) := ext_cell hb q7_0
     have q8_1 : w8.cell? ⟨w2.heap.size, 1, none⟩ = some (.slice As l.length cs) := ext_cell hb q7_1
     have q8_2 : w8.cell? ⟨w2.heap.size, 2, none⟩ = some (.int .i64 P) := ext_cell hb q7_2
     have q8_3 : w8.cell? ⟨w2.heap.size, 3, none⟩ = some (.int .i64 Q) := ext_cell hb q7_3
     have q8_4 : w8.cell? ⟨w2.heap.size, 4, none⟩ = some (.string d5) := ext_cell hb q7_4
     have q8_5 : w8.cell? ⟨w2.heap.size, 5, none⟩ = some (.string p) := ext_cell hb q7_5
     have q8_6 : w8.cell? ⟨w2.heap.size, 6, none⟩ = some (.int .i64 (N : Int)) := ext_cell hb q7_6
     have q8_7 : w8.cell? ⟨w3.heap.size, 0, none⟩ = some (.int .i64 D5) := ext_cell hb q7_7
     have q8_8 : w8.cell? ⟨w3.heap.size, 1, none⟩ = some (.slice Am L5.length cm) := ext_cell hb q7_8
     have q8_9 : w8.cell? ⟨w3.heap.size, 2, none⟩ = some (.int .i64 P5) := ext_cell hb q7_9
     have q8_10 : w8.cell? ⟨w3.heap.size, 3, none⟩ = some (.int .i64 Q5) := ext_cell hb q7_10
     have q8_11 : w8.cell? ⟨w3.heap.size, 4, none⟩ = some (.string d5) := ext_cell hb q7_11
     have q8_12 : w8.cell? ⟨w3.heap.size, 5, none⟩ = some (.string P2) := ext_cell hb q7_12
     have q8_13 : w8.cell? ⟨w3.heap.size, 6, none⟩ = some (.int .i64 ((N : Int) + 1)) := ext_cell hb q7_13
     have q8_14 : w8.cell? ⟨w4.heap.size, 0, none⟩ = some (.int .i64 D5) := ext_cell hb q7_14
     have q8_15 : w8.cell? ⟨w4.heap.size, 1, none⟩ = some (.slice Ab L5.length cb) := ext_cell hb q7_15
     have q8_16 : w8.cell? ⟨w4.heap.size, 2, none⟩ = some (.int .i64 P5) := ext_cell hb q7_16
     have q8_17 : w8.cell? ⟨w4.heap.size, 3, none⟩ = some (.int .i64 Q5) := ext_cell hb q7_17
     have q8_18 : w8.cell? ⟨w4.heap.size, 4, none⟩ = some (.string d5) := ext_cell hb q7_18
     have q8_19 : w8.cell? ⟨w4.heap.size, 5, none⟩ = some (.string P2) := ext_cell hb q7_19
     have q8_20 : w8.cell? ⟨w4.heap.size, 6, none⟩ = some (.int .i64 ((N : Int) + 1)) := ext_cell hb q7_20
     have b8 := Lib.hid (ext_trans b7.out hb)
     have t8 : w.heap.size ≤ w8.heap.size := b8.out.size
     have o8_s := Lib.hid (own_ext o7_s.out hb)
     have o8_m := Lib.hid (own_ext o7_m.out hb)
     have o8_b := Lib.hid (own_ext o7_b.out hb)
     have o8_r := Lib.hid (own_ext oc_r.out hb)
     clear q7_0 q7_1 q7_2 q7_3 q7_4 q7_5 q7_6 q7_7 q7_8 q7_9 q7_10 q7_11 q7_12 q7_13 q7_14 q7_15 q7_16 q7_17 q7_18 q7_19 q7_20
     clear hb
     obtain ⟨b1, o1, hA1, hb1, r0, r1⟩ := recs_at (Reads.of_own o8_r.out) hLN
     subst hA1
     have hn0 : (0 : Int) ≤ (N : Int) := by omega
     have hn1 : (N : Int) < (N : Int) + 1 := by omega
     have q5 : IntKind.i64.wrap ((N : Int) + 1 - 1) = (N : Int) := by rw [show (N : Int) + 1 - 1 = N from by omega]; exact IntWalk.i64_in _ (by omega)
     have q5' : IntKind.i64.wrap (N : Int) = (N : Int) := IntWalk.i64_in _ (by omega)
     have q6 : IntKind.i64.wrap ((N : Int) + 1) = (N : Int) + 1 := IntWalk.i64_in _ (by omega)
     clear hLN hlr hcb hLr
     go_wp2
     go_ret
     exact ⟨rfl, b8.out⟩
end Go.Proofs.Ytclihlihaigddaa
