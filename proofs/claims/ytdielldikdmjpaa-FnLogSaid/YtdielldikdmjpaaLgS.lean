/- The law FnLog, walked. -/
import Derived.Test.YtdielldikdmjpaaLgP
import Derived.Test.YtdielldikdmjpaaDrawN
import Derived.Test.YtdielldikdmjpaaLgM
import Derived.Test.YtdielldikdmjpaaLgL
namespace Go.Proofs.Ytdielldikdmjpaa
open Go.RowKit
set_option linter.unusedVariables false
set_option linter.unusedSimpArgs false
/-- where a record is appended: what all the rest says -/
structure Grown (d p : ByteArray) (c r P : ByteArray) (Z : Int) (L : List CR) (N : Nat) : Prop where
  z : Z = (N : Int) + 1
  n : N ≤ 59
  len : L.length = N
  one : ∀ w : World, Calls Try.prog 34 #[logV d P Z] w (RetSliceB w 26 2 (N + 1) (recsV (L ++ [(c, r)])) true)
  old : ∀ w : World, Calls Try.prog 34 #[logV d p N] w (RetSliceB w 26 2 N (recsV L) true)
  rcv : ∀ w : World, Calls Try.prog 21 #[.string (d ++ P)] w fun e w' => e = .returned (.tuple #[logV (d ++ P) ⟨#[]⟩ Z, .int .i64 ((d ++ P).size : Nat), .bool true]) ∧ Below w.heap.size w w'
  syn : ∀ w : World, Calls Try.prog 30 #[logV d P Z] w fun e w' => e = .returned (.tuple #[logV (d ++ P) ⟨#[]⟩ Z, .bool true]) ∧ Below w.heap.size w w'
  val : ∀ w : World, Calls Try.prog 26 #[logV d P Z] w fun e w' => e = .returned (.bool true) ∧ Below w.heap.size w w'
  sz : d.size + P.size ≤ 30000
theorem grown_of {d p : ByteArray} {z : Int} {c r : ByteArray} (hl : logB d p z = true) (hr : recB c r = true) (hz : z ≤ 59) : ∃ (L : List CR) (N : Nat), z = N ∧ Grown d p c r (p ++ lineB z c r) (z + 1) L N := by
  obtain ⟨h1, h2, h3⟩ := logB_parts hl
  have hsz := logB_size hl
  have h4 := rec_parts hr
  have h5 := lineB_size z c r
  obtain ⟨N, hN⟩ : ∃ N, (recL (d ++ p)).length = N := ⟨_, rfl⟩
  rw [hN] at h3
  have h6 := append_rec (k := N) (by rw [ByteArray.size_append]; exact h1) hN (by omega) hr
  rw [← h3, ByteArray.append_assoc] at h6
  obtain ⟨e1, e2⟩ := h6
  have hv : logB d (p ++ lineB z c r) (z + 1) = true := by
    rw [logB, e1, e2, h2, List.length_append, hN, h3]
    simp [ByteArray.size_append]
  have hzp : (p ++ lineB z c r).size ≤ 30000 := by rw [ByteArray.size_append]; omega
  have hzd : (d ++ (p ++ lineB z c r)).size ≤ 30000 := by rw [ByteArray.size_append, ByteArray.size_append]; omega
  refine ⟨recL (d ++ p), N, h3, ⟨by omega, by omega, hN, fun w => ?_, fun w => ?_, fun w => ?_, fun w => ?_, fun w => ?_, by rw [ByteArray.size_append]; omega⟩⟩
  · have := implRecords_any d (p ++ lineB z c r) (z + 1) w (by omega) (by omega)
    rw [hv, show lrL d (p ++ lineB z c r) (z + 1) = recL (d ++ p) ++ [(c, r)] from by rw [lrL, hv, if_pos rfl, e1], List.length_append, hN] at this
    exact this
  · have := implRecords_any d p z w (by omega) (by omega)
    rw [hl, show lrL d p z = recL (d ++ p) from by rw [lrL, hl, if_pos rfl], hN, h3] at this
    exact this
  · have := implRecover_any (d ++ (p ++ lineB z c r)) w (by omega)
    have e3 : rcvD (d ++ (p ++ lineB z c r)) = d ++ (p ++ lineB z c r) := by
      rw [rcvD, if_pos hzd, e2]
      apply bl_inj
      rw [bl_extract, List.drop_zero, ← bl_size, List.take_length]
    have e4 : (rcvN (d ++ (p ++ lineB z c r)) : Int) = z + 1 := by rw [rcvN, if_pos hzd, e1, List.length_append, hN, h3]; rfl
    rw [e3, e4, decide_eq_true hzd, rcvE, if_pos hzd, e2] at this
    exact this
  · have := implSync_any d (p ++ lineB z c r) (z + 1) w (by omega) (by omega)
    rw [syncD, syncZ, hv, if_pos rfl, if_pos rfl] at this
    exact this
  · have := isValidLog_any d (p ++ lineB z c r) (z + 1) w (by omega) (by omega)
    rw [hv] at this
    exact this
theorem fl_app (d p : ByteArray) (z : Int) (c r : ByteArray) (hdp : d.size + p.size ≤ 5100) (hz0 : 0 ≤ z) (hz1 : z ≤ 60) (hc : c.size ≤ 20) (hr : r.size ≤ 20) : ∃ (P : ByteArray) (Z C : Int) (vl rb : Bool),
    Hid (∀ w : World, Calls Try.prog 32 #[logV d p z, recV c r] w fun e w' => e = .returned (.tuple #[logV d P Z, .int .i64 C]) ∧ Below w.heap.size w w') ∧
    Hid (∀ w : World, Calls Try.prog 31 #[logV d p z, recV c r] w fun e w' => e = .returned (.tuple #[logV d P Z, .int .i64 C]) ∧ Below w.heap.size w w') ∧
    Hid (∀ w : World, Calls Try.prog 26 #[logV d p z] w fun e w' => e = .returned (.bool vl) ∧ Below w.heap.size w w') ∧
    Hid (∀ w : World, Calls Try.prog 24 #[logV d p z] w fun e w' => e = .returned (.bool vl) ∧ Below w.heap.size w w') ∧
    Hid (∀ w : World, Calls Try.prog 17 #[recV c r] w fun e w' => e = .returned (.bool rb) ∧ Below w.heap.size w w') ∧
    Hid (∀ w : World, Calls Try.prog 15 #[recV c r] w fun e w' => e = .returned (.bool rb) ∧ Below w.heap.size w w') ∧
    (((C != 0) = true ∧ p = P ∧ z = Z) ∨ (C = 0 ∧ ∃ (L : List CR) (N : Nat), z = N ∧ Hid (Grown d p c r P Z L N))) := by
  refine ⟨appP d p z c r, appZ d p z c r, appC d p z c r, logB d p z, recB c r, Lib.hid fun w => implAppend_any d p z c r w (by omega) (by omega) (by omega) (by omega), Lib.hid fun w => specAppend_any d p z c r w (by omega) (by omega) (by omega) (by omega), Lib.hid fun w => isValidLog_any d p z w (by omega) (by omega), Lib.hid fun w => specIsValidLog_any d p z w (by omega) (by omega), Lib.hid fun w => isValidRecord_any c r w (by omega) (by omega), Lib.hid fun w => specIsValidRecord_any c r w (by omega) (by omega), ?_⟩
  refine app_cases d p z c r (fun P Z C => (((C != 0) = true ∧ p = P ∧ z = Z) ∨ (C = 0 ∧ ∃ (L : List CR) (N : Nat), z = N ∧ Hid (Grown d p c r P Z L N)))) ?_ ?_ ?_ ?_
  · intro _; exact .inl ⟨rfl, rfl, rfl⟩
  · intro _ _; exact .inl ⟨rfl, rfl, rfl⟩
  · intro _ _ _; exact .inl ⟨rfl, rfl, rfl⟩
  · intro hl hr' _ h59
    obtain ⟨L, N, h1, h2⟩ := grown_of hl hr' h59
    exact .inr ⟨rfl, L, N, h1, Lib.hid h2⟩
set_option maxHeartbeats 8000000 in
theorem law_FnLog (A : Option Addr) (n c : Nat) (w : World) (h : Code w w.heap.size A n) (hn63 : n ≤ maxLen) :
    Calls Try.prog 12 #[.slice A n c] w fun e w' => e = .returned (.bool true) ∧ Below w.heap.size w w' := by
  have HV := Lib.hid (fun w => vBig_any A n c w)
  by_cases hbig : (65536 : Int) < n
  · rw [decide_eq_true hbig] at HV
    go_enter Try.func12, Try.ntmps12
    go_wp2_with (go_at_call 38; refine (HV.out _).mono ?_; rintro e w' ⟨rfl, hb⟩)
    go_ret
    exact ⟨rfl, (by repeat (first | exact ext_refl _ | assumption | refine ext_alloc ?_ _ | refine ext_drew ?_ | refine ext_drewN ?_ _ | refine ext_set ?_ (by simp <;> omega) _ | refine ext_trans ?_ (by assumption)))⟩
  · rw [decide_eq_false hbig] at HV
    have hn : n ≤ 65536 := by omega
    have H := Lib.hid h
    clear h hbig hn63
    go_enter Try.func12, Try.ntmps12
    go_wp2_with fail
    refine (HV.out _).mono ?_
    rintro e w1 ⟨rfl, hb⟩
    have s1 : w.heap.size ≤ w1.heap.size := (by have := hb.size; (try simp at this); omega)
    have b1 := Lib.hid (ext_trans (ext_refl w) hb)
    have t1 : w.heap.size ≤ w1.heap.size := b1.out.size
    clear hb
    go_wp2_with fail
    refine (drawAppend_any A n c _ ((H.out.below b1.out).more b1.out.size) hn).mono ?_
    rintro e w2 ⟨d, p, z, c1, r1, rfl, hdp, hz0, hz1, hc1, hr1, hb⟩
    have s2 : w1.heap.size ≤ w2.heap.size := (by have := hb.size; (try simp at this); omega)
    have b2 := Lib.hid (ext_trans b1.out hb)
    have t2 : w.heap.size ≤ w2.heap.size := b2.out.size
    clear hb
    obtain ⟨P, Z, C, vl, rb, HA1, HA2, HV1, HV2, HB1, HB2, hcase⟩ := fl_app d p z c1 r1 hdp hz0 hz1 hc1 hr1
    go_wp2_with fail
    refine (HA1.out _).mono ?_
    rintro e w3 ⟨rfl, hb⟩
    have s3 : w2.heap.size + 2 ≤ w3.heap.size := (by have := hb.size; (try simp at this); omega)
    have z3_0 : w2.heap.size < w3.heap.size := (by omega)
    have z3_1 : w2.heap.size + 1 < w3.heap.size := (by omega)
    have q3_0 : w3.cell? ⟨w2.heap.size, 0, none⟩ = some (.string d) := ext_cell hb (by simp [go_sem])
    have q3_1 : w3.cell? ⟨w2.heap.size, 1, none⟩ = some (.string p) := ext_cell hb (by simp [go_sem])
    have q3_2 : w3.cell? ⟨w2.heap.size, 2, none⟩ = some (.int .i64 z) := ext_cell hb (by simp [go_sem])
    have q3_3 : w3.cell? ⟨w2.heap.size + 1, 0, none⟩ = some (.string c1) := ext_cell hb (by simp [go_sem])
    have q3_4 : w3.cell? ⟨w2.heap.size + 1, 1, none⟩ = some (.string r1) := ext_cell hb (by simp [go_sem])
    have b3 := Lib.hid (ext_trans (ext_alloc (ext_alloc b2.out _) _) hb)
    have t3 : w.heap.size ≤ w3.heap.size := b3.out.size
    clear hb
    go_wp2_with fail
    refine (HA2.out _).mono ?_
    rintro e w4 ⟨rfl, hb⟩
    have s4 : w3.heap.size + 1 ≤ w4.heap.size := (by have := hb.size; (try simp at this); omega)
    have z4_0 : w2.heap.size < w4.heap.size := (by omega)
    have z4_1 : w2.heap.size + 1 < w4.heap.size := (by omega)
    have z4_2 : w3.heap.size < w4.heap.size := (by omega)
    have q4_0 : w4.cell? ⟨w2.heap.size, 0, none⟩ = some (.string d) := ext_cell hb (cell_old q3_0 _)
    have q4_1 : w4.cell? ⟨w2.heap.size, 1, none⟩ = some (.string p) := ext_cell hb (cell_old q3_1 _)
    have q4_2 : w4.cell? ⟨w2.heap.size, 2, none⟩ = some (.int .i64 z) := ext_cell hb (cell_old q3_2 _)
    have q4_3 : w4.cell? ⟨w2.heap.size + 1, 0, none⟩ = some (.string c1) := ext_cell hb (cell_old q3_3 _)
    have q4_4 : w4.cell? ⟨w2.heap.size + 1, 1, none⟩ = some (.string r1) := ext_cell hb (cell_old q3_4 _)
    have q4_5 : w4.cell? ⟨w3.heap.size, 0, none⟩ = some (.string d) := ext_cell hb (by simp [go_sem])
    have q4_6 : w4.cell? ⟨w3.heap.size, 1, none⟩ = some (.string P) := ext_cell hb (by simp [go_sem])
    have q4_7 : w4.cell? ⟨w3.heap.size, 2, none⟩ = some (.int .i64 Z) := ext_cell hb (by simp [go_sem])
    have b4 := Lib.hid (ext_trans (ext_alloc b3.out _) hb)
    have t4 : w.heap.size ≤ w4.heap.size := b4.out.size
    clear q3_0 q3_1 q3_2 q3_3 q3_4
    clear hb
    go_wp2_with fail
    (refine wp_region_later (by kernel_rfl) (by kernel_rfl) ?_; (repeat (go_big_quiet_step (first | (go_at_call 26; exact Calls.later_of (HV1.out _)) | (go_at_call 24; exact Calls.later_of (HV2.out _)) | (go_at_call 17; exact Calls.later_of (HB1.out _)) | (go_at_call 15; exact Calls.later_of (HB2.out _))))); refine wpQuiet_nil ?_; intro w5 hw1; obtain ⟨⟨wl, hb⟩, hw1'⟩ := hw1; simp only at hw1'; subst hw1')
    have s5 : w4.heap.size + 1 ≤ w5.heap.size := (by have := hb.size; (try simp at this); omega)
    have z5_0 : w2.heap.size < w5.heap.size := (by omega)
    have z5_1 : w2.heap.size + 1 < w5.heap.size := (by omega)
    have z5_2 : w3.heap.size < w5.heap.size := (by omega)
    have z5_3 : w4.heap.size < w5.heap.size := (by omega)
    have q5_0 : w5.cell? ⟨w2.heap.size, 0, none⟩ = some (.string d) := ext_cell hb (cell_old q4_0 _)
    have q5_1 : w5.cell? ⟨w2.heap.size, 1, none⟩ = some (.string p) := ext_cell hb (cell_old q4_1 _)
    have q5_2 : w5.cell? ⟨w2.heap.size, 2, none⟩ = some (.int .i64 z) := ext_cell hb (cell_old q4_2 _)
    have q5_3 : w5.cell? ⟨w2.heap.size + 1, 0, none⟩ = some (.string c1) := ext_cell hb (cell_old q4_3 _)
    have q5_4 : w5.cell? ⟨w2.heap.size + 1, 1, none⟩ = some (.string r1) := ext_cell hb (cell_old q4_4 _)
    have q5_5 : w5.cell? ⟨w3.heap.size, 0, none⟩ = some (.string d) := ext_cell hb (cell_old q4_5 _)
    have q5_6 : w5.cell? ⟨w3.heap.size, 1, none⟩ = some (.string P) := ext_cell hb (cell_old q4_6 _)
    have q5_7 : w5.cell? ⟨w3.heap.size, 2, none⟩ = some (.int .i64 Z) := ext_cell hb (cell_old q4_7 _)
    have q5_8 : w5.cell? ⟨w4.heap.size, 0, none⟩ = some (.string d) := ext_cell hb (by simp [go_sem])
    have q5_9 : w5.cell? ⟨w4.heap.size, 1, none⟩ = some (.string P) := ext_cell hb (by simp [go_sem])
    have q5_10 : w5.cell? ⟨w4.heap.size, 2, none⟩ = some (.int .i64 Z) := ext_cell hb (by simp [go_sem])
    have b5 := Lib.hid (ext_trans (ext_alloc b4.out _) hb)
    have t5 : w.heap.size ≤ w5.heap.size := b5.out.size
    clear q4_0 q4_1 q4_2 q4_3 q4_4 q4_5 q4_6 q4_7
    clear hb
    rcases hcase with ⟨hne, rfl, rfl⟩ | ⟨rfl, L, N, rfl, HG⟩
    · go_wp2
      go_ret
      exact ⟨rfl, b5.out⟩
    have hZ := HG.out.z
    subst hZ
    have hN := HG.out.n
    have hsz := HG.out.sz
    have hszP : (d ++ P).size = d.size + P.size := ByteArray.size_append
    go_wp2_with fail
    refine (HG.out.one _).mono ?_
    rintro e w6 ⟨Aa, ca, rfl, ho_a, hb⟩
    have s6 : w5.heap.size ≤ w6.heap.size := (by have := hb.size; (try simp at this); omega)
    have z6_0 : w2.heap.size < w6.heap.size := (by omega)
    have z6_1 : w2.heap.size + 1 < w6.heap.size := (by omega)
    have z6_2 : w3.heap.size < w6.heap.size := (by omega)
    have z6_3 : w4.heap.size < w6.heap.size := (by omega)
    have q6_0 : w6.cell? ⟨w2.heap.size, 0, none⟩ = some (.string d) := ext_cell hb q5_0
    have q6_1 : w6.cell? ⟨w2.heap.size, 1, none⟩ = some (.string p) := ext_cell hb q5_1
    have q6_2 : w6.cell? ⟨w2.heap.size, 2, none⟩ = some (.int .i64 (N : Int)) := ext_cell hb q5_2
    have q6_3 : w6.cell? ⟨w2.heap.size + 1, 0, none⟩ = some (.string c1) := ext_cell hb q5_3
    have q6_4 : w6.cell? ⟨w2.heap.size + 1, 1, none⟩ = some (.string r1) := ext_cell hb q5_4
    have q6_5 : w6.cell? ⟨w3.heap.size, 0, none⟩ = some (.string d) := ext_cell hb q5_5
    have q6_6 : w6.cell? ⟨w3.heap.size, 1, none⟩ = some (.string P) := ext_cell hb q5_6
    have q6_7 : w6.cell? ⟨w3.heap.size, 2, none⟩ = some (.int .i64 ((N : Int) + 1)) := ext_cell hb q5_7
    have q6_8 : w6.cell? ⟨w4.heap.size, 0, none⟩ = some (.string d) := ext_cell hb q5_8
    have q6_9 : w6.cell? ⟨w4.heap.size, 1, none⟩ = some (.string P) := ext_cell hb q5_9
    have q6_10 : w6.cell? ⟨w4.heap.size, 2, none⟩ = some (.int .i64 ((N : Int) + 1)) := ext_cell hb q5_10
    have b6 := Lib.hid (ext_trans b5.out hb)
    have t6 : w.heap.size ≤ w6.heap.size := b6.out.size
    clear q5_0 q5_1 q5_2 q5_3 q5_4 q5_5 q5_6 q5_7 q5_8 q5_9 q5_10
    have oc_a := Lib.hid (own_base (base' := w5.heap.size + 0) ho_a (by simp))
    clear ho_a
    clear hb
    go_wp2_with fail
    refine (HG.out.old _).mono ?_
    rintro e w7 ⟨Ao, co, rfl, ho_o, hb⟩
    have s7 : w6.heap.size ≤ w7.heap.size := (by have := hb.size; (try simp at this); omega)
    have z7_0 : w2.heap.size < w7.heap.size := (by omega)
    have z7_1 : w2.heap.size + 1 < w7.heap.size := (by omega)
    have z7_2 : w3.heap.size < w7.heap.size := (by omega)
    have z7_3 : w4.heap.size < w7.heap.size := (by omega)
    have q7_0 : w7.cell? ⟨w2.heap.size, 0, none⟩ = some (.string d) := ext_cell hb q6_0
    have q7_1 : w7.cell? ⟨w2.heap.size, 1, none⟩ = some (.string p) := ext_cell hb q6_1
    have q7_2 : w7.cell? ⟨w2.heap.size, 2, none⟩ = some (.int .i64 (N : Int)) := ext_cell hb q6_2
    have q7_3 : w7.cell? ⟨w2.heap.size + 1, 0, none⟩ = some (.string c1) := ext_cell hb q6_3
    have q7_4 : w7.cell? ⟨w2.heap.size + 1, 1, none⟩ = some (.string r1) := ext_cell hb q6_4
    have q7_5 : w7.cell? ⟨w3.heap.size, 0, none⟩ = some (.string d) := ext_cell hb q6_5
    have q7_6 : w7.cell? ⟨w3.heap.size, 1, none⟩ = some (.string P) := ext_cell hb q6_6
    have q7_7 : w7.cell? ⟨w3.heap.size, 2, none⟩ = some (.int .i64 ((N : Int) + 1)) := ext_cell hb q6_7
    have q7_8 : w7.cell? ⟨w4.heap.size, 0, none⟩ = some (.string d) := ext_cell hb q6_8
    have q7_9 : w7.cell? ⟨w4.heap.size, 1, none⟩ = some (.string P) := ext_cell hb q6_9
    have q7_10 : w7.cell? ⟨w4.heap.size, 2, none⟩ = some (.int .i64 ((N : Int) + 1)) := ext_cell hb q6_10
    have b7 := Lib.hid (ext_trans b6.out hb)
    have t7 : w.heap.size ≤ w7.heap.size := b7.out.size
    have o7_a := Lib.hid (own_ext oc_a.out hb)
    clear q6_0 q6_1 q6_2 q6_3 q6_4 q6_5 q6_6 q6_7 q6_8 q6_9 q6_10
    have oc_o := Lib.hid (own_base (base' := w6.heap.size + 0) ho_o (by simp))
    clear ho_o
    clear hb
    go_wp2_with fail
    refine (HG.out.rcv _).mono ?_
    rintro e w8 ⟨rfl, hb⟩
    have s8 : w7.heap.size ≤ w8.heap.size := (by have := hb.size; (try simp at this); omega)
    have z8_0 : w2.heap.size < w8.heap.size := (by omega)
    have z8_1 : w2.heap.size + 1 < w8.heap.size := (by omega)
    have z8_2 : w3.heap.size < w8.heap.size := (by omega)
    have z8_3 : w4.heap.size < w8.heap.size := (by omega)
    have q8_0 : w8.cell? ⟨w2.heap.size, 0, none⟩ = some (.string d) := ext_cell hb q7_0
    have q8_1 : w8.cell? ⟨w2.heap.size, 1, none⟩ = some (.string p) := ext_cell hb q7_1
    have q8_2 : w8.cell? ⟨w2.heap.size, 2, none⟩ = some (.int .i64 (N : Int)) := ext_cell hb q7_2
    have q8_3 : w8.cell? ⟨w2.heap.size + 1, 0, none⟩ = some (.string c1) := ext_cell hb q7_3
    have q8_4 : w8.cell? ⟨w2.heap.size + 1, 1, none⟩ = some (.string r1) := ext_cell hb q7_4
    have q8_5 : w8.cell? ⟨w3.heap.size, 0, none⟩ = some (.string d) := ext_cell hb q7_5
    have q8_6 : w8.cell? ⟨w3.heap.size, 1, none⟩ = some (.string P) := ext_cell hb q7_6
    have q8_7 : w8.cell? ⟨w3.heap.size, 2, none⟩ = some (.int .i64 ((N : Int) + 1)) := ext_cell hb q7_7
    have q8_8 : w8.cell? ⟨w4.heap.size, 0, none⟩ = some (.string d) := ext_cell hb q7_8
    have q8_9 : w8.cell? ⟨w4.heap.size, 1, none⟩ = some (.string P) := ext_cell hb q7_9
    have q8_10 : w8.cell? ⟨w4.heap.size, 2, none⟩ = some (.int .i64 ((N : Int) + 1)) := ext_cell hb q7_10
    have b8 := Lib.hid (ext_trans b7.out hb)
    have t8 : w.heap.size ≤ w8.heap.size := b8.out.size
    have o8_a := Lib.hid (own_ext o7_a.out hb)
    have o8_o := Lib.hid (own_ext oc_o.out hb)
    clear q7_0 q7_1 q7_2 q7_3 q7_4 q7_5 q7_6 q7_7 q7_8 q7_9 q7_10
    clear hb
    go_wp2_with fail
    refine (HG.out.syn _).mono ?_
    rintro e w9 ⟨rfl, hb⟩
    have s9 : w8.heap.size + 1 ≤ w9.heap.size := (by have := hb.size; (try simp at this); omega)
    have z9_0 : w2.heap.size < w9.heap.size := (by omega)
    have z9_1 : w2.heap.size + 1 < w9.heap.size := (by omega)
    have z9_2 : w3.heap.size < w9.heap.size := (by omega)
    have z9_3 : w4.heap.size < w9.heap.size := (by omega)
    have z9_4 : w8.heap.size < w9.heap.size := (by omega)
    have q9_0 : w9.cell? ⟨w2.heap.size, 0, none⟩ = some (.string d) := ext_cell hb (cell_old q8_0 _)
    have q9_1 : w9.cell? ⟨w2.heap.size, 1, none⟩ = some (.string p) := ext_cell hb (cell_old q8_1 _)
    have q9_2 : w9.cell? ⟨w2.heap.size, 2, none⟩ = some (.int .i64 (N : Int)) := ext_cell hb (cell_old q8_2 _)
    have q9_3 : w9.cell? ⟨w2.heap.size + 1, 0, none⟩ = some (.string c1) := ext_cell hb (cell_old q8_3 _)
    have q9_4 : w9.cell? ⟨w2.heap.size + 1, 1, none⟩ = some (.string r1) := ext_cell hb (cell_old q8_4 _)
    have q9_5 : w9.cell? ⟨w3.heap.size, 0, none⟩ = some (.string d) := ext_cell hb (cell_old q8_5 _)
    have q9_6 : w9.cell? ⟨w3.heap.size, 1, none⟩ = some (.string P) := ext_cell hb (cell_old q8_6 _)
    have q9_7 : w9.cell? ⟨w3.heap.size, 2, none⟩ = some (.int .i64 ((N : Int) + 1)) := ext_cell hb (cell_old q8_7 _)
    have q9_8 : w9.cell? ⟨w4.heap.size, 0, none⟩ = some (.string d) := ext_cell hb (cell_old q8_8 _)
    have q9_9 : w9.cell? ⟨w4.heap.size, 1, none⟩ = some (.string P) := ext_cell hb (cell_old q8_9 _)
    have q9_10 : w9.cell? ⟨w4.heap.size, 2, none⟩ = some (.int .i64 ((N : Int) + 1)) := ext_cell hb (cell_old q8_10 _)
    have q9_11 : w9.cell? ⟨w8.heap.size, 0, none⟩ = some (.string (d ++ P)) := ext_cell hb (by simp [go_sem])
    have q9_12 : w9.cell? ⟨w8.heap.size, 1, none⟩ = some (.string ⟨#[]⟩) := ext_cell hb (by simp [go_sem])
    have q9_13 : w9.cell? ⟨w8.heap.size, 2, none⟩ = some (.int .i64 ((N : Int) + 1)) := ext_cell hb (by simp [go_sem])
    have b9 := Lib.hid (ext_trans (ext_alloc b8.out _) hb)
    have t9 : w.heap.size ≤ w9.heap.size := b9.out.size
    have o9_a := Lib.hid (own_ext (o8_a.out.alloc _) hb)
    have o9_o := Lib.hid (own_ext (o8_o.out.alloc _) hb)
    clear q8_0 q8_1 q8_2 q8_3 q8_4 q8_5 q8_6 q8_7 q8_8 q8_9 q8_10
    clear hb
    have HW : Hid (Below w.heap.size w (w9.alloc (.cells #[.string (d ++ P), .string ⟨#[]⟩, .int .i64 ((N : Int) + 1)] 33))) := Lib.hid (ext_alloc b9.out _)
    have HOA := Lib.hid (o9_a.out.alloc (.cells #[.string (d ++ P), .string ⟨#[]⟩, .int .i64 ((N : Int) + 1)] 33))
    have HOO := Lib.hid (o9_o.out.alloc (.cells #[.string (d ++ P), .string ⟨#[]⟩, .int .i64 ((N : Int) + 1)] 33))
    have HSZ : Hid (w9.heap.size + 1 = (w9.alloc (.cells #[.string (d ++ P), .string ⟨#[]⟩, .int .i64 ((N : Int) + 1)] 33)).heap.size) := Lib.hid (by simp)
    go_wp2_with fail
    go_loopw [18] (fun i wr => ∃ k : Nat, k ≤ N ∧ i = .int .i64 k ∧ Hid (Below (w9.alloc (.cells #[.string (d ++ P), .string ⟨#[]⟩, .int .i64 ((N : Int) + 1)] 33)).heap.size (w9.alloc (.cells #[.string (d ++ P), .string ⟨#[]⟩, .int .i64 ((N : Int) + 1)] 33)) wr)) (fun i _ => N - (intOf i).toNat)
    case atStart => exact ⟨0, Nat.zero_le _, rfl, Lib.hid (ext_refl _)⟩
    case round =>
      obtain ⟨k, hk, rfl, hbl⟩ := hrel
      have hoa := own_ext HOA.out hbl.out
      have hoo := own_ext HOO.out hbl.out
      have hlen := HG.out.len
      by_cases hlt : k < N
      · obtain ⟨x, hx⟩ := list_split (l := L) (k := k) (by omega)
        have hx2 : (L ++ [(c1, r1)])[k]? = some x := by rw [List.getElem?_append_left (by omega)]; exact hx
        obtain ⟨b, o, rfl, hb, a0, a1⟩ := recs_at (Reads.of_own hoa) hx2
        obtain ⟨b', o', rfl, hb', e0, e1⟩ := recs_at (Reads.of_own hoo) hx
        have hk1 : (k : Int) < (N : Int) + 1 := by omega
        have hk2 : (k : Int) < (N : Int) := by omega
        clear hx hx2 hoa hoo hlen
        go_wp2
        (refine wp_region_later (by kernel_rfl) (by kernel_rfl) ?_; (repeat (go_big_quiet_step (fail))); refine wpQuiet_nil ?_; intro w1 hw1; obtain ⟨⟨wl, hbL⟩, hw1'⟩ := hw1; simp only at hw1'; subst hw1'; obtain ⟨hcL, hfL⟩ := bcell hbL)
        have hbl2 := Lib.hid (ext_trans hbl.out hbL)
        clear hcL hfL hbL
        go_wp2
        go_roundw
        case rel => exact ⟨k + 1, by omega, by go_num, hbl2⟩
        case measure => simp [intOf]; omega
      · obtain rfl : k = N := by omega
        have hx2 : (L ++ [(c1, r1)])[k]? = some (c1, r1) := by rw [List.getElem?_append_right (by omega), hlen]; simp
        obtain ⟨b, o, rfl, hb, a0, a1⟩ := recs_at (Reads.of_own hoa) hx2
        have v0 : wr.cell? ⟨w2.heap.size, 0, none⟩ = some (.string d) := ext_cell hbl.out (cell_old q9_0 _)
        have v1 : wr.cell? ⟨w2.heap.size, 1, none⟩ = some (.string p) := ext_cell hbl.out (cell_old q9_1 _)
        have v2 : wr.cell? ⟨w2.heap.size, 2, none⟩ = some (.int .i64 (k : Int)) := ext_cell hbl.out (cell_old q9_2 _)
        have v3 : wr.cell? ⟨w2.heap.size + 1, 0, none⟩ = some (.string c1) := ext_cell hbl.out (cell_old q9_3 _)
        have v4 : wr.cell? ⟨w2.heap.size + 1, 1, none⟩ = some (.string r1) := ext_cell hbl.out (cell_old q9_4 _)
        have v5 : wr.cell? ⟨w3.heap.size, 0, none⟩ = some (.string d) := ext_cell hbl.out (cell_old q9_5 _)
        have v6 : wr.cell? ⟨w3.heap.size, 1, none⟩ = some (.string P) := ext_cell hbl.out (cell_old q9_6 _)
        have v7 : wr.cell? ⟨w3.heap.size, 2, none⟩ = some (.int .i64 ((k : Int) + 1)) := ext_cell hbl.out (cell_old q9_7 _)
        have v8 : wr.cell? ⟨w4.heap.size, 0, none⟩ = some (.string d) := ext_cell hbl.out (cell_old q9_8 _)
        have v9 : wr.cell? ⟨w4.heap.size, 1, none⟩ = some (.string P) := ext_cell hbl.out (cell_old q9_9 _)
        have v10 : wr.cell? ⟨w4.heap.size, 2, none⟩ = some (.int .i64 ((k : Int) + 1)) := ext_cell hbl.out (cell_old q9_10 _)
        have v11 : wr.cell? ⟨w8.heap.size, 0, none⟩ = some (.string (d ++ P)) := ext_cell hbl.out (cell_old q9_11 _)
        have v12 : wr.cell? ⟨w8.heap.size, 1, none⟩ = some (.string ⟨#[]⟩) := ext_cell hbl.out (cell_old q9_12 _)
        have v13 : wr.cell? ⟨w8.heap.size, 2, none⟩ = some (.int .i64 ((k : Int) + 1)) := ext_cell hbl.out (cell_old q9_13 _)
        have v14 : wr.cell? ⟨w9.heap.size, 0, none⟩ = some (.string (d ++ P)) := ext_cell hbl.out (by simp [go_sem])
        have v15 : wr.cell? ⟨w9.heap.size, 1, none⟩ = some (.string ⟨#[]⟩) := ext_cell hbl.out (by simp [go_sem])
        have v16 : wr.cell? ⟨w9.heap.size, 2, none⟩ = some (.int .i64 ((k : Int) + 1)) := ext_cell hbl.out (by simp [go_sem])
        have hss : w9.heap.size + 1 ≤ wr.heap.size := (by have := hbl.out.size; rw [HSZ.out]; exact this)
        have y0 : w2.heap.size < wr.heap.size := by omega
        have y1 : w2.heap.size + 1 < wr.heap.size := by omega
        have y2 : w3.heap.size < wr.heap.size := by omega
        have y3 : w4.heap.size < wr.heap.size := by omega
        have y4 : w8.heap.size < wr.heap.size := by omega
        have y5 : w9.heap.size < wr.heap.size := by omega
        have hk1 : (k : Int) < (k : Int) + 1 := by omega
        have hend := Lib.hid (ext_trans HW.out hbl.out)
        clear hx2 hoa hoo hlen q9_0 q9_1 q9_2 q9_3 q9_4 q9_5 q9_6 q9_7 q9_8 q9_9 q9_10 q9_11 q9_12 q9_13
        go_wp2
        (refine wp_region_later (by kernel_rfl) (by kernel_rfl) ?_; (repeat (go_big_quiet_step (first | (go_at_call 26; exact Calls.later_of (HG.out.val _))))); refine wpQuiet_nil ?_; intro w1 hw1; obtain ⟨⟨wl, hbL⟩, hw1'⟩ := hw1; simp only at hw1'; subst hw1'; obtain ⟨hcL, hfL⟩ := bcell hbL)
        have hend2 := Lib.hid (ext_trans hend.out hbL)
        clear hcL hfL
        go_wp2
        go_ret
        exact ⟨rfl, hend2.out⟩
end Go.Proofs.Ytdielldikdmjpaa
