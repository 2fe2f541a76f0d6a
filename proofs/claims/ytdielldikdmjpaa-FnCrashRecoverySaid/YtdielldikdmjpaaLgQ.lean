/- The law FnLogLines, walked. -/
import Derived.Test.YtdielldikdmjpaaLgP
import Derived.Test.YtdielldikdmjpaaDrawM
import Derived.Test.YtdielldikdmjpaaLgL
namespace Go.Proofs.Ytdielldikdmjpaa
open Go.RowKit
set_option linter.unusedVariables false
set_option linter.unusedSimpArgs false
theorem rcv_valid {t : ByteArray} (h : t.size ≤ 30000) : logB (rcvD t) ⟨#[]⟩ (rcvN t) = true ∧ syncD (rcvD t) ⟨#[]⟩ (rcvN t) = rcvD t ∧ syncZ (rcvD t) ⟨#[]⟩ (rcvN t) = rcvN t := by
  have e : ∀ s : ByteArray, s ++ ⟨#[]⟩ = s := fun s => by apply bl_inj; rw [bl_append]; simp [bl]
  obtain ⟨h1, h2⟩ := rec_fix t
  have h3 : (t.extract 0 (recE t)).size = recE t := by rw [extract_size _ _ _ (recE_le t)]; omega
  have hb : logB (rcvD t) ⟨#[]⟩ (rcvN t) = true := by
    rw [rcvD, rcvN, if_pos h, if_pos h, logB, e, h1, h2, h3]
    simp [lit_size]
  exact ⟨hb, by rw [syncD, hb, if_pos rfl, e], by rw [syncZ, hb, if_pos rfl]⟩
theorem ll_rcv (t : ByteArray) (ht : t.size ≤ 40000) : ∃ (D : ByteArray) (N E : Int) (told : Bool) (YD : ByteArray) (YZ : Int) (yo : Bool),
    Hid (∀ w : World, Calls Try.prog 21 #[.string t] w fun e w' => e = .returned (.tuple #[logV D ⟨#[]⟩ N, .int .i64 E, .bool told]) ∧ Below w.heap.size w w') ∧
    Hid (∀ w : World, Calls Try.prog 20 #[.string t] w fun e w' => e = .returned (.tuple #[logV D ⟨#[]⟩ N, .int .i64 E, .bool told]) ∧ Below w.heap.size w w') ∧
    Hid (∀ w : World, Calls Try.prog 30 #[logV D ⟨#[]⟩ N] w fun e w' => e = .returned (.tuple #[logV YD ⟨#[]⟩ YZ, .bool yo]) ∧ Below w.heap.size w w') ∧
    Hid (∀ w : World, Calls Try.prog 26 #[logV D ⟨#[]⟩ N] w fun e w' => e = .returned (.bool yo) ∧ Below w.heap.size w w') ∧ (told = false ∨ (told = true ∧ yo = true ∧ D = YD ∧ N = YZ)) := by
  have hz : (rcvD t).size ≤ 40000 := by
    unfold rcvD; split
    · rw [extract_size _ _ _ (recE_le t)]; have := recE_le t; omega
    · simp [lit_size]
  refine ⟨rcvD t, rcvN t, rcvE t, decide (t.size ≤ 30000), syncD (rcvD t) ⟨#[]⟩ (rcvN t), syncZ (rcvD t) ⟨#[]⟩ (rcvN t), logB (rcvD t) ⟨#[]⟩ (rcvN t), Lib.hid fun w => implRecover_any t w (by omega), Lib.hid fun w => specRecover_any t w (by omega), Lib.hid fun w => implSync_any _ _ _ w (by omega) (by simp [lit_size]), Lib.hid fun w => isValidLog_any _ _ _ w (by omega) (by simp [lit_size]), ?_⟩
  by_cases h : t.size ≤ 30000
  · obtain ⟨h1, h2, h3⟩ := rcv_valid h
    exact .inr ⟨by simpa using h, h1, h2.symm, h3.symm⟩
  · exact .inl (by simpa using h)
theorem ll_enc (k : Int) (c r : ByteArray) (hk0 : -1 ≤ k) (hk1 : k ≤ 60) (hc : c.size ≤ 20) (hr : r.size ≤ 20) : ∃ (S : ByteArray) (ok : Bool) (XD : ByteArray) (XN XE : Int),
    Hid (∀ w : World, Calls Try.prog 19 #[.int .i64 k, recV c r] w fun e w' => e = .returned (.tuple #[.string S, .bool ok]) ∧ Below w.heap.size w w') ∧
    Hid (∀ w : World, Calls Try.prog 18 #[.int .i64 k, recV c r] w fun e w' => e = .returned (.tuple #[.string S, .bool ok]) ∧ Below w.heap.size w w') ∧
    Hid (∀ w : World, Calls Try.prog 21 #[.string S] w fun e w' => e = .returned (.tuple #[logV XD ⟨#[]⟩ XN, .int .i64 XE, .bool true]) ∧ Below w.heap.size w w') ∧
    ((ok = false ∧ S.toList = []) ∨ (ok = true ∧ (k == 0) = true ∧ decide (0 < XE) = true ∧ (XN != 1) = false) ∨ (ok = true ∧ (k == 0) = false ∧ decide (0 < XE) = false)) := by
  have hl := lineB_size k c r
  have hz : (encB k c r).size ≤ 100 := by
    unfold encB; split
    · omega
    · simp [lit_size]
  have hR : ∀ w : World, Calls Try.prog 21 #[.string (encB k c r)] w fun e w' => e = .returned (.tuple #[logV (rcvD (encB k c r)) ⟨#[]⟩ (rcvN (encB k c r)), .int .i64 (rcvE (encB k c r)), .bool true]) ∧ Below w.heap.size w w' := fun w => by
    have := implRecover_any (encB k c r) w (by omega)
    rw [decide_eq_true (by omega)] at this
    exact this
  refine ⟨encB k c r, encOk k c r, rcvD (encB k c r), rcvN (encB k c r), rcvE (encB k c r), Lib.hid fun w => implEncode_all k c r w (by omega) (by omega) (by omega) (by omega), Lib.hid fun w => specEncode_all k c r w (by omega) (by omega) (by omega) (by omega), Lib.hid hR, ?_⟩
  have eN : rcvN (encB k c r) = (recL (encB k c r)).length := if_pos (by omega)
  have eE : rcvE (encB k c r) = recE (encB k c r) := if_pos (by omega)
  rw [eN, eE]
  rcases ho : encOk k c r with _ | _
  · left
    exact ⟨rfl, by rw [encB, ho, if_neg (by simp)]; exact (toList_nil _).2 rfl⟩
  · right
    have ho' := ho
    simp only [encOk, Bool.and_eq_true, decide_eq_true_eq] at ho'
    obtain ⟨⟨h0, h59⟩, hrec⟩ := ho'
    obtain ⟨m, rfl⟩ := Int.eq_ofNat_of_zero_le h0
    rw [encB, ho, if_pos rfl]
    by_cases hm : m = 0
    · subst hm
      left
      obtain ⟨e1, e2⟩ := first_rec hrec
      have e3 := lineB_len 0 c r
      rw [e1, e2, e3]
      exact ⟨rfl, rfl, by simp, rfl⟩
    · right
      obtain ⟨e1, e2⟩ := other_rec hrec (by omega : 1 ≤ m) (by omega)
      rw [e2]
      exact ⟨rfl, by rw [beq_eq_false_iff_ne]; omega, rfl⟩
set_option maxHeartbeats 4000000 in
theorem law_FnLogLines (A : Option Addr) (n c : Nat) (w : World) (h : Code w w.heap.size A n) (hn63 : n ≤ maxLen) :
    Calls Try.prog 11 #[.slice A n c] w fun e w' => e = .returned (.bool true) ∧ Below w.heap.size w w' := by
  have HV := Lib.hid (fun w => vBig_any A n c w)
  by_cases hbig : (65536 : Int) < n
  · rw [decide_eq_true hbig] at HV
    go_enter Try.func11, Try.ntmps11
    go_wp2_with (go_at_call 38; refine (HV.out _).mono ?_; rintro e w' ⟨rfl, hb⟩)
    go_ret
    exact ⟨rfl, (by repeat (first | exact ext_refl _ | assumption | refine ext_alloc ?_ _ | refine ext_drew ?_ | refine ext_drewN ?_ _ | refine ext_set ?_ (by simp <;> omega) _ | refine ext_trans ?_ (by assumption)))⟩
  · rw [decide_eq_false hbig] at HV
    have hn : n ≤ 65536 := by omega
    have H := Lib.hid h
    clear h hbig hn63
    go_enter Try.func11, Try.ntmps11
    go_wp2_with fail
    refine (HV.out _).mono ?_
    rintro e w1 ⟨rfl, hb⟩
    have s1 : w.heap.size ≤ w1.heap.size := (by have := hb.size; (try simp at this); omega)
    have b1 := Lib.hid (ext_trans (ext_refl w) hb)
    have t1 : w.heap.size ≤ w1.heap.size := b1.out.size
    clear hb
    go_wp2_with fail
    refine (drawEncode_any A n c _ ((H.out.below b1.out).more b1.out.size) hn).mono ?_
    rintro e w2 ⟨k, c1, r1, rfl, hk0, hk1, hc1, hr1, hb⟩
    have s2 : w1.heap.size ≤ w2.heap.size := (by have := hb.size; (try simp at this); omega)
    have b2 := Lib.hid (ext_trans b1.out hb)
    have t2 : w.heap.size ≤ w2.heap.size := b2.out.size
    clear hb
    obtain ⟨S, ok, XD, XN, XE, HE1, HE2, HX, hS⟩ := ll_enc k c1 r1 hk0 hk1 hc1 hr1
    go_wp2_with fail
    refine (HE1.out _).mono ?_
    rintro e w3 ⟨rfl, hb⟩
    have s3 : w2.heap.size + 1 ≤ w3.heap.size := (by have := hb.size; (try simp at this); omega)
    have z3_0 : w2.heap.size < w3.heap.size := (by omega)
    have q3_0 : w3.cell? ⟨w2.heap.size, 0, none⟩ = some (.string c1) := ext_cell hb (by simp [go_sem])
    have q3_1 : w3.cell? ⟨w2.heap.size, 1, none⟩ = some (.string r1) := ext_cell hb (by simp [go_sem])
    have b3 := Lib.hid (ext_trans (ext_alloc b2.out _) hb)
    have t3 : w.heap.size ≤ w3.heap.size := b3.out.size
    clear hb
    go_wp2_with fail
    refine (HE2.out _).mono ?_
    rintro e w4 ⟨rfl, hb⟩
    have s4 : w3.heap.size ≤ w4.heap.size := (by have := hb.size; (try simp at this); omega)
    have z4_0 : w2.heap.size < w4.heap.size := (by omega)
    have q4_0 : w4.cell? ⟨w2.heap.size, 0, none⟩ = some (.string c1) := ext_cell hb q3_0
    have q4_1 : w4.cell? ⟨w2.heap.size, 1, none⟩ = some (.string r1) := ext_cell hb q3_1
    have b4 := Lib.hid (ext_trans b3.out hb)
    have t4 : w.heap.size ≤ w4.heap.size := b4.out.size
    clear q3_0 q3_1
    clear hb
    go_wp2_with fail
    refine (drawRecover_any A n c _ ((H.out.below b4.out).more b4.out.size) hn).mono ?_
    rintro e w5 ⟨t, rfl, ht, hb⟩
    have s5 : w4.heap.size ≤ w5.heap.size := (by have := hb.size; (try simp at this); omega)
    have z5_0 : w2.heap.size < w5.heap.size := (by omega)
    have q5_0 : w5.cell? ⟨w2.heap.size, 0, none⟩ = some (.string c1) := ext_cell hb q4_0
    have q5_1 : w5.cell? ⟨w2.heap.size, 1, none⟩ = some (.string r1) := ext_cell hb q4_1
    have b5 := Lib.hid (ext_trans b4.out hb)
    have t5 : w.heap.size ≤ w5.heap.size := b5.out.size
    clear q4_0 q4_1
    clear hb
    obtain ⟨D, N, E, told, YD, YZ, yo, HR1, HR2, HY, HW, hT⟩ := ll_rcv t ht
    go_wp2_with fail
    refine (HR1.out _).mono ?_
    rintro e w6 ⟨rfl, hb⟩
    have s6 : w5.heap.size ≤ w6.heap.size := (by have := hb.size; (try simp at this); omega)
    have z6_0 : w2.heap.size < w6.heap.size := (by omega)
    have q6_0 : w6.cell? ⟨w2.heap.size, 0, none⟩ = some (.string c1) := ext_cell hb q5_0
    have q6_1 : w6.cell? ⟨w2.heap.size, 1, none⟩ = some (.string r1) := ext_cell hb q5_1
    have b6 := Lib.hid (ext_trans b5.out hb)
    have t6 : w.heap.size ≤ w6.heap.size := b6.out.size
    clear q5_0 q5_1
    clear hb
    go_wp2_with fail
    refine (HR2.out _).mono ?_
    rintro e w7 ⟨rfl, hb⟩
    have s7 : w6.heap.size + 1 ≤ w7.heap.size := (by have := hb.size; (try simp at this); omega)
    have z7_0 : w2.heap.size < w7.heap.size := (by omega)
    have z7_1 : w6.heap.size < w7.heap.size := (by omega)
    have q7_0 : w7.cell? ⟨w2.heap.size, 0, none⟩ = some (.string c1) := ext_cell hb (cell_old q6_0 _)
    have q7_1 : w7.cell? ⟨w2.heap.size, 1, none⟩ = some (.string r1) := ext_cell hb (cell_old q6_1 _)
    have q7_2 : w7.cell? ⟨w6.heap.size, 0, none⟩ = some (.string D) := ext_cell hb (by simp [go_sem])
    have q7_3 : w7.cell? ⟨w6.heap.size, 1, none⟩ = some (.string ⟨#[]⟩) := ext_cell hb (by simp [go_sem])
    have q7_4 : w7.cell? ⟨w6.heap.size, 2, none⟩ = some (.int .i64 N) := ext_cell hb (by simp [go_sem])
    have b7 := Lib.hid (ext_trans (ext_alloc b6.out _) hb)
    have t7 : w.heap.size ≤ w7.heap.size := b7.out.size
    clear q6_0 q6_1
    clear hb
    go_wp2_with fail
    refine (HX.out _).mono ?_
    rintro e w8 ⟨rfl, hb⟩
    have s8 : w7.heap.size + 1 ≤ w8.heap.size := (by have := hb.size; (try simp at this); omega)
    have z8_0 : w2.heap.size < w8.heap.size := (by omega)
    have z8_1 : w6.heap.size < w8.heap.size := (by omega)
    have z8_2 : w7.heap.size < w8.heap.size := (by omega)
    have q8_0 : w8.cell? ⟨w2.heap.size, 0, none⟩ = some (.string c1) := ext_cell hb (cell_old q7_0 _)
    have q8_1 : w8.cell? ⟨w2.heap.size, 1, none⟩ = some (.string r1) := ext_cell hb (cell_old q7_1 _)
    have q8_2 : w8.cell? ⟨w6.heap.size, 0, none⟩ = some (.string D) := ext_cell hb (cell_old q7_2 _)
    have q8_3 : w8.cell? ⟨w6.heap.size, 1, none⟩ = some (.string ⟨#[]⟩) := ext_cell hb (cell_old q7_3 _)
    have q8_4 : w8.cell? ⟨w6.heap.size, 2, none⟩ = some (.int .i64 N) := ext_cell hb (cell_old q7_4 _)
    have q8_5 : w8.cell? ⟨w7.heap.size, 0, none⟩ = some (.string D) := ext_cell hb (by simp [go_sem])
    have q8_6 : w8.cell? ⟨w7.heap.size, 1, none⟩ = some (.string ⟨#[]⟩) := ext_cell hb (by simp [go_sem])
    have q8_7 : w8.cell? ⟨w7.heap.size, 2, none⟩ = some (.int .i64 N) := ext_cell hb (by simp [go_sem])
    have b8 := Lib.hid (ext_trans (ext_alloc b7.out _) hb)
    have t8 : w.heap.size ≤ w8.heap.size := b8.out.size
    clear q7_0 q7_1 q7_2 q7_3 q7_4
    clear hb
    rcases hS with ⟨rfl, h1⟩ | ⟨rfl, h1, h2, h3⟩ | ⟨rfl, h1, h2⟩
    all_goals rcases hT with rfl | ⟨rfl, rfl, rfl, rfl⟩
    all_goals
      go_wp2_with fail
      refine (HY.out _).mono ?_
      rintro e w9 ⟨rfl, hb⟩
      have s9 : w8.heap.size + 1 ≤ w9.heap.size := (by have := hb.size; (try simp at this); omega)
      have z9_0 : w2.heap.size < w9.heap.size := (by omega)
      have z9_1 : w6.heap.size < w9.heap.size := (by omega)
      have z9_2 : w7.heap.size < w9.heap.size := (by omega)
      have z9_3 : w8.heap.size < w9.heap.size := (by omega)
      have q9_0 : w9.cell? ⟨w2.heap.size, 0, none⟩ = some (.string c1) := ext_cell hb (cell_old q8_0 _)
      have q9_1 : w9.cell? ⟨w2.heap.size, 1, none⟩ = some (.string r1) := ext_cell hb (cell_old q8_1 _)
      have q9_2 : w9.cell? ⟨w6.heap.size, 0, none⟩ = some (.string D) := ext_cell hb (cell_old q8_2 _)
      have q9_3 : w9.cell? ⟨w6.heap.size, 1, none⟩ = some (.string ⟨#[]⟩) := ext_cell hb (cell_old q8_3 _)
      have q9_4 : w9.cell? ⟨w6.heap.size, 2, none⟩ = some (.int .i64 N) := ext_cell hb (cell_old q8_4 _)
      have q9_5 : w9.cell? ⟨w7.heap.size, 0, none⟩ = some (.string D) := ext_cell hb (cell_old q8_5 _)
      have q9_6 : w9.cell? ⟨w7.heap.size, 1, none⟩ = some (.string ⟨#[]⟩) := ext_cell hb (cell_old q8_6 _)
      have q9_7 : w9.cell? ⟨w7.heap.size, 2, none⟩ = some (.int .i64 N) := ext_cell hb (cell_old q8_7 _)
      have q9_8 : w9.cell? ⟨w8.heap.size, 0, none⟩ = some (.string XD) := ext_cell hb (by simp [go_sem])
      have q9_9 : w9.cell? ⟨w8.heap.size, 1, none⟩ = some (.string ⟨#[]⟩) := ext_cell hb (by simp [go_sem])
      have q9_10 : w9.cell? ⟨w8.heap.size, 2, none⟩ = some (.int .i64 XN) := ext_cell hb (by simp [go_sem])
      have b9 := Lib.hid (ext_trans (ext_alloc b8.out _) hb)
      have t9 : w.heap.size ≤ w9.heap.size := b9.out.size
      clear q8_0 q8_1 q8_2 q8_3 q8_4 q8_5 q8_6 q8_7
      clear hb
      go_wp2_with (go_at_call 26; refine (HW.out _).mono ?_; rintro e w' ⟨rfl, hb⟩)
      go_ret
      exact ⟨rfl, by first | exact (ext_alloc b9.out _) | exact ext_trans (ext_alloc b9.out _) hb⟩
end Go.Proofs.Ytdielldikdmjpaa
