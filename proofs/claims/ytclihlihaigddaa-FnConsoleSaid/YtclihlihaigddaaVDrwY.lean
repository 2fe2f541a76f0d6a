/- What the law of consoles draws. -/
import Derived.Test.YtclihlihaigddaaVCurW
namespace Go.Proofs.Ytclihlihaigddaa
open Go.RowKit
set_option linter.unusedVariables false
set_option linter.unusedSimpArgs false
set_option maxRecDepth 100000 in
set_option maxHeartbeats 8000000 in
theorem drawExec_any (Ac : Option Addr) (nc cc : Nat) (w : World) (h : Code w w.heap.size Ac nc) (hn : nc ≤ 65536) :
 Calls Try.prog 38 #[.slice Ac nc cc] w fun e w' => ∃ (D P Q : Int) (l : List R5) (A : Option Addr) (c : Nat) (d p : ByteArray) (z : Int) (tx : ByteArray), e = .returned (.tuple #[conV D A l.length c P Q d p z, .string tx]) ∧ l.length ≤ 9 ∧ d.size + p.size ≤ 5100 ∧ tx.size ≤ 61 ∧ w'.ownsRow w.heap.size 109 5 (.slice A l.length c) l.length (rowsV l) ∧ Below w.heap.size w w' := by
 have HC := Lib.hid (h.cur1 (by omega) cc (.cells #[.int .i64 0, .slice none 0 0, .int .i64 0, .int .i64 0, .string ⟨#[]⟩, .string ⟨#[]⟩, .int .i64 0] 28))
 clear h
 go_enter Try.func38, Try.ntmps38
 go_wp2_with fail
 refine (console_any _ 0 _ HC.out (by omega)).mono ?_
 rintro e w1 ⟨D, P, Q, l, A, c, d, p, z, a1, rfl, hl9, hid, hdp, ho, ha1, hc, hg⟩
 have s01 : w.heap.size + 1 < w1.heap.size := hc.lt
 have C1 := Lib.hid hc
 have X1 : Hid (Below w.heap.size w w1) := Lib.hid (Gr.below (ext_alloc (ext_alloc (ext_refl w) (.cells #[.int .i64 0, .slice none 0 0, .int .i64 0, .int .i64 0, .string ⟨#[]⟩, .string ⟨#[]⟩, .int .i64 0] 28)) (.cells #[.slice Ac nc cc, .int .i64 0, .int .u64 0] 123)) hg (by omega))
 have R1 : Hid (Blk w1 w.heap.size 28 #[.int .i64 0, .slice none 0 0, .int .i64 0, .int .i64 0, .string ⟨#[]⟩, .string ⟨#[]⟩, .int .i64 0]) := Lib.hid (((Blk.new w _ _).ext (ext_alloc (ext_refl _) _)).gr hg (by omega))
 have O1 := Lib.hid ho
 have HID := Lib.hid hid
 clear hc hg ho hid HC
 obtain ⟨w2, hw2⟩ : ∃ w2, w2 = w1.alloc (.cells #[.int .i64 D, .slice A l.length c, .int .i64 P, .int .i64 Q, .string d, .string p, .int .i64 z] 28) := ⟨_, rfl⟩
 have e2 : Below w1.heap.size w1 w2 := by rw [hw2]; exact ext_alloc (ext_refl _) _
 have C2 := Lib.hid (C1.out.ext e2)
 have X2 := Lib.hid (ext_trans X1.out e2)
 have R2 := Lib.hid (R1.out.ext e2)
 have S2 : Hid (Blk w2 w1.heap.size 28 #[.int .i64 D, .slice A l.length c, .int .i64 P, .int .i64 Q, .string d, .string p, .int .i64 z]) := Lib.hid (by rw [hw2]; exact Blk.new _ _ _)
 have O2 := Lib.hid (own_ext O1.out e2)
 clear e2 C1 X1 R1 O1
 have sR2 := R2.out.lt
 have sS2 := S2.out.lt
 obtain ⟨s2_0, s2_1, s2_2, s2_3, s2_4, s2_5, s2_6⟩ := S2.out.q7
 obtain ⟨fs2_0, fs2_1, fs2_2, fs2_3, fs2_4, fs2_5, fs2_6⟩ := S2.out.z7
 go_upto_region 3 with fail
 rw [← hw2]
 clear hw2
 go_wp2_with fail
 refine (one_any _ a1 40 _ C2.out (by omega) (by omega) (by omega)).mono ?_
 rintro e w3 ⟨b, a2, rfl, ha2, hc, hg⟩
 have C3 := Lib.hid hc
 have X3 := Lib.hid (Gr.below X2.out hg (by omega))
 have R3 := Lib.hid (R2.out.gr hg (by omega))
 have S3 := Lib.hid (S2.out.gr hg (by omega))
 have O3 := Lib.hid (own_gr O2.out hg (Nat.lt_succ_self _))
 clear hc hg
 clear s2_0 fs2_0 s2_1 fs2_1 s2_2 fs2_2 s2_3 fs2_3 s2_4 fs2_4 s2_5 fs2_5 s2_6 fs2_6
 have sR3 := R3.out.lt
 have sS3 := S3.out.lt
 obtain ⟨s3_0, s3_1, s3_2, s3_3, s3_4, s3_5, s3_6⟩ := S3.out.q7
 obtain ⟨fs3_0, fs3_1, fs3_2, fs3_3, fs3_4, fs3_5, fs3_6⟩ := S3.out.z7
 go_upto_if 15 with fail
 go_cut [] (fun wx => ∃ (d' p' : ByteArray) (z' : Int) (a3 : Nat), d'.size + p'.size ≤ 5100 ∧ a3 ≤ 1200 ∧ Hid (Blk wx w.heap.size 28 #[.int .i64 0, .slice none 0 0, .int .i64 0, .int .i64 0, .string ⟨#[]⟩, .string ⟨#[]⟩, .int .i64 0]) ∧ Hid (Blk wx w1.heap.size 28 #[.int .i64 D, .slice A l.length c, .int .i64 P, .int .i64 Q, .string d', .string p', .int .i64 z']) ∧ Hid (wx.ownsRow ((w.heap.size + 1) + 1) 109 5 (.slice A l.length c) l.length (rowsV l)) ∧ Hid (CurAt wx (w.heap.size + 1) a3) ∧ Hid (Below w.heap.size w wx))
 case first =>
  cases b
  · go_wp2_with fail
    go_meet
    exact ⟨d, p, z, a2, by omega, by omega, R3, S3, O3, C3, X3⟩
  · go_wp2_with fail
    refine (pick_any _ a2 2 _ (C3.out.ext (ext_alloc (ext_refl _) _)) (by omega) (by omega) (by omega)).mono ?_
    rintro e w4 ⟨y, a3, rfl, y0, y1, ha3, hc, hg⟩
    obtain ⟨q, rfl⟩ := Int.eq_ofNat_of_zero_le y0
    have C4 := Lib.hid hc
    have X4 := Lib.hid (Gr.below (ext_alloc X3.out (.cells #[.string ⟨#[]⟩, .string ⟨#[]⟩, .int .i64 0] 26)) hg (by omega))
    have R4 := Lib.hid ((R3.out.ext (ext_alloc (ext_refl _) _)).gr hg (by omega))
    have S4 := Lib.hid ((S3.out.ext (ext_alloc (ext_refl _) _)).gr hg (by omega))
    have O4 := Lib.hid (own_gr (own_ext O3.out (ext_alloc (ext_refl _) _)) hg (Nat.lt_succ_self _))
    have s03 := C3.out.lt
    have L4 : Hid (Blk w4 w3.heap.size 26 #[.string ⟨#[]⟩, .string ⟨#[]⟩, .int .i64 0]) := Lib.hid ((Blk.new w3 _ _).gr hg (by omega))
    clear hc hg s3_0 fs3_0 s3_1 fs3_1 s3_2 fs3_2 s3_3 fs3_3 s3_4 fs3_4 s3_5 fs3_5 s3_6 fs3_6
    go_wp2_with fail
    go_loopw [7] (fun i wr => ∃ (m : Nat) (d' p' : ByteArray) (z' : Int), i = .int .i64 m ∧ m ≤ 60 ∧ d'.size + p'.size + m * 85 ≤ 5100 ∧ 0 ≤ z' ∧ z' + m ≤ 60 ∧ Hid (Blk wr w3.heap.size 26 #[.string d', .string p', .int .i64 z']) ∧ Hid (Blk wr w.heap.size 28 #[.int .i64 0, .slice none 0 0, .int .i64 0, .int .i64 0, .string ⟨#[]⟩, .string ⟨#[]⟩, .int .i64 0]) ∧ Hid (Blk wr w1.heap.size 28 #[.int .i64 D, .slice A l.length c, .int .i64 P, .int .i64 Q, .string d, .string p, .int .i64 z]) ∧ Hid (wr.ownsRow ((w.heap.size + 1) + 1) 109 5 (.slice A l.length c) l.length (rowsV l)) ∧ Hid (CurAt wr (w.heap.size + 1) a3) ∧ Hid (Below w.heap.size w wr)) (fun i _ => (intOf i).toNat)
    case atStart => exact ⟨59 + q, ⟨#[]⟩, ⟨#[]⟩, 0, by go_num, by omega, by simp [lit_size]; omega, by omega, by omega, L4, R4, S4, O4, C4, X4⟩
    case round =>
     clear L4 R4 S4 O4 C4 X4
     obtain ⟨m, d', p', z', rfl, hm, hdp', hz0, hzm, L5, R5, S5, O5, C5, X5⟩ := hrel
     have sL := L5.out.lt
     have sS := S5.out.lt
     obtain ⟨l0, l1, l2⟩ := L5.out.q3
     obtain ⟨fl0, fl1, fl2⟩ := L5.out.z3
     by_cases hm0 : 0 < m
     · have hP := appP_size d' p' z' ⟨#[120]⟩ ⟨#[]⟩ (by decide) (by decide)
       obtain ⟨hZ0, hZ1⟩ := appZ_le d' p' z' ⟨#[120]⟩ ⟨#[]⟩
       have HQ := Lib.hid (fun w => specAppend_any d' p' z' ⟨#[120]⟩ ⟨#[]⟩ w (by omega) (by omega) (by decide) (by decide))
       generalize appP d' p' z' ⟨#[120]⟩ ⟨#[]⟩ = PP at *
       generalize appZ d' p' z' ⟨#[120]⟩ ⟨#[]⟩ = ZZ at *
       generalize appC d' p' z' ⟨#[120]⟩ ⟨#[]⟩ = CC at *
       go_wp2_with fail
       refine (HQ.out _).mono ?_
       rintro e w6 ⟨rfl, hb⟩
       have L6 := Lib.hid (L5.out.ext hb)
       have R6 := Lib.hid (R5.out.ext hb)
       have S6 := Lib.hid (S5.out.ext hb)
       have O6 := Lib.hid (own_ext O5.out hb)
       have C6 := Lib.hid (C5.out.ext hb)
       have X6 := Lib.hid (ext_trans X5.out hb)
       have sL6 := L6.out.lt
       clear hb HQ l0 l1 l2 fl0 fl1 fl2
       obtain ⟨l0, l1, l2⟩ := L6.out.q3
       obtain ⟨fl0, fl1, fl2⟩ := L6.out.z3
       have hneL := Lib.hid (own_nb O6.out L6.out (by decide))
       go_wp2
       go_roundw
       case rel =>
        refine ⟨m - 1, d', PP, ZZ, by go_num, by omega, by omega, by omega, by omega, ?_, ?_, ?_, ?_, ?_, ?_⟩
        · refine Lib.hid ?_
          have := ((L6.out.set_ 0 (.string d')).set_ 1 (.string PP)).set_ 2 (.int .i64 ZZ)
          simpa using this
        · exact Lib.hid (by iterate 3 (refine Blk.far ?_ (by show w.heap.size ≠ w3.heap.size; omega) _)
                            exact R6.out)
        · exact Lib.hid (by iterate 3 (refine Blk.far ?_ (by show w1.heap.size ≠ w3.heap.size; omega) _)
                            exact S6.out)
        · refine Lib.hid ?_
          iterate 3 with_reducible refine own_set_nb ?_ hneL.out _
          exact O6.out
        · exact Lib.hid (by iterate 3 (refine CurAt.far ?_ (by show w.heap.size + 1 < w3.heap.size; omega) _)
                            exact C6.out)
        · exact Lib.hid (by iterate 3 (refine ext_set ?_ (by show w.heap.size ≤ w3.heap.size; omega) _)
                            exact X6.out)
       case measure => simp [intOf]; omega
     · obtain rfl : m = 0 := by omega
       have hneS := Lib.hid (own_nb O5.out S5.out (by decide))
       obtain ⟨s0, s1, s2, s3, s4, s5, s6⟩ := S5.out.q7
       obtain ⟨fs0, fs1, fs2, fs3, fs4, fs5, fs6⟩ := S5.out.z7
       go_wp2
       go_meet
       refine ⟨d', p', z', a3, by omega, by omega, ?_, ?_, ?_, ?_, ?_⟩
       · exact Lib.hid (by iterate 3 (refine Blk.far ?_ (by show w.heap.size ≠ w1.heap.size; omega) _)
                           exact R5.out)
       · refine Lib.hid ?_
         have := ((S5.out.set_ 4 (.string d')).set_ 5 (.string p')).set_ 6 (.int .i64 z')
         simpa using this
       · refine Lib.hid ?_
         iterate 3 with_reducible refine own_set_nb ?_ hneS.out _
         exact O5.out
       · exact Lib.hid (by iterate 3 (refine CurAt.far ?_ (by show w.heap.size + 1 < w1.heap.size; omega) _)
                           exact C5.out)
       · exact Lib.hid (by iterate 3 (refine ext_set ?_ (by show w.heap.size ≤ w1.heap.size; omega) _)
                           exact X5.out)
 case rest =>
  clear R3 S3 O3 C3 X3 sR3 sS3 s3_0 fs3_0 s3_1 fs3_1 s3_2 fs3_2 s3_3 fs3_3 s3_4 fs3_4 s3_5 fs3_5 s3_6 fs3_6
  obtain ⟨d', p', z', a3, hdp', ha3, R7, S7, O7, C7, X7⟩ := hcut
  obtain ⟨w7, hw7⟩ : ∃ w7, w7 = wc := ⟨_, rfl⟩
  subst hw7
  have sR7 := R7.out.lt
  have sS7 := S7.out.lt
  obtain ⟨s7_0, s7_1, s7_2, s7_3, s7_4, s7_5, s7_6⟩ := S7.out.q7
  obtain ⟨fs7_0, fs7_1, fs7_2, fs7_3, fs7_4, fs7_5, fs7_6⟩ := S7.out.z7
  go_wp2_with fail
  refine (command_any _ a3 D P Q A l.length c l d' p' z' _ C7.out (by omega) (by omega) O7.out HID.out).mono ?_
  rintro e w8 ⟨tx, a4, rfl, htx, ha4, hc, hg⟩
  have C8 := Lib.hid hc
  have X8 := Lib.hid (Gr.below X7.out hg (by omega))
  have R8 := Lib.hid (R7.out.gr hg (by omega))
  have S8 := Lib.hid (S7.out.gr hg (by omega))
  have O8 := Lib.hid (own_gr O7.out hg (Nat.lt_succ_self _))
  clear hc hg
  clear s7_0 fs7_0 s7_1 fs7_1 s7_2 fs7_2 s7_3 fs7_3 s7_4 fs7_4 s7_5 fs7_5 s7_6 fs7_6
  go_wp2_with fail
  refine (one_any _ a4 8 _ C8.out (by omega) (by omega) (by omega)).mono ?_
  rintro e w9 ⟨b2, a5, rfl, ha5, hc, hg⟩
  have C9 := Lib.hid hc
  have X9 := Lib.hid (Gr.below X8.out hg (by omega))
  have R9 := Lib.hid (R8.out.gr hg (by omega))
  have S9 := Lib.hid (S8.out.gr hg (by omega))
  have O9 := Lib.hid (own_gr O8.out hg (Nat.lt_succ_self _))
  clear hc hg
  cases b2
  · have sR := R9.out.lt
    have sS := S9.out.lt
    obtain ⟨r0, r1, r2, r3, r4, r5, r6⟩ := R9.out.q7
    obtain ⟨fr0, fr1, fr2, fr3, fr4, fr5, fr6⟩ := R9.out.z7
    obtain ⟨s0, s1, s2, s3, s4, s5, s6⟩ := S9.out.q7
    obtain ⟨fs0, fs1, fs2, fs3, fs4, fs5, fs6⟩ := S9.out.z7
    have hneR := Lib.hid (own_nb O9.out R9.out (by decide))
    go_wp2
    refine bodyPost_ret (v := .tuple #[conV D A l.length c P Q d' p' z', .string tx]) (by simp [results, Try.results38, go_sem, *]) rfl ⟨D, P, Q, l, A, c, d', p', z', tx, rfl, hl9, hdp', by omega, ?_, ?_⟩
    · refine own_base (base := (w.heap.size + 1) + 1) ?_ (by omega)
      iterate 7 with_reducible refine own_set_nb ?_ hneR.out _
      exact O9.out
    · exact (by repeat (first | (with_reducible exact X9.out) | (refine ext_set ?_ (Nat.le_refl _) _)))
  · go_wp2_with fail
    refine (spoilt_any _ a5 tx ⟨#[32, 48, 49, 97, 64, 35, 44]⟩ _ C9.out (by omega) (by omega) (by decide) (by decide)).mono ?_
    rintro e w10 ⟨ty, a6, rfl, hty, ha6, hc, hg⟩
    have C10 := Lib.hid hc
    have X10 := Lib.hid (Gr.below X9.out hg (by omega))
    have R10 := Lib.hid (R9.out.gr hg (by omega))
    have S10 := Lib.hid (S9.out.gr hg (by omega))
    have O10 := Lib.hid (own_gr O9.out hg (Nat.lt_succ_self _))
    clear hc hg
    have sR := R10.out.lt
    have sS := S10.out.lt
    obtain ⟨r0, r1, r2, r3, r4, r5, r6⟩ := R10.out.q7
    obtain ⟨fr0, fr1, fr2, fr3, fr4, fr5, fr6⟩ := R10.out.z7
    obtain ⟨s0, s1, s2, s3, s4, s5, s6⟩ := S10.out.q7
    obtain ⟨fs0, fs1, fs2, fs3, fs4, fs5, fs6⟩ := S10.out.z7
    have hneR := Lib.hid (own_nb O10.out R10.out (by decide))
    go_wp2
    refine bodyPost_ret (v := .tuple #[conV D A l.length c P Q d' p' z', .string ty]) (by simp [results, Try.results38, go_sem, *]) rfl ⟨D, P, Q, l, A, c, d', p', z', ty, rfl, hl9, hdp', by omega, ?_, ?_⟩
    · refine own_base (base := (w.heap.size + 1) + 1) ?_ (by omega)
      iterate 7 with_reducible refine own_set_nb ?_ hneR.out _
      exact O10.out
    · exact (by repeat (first | (with_reducible exact X10.out) | (refine ext_set ?_ (Nat.le_refl _) _)))
end Go.Proofs.Ytclihlihaigddaa
