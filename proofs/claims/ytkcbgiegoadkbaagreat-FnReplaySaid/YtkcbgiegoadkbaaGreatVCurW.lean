/- The drawing of consoles. -/
import Derived.Test.YtkcbgiegoadkbaaGreatVCurQ
import Derived.Test.YtkcbgiegoadkbaaGreatVM5
import Derived.Test.YtkcbgiegoadkbaaGreatVM4
import Derived.Test.YtkcbgiegoadkbaaGreatVM12
namespace Go.Proofs.YtkcbgiegoadkbaaGreat
open Go.RowKit
set_option linter.unusedVariables false
set_option linter.unusedSimpArgs false
/-- a console is drawn -/
def DrawCon (g a K : Nat) (w : World) (e : Ending) (w' : World) : Prop := ∃ (D P Q : Int) (l : List R5) (A : Option Addr) (c : Nat) (d p : ByteArray) (z : Int) (a' : Nat), e = .returned (conV D A l.length c P Q d p z) ∧ l.length ≤ 9 ∧ (∀ r ∈ l, 0 ≤ r.a ∧ r.a ≤ 100) ∧ d.size + p.size ≤ 2500 ∧ w'.ownsRow (g + 1) 111 5 (.slice A l.length c) l.length (rowsV l) ∧ a' ≤ a + K ∧ CurAt w' g a' ∧ Gr g w w'
def RetExD (d p : ByteArray) (w : World) (e : Ending) (w' : World) : Prop :=
 ∃ (Dn Pn Qn : Int) (L : List R5) (pn : ByteArray) (zn : Int) (tx : ByteArray) (An : Option Addr) (cn : Nat), e = .returned (.tuple #[conV Dn An L.length cn Pn Qn d pn zn, .string tx]) ∧ L.length ≤ 9 ∧ (∀ r ∈ L, 0 ≤ r.a ∧ r.a ≤ 100) ∧ pn.size ≤ p.size + 405 ∧ w'.ownsRow w.heap.size 111 5 (.slice An L.length cn) L.length (rowsV L) ∧ Below w.heap.size w w'
theorem ex_draw (D P Q : Int) (d p : ByteArray) (z : Int) (A : Option Addr) (c : Nat) (l : List R5) (line : ByteArray) (w : World) (hl : l.length ≤ 9) (hid : ∀ r ∈ l, 0 ≤ r.a ∧ r.a ≤ 100) (hd : d.size ≤ 30000) (hp : p.size ≤ 30000) (hline : line.size ≤ 4000) (hA : SlOk A l.length c) (h : Reads w w.heap.size 5 A l.length (rowsV l)) :
 Calls Tryz.prog 18 #[conV D A l.length c P Q d p z, .string line] w (RetExD d p w) := by
 refine (specEx_any D P Q d p z A l.length c l line w (by omega) (by omega) (by omega) (by omega) hA h).mono ?_
 rintro e w' ⟨An, cn, rfl, ho, hb⟩
 have h1 := exQ_len (D, l, P, Q) d p z line
 have h1 : (exQ (D, l, P, Q) d p z line).2.1.length ≤ l.length ∨ (exQ (D, l, P, Q) d p z line).2.1.length ≤ 8 := h1
 refine ⟨_, _, _, (exQ (D, l, P, Q) d p z line).2.1, _, _, _, An, cn, rfl, by omega, ?_, exP_size _ _ _ _ _, ho, hb⟩
 unfold exQ
 split
 · rename_i hg
   simp only [exGo, conB, Bool.and_eq_true] at hg
   intro r hr
   have := (stu_bounds (schB_mem (afQ_ok hg.1.1.1 line) hr)).1
   omega
 · exact hid
set_option maxRecDepth 100000 in
set_option maxHeartbeats 8000000 in
theorem console_any (g a : Nat) (w : World) (h : CurAt w g a) (ha : a ≤ 400000000000) :
 Calls Tryz.prog 26 #[.pointer (some ⟨g, 0, none⟩)] w (DrawCon g a 1000 w) := by
 have hlt := h.lt
 have H := Lib.hid h
 have HEX := Lib.hid ex_draw
 have HGD := Lib.hid (fun D P Q p z A n c l (w : World) hn hp h => l28Good_any D P Q ⟨#[]⟩ p z A n c l w hn (by decide) hp h)
 clear h
 go_enter Tryz.func26, Tryz.ntmps26
 go_wp2_with fail
 refine (school_any g a _ (H.out.ext (ext_alloc (ext_refl _) _)) (by omega)).mono ?_
 rintro e w1 ⟨D0, P0, Q0, l0, A0, c0, a1, rfl, hl0, hid0, ho, ha1, hc, hg⟩
 have C1 := Lib.hid hc
 have G1 : Hid (Gr g w w1) := Lib.hid ((Gr.of_ext (ext_alloc (ext_refl w) _)).trans hg)
 have BR1 : Hid (Blk w1 w.heap.size 34 #[.int .i64 0, .slice none 0 0, .int .i64 0, .int .i64 0, .string ⟨#[]⟩, .string ⟨#[]⟩, .int .i64 0]) := Lib.hid ((Blk.new w _ _).gr hg (by omega))
 have HID0 := Lib.hid hid0
 have O1 := Lib.hid ho
 have sR1 := BR1.out.lt
 clear hc hg hid0 ho
 go_wp2_with fail
 refine (pick_any g a1 7 _ (C1.out.ext (ext_alloc (ext_refl _) _)) (by omega) (by omega) (by omega)).mono ?_
 rintro e w3 ⟨q, a2, rfl, q0, q1, ha2, hc, hg⟩
 obtain ⟨n, rfl⟩ := Int.eq_ofNat_of_zero_le q0
 have C3 := Lib.hid hc
 have G3 := Lib.hid ((G1.out.trans (Gr.of_ext (ext_alloc (ext_refl _) _))).trans hg)
 have BR3 := Lib.hid ((BR1.out.ext (ext_alloc (ext_refl _) _)).gr hg (by omega))
 have BS3 : Hid (Blk w3 w1.heap.size 34 #[.int .i64 D0, .slice A0 l0.length c0, .int .i64 P0, .int .i64 Q0, .string ⟨#[]⟩, .string ⟨#[]⟩, .int .i64 0]) := Lib.hid ((Blk.new w1 _ _).gr hg (by omega))
 have O3 := Lib.hid (own_gr (own_ext O1.out (ext_alloc (ext_refl _) _)) hg (Nat.lt_succ_self _))
 clear hc hg C1 G1 BR1 O1
 go_wp2_with fail
 go_loopw [4] (fun i wr => ∃ (m : Nat) (D P Q : Int) (l : List R5) (A : Option Addr) (c : Nat) (p : ByteArray) (z : Int) (a2 : Nat), i = .int .i64 m ∧ m ≤ 6 ∧ l.length ≤ 9 ∧ Hid (∀ r ∈ l, 0 ≤ r.a ∧ r.a ≤ 100) ∧ p.size + m * 405 ≤ 2430 ∧ a2 + m * 30 ≤ a + 850 ∧ Hid (Blk wr w.heap.size 34 #[.int .i64 0, .slice none 0 0, .int .i64 0, .int .i64 0, .string ⟨#[]⟩, .string ⟨#[]⟩, .int .i64 0]) ∧ Hid (Blk wr w1.heap.size 34 #[.int .i64 D, .slice A l.length c, .int .i64 P, .int .i64 Q, .string ⟨#[]⟩, .string p, .int .i64 z]) ∧ Hid (wr.ownsRow (g + 1) 111 5 (.slice A l.length c) l.length (rowsV l)) ∧ Hid (CurAt wr g a2) ∧ Hid (Gr g w wr)) (fun i _ => (intOf i).toNat)
 case atStart => exact ⟨n, D0, P0, Q0, l0, A0, c0, ⟨#[]⟩, 0, a2, rfl, by omega, hl0, HID0, by simp [lit_size]; omega, by omega, BR3, BS3, O3, C3, G3⟩
 case round =>
  clear C3 G3 BR3 BS3 O3
  obtain ⟨m, D, P, Q, l, A, c, p, z, a2, rfl, hm, hl9, HID, hp, ha2, BR, BS, HO, HC, HG⟩ := hrel
  have sR := BR.out.lt
  have sS := BS.out.lt
  obtain ⟨s0, s1, s2, s3, s4, s5, s6⟩ := BS.out.q7
  obtain ⟨fs0, fs1, fs2, fs3, fs4, fs5, fs6⟩ := BS.out.z7
  have hncap := own_cap3 HO.out
  have hsl := slOk_own HO.out
  by_cases hm0 : 0 < m
  · go_wp2_with fail
    refine (HGD.out D P Q p z A l.length c l _ (by omega) (by omega) (Reads.of_own HO.out)).mono ?_
    rintro e w9 ⟨rfl, hb⟩
    have BR := Lib.hid (BR.out.ext hb)
    have BS := Lib.hid (BS.out.ext hb)
    have HO := Lib.hid (own_ext HO.out hb)
    have HC := Lib.hid (HC.out.ext hb)
    have HG := Lib.hid (HG.out.trans (Gr.of_ext hb))
    have sR := BR.out.lt
    have sS := BS.out.lt
    clear hb s0 fs0 s1 fs1 s2 fs2 s3 fs3 s4 fs4 s5 fs5 s6 fs6
    obtain ⟨t0, t1, t2, t3, t4, t5, t6⟩ := BS.out.q7
    obtain ⟨ft0, ft1, ft2, ft3, ft4, ft5, ft6⟩ := BS.out.z7
    obtain ⟨good, hgood⟩ : ∃ good, conB D l P Q ⟨#[]⟩ p z = good := ⟨_, rfl⟩
    rw [hgood]
    clear hgood
    cases good
    · clear t0 ft0 t1 ft1 t2 ft2 t3 ft3 t4 ft4 t5 ft5 t6 ft6
      go_wp2_with fail
      refine (one_any g a2 24 _ HC.out (by omega) (by omega) (by omega)).mono ?_
      rintro e w20 ⟨b, a3, rfl, ha3, hc, hg⟩
      have C2 := Lib.hid hc
      have G2 := Lib.hid (HG.out.trans hg)
      have R2 := Lib.hid (BR.out.gr hg (by omega))
      have S2 := Lib.hid (BS.out.gr hg (by omega))
      have O2 := Lib.hid (own_gr HO.out hg (Nat.lt_succ_self _))
      clear hc hg BR BS HO HC HG
      cases b
      · have sR2 := R2.out.lt
        have sS2 := S2.out.lt
        obtain ⟨r20, r21, r22, r23, r24, r25, r26⟩ := R2.out.q7
        obtain ⟨fr20, fr21, fr22, fr23, fr24, fr25, fr26⟩ := R2.out.z7
        obtain ⟨s20, s21, s22, s23, s24, s25, s26⟩ := S2.out.q7
        obtain ⟨fs20, fs21, fs22, fs23, fs24, fs25, fs26⟩ := S2.out.z7
        have hneR := Lib.hid (own_nb O2.out R2.out (by decide))
        have hneS := Lib.hid (own_nb O2.out S2.out (by decide))
        go_wp2
        refine bodyPost_ret (v := conV D A l.length c P Q ⟨#[]⟩ p z) (by simp [results, Tryz.results26, go_sem, *]) rfl ⟨D, P, Q, l, A, c, ⟨#[]⟩, p, z, a3, rfl, hl9, HID.out, by first | omega | (simp [lit_size]; omega), ?_, by omega, ?_, ?_⟩
        · iterate 7 with_reducible refine own_set_nb ?_ (by first | exact hneR.out | exact hneS.out) _
          exact O2.out
        · exact (by repeat (first | (with_reducible exact C2.out) | (refine CurAt.far ?_ (by first | (show g < w.heap.size; omega) | (show g < w1.heap.size; omega)) _)))
        · exact (by repeat (first | (with_reducible exact G2.out) | (refine Gr.setNew ?_ (by first | exact Nat.le_refl _ | (show w.heap.size ≤ w1.heap.size; omega)) _)))
      · go_wp2_with fail
        refine (anyLog_any g a3 _ C2.out (by omega)).mono ?_
        rintro e w30 ⟨dz, pz, zz, a4, rfl, hdz, hz0, hz1, ha4, hc, hg⟩
        have C3 := Lib.hid hc
        have G3 := Lib.hid (G2.out.trans hg)
        have R3 := Lib.hid (R2.out.gr hg (by omega))
        have S3 := Lib.hid (S2.out.gr hg (by omega))
        have O3 := Lib.hid (own_gr O2.out hg (Nat.lt_succ_self _))
        clear hc hg C2 G2 R2 S2 O2
        have sR3 := R3.out.lt
        have sS3 := S3.out.lt
        obtain ⟨r30, r31, r32, r33, r34, r35, r36⟩ := R3.out.q7
        obtain ⟨fr30, fr31, fr32, fr33, fr34, fr35, fr36⟩ := R3.out.z7
        obtain ⟨s30, s31, s32, s33, s34, s35, s36⟩ := S3.out.q7
        obtain ⟨fs30, fs31, fs32, fs33, fs34, fs35, fs36⟩ := S3.out.z7
        have hneR := Lib.hid (own_nb O3.out R3.out (by decide))
        have hneS := Lib.hid (own_nb O3.out S3.out (by decide))
        go_wp2
        refine bodyPost_ret (v := conV D A l.length c P Q dz pz zz) (by simp [results, Tryz.results26, go_sem, *]) rfl ⟨D, P, Q, l, A, c, dz, pz, zz, a4, rfl, hl9, HID.out, by first | omega | (simp [lit_size]; omega), ?_, by omega, ?_, ?_⟩
        · iterate 10 with_reducible refine own_set_nb ?_ (by first | exact hneR.out | exact hneS.out) _
          exact O3.out
        · exact (by repeat (first | (with_reducible exact C3.out) | (refine CurAt.far ?_ (by first | (show g < w.heap.size; omega) | (show g < w1.heap.size; omega)) _)))
        · exact (by repeat (first | (with_reducible exact G3.out) | (refine Gr.setNew ?_ (by first | exact Nat.le_refl _ | (show w.heap.size ≤ w1.heap.size; omega)) _)))
    · go_wp2_with fail
      go_region_with (first | (go_at_call 19; refine (command_any g a2 D P Q A l.length c l ⟨#[]⟩ p z w9.drew (HC.out.ext (w := w9) (ext_drew (ext_refl _))) (by omega) (by omega) (World.ownsRow.drew HO.out) HID.out).mono ?_; rintro e w5 ⟨line, a3, rfl, hline, ha3, hc5, hg5⟩; have hgW : Gr g w9 w5 := Gr.trans (Gr.of_ext (ext_drew (ext_refl _))) hg5; have BS5 := BS.out.gr hgW (by omega); obtain ⟨x0, x1, x2, x3, x4, x5, x6⟩ := BS5.q7; obtain ⟨fx0, fx1, fx2, fx3, fx4, fx5, fx6⟩ := BS5.z7; have HS5 := Lib.hid BS5; clear BS5) | (go_at_call 18; refine (HEX.out D P Q ⟨#[]⟩ p z A c l line w5 (by omega) HID.out (by decide) (by omega) (by omega) hsl (Reads.of_own (own_gr HO.out hgW (Nat.lt_succ_self _)))).mono ?_; rintro e w6 ⟨Dn, Pn, Qn, L, pn, zn, tx, An, cn, rfl, hL9, hLid, hpn, ho6, hb6⟩; have T6 := HS5.out.ext hb6; obtain ⟨y0, y1, y2, y3, y4, y5, y6⟩ := T6.q7; obtain ⟨fy0, fy1, fy2, fy3, fy4, fy5, fy6⟩ := T6.z7; have HS6 := Lib.hid T6; clear T6))
      all_goals
       have zb := hb6.size
       have z5 := hgW.size
       have C6 := hc5.ext hb6
       have G6 := (HG.out.trans hgW).trans (Gr.of_ext hb6)
       have R6 := (BR.out.gr hgW (by omega)).ext hb6
       have hne := Lib.hid (own_nb ho6 HS6.out (by decide))
       have HC6 := Lib.hid C6
       have HG6 := Lib.hid G6
       have HR6 := Lib.hid R6
       have HO6 := Lib.hid (own_base (base' := g + 1) ho6 (by omega))
       have HLI := Lib.hid hLid
       clear C6 G6 R6 ho6 hc5 hb6 hg5 hgW hLid
       go_wp2
       go_roundw
       case rel =>
        refine ⟨m - 1, Dn, Pn, Qn, L, An, cn, pn, zn, a3, by go_num, by omega, hL9, HLI, by omega, by omega, ?_, ?_, ?_, ?_, ?_⟩
        · exact Lib.hid (by iterate 7 (refine Blk.far ?_ (by show w.heap.size ≠ w1.heap.size; omega) _)
                            exact HR6.out)
        · refine Lib.hid ?_
          have := (((((((HS6.out.set_ 0 (.int .i64 Dn)).set_ 1 (.slice An L.length cn)).set_ 2 (.int .i64 Pn)).set_ 3 (.int .i64 Qn)).set_ 4 (.string ⟨#[]⟩)).set_ 5 (.string pn)).set_ 6 (.int .i64 zn))
          simpa using this
        · refine Lib.hid ?_
          iterate 7 with_reducible refine own_set_nb ?_ hne.out _
          exact HO6.out
        · exact Lib.hid (by iterate 7 (refine CurAt.far ?_ (by show g < w1.heap.size; omega) _)
                            exact HC6.out)
        · exact Lib.hid (by iterate 7 (refine Gr.setNew ?_ (by show w.heap.size ≤ w1.heap.size; omega) _)
                            exact HG6.out)
       case measure => simp [intOf]; omega
  · obtain rfl : m = 0 := by omega
    clear s0 fs0 s1 fs1 s2 fs2 s3 fs3 s4 fs4 s5 fs5 s6 fs6
    go_wp2_with fail
    refine (one_any g a2 24 _ HC.out (by omega) (by omega) (by omega)).mono ?_
    rintro e w20 ⟨b, a3, rfl, ha3, hc, hg⟩
    have C2 := Lib.hid hc
    have G2 := Lib.hid (HG.out.trans hg)
    have R2 := Lib.hid (BR.out.gr hg (by omega))
    have S2 := Lib.hid (BS.out.gr hg (by omega))
    have O2 := Lib.hid (own_gr HO.out hg (Nat.lt_succ_self _))
    clear hc hg BR BS HO HC HG
    cases b
    · have sR2 := R2.out.lt
      have sS2 := S2.out.lt
      obtain ⟨r20, r21, r22, r23, r24, r25, r26⟩ := R2.out.q7
      obtain ⟨fr20, fr21, fr22, fr23, fr24, fr25, fr26⟩ := R2.out.z7
      obtain ⟨s20, s21, s22, s23, s24, s25, s26⟩ := S2.out.q7
      obtain ⟨fs20, fs21, fs22, fs23, fs24, fs25, fs26⟩ := S2.out.z7
      have hneR := Lib.hid (own_nb O2.out R2.out (by decide))
      have hneS := Lib.hid (own_nb O2.out S2.out (by decide))
      go_wp2
      refine bodyPost_ret (v := conV D A l.length c P Q ⟨#[]⟩ p z) (by simp [results, Tryz.results26, go_sem, *]) rfl ⟨D, P, Q, l, A, c, ⟨#[]⟩, p, z, a3, rfl, hl9, HID.out, by first | omega | (simp [lit_size]; omega), ?_, by omega, ?_, ?_⟩
      · iterate 7 with_reducible refine own_set_nb ?_ (by first | exact hneR.out | exact hneS.out) _
        exact O2.out
      · exact (by repeat (first | (with_reducible exact C2.out) | (refine CurAt.far ?_ (by first | (show g < w.heap.size; omega) | (show g < w1.heap.size; omega)) _)))
      · exact (by repeat (first | (with_reducible exact G2.out) | (refine Gr.setNew ?_ (by first | exact Nat.le_refl _ | (show w.heap.size ≤ w1.heap.size; omega)) _)))
    · go_wp2_with fail
      refine (anyLog_any g a3 _ C2.out (by omega)).mono ?_
      rintro e w30 ⟨dz, pz, zz, a4, rfl, hdz, hz0, hz1, ha4, hc, hg⟩
      have C3 := Lib.hid hc
      have G3 := Lib.hid (G2.out.trans hg)
      have R3 := Lib.hid (R2.out.gr hg (by omega))
      have S3 := Lib.hid (S2.out.gr hg (by omega))
      have O3 := Lib.hid (own_gr O2.out hg (Nat.lt_succ_self _))
      clear hc hg C2 G2 R2 S2 O2
      have sR3 := R3.out.lt
      have sS3 := S3.out.lt
      obtain ⟨r30, r31, r32, r33, r34, r35, r36⟩ := R3.out.q7
      obtain ⟨fr30, fr31, fr32, fr33, fr34, fr35, fr36⟩ := R3.out.z7
      obtain ⟨s30, s31, s32, s33, s34, s35, s36⟩ := S3.out.q7
      obtain ⟨fs30, fs31, fs32, fs33, fs34, fs35, fs36⟩ := S3.out.z7
      have hneR := Lib.hid (own_nb O3.out R3.out (by decide))
      have hneS := Lib.hid (own_nb O3.out S3.out (by decide))
      go_wp2
      refine bodyPost_ret (v := conV D A l.length c P Q dz pz zz) (by simp [results, Tryz.results26, go_sem, *]) rfl ⟨D, P, Q, l, A, c, dz, pz, zz, a4, rfl, hl9, HID.out, by first | omega | (simp [lit_size]; omega), ?_, by omega, ?_, ?_⟩
      · iterate 10 with_reducible refine own_set_nb ?_ (by first | exact hneR.out | exact hneS.out) _
        exact O3.out
      · exact (by repeat (first | (with_reducible exact C3.out) | (refine CurAt.far ?_ (by first | (show g < w.heap.size; omega) | (show g < w1.heap.size; omega)) _)))
      · exact (by repeat (first | (with_reducible exact G3.out) | (refine Gr.setNew ?_ (by first | exact Nat.le_refl _ | (show w.heap.size ≤ w1.heap.size; omega)) _)))
end Go.Proofs.YtkcbgiegoadkbaaGreat
