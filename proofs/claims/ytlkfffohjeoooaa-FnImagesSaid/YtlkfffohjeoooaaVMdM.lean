/- Minds: the reference's step (begun: the head is walked, the kinds and the end are left). -/
import Derived.Deep.CutBlock
import Derived.Test.YtlkfffohjeoooaaVM11
import Derived.Test.YtlkfffohjeoooaaVMdG
namespace Go.Proofs.Ytlkfffohjeoooaa
open Go.RowKit
set_option linter.unusedVariables false
set_option linter.unusedSimpArgs false
/-- a mind that was made comes back, or any with no -/
def RetMk (w : World) (o : Option Md) (e : Ending) (w' : World) : Prop := match o with
 | none => (∃ (u lo : Int) (A : Option Addr) (n c : Nat) (K : Option Addr) (k kc : Nat) (I : Option Addr) (m ic : Nat) (be gu : Int), e = .returned (.tuple #[mdV u lo A n c K k kc I m ic be gu, .bool false])) ∧ Below w.heap.size w w'
 | some q => ∃ h c g kc i ic, e = .returned (.tuple #[mdV q.u q.lo (some ⟨h, 0, none⟩) q.l.length c (some ⟨g, 0, none⟩) q.l.length kc (some ⟨i, 0, none⟩) q.l.length ic q.be q.gu, .bool true]) ∧
   w'.ownsRow w.heap.size 155 2 (.slice (some ⟨h, 0, none⟩) q.l.length c) q.l.length (rowsV2 q.l) ∧ w'.ownsRow w.heap.size 3 1 (.slice (some ⟨g, 0, none⟩) q.l.length kc) q.l.length (intsV q.cl) ∧ w'.ownsRow w.heap.size 3 1 (.slice (some ⟨i, 0, none⟩) q.l.length ic) q.l.length (intsV q.im) ∧ g ≠ i ∧ Below w.heap.size w w'
theorem lost_head {im cl : List Int} {n : Nat} (hr : rowsM im cl n = true) (hl : im.length = n) : (lostAt im < n → ∃ t, lostL im n = (lostAt im : Int) :: t) ∧ (¬ lostAt im < n → lostL im n = []) := by
 have h1 : ∀ k, k ≤ lostAt im → k ≤ n → lostL im k = [] := by
  intro k
  induction k with
  | zero => intro _ _; rfl
  | succ k ih =>
    intro h1 h2
    obtain ⟨d, hd⟩ := list_split (l := im) (k := k) (by omega)
    rw [lostL_no hd (by have := lost_before (k := k) (by omega) hd; omega)]
    exact ih (by omega) (by omega)
 have h2 : ∀ k, lostAt im < k → k ≤ n → ∃ t, lostL im k = (lostAt im : Int) :: t := by
  intro k
  induction k with
  | zero => intro h _; omega
  | succ k ih =>
    intro h1' h2
    obtain ⟨d, hd⟩ := list_split (l := im) (k := k) (by omega)
    by_cases e : k = lostAt im
    · have hd' := lost_at (im := im) (d := d) (by rw [← e]; exact hd)
      have hrm := (rowM_iff.1 (rowsM_at hr (k := k) (by omega))).1
      rw [getD_of hd] at hrm
      have : d = -1 := by omega
      subst this
      rw [lostL_yes hd, h1 k (by omega) (by omega), e]
      exact ⟨[], rfl⟩
    · obtain ⟨t, ht⟩ := ih (by omega) (by omega)
      by_cases e2 : d = -1
      · subst e2
        rw [lostL_yes hd, ht]
        exact ⟨t ++ [(k : Int)], rfl⟩
      · rw [lostL_no hd e2, ht]
        exact ⟨t, rfl⟩
 exact ⟨fun h => h2 n h (Nat.le_refl _), fun h => h1 n (by omega) (Nat.le_refl _)⟩
set_option maxRecDepth 100000 in
set_option maxHeartbeats 16000000 in
theorem l21Make_any (u lo : Int) (A : Option Addr) (n c : Nat) (l : List R2) (K : Option Addr) (kc : Nat) (cl : List Int) (I : Option Addr) (ic : Nat) (im : List Int) (be gu k v : Int) (w : World) (hok : mdOK ⟨u, lo, l, cl, im, be, gu⟩ = true) (hst : stepOkM k v = true) (h : Reads w w.heap.size 2 A n (rowsV2 l)) (hc : Reads w w.heap.size 1 K n (intsV cl)) (hi : Reads w w.heap.size 1 I n (intsV im)) :
 Calls Try.prog 100 #[mdV u lo A n c K n kc I n ic be gu, .agg #[.int .i64 k, .int .i64 v]] w (RetMk w (stM ⟨u, lo, l, cl, im, be, gu⟩ k v)) := by
 obtain ⟨hg, him, hcl, ⟨be0, be9⟩, ⟨gu0, gu9⟩, hrow⟩ := mdOK_parts hok
 dsimp only at hg hcl him hrow be0 be9 gu0 gu9
 have hl := rows_len2 h
 rw [hl] at hcl him hrow
 obtain ⟨_, _, hn1, hn8⟩ := frB_head (good_fr hg)
 rw [hl] at hn1 hn8
 have HG := Lib.hid hg
 have HL := Lib.hid hl
 have HCL := Lib.hid hcl
 have HIM := Lib.hid him
 have HROW := Lib.hid hrow
 have HST := Lib.hid hst
 have H := Lib.hid h
 have HC := Lib.hid hc
 have HI := Lib.hid hi
 have hbx := Lib.hid (ext_alloc (ext_alloc (ext_alloc (ext_refl w) (.cells (mdC u lo A n c K n kc I n ic be gu) 47)) (.cells #[.int .i64 k, .int .i64 v] 51)) (.cells #[.int .i64 0, .int .i64 0, .slice none 0 0, .slice none 0 0, .slice none 0 0, .int .i64 0, .int .i64 0] 47))
 have BM0 := Lib.hid (((Blk.born w (mdC u lo A n c K n kc I n ic be gu) 47 (H := w.heap.size) rfl).al (.cells #[.int .i64 k, .int .i64 v] 51)).al (.cells #[.int .i64 0, .int .i64 0, .slice none 0 0, .slice none 0 0, .slice none 0 0, .int .i64 0, .int .i64 0] 47))
 have BS0 := Lib.hid (((Blk.born (w.alloc (.cells (mdC u lo A n c K n kc I n ic be gu) 47)) #[.int .i64 k, .int .i64 v] 51 (H := w.heap.size + 1) (by simp))).al (.cells #[.int .i64 0, .int .i64 0, .slice none 0 0, .slice none 0 0, .slice none 0 0, .int .i64 0, .int .i64 0] 47))
 have BR0 := Lib.hid (Blk.born ((w.alloc (.cells (mdC u lo A n c K n kc I n ic be gu) 47)).alloc (.cells #[.int .i64 k, .int .i64 v] 51)) #[.int .i64 0, .int .i64 0, .slice none 0 0, .slice none 0 0, .slice none 0 0, .int .i64 0, .int .i64 0] 47 (H := w.heap.size + 1 + 1) (by simp))
 clear h hc hi hg hl hcl him hrow hok hst
 go_enter Try.func100, Try.ntmps100
 go_wp2_with fail
 (with_reducible refine (l21Own_any u lo A n c l K kc cl I ic im be gu _ hn1 (by omega) (rdx H.out hbx.out) (rdx HC.out hbx.out) (rdx HI.out hbx.out)).mono ?_)
 rintro e w1 ⟨h, cr, g, kc1, i, ic1, rfl, hr, hc, hi, hne, hb⟩
 have hs0 := hbx.out.size
 obtain ⟨N, hN⟩ : ∃ N, N = w1.heap.size := ⟨_, rfl⟩
 obtain ⟨W, hW⟩ : ∃ y : World, y = w1.alloc (.cells (mdC u lo (some ⟨h, 0, none⟩) n cr (some ⟨g, 0, none⟩) n kc1 (some ⟨i, 0, none⟩) n ic1 be gu) 47) := ⟨_, rfl⟩
 have BN1 := Lib.hid (show Blk W N 47 (mdC u lo (some ⟨h, 0, none⟩) n cr (some ⟨g, 0, none⟩) n kc1 (some ⟨i, 0, none⟩) n ic1 be gu) by rw [hW]; exact Blk.born w1 (mdC u lo (some ⟨h, 0, none⟩) n cr (some ⟨g, 0, none⟩) n kc1 (some ⟨i, 0, none⟩) n ic1 be gu) 47 (H := N) hN)
 have BR1 := Lib.hid (show Blk W (w.heap.size + 1 + 1) 47 #[.int .i64 0, .int .i64 0, .slice none 0 0, .slice none 0 0, .slice none 0 0, .int .i64 0, .int .i64 0] by rw [hW]; exact (BR0.out.ext hb).al _)
 have BS1 := Lib.hid (show Blk W (w.heap.size + 1) 51 #[.int .i64 k, .int .i64 v] by rw [hW]; exact (BS0.out.ext hb).al _)
 have BM1 := Lib.hid (show Blk W w.heap.size 47 (mdC u lo A n c K n kc I n ic be gu) by rw [hW]; exact (BM0.out.ext hb).al _)
 have HR1 := Lib.hid (show W.ownsRow w.heap.size 155 2 (.slice (some ⟨h, 0, none⟩) n cr) n (rowsV2 l) by rw [hW]; exact (own_base (base' := w.heap.size) hr hs0).alloc _)
 have HC1 := Lib.hid (show W.ownsRow w.heap.size 3 1 (.slice (some ⟨g, 0, none⟩) n kc1) n (intsV cl) by rw [hW]; exact (own_base (base' := w.heap.size) hc hs0).alloc _)
 have HI1 := Lib.hid (show W.ownsRow w.heap.size 3 1 (.slice (some ⟨i, 0, none⟩) n ic1) n (intsV im) by rw [hW]; exact (own_base (base' := w.heap.size) hi hs0).alloc _)
 have HB1 := Lib.hid (show Below w.heap.size w W by rw [hW]; exact ext_alloc (ext_trans hbx.out hb) _)
 have hNw : w.heap.size + 1 + 1 < N := by have := (BR0.out.ext hb).lt; omega
 go_upto_region 2 with fail
 rw [← hN, ← hW]
 clear hr hc hi hb hN hW BR0 BS0 BM0 hbx hs0
 obtain ⟨s0, s1⟩ := BS1.out.q2
 have ls := BS1.out.lt
 go_upto_block 0 with fail
 clear s0 s1 ls
 go_cut [7] (fun s7 wx => s7 = .bool true ∧ ∃ (q1 : Md) (h cr g kc1 i ic1 : Nat), q1.l.length = n ∧ q1.cl.length = n ∧ q1.im.length = n ∧ g ≠ i ∧ Hid (stM ⟨u, lo, l, cl, im, be, gu⟩ k v = gdM q1) ∧ Hid (Blk wx N 47 (mdC q1.u q1.lo (some ⟨h, 0, none⟩) n cr (some ⟨g, 0, none⟩) n kc1 (some ⟨i, 0, none⟩) n ic1 q1.be q1.gu)) ∧ Hid (Blk wx (w.heap.size + 1 + 1) 47 #[.int .i64 0, .int .i64 0, .slice none 0 0, .slice none 0 0, .slice none 0 0, .int .i64 0, .int .i64 0]) ∧ Hid (wx.ownsRow w.heap.size 155 2 (.slice (some ⟨h, 0, none⟩) n cr) n (rowsV2 q1.l)) ∧ Hid (wx.ownsRow w.heap.size 3 1 (.slice (some ⟨g, 0, none⟩) n kc1) n (intsV q1.cl)) ∧ Hid (wx.ownsRow w.heap.size 3 1 (.slice (some ⟨i, 0, none⟩) n ic1) n (intsV q1.im)) ∧ Hid (Below w.heap.size w wx))
 case first =>
  rcases (show k = 1 ∨ k = 2 ∨ k = 3 ∨ k = 4 ∨ k = 5 ∨ (k ≠ 1 ∧ k ≠ 2 ∧ k ≠ 3 ∧ k ≠ 4 ∧ k ≠ 5) by omega) with rfl | rfl | rfl | rfl | rfl | hk
  · have hv19 : 1 ≤ v ∧ v ≤ 9 := by have := HST.out; unfold stepOkM at this; rw [if_pos rfl] at this; exact inB_iff.1 this
    obtain ⟨v1, v9⟩ := hv19
    obtain ⟨r, hvr⟩ := Int.eq_ofNat_of_zero_le (show 0 ≤ v by omega)
    subst hvr
    have FC0 := Lib.hid (show fC ((0 : Nat) : Int) (-1) cl im n = cl from fC_none HROW.out HCL.out)
    have FI0 := Lib.hid (show fI ((0 : Nat) : Int) (-1) cl im n = im from fI_none HROW.out HIM.out)
    obtain ⟨d0, d1, d2, d3, d4, d5, d6⟩ := BN1.out.q7
    obtain ⟨z0, z1, z2, z3, z4, z5, z6⟩ := BN1.out.z7
    obtain ⟨s0, s1⟩ := BS1.out.q2
    obtain ⟨r0, r1, r2, r3, r4, r5, r6⟩ := BR1.out.q7
    obtain ⟨y0, y1, y2, y3, y4, y5, y6⟩ := BR1.out.z7
    have ln := BN1.out.lt
    have ls := BS1.out.lt
    have lr := BR1.out.lt
    obtain ⟨m0, m1, m2, m3, m4, m5, m6⟩ := BM1.out.q7
    have lm := BM1.out.lt
    go_wp2_with fail
    go_loopw [8] (fun jj wr => ∃ (j h cr g kc1 i ic1 : Nat), j ≤ r ∧ jj = .int .i64 j ∧ g ≠ i ∧ Hid (Blk wr N 47 (mdC u lo (some ⟨h, 0, none⟩) n cr (some ⟨g, 0, none⟩) n kc1 (some ⟨i, 0, none⟩) n ic1 be gu)) ∧ Hid (Blk wr (w.heap.size + 1) 51 #[.int .i64 1, .int .i64 (r : Int)]) ∧ Hid (Blk wr (w.heap.size + 1 + 1) 47 #[.int .i64 0, .int .i64 0, .slice none 0 0, .slice none 0 0, .slice none 0 0, .int .i64 0, .int .i64 0]) ∧ Hid (Blk wr w.heap.size 47 (mdC u lo A n c K n kc I n ic be gu)) ∧ Hid (wr.ownsRow w.heap.size 155 2 (.slice (some ⟨h, 0, none⟩) n cr) n (rowsV2 l)) ∧ Hid (wr.ownsRow w.heap.size 3 1 (.slice (some ⟨g, 0, none⟩) n kc1) n (intsV (fC (j : Int) (-1) cl im n))) ∧ Hid (wr.ownsRow w.heap.size 3 1 (.slice (some ⟨i, 0, none⟩) n ic1) n (intsV (fI (j : Int) (-1) cl im n))) ∧ Hid (Below w.heap.size w wr)) (fun jj _ => r - (intOf jj).toNat)
    case atStart => exact ⟨0, h, cr, g, kc1, i, ic1, Nat.zero_le _, rfl, hne, BN1, BS1, BR1, BM1, HR1, by rw [FC0.out]; exact HC1, by rw [FI0.out]; exact HI1, HB1⟩
    case round =>
     clear d0 d1 d2 d3 d4 d5 d6 z0 z1 z2 z3 z4 z5 z6 s0 s1 r0 r1 r2 r3 r4 r5 r6 y0 y1 y2 y3 y4 y5 y6 ln ls lr
     clear m0 m1 m2 m3 m4 m5 m6 lm
     clear BN1 BS1 BR1 BM1 HR1 HC1 HI1 HB1 hne
     obtain ⟨j, h, cr, g, kc1, i, ic1, hj, rfl, hne, BN1, BS1, BR1, BM1, HR1, HC1, HI1, HB1⟩ := hrel
     obtain ⟨d0, d1, d2, d3, d4, d5, d6⟩ := BN1.out.q7
     obtain ⟨z0, z1, z2, z3, z4, z5, z6⟩ := BN1.out.z7
     obtain ⟨s0, s1⟩ := BS1.out.q2
     obtain ⟨r0, r1, r2, r3, r4, r5, r6⟩ := BR1.out.q7
     obtain ⟨y0, y1, y2, y3, y4, y5, y6⟩ := BR1.out.z7
     have ln := BN1.out.lt
     have ls := BS1.out.lt
     have lr := BR1.out.lt
     obtain ⟨m0, m1, m2, m3, m4, m5, m6⟩ := BM1.out.q7
     have lm := BM1.out.lt
     by_cases hlt : j < r
     · skip
       have e2 : (j : Int) < (r : Int) := by omega
       have HRJ := Lib.hid (rowsM_fade (b := (j : Int)) (ex := -1) HROW.out (by omega))
       have FCJ := Lib.hid (fC_more (j := j) HROW.out)
       have FIJ := Lib.hid (fI_more (j := j) HROW.out)
       go_wp2_with fail
       (with_reducible refine (l21Fade_any u lo (some ⟨h, 0, none⟩) n cr l (some ⟨g, 0, none⟩) kc1 (fC (j : Int) (-1) cl im n) (some ⟨i, 0, none⟩) ic1 (fI (j : Int) (-1) cl im n) be gu (-1) _ hn1 (by omega) HRJ.out (Reads.of_own HR1.out) (Reads.of_own HC1.out) (Reads.of_own HI1.out)).mono ?_)
       rw [FCJ.out, FIJ.out]
       rintro e w2 ⟨h2, cr2, g2, kc2, i2, ic2, rfl, hr2, hc2, hi2, hne2, hb⟩
       have BM2 := Lib.hid (BM1.out.ext hb)
       clear d0 d1 d2 d3 d4 d5 d6 z0 z1 z2 z3 z4 z5 z6 s0 s1 r0 r1 r2 r3 r4 r5 r6 y0 y1 y2 y3 y4 y5 y6 ln ls lr
       clear m0 m1 m2 m3 m4 m5 m6 lm
       have BN2 := Lib.hid (BN1.out.ext hb)
       have BS2 := Lib.hid (BS1.out.ext hb)
       have BR2 := Lib.hid (BR1.out.ext hb)
       have HR2 := Lib.hid (own_base (base' := w.heap.size) hr2 HB1.out.size)
       have HC2 := Lib.hid (own_base (base' := w.heap.size) hc2 HB1.out.size)
       have HI2 := Lib.hid (own_base (base' := w.heap.size) hi2 HB1.out.size)
       have HB2 := Lib.hid (ext_trans HB1.out hb)
       clear hr2 hc2 hi2 hb
       obtain ⟨d0, d1, d2, d3, d4, d5, d6⟩ := BN2.out.q7
       obtain ⟨z0, z1, z2, z3, z4, z5, z6⟩ := BN2.out.z7
       obtain ⟨s0, s1⟩ := BS2.out.q2
       obtain ⟨r0, r1, r2, r3, r4, r5, r6⟩ := BR2.out.q7
       obtain ⟨y0, y1, y2, y3, y4, y5, y6⟩ := BR2.out.z7
       have ln := BN2.out.lt
       have ls := BS2.out.lt
       have lr := BR2.out.lt
       obtain ⟨m0, m1, m2, m3, m4, m5, m6⟩ := BM2.out.q7
       have lm := BM2.out.lt
       go_wp2
       go_roundw
       case rel => exact ⟨j + 1, h2, cr2, g2, kc2, i2, ic2, by omega, by go_num, hne2, Lib.hid (m7_put BN2.out), Lib.hid (m7_far BS2.out (by omega)), Lib.hid (m7_far BR2.out (by omega)), Lib.hid (m7_far BM2.out (by omega)), Lib.hid (m7_own HR2.out (own_nbT HR2.out BN2.out (by decide))), Lib.hid (by push_cast; exact m7_own HC2.out (own_nbT HC2.out BN2.out (by decide))), Lib.hid (by push_cast; exact m7_own HI2.out (own_nbT HI2.out BN2.out (by decide))), Lib.hid (m7_below HB2.out (by omega))⟩
       case measure => simp [intOf]; omega
     · have hjr : j = r := by omega
       subst hjr
       go_wp2
       go_meet
       refine ⟨rfl, ⟨u, lo, l, fC (j : Int) (-1) cl im n, fI (j : Int) (-1) cl im n, be + j, gu⟩, h, cr, g, kc1, i, ic1, HL.out, fCto_len .., fIto_len .., hne, Lib.hid ?_, Lib.hid (BN1.out.set_ 5 _), Lib.hid (BR1.out.setF (p := ⟨N, 5, none⟩) (by show N ≠ w.heap.size + 1 + 1; omega) _), Lib.hid (own_setF (p := ⟨N, 5, none⟩) HR1.out (own_nbT HR1.out BN1.out (by decide)) _), Lib.hid (own_setF (p := ⟨N, 5, none⟩) HC1.out (own_nbT HC1.out BN1.out (by decide)) _), Lib.hid (own_setF (p := ⟨N, 5, none⟩) HI1.out (own_nbT HI1.out BN1.out (by decide)) _), Lib.hid (HB1.out.setCell (p := ⟨N, 5, none⟩) (by show w.heap.size ≤ N; omega) _)⟩
       unfold stM st1
       rw [if_pos rfl, if_pos (inB_iff.2 ⟨v1, v9⟩)]
       dsimp only
       rw [HL.out]
  · have hv0 : v = 0 := by have := HST.out; unfold stepOkM at this; rw [if_neg (by decide), if_pos rfl] at this; simpa using this
    subst hv0
    obtain ⟨d0, d1, d2, d3, d4, d5, d6⟩ := BN1.out.q7
    obtain ⟨z0, z1, z2, z3, z4, z5, z6⟩ := BN1.out.z7
    obtain ⟨s0, s1⟩ := BS1.out.q2
    obtain ⟨r0, r1, r2, r3, r4, r5, r6⟩ := BR1.out.q7
    obtain ⟨y0, y1, y2, y3, y4, y5, y6⟩ := BR1.out.z7
    have ln := BN1.out.lt
    have ls := BS1.out.lt
    have lr := BR1.out.lt
    obtain ⟨m0, m1, m2, m3, m4, m5, m6⟩ := BM1.out.q7
    have lm := BM1.out.lt
    go_wp2_with fail
    (with_reducible refine (l21Look_one u lo A n c l K n kc I n ic be gu _ HG.out (rdx H.out HB1.out)).mono ?_)
    rintro e w2 ⟨h2, cr2, g2, kc2, i2, ic2, rfl, hr2, hc2, hi2, hne2, hb⟩
    have BM2 := Lib.hid (BM1.out.ext hb)
    clear d0 d1 d2 d3 d4 d5 d6 z0 z1 z2 z3 z4 z5 z6 s0 s1 r0 r1 r2 r3 r4 r5 r6 y0 y1 y2 y3 y4 y5 y6 ln ls lr
    clear m0 m1 m2 m3 m4 m5 m6 lm
    have BN2 := Lib.hid (BN1.out.ext hb)
    have BS2 := Lib.hid (BS1.out.ext hb)
    have BR2 := Lib.hid (BR1.out.ext hb)
    have HR2 := Lib.hid (own_base (base' := w.heap.size) hr2 HB1.out.size)
    have HC2 := Lib.hid (own_base (base' := w.heap.size) hc2 HB1.out.size)
    have HI2 := Lib.hid (own_base (base' := w.heap.size) hi2 HB1.out.size)
    have HB2 := Lib.hid (ext_trans HB1.out hb)
    have HDS := Lib.hid (show (dsOf l).length = n by rw [dsOf_len]; exact HL.out)
    clear hr2 hc2 hi2 hb
    obtain ⟨d0, d1, d2, d3, d4, d5, d6⟩ := BN2.out.q7
    obtain ⟨z0, z1, z2, z3, z4, z5, z6⟩ := BN2.out.z7
    obtain ⟨s0, s1⟩ := BS2.out.q2
    obtain ⟨r0, r1, r2, r3, r4, r5, r6⟩ := BR2.out.q7
    obtain ⟨y0, y1, y2, y3, y4, y5, y6⟩ := BR2.out.z7
    have ln := BN2.out.lt
    have ls := BS2.out.lt
    have lr := BR2.out.lt
    obtain ⟨m0, m1, m2, m3, m4, m5, m6⟩ := BM2.out.q7
    have lm := BM2.out.lt
    go_wp2
    go_meet
    refine ⟨rfl, ⟨u, lo, l, List.replicate n 5, dsOf l, be + 3, gu⟩, h2, cr2, g2, kc2, i2, ic2, HL.out, by simp, HDS.out, hne2, Lib.hid ?_, Lib.hid ((m7_put BN2.out).set_ 5 _), Lib.hid ((m7_far BR2.out (by omega)).setF (p := ⟨N, 5, none⟩) (by show N ≠ w.heap.size + 1 + 1; omega) _), Lib.hid (own_setF (p := ⟨N, 5, none⟩) (m7_own HR2.out (own_nbT HR2.out BN2.out (by decide))) (own_nbT HR2.out BN2.out (by decide)) _), Lib.hid (own_setF (p := ⟨N, 5, none⟩) (m7_own HC2.out (own_nbT HC2.out BN2.out (by decide))) (own_nbT HC2.out BN2.out (by decide)) _), Lib.hid (own_setF (p := ⟨N, 5, none⟩) (m7_own HI2.out (own_nbT HI2.out BN2.out (by decide))) (own_nbT HI2.out BN2.out (by decide)) _), Lib.hid ((m7_below HB2.out (by omega)).setCell (p := ⟨N, 5, none⟩) (by show w.heap.size ≤ N; omega) _)⟩
    unfold stM st2
    rw [if_neg (by decide), if_pos rfl, if_pos rfl]
    dsimp only
    rw [HL.out]
  · have hv0 : 0 ≤ v := by have := HST.out; unfold stepOkM at this; rw [if_neg (by decide), if_neg (by decide), if_pos rfl] at this; exact (inB_iff.1 this).1
    obtain ⟨r, hvr⟩ := Int.eq_ofNat_of_zero_le hv0
    subst hvr
    obtain ⟨d0, d1, d2, d3, d4, d5, d6⟩ := BN1.out.q7
    obtain ⟨z0, z1, z2, z3, z4, z5, z6⟩ := BN1.out.z7
    obtain ⟨s0, s1⟩ := BS1.out.q2
    obtain ⟨r0, r1, r2, r3, r4, r5, r6⟩ := BR1.out.q7
    obtain ⟨y0, y1, y2, y3, y4, y5, y6⟩ := BR1.out.z7
    have ln := BN1.out.lt
    have ls := BS1.out.lt
    have lr := BR1.out.lt
    obtain ⟨m0, m1, m2, m3, m4, m5, m6⟩ := BM1.out.q7
    have lm := BM1.out.lt
    by_cases hrn : r < n
    · skip
      have hrn2 : (r : Int) < (n : Int) := by omega
      obtain ⟨x, hx⟩ := list_split (l := cl) (k := r) (by rw [HCL.out]; exact hrn)
      obtain ⟨d, hd⟩ := list_split (l := im) (k := r) (by rw [HIM.out]; exact hrn)
      have hrm := rowM_iff.1 (by have := rowsM_at HROW.out hrn; rwa [getD_of hx, getD_of hd] at this)
      have hxd := Lib.hid hrm.2.2
      obtain ⟨bk, ok, hK, hbk, ck⟩ := ints_at (rdx HC.out HB1.out) hx
      subst hK
      have hbw : bk < W.heap.size := hbk
      have HD := Lib.hid hd
      clear hd hx hrm
      by_cases hx0 : x = 0
      · have e1 : (x == 0) = true := by simpa using hx0
        have HX0 := Lib.hid hx0
        clear hx0
        have E := Lib.hid (show stM ⟨u, lo, l, cl, im, be, gu⟩ 3 (r : Int) = none by unfold stM st3; rw [if_neg (by decide), if_neg (by decide), if_pos rfl, if_neg (by dsimp only; rw [Int.toNat_natCast, getD_of HD.out]; have h8 := HX0.out; have h9 := hxd.out; omega)])
        go_wp2
        refine bodyPost_ret (v := .tuple #[mdV u lo (some ⟨h, 0, none⟩) n cr (some ⟨g, 0, none⟩) n kc1 (some ⟨i, 0, none⟩) n ic1 be gu, .bool false]) (by simp [results, Try.results100, go_sem, *]) rfl ?_
        rw [E.out]
        exact ⟨⟨_, _, _, _, _, _, _, _, _, _, _, _, _, rfl⟩, by repeat (first | (with_reducible exact HB1.out) | (with_reducible refine ext_alloc ?_ _) | (with_reducible refine ext_set ?_ (by show w.heap.size ≤ w.heap.size + 1 + 1; omega) _))⟩
      · have e1 : (x == 0) = false := by simpa using hx0
        have HX0 := Lib.hid hx0
        clear hx0
        go_wp2_with fail
        (with_reducible refine (l21Fade_any u lo A n c l (some ⟨bk, ok, none⟩) kc cl I ic im be gu (r : Int) _ hn1 (by omega) HROW.out (rdx H.out HB1.out) (rdx HC.out HB1.out) (rdx HI.out HB1.out)).mono ?_)
        rintro e w2 ⟨h2, cr2, g2, kc2, i2, ic2, rfl, hr2, hc2, hi2, hne2, hb⟩
        have BM2 := Lib.hid (BM1.out.ext hb)
        clear d0 d1 d2 d3 d4 d5 d6 z0 z1 z2 z3 z4 z5 z6 s0 s1 r0 r1 r2 r3 r4 r5 r6 y0 y1 y2 y3 y4 y5 y6 ln ls lr
        clear m0 m1 m2 m3 m4 m5 m6 lm
        have BN2 := Lib.hid (BN1.out.ext hb)
        have BS2 := Lib.hid (BS1.out.ext hb)
        have BR2 := Lib.hid (BR1.out.ext hb)
        have HR2 := Lib.hid (own_base (base' := w.heap.size) hr2 HB1.out.size)
        have HC2 := Lib.hid (own_base (base' := w.heap.size) hc2 HB1.out.size)
        have HI2 := Lib.hid (own_base (base' := w.heap.size) hi2 HB1.out.size)
        have HB2 := Lib.hid (ext_trans HB1.out hb)
        clear hr2 hc2 hi2 hb ck hbk hbw
        obtain ⟨d0, d1, d2, d3, d4, d5, d6⟩ := BN2.out.q7
        obtain ⟨z0, z1, z2, z3, z4, z5, z6⟩ := BN2.out.z7
        obtain ⟨s0, s1⟩ := BS2.out.q2
        obtain ⟨r0, r1, r2, r3, r4, r5, r6⟩ := BR2.out.q7
        obtain ⟨y0, y1, y2, y3, y4, y5, y6⟩ := BR2.out.z7
        have ln := BN2.out.lt
        have ls := BS2.out.lt
        have lr := BR2.out.lt
        obtain ⟨m0, m1, m2, m3, m4, m5, m6⟩ := BM2.out.q7
        have lm := BM2.out.lt
        obtain ⟨y, hy⟩ := list_split (l := fC 1 (r : Int) cl im n) (k := r) (by rw [show (fC 1 (r : Int) cl im n).length = n from fCto_len ..]; exact hrn)
        have qc := int_cell HC2.out hy
        have fc := own_frozen HC2.out r
        have lg : g2 < w2.heap.size := (HC2.out.lt _ rfl).2
        clear hy
        have hgN : g2 ≠ N := fun e => own_nbT HC2.out BN2.out (by decide) (by rw [e]; rfl)
        have hgR : g2 ≠ w.heap.size + 1 + 1 := fun e => own_nbT HC2.out BR2.out (by decide) (by rw [e]; rfl)
        have hgM : g2 ≠ w.heap.size := fun e => own_nbT HC2.out BM2.out (by decide) (by rw [e]; rfl)
        have hNg := hgN.symm
        have hMg := hgM.symm
        go_wp2
        go_meet
        obtain ⟨cs, hcs⟩ := own_blk HC2.out
        refine ⟨rfl, ⟨u, lo, l, (fC 1 (r : Int) cl im n).set r 5, fI 1 (r : Int) cl im n, be + 1, gu⟩, h2, cr2, g2, kc2, i2, ic2, HL.out, by show ((fC 1 (r : Int) cl im n).set r 5).length = n; rw [List.length_set]; exact fCto_len .., fIto_len .., hne2, Lib.hid ?_, Lib.hid (((m7_put BN2.out).setF (p := ⟨g2, r, none⟩) hgN _).set_ 5 _), Lib.hid (((m7_far BR2.out (by omega)).setF (p := ⟨g2, r, none⟩) hgR _).setF (p := ⟨N, 5, none⟩) (by show N ≠ w.heap.size + 1 + 1; omega) _), Lib.hid (own_setF (p := ⟨N, 5, none⟩) (own_setF (p := ⟨g2, r, none⟩) (m7_own HR2.out (own_nbT HR2.out BN2.out (by decide))) (own_nbT HR2.out hcs (by decide)) _) (own_nbT HR2.out BN2.out (by decide)) _), Lib.hid (own_setF (p := ⟨N, 5, none⟩) (int_set (m7_own HC2.out (own_nbT HC2.out BN2.out (by decide)))) (own_nbT HC2.out BN2.out (by decide)) _), Lib.hid (own_setF (p := ⟨N, 5, none⟩) (own_setF (p := ⟨g2, r, none⟩) (m7_own HI2.out (own_nbT HI2.out BN2.out (by decide))) (by intro e; injection e with e; exact hne2 e.symm) _) (own_nbT HI2.out BN2.out (by decide)) _), Lib.hid (((m7_below HB2.out (by omega)).setCell (p := ⟨g2, r, none⟩) (HC2.out.lt _ rfl).1 _).setCell (p := ⟨N, 5, none⟩) (by show w.heap.size ≤ N; omega) _)⟩
        unfold stM st3
        rw [if_neg (by decide), if_neg (by decide), if_pos rfl, if_pos (by dsimp only; rw [HL.out, Int.toNat_natCast, getD_of HD.out]; have h8 := HX0.out; have h9 := hxd.out; exact ⟨inB_iff.2 (by omega), by omega⟩)]
        dsimp only
        rw [HL.out, Int.toNat_natCast]
    · have hrn2 : ¬ ((r : Int) < (n : Int)) := by omega
      have E := Lib.hid (show stM ⟨u, lo, l, cl, im, be, gu⟩ 3 (r : Int) = none by unfold stM st3; rw [if_neg (by decide), if_neg (by decide), if_pos rfl, if_neg (by dsimp only; rw [HL.out]; intro e; have := (inB_iff.1 e.1).2; omega)])
      go_wp2
      refine bodyPost_ret (v := .tuple #[mdV u lo (some ⟨h, 0, none⟩) n cr (some ⟨g, 0, none⟩) n kc1 (some ⟨i, 0, none⟩) n ic1 be gu, .bool false]) (by simp [results, Try.results100, go_sem, *]) rfl ?_
      rw [E.out]
      exact ⟨⟨_, _, _, _, _, _, _, _, _, _, _, _, _, rfl⟩, by repeat (first | (with_reducible exact HB1.out) | (with_reducible refine ext_alloc ?_ _) | (with_reducible refine ext_set ?_ (by show w.heap.size ≤ w.heap.size + 1 + 1; omega) _))⟩
  · have hv1 : 1 ≤ v := by have := HST.out; unfold stepOkM at this; rw [if_neg (by decide), if_neg (by decide), if_neg (by decide), if_pos rfl] at this; exact (inB_iff.1 this).1
    obtain ⟨d0, d1, d2, d3, d4, d5, d6⟩ := BN1.out.q7
    obtain ⟨z0, z1, z2, z3, z4, z5, z6⟩ := BN1.out.z7
    obtain ⟨s0, s1⟩ := BS1.out.q2
    obtain ⟨r0, r1, r2, r3, r4, r5, r6⟩ := BR1.out.q7
    obtain ⟨y0, y1, y2, y3, y4, y5, y6⟩ := BR1.out.z7
    have ln := BN1.out.lt
    have ls := BS1.out.lt
    have lr := BR1.out.lt
    obtain ⟨m0, m1, m2, m3, m4, m5, m6⟩ := BM1.out.q7
    have lm := BM1.out.lt
    cases hOK : addNok u lo l v
    · skip
      have HOK := Lib.hid hOK
      have HADD := Lib.hid (fun (w : World) a => specAddNumber_any u lo A n c l v w (by omega) a)
      rw [hOK, show addNF u lo l v = (0, 0, []) by simp [addNF, hOK]] at HADD
      unfold RetFrB at HADD
      dsimp only at HADD
      clear hOK
      go_wp2_with fail
      refine (HADD.out _ (rdx H.out HB1.out)).mono ?_
      rintro e w2 ⟨A2, c2, rfl, _, hb⟩
      have BM2 := Lib.hid (BM1.out.ext hb)
      clear d0 d1 d2 d3 d4 d5 d6 z0 z1 z2 z3 z4 z5 z6 s0 s1 r0 r1 r2 r3 r4 r5 r6 y0 y1 y2 y3 y4 y5 y6 ln ls lr
      clear m0 m1 m2 m3 m4 m5 m6 lm
      have BN2 := Lib.hid (BN1.out.ext hb)
      have BS2 := Lib.hid (BS1.out.ext hb)
      have BR2 := Lib.hid (BR1.out.ext hb)
      have HR2 := Lib.hid (own_ext HR1.out hb)
      have HC2 := Lib.hid (own_ext HC1.out hb)
      have HI2 := Lib.hid (own_ext HI1.out hb)
      have HB2 := Lib.hid (ext_trans HB1.out hb)
      obtain ⟨d0, d1, d2, d3, d4, d5, d6⟩ := BN2.out.q7
      obtain ⟨z0, z1, z2, z3, z4, z5, z6⟩ := BN2.out.z7
      obtain ⟨s0, s1⟩ := BS2.out.q2
      obtain ⟨r0, r1, r2, r3, r4, r5, r6⟩ := BR2.out.q7
      obtain ⟨y0, y1, y2, y3, y4, y5, y6⟩ := BR2.out.z7
      have ln := BN2.out.lt
      have ls := BS2.out.lt
      have lr := BR2.out.lt
      obtain ⟨m0, m1, m2, m3, m4, m5, m6⟩ := BM2.out.q7
      have lm := BM2.out.lt
      clear hb
      have E := Lib.hid (show stM ⟨u, lo, l, cl, im, be, gu⟩ 4 v = none by unfold stM st4; rw [if_neg (by decide), if_neg (by decide), if_neg (by decide), if_pos rfl, if_neg (by dsimp only; rw [HOK.out]; simp)])
      go_wp2
      refine bodyPost_ret (v := .tuple #[mdV u lo (some ⟨h, 0, none⟩) n cr (some ⟨g, 0, none⟩) n kc1 (some ⟨i, 0, none⟩) n ic1 be gu, .bool false]) (by simp [results, Try.results100, go_sem, *]) rfl ?_
      rw [E.out]
      exact ⟨⟨_, _, _, _, _, _, _, _, _, _, _, _, _, rfl⟩, by repeat (first | (with_reducible exact HB2.out) | (with_reducible refine ext_alloc ?_ _) | (with_reducible refine ext_set ?_ (by show w.heap.size ≤ w.heap.size + 1 + 1; omega) _))⟩
    · skip
      have HOK := Lib.hid hOK
      have hXn : (rodsD (addNst l v).ds).length = n := by rw [rodsD_len]; unfold addNst; rw [addN_len]; show (dsOf l).length = n; rw [dsOf_len]; exact HL.out
      have HADD := Lib.hid (fun (w : World) a => specAddNumber_any u lo A n c l v w (by omega) a)
      rw [hOK, show addNF u lo l v = (u, lo, rodsD (addNst l v).ds) by simp [addNF, hOK]] at HADD
      unfold RetFrB at HADD
      dsimp only at HADD
      obtain ⟨X, hX⟩ : ∃ X, rodsD (addNst l v).ds = X := ⟨_, rfl⟩
      rw [hX] at HADD hXn
      rw [hXn] at HADD
      have HX := Lib.hid hX
      have HXN := Lib.hid hXn
      clear hOK hX hXn
      go_wp2_with fail
      refine (HADD.out _ (rdx H.out HB1.out)).mono ?_
      rintro e w2 ⟨A2, c2, rfl, ho2, hb⟩
      obtain ⟨h2, cap2, hv2, _, _⟩ := ho2.form (by omega)
      injection hv2 with hv2 _ hv3
      subst hv2 hv3
      have HF2 := Lib.hid (own_base (base' := w.heap.size) ho2 HB1.out.size)
      clear ho2
      have BM2 := Lib.hid (BM1.out.ext hb)
      clear d0 d1 d2 d3 d4 d5 d6 z0 z1 z2 z3 z4 z5 z6 s0 s1 r0 r1 r2 r3 r4 r5 r6 y0 y1 y2 y3 y4 y5 y6 ln ls lr
      clear m0 m1 m2 m3 m4 m5 m6 lm
      have BN2 := Lib.hid (BN1.out.ext hb)
      have BS2 := Lib.hid (BS1.out.ext hb)
      have BR2 := Lib.hid (BR1.out.ext hb)
      have HR2 := Lib.hid (own_ext HR1.out hb)
      have HC2 := Lib.hid (own_ext HC1.out hb)
      have HI2 := Lib.hid (own_ext HI1.out hb)
      have HB2 := Lib.hid (ext_trans HB1.out hb)
      obtain ⟨d0, d1, d2, d3, d4, d5, d6⟩ := BN2.out.q7
      obtain ⟨z0, z1, z2, z3, z4, z5, z6⟩ := BN2.out.z7
      obtain ⟨s0, s1⟩ := BS2.out.q2
      obtain ⟨r0, r1, r2, r3, r4, r5, r6⟩ := BR2.out.q7
      obtain ⟨y0, y1, y2, y3, y4, y5, y6⟩ := BR2.out.z7
      have ln := BN2.out.lt
      have ls := BS2.out.lt
      have lr := BR2.out.lt
      obtain ⟨m0, m1, m2, m3, m4, m5, m6⟩ := BM2.out.q7
      have lm := BM2.out.lt
      clear hb
      go_wp2
      go_meet
      refine ⟨rfl, ⟨u, lo, X, cl, im, be, gu⟩, h2, _, g, kc1, i, ic1, HXN.out, HCL.out, HIM.out, hne, Lib.hid ?_, Lib.hid ((((BN2.out.set_ 0 _).set_ 1 _).set_ 2 _).al _), Lib.hid ((fill_far BR2.out (by omega)).al _), Lib.hid (World.ownsRow.alloc (fill_own' HF2.out (own_nbT HF2.out BN2.out (by decide))) _), Lib.hid (World.ownsRow.alloc (fill_own' HC2.out (own_nbT HC2.out BN2.out (by decide))) _), Lib.hid (World.ownsRow.alloc (fill_own' HI2.out (own_nbT HI2.out BN2.out (by decide))) _), Lib.hid (ext_alloc (fill_below HB2.out (by omega)) _)⟩
      unfold stM st4
      rw [if_neg (by decide), if_neg (by decide), if_neg (by decide), if_pos rfl, if_pos ⟨HOK.out, by omega⟩]
      dsimp only
      rw [HX.out]
  · have hv09 : 0 ≤ v ∧ v ≤ 9 := by have := HST.out; unfold stepOkM at this; rw [if_neg (by decide), if_neg (by decide), if_neg (by decide), if_neg (by decide)] at this; exact inB_iff.1 (by simpa using this)
    obtain ⟨v0, v9⟩ := hv09
    have hLn := lost_le im
    rw [HIM.out] at hLn
    have HLH := Lib.hid (lost_head HROW.out HIM.out)
    obtain ⟨T, hT⟩ : ∃ T, lostL im n = T := ⟨_, rfl⟩
    have HLT := Lib.hid (fun (w : World) a => l21Lost_any u lo A n c K n kc I n ic im be gu w (by omega) a)
    rw [hT] at HLT HLH
    obtain ⟨L, hL⟩ : ∃ L, lostAt im = L := ⟨_, rfl⟩
    rw [hL] at HLH hLn
    have HLL := Lib.hid hL
    clear hL hT
    obtain ⟨d0, d1, d2, d3, d4, d5, d6⟩ := BN1.out.q7
    obtain ⟨z0, z1, z2, z3, z4, z5, z6⟩ := BN1.out.z7
    obtain ⟨s0, s1⟩ := BS1.out.q2
    obtain ⟨r0, r1, r2, r3, r4, r5, r6⟩ := BR1.out.q7
    obtain ⟨y0, y1, y2, y3, y4, y5, y6⟩ := BR1.out.z7
    have ln := BN1.out.lt
    have ls := BS1.out.lt
    have lr := BR1.out.lt
    obtain ⟨m0, m1, m2, m3, m4, m5, m6⟩ := BM1.out.q7
    have lm := BM1.out.lt
    rcases T with _ | ⟨t0, T⟩
    · skip
      have hLN : ¬ L < n := fun e => by obtain ⟨t, ht⟩ := HLH.out.1 e; cases ht
      go_wp2_with fail
      refine (HLT.out _ (rdx HI.out HB1.out)).mono ?_
      rintro e w2 ⟨A2, c2, rfl, _, hb⟩
      have BM2 := Lib.hid (BM1.out.ext hb)
      clear d0 d1 d2 d3 d4 d5 d6 z0 z1 z2 z3 z4 z5 z6 s0 s1 r0 r1 r2 r3 r4 r5 r6 y0 y1 y2 y3 y4 y5 y6 ln ls lr
      clear m0 m1 m2 m3 m4 m5 m6 lm
      have BN2 := Lib.hid (BN1.out.ext hb)
      have BS2 := Lib.hid (BS1.out.ext hb)
      have BR2 := Lib.hid (BR1.out.ext hb)
      have HR2 := Lib.hid (own_ext HR1.out hb)
      have HC2 := Lib.hid (own_ext HC1.out hb)
      have HI2 := Lib.hid (own_ext HI1.out hb)
      have HB2 := Lib.hid (ext_trans HB1.out hb)
      obtain ⟨d0, d1, d2, d3, d4, d5, d6⟩ := BN2.out.q7
      obtain ⟨z0, z1, z2, z3, z4, z5, z6⟩ := BN2.out.z7
      obtain ⟨s0, s1⟩ := BS2.out.q2
      obtain ⟨r0, r1, r2, r3, r4, r5, r6⟩ := BR2.out.q7
      obtain ⟨y0, y1, y2, y3, y4, y5, y6⟩ := BR2.out.z7
      have ln := BN2.out.lt
      have ls := BS2.out.lt
      have lr := BR2.out.lt
      obtain ⟨m0, m1, m2, m3, m4, m5, m6⟩ := BM2.out.q7
      have lm := BM2.out.lt
      clear hb
      have E := Lib.hid (show stM ⟨u, lo, l, cl, im, be, gu⟩ 5 v = none by unfold stM st5; rw [if_neg (by decide), if_neg (by decide), if_neg (by decide), if_neg (by decide), if_pos rfl, if_neg (by dsimp only; rw [HLL.out, HL.out]; intro e; exact hLN e.1)])
      go_wp2
      refine bodyPost_ret (v := .tuple #[mdV u lo (some ⟨h, 0, none⟩) n cr (some ⟨g, 0, none⟩) n kc1 (some ⟨i, 0, none⟩) n ic1 be gu, .bool false]) (by simp [results, Try.results100, go_sem, *]) rfl ?_
      rw [E.out]
      exact ⟨⟨_, _, _, _, _, _, _, _, _, _, _, _, _, rfl⟩, by repeat (first | (with_reducible exact HB2.out) | (with_reducible refine ext_alloc ?_ _) | (with_reducible refine ext_set ?_ (by show w.heap.size ≤ w.heap.size + 1 + 1; omega) _))⟩
    · skip
      have hLN : L < n := by
       refine Decidable.byContradiction fun e => ?_
       cases HLH.out.2 e
      obtain ⟨t1, ht1⟩ := HLH.out.1 hLN
      injection ht1 with ht1 _
      subst ht1
      clear HLH
      obtain ⟨T1, hT1⟩ : ∃ T1, ((L : Int) :: T).length = T1 := ⟨_, rfl⟩
      rw [hT1] at HLT
      have hT1p : 0 < T1 := by rw [← hT1]; simp
      have e1 : ((T1 : Int) == 0) = false := by simp; omega
      have e2 : (0 : Int) < (T1 : Int) := by omega
      have lb1 : i < W.heap.size := (HI1.out.lt _ rfl).2
      have lb2 : g < W.heap.size := (HC1.out.lt _ rfl).2
      clear hT1
      go_wp2_with fail
      refine (HLT.out _ (rdx HI.out HB1.out)).mono ?_
      rintro e w2 ⟨A2, c2, rfl, ho2, hb⟩
      obtain ⟨b2, cap2, hv2, hbl2, _⟩ := ho2.form (by omega)
      injection hv2 with hv2 _ hv3
      subst hv2 hv3
      have q0 := int_cell ho2 (k := 0) (z := (L : Int)) rfl
      have lb : b2 < w2.heap.size := (ho2.lt _ rfl).2
      have HO2 := Lib.hid (own_base (base' := w.heap.size) ho2 HB1.out.size)
      clear ho2
      have BM2 := Lib.hid (BM1.out.ext hb)
      clear d0 d1 d2 d3 d4 d5 d6 z0 z1 z2 z3 z4 z5 z6 s0 s1 r0 r1 r2 r3 r4 r5 r6 y0 y1 y2 y3 y4 y5 y6 ln ls lr
      clear m0 m1 m2 m3 m4 m5 m6 lm
      have BN2 := Lib.hid (BN1.out.ext hb)
      have BS2 := Lib.hid (BS1.out.ext hb)
      have BR2 := Lib.hid (BR1.out.ext hb)
      have HR2 := Lib.hid (own_ext HR1.out hb)
      have HC2 := Lib.hid (own_ext HC1.out hb)
      have HI2 := Lib.hid (own_ext HI1.out hb)
      have HB2 := Lib.hid (ext_trans HB1.out hb)
      obtain ⟨d0, d1, d2, d3, d4, d5, d6⟩ := BN2.out.q7
      obtain ⟨z0, z1, z2, z3, z4, z5, z6⟩ := BN2.out.z7
      obtain ⟨s0, s1⟩ := BS2.out.q2
      obtain ⟨r0, r1, r2, r3, r4, r5, r6⟩ := BR2.out.q7
      obtain ⟨y0, y1, y2, y3, y4, y5, y6⟩ := BR2.out.z7
      have ln := BN2.out.lt
      have ls := BS2.out.lt
      have lr := BR2.out.lt
      obtain ⟨m0, m1, m2, m3, m4, m5, m6⟩ := BM2.out.q7
      have lm := BM2.out.lt
      clear hb
      obtain ⟨d, hd⟩ := list_split (l := im) (k := L) (by rw [HIM.out]; omega)
      obtain ⟨x, hx⟩ := list_split (l := cl) (k := L) (by rw [HCL.out]; omega)
      have HD := Lib.hid hd
      have HX := Lib.hid hx
      clear hd hx
      have qi := int_cell HI2.out HD.out
      have qc := int_cell HC2.out HX.out
      have fi := own_frozen HI2.out L
      have fc := own_frozen HC2.out L
      have li : i < w2.heap.size := (HI2.out.lt _ rfl).2
      have lg : g < w2.heap.size := (HC2.out.lt _ rfl).2
      have hiN : i ≠ N := fun e => own_nbT HI2.out BN2.out (by decide) (by rw [e]; rfl)
      have his : i ≠ w.heap.size + 1 := fun e => own_nbT HI2.out BS2.out (by decide) (by rw [e]; rfl)
      have hiR : i ≠ w.heap.size + 1 + 1 := fun e => own_nbT HI2.out BR2.out (by decide) (by rw [e]; rfl)
      have hiM : i ≠ w.heap.size := fun e => own_nbT HI2.out BM2.out (by decide) (by rw [e]; rfl)
      have hgN : g ≠ N := fun e => own_nbT HC2.out BN2.out (by decide) (by rw [e]; rfl)
      have hgR : g ≠ w.heap.size + 1 + 1 := fun e => own_nbT HC2.out BR2.out (by decide) (by rw [e]; rfl)
      have hgM : g ≠ w.heap.size := fun e => own_nbT HC2.out BM2.out (by decide) (by rw [e]; rfl)
      have hib : i ≠ b2 := by omega
      have hgb : g ≠ b2 := by omega
      have hLN2 : (L : Int) < (n : Int) := by omega
      go_upto_region 6 with fail
      go_region
      obtain ⟨X, hX⟩ : ∃ y : World, y = (w2.setCell ⟨i, L, none⟩ (.int .i64 v)).drew := ⟨_, rfl⟩
      obtain ⟨cs, hcs⟩ := own_blk HC2.out
      obtain ⟨ds, hds⟩ := own_blk HI2.out
      have BM3 := Lib.hid (show Blk X w.heap.size 47 _ by rw [hX]; exact (BM2.out.setF (p := ⟨i, L, none⟩) hiM _).ext (ext_drew (ext_refl _)))
      have BN3 := Lib.hid (show Blk X N 47 (mdC u lo (some ⟨h, 0, none⟩) n cr (some ⟨g, 0, none⟩) n kc1 (some ⟨i, 0, none⟩) n ic1 be gu) by rw [hX]; exact (BN2.out.setF (p := ⟨i, L, none⟩) hiN _).ext (ext_drew (ext_refl _)))
      have BR3 := Lib.hid (show Blk X (w.heap.size + 1 + 1) 47 #[.int .i64 0, .int .i64 0, .slice none 0 0, .slice none 0 0, .slice none 0 0, .int .i64 0, .int .i64 0] by rw [hX]; exact (BR2.out.setF (p := ⟨i, L, none⟩) hiR _).ext (ext_drew (ext_refl _)))
      have q03 : X.cell? ⟨b2, 0, none⟩ = some (.int .i64 (L : Int)) := by rw [hX]; exact cell_drew (cell_set_far hib q0)
      have qc3 : X.cell? ⟨g, L, none⟩ = some (.int .i64 x) := by rw [hX]; exact cell_drew (cell_set_far (fun e => hne e.symm) qc)
      have HR3 := Lib.hid (show X.ownsRow w.heap.size 155 2 (.slice (some ⟨h, 0, none⟩) n cr) n (rowsV2 l) by rw [hX]; exact World.ownsRow.drew (own_setF (p := ⟨i, L, none⟩) HR2.out (own_nbT HR2.out hds (by decide)) _))
      have HC3 := Lib.hid (show X.ownsRow w.heap.size 3 1 (.slice (some ⟨g, 0, none⟩) n kc1) n (intsV cl) by rw [hX]; exact World.ownsRow.drew (own_setF (p := ⟨i, L, none⟩) HC2.out (by intro e; injection e with e; exact hne e) _))
      have HI3 := Lib.hid (show X.ownsRow w.heap.size 3 1 (.slice (some ⟨i, 0, none⟩) n ic1) n (intsV (im.set L v)) by rw [hX]; exact World.ownsRow.drew (int_set HI2.out))
      have HB3 := Lib.hid (show Below w.heap.size w X by rw [hX]; exact (HB2.out.setCell (p := ⟨i, L, none⟩) (HI2.out.lt _ rfl).1 _).drew)
      have lb3 : b2 < X.heap.size := by rw [hX]; exact (show b2 < ((w2.setCell ⟨i, L, none⟩ (.int .i64 v)).drew).heap.size by simpa using lb)
      have lg3 : g < X.heap.size := (HC3.out.lt _ rfl).2
      have fc3 := own_frozen HC3.out L
      rw [← hX]
      clear d0 d1 d2 d3 d4 d5 d6 z0 z1 z2 z3 z4 z5 z6 s0 s1 r0 r1 r2 r3 r4 r5 r6 y0 y1 y2 y3 y4 y5 y6 ln ls lr
      clear m0 m1 m2 m3 m4 m5 m6 lm
      clear hX qi qc fi fc li lg hcs hds q0 lb
      obtain ⟨d0, d1, d2, d3, d4, d5, d6⟩ := BN3.out.q7
      obtain ⟨z0, z1, z2, z3, z4, z5, z6⟩ := BN3.out.z7
      obtain ⟨m0, m1, m2, m3, m4, m5, m6⟩ := BM3.out.q7
      have ln := BN3.out.lt
      have lm := BM3.out.lt
      go_upto_region 7 with fail
      go_region
      obtain ⟨Y, hY⟩ : ∃ y : World, y = (X.setCell ⟨g, L, none⟩ (.int .i64 1)).drew := ⟨_, rfl⟩
      obtain ⟨cs, hcs⟩ := own_blk HC3.out
      have BM4 := Lib.hid (show Blk Y w.heap.size 47 _ by rw [hY]; exact (BM3.out.setF (p := ⟨g, L, none⟩) hgM _).ext (ext_drew (ext_refl _)))
      have BN4 := Lib.hid (show Blk Y N 47 (mdC u lo (some ⟨h, 0, none⟩) n cr (some ⟨g, 0, none⟩) n kc1 (some ⟨i, 0, none⟩) n ic1 be gu) by rw [hY]; exact (BN3.out.setF (p := ⟨g, L, none⟩) hgN _).ext (ext_drew (ext_refl _)))
      have BR4 := Lib.hid (show Blk Y (w.heap.size + 1 + 1) 47 #[.int .i64 0, .int .i64 0, .slice none 0 0, .slice none 0 0, .slice none 0 0, .int .i64 0, .int .i64 0] by rw [hY]; exact (BR3.out.setF (p := ⟨g, L, none⟩) hgR _).ext (ext_drew (ext_refl _)))
      have HR4 := Lib.hid (show Y.ownsRow w.heap.size 155 2 (.slice (some ⟨h, 0, none⟩) n cr) n (rowsV2 l) by rw [hY]; exact World.ownsRow.drew (own_setF (p := ⟨g, L, none⟩) HR3.out (own_nbT HR3.out hcs (by decide)) _))
      have HC4 := Lib.hid (show Y.ownsRow w.heap.size 3 1 (.slice (some ⟨g, 0, none⟩) n kc1) n (intsV (cl.set L 1)) by rw [hY]; exact World.ownsRow.drew (int_set HC3.out))
      have HI4 := Lib.hid (show Y.ownsRow w.heap.size 3 1 (.slice (some ⟨i, 0, none⟩) n ic1) n (intsV (im.set L v)) by rw [hY]; exact World.ownsRow.drew (own_setF (p := ⟨g, L, none⟩) HI3.out (by intro e; injection e with e; exact hne e.symm) _))
      have HB4 := Lib.hid (show Below w.heap.size w Y by rw [hY]; exact (HB3.out.setCell (p := ⟨g, L, none⟩) (HC3.out.lt _ rfl).1 _).drew)
      rw [← hY]
      clear hY qc3 q03 lb3 lg3 fc3 hcs d0 d1 d2 d3 d4 d5 d6 z0 z1 z2 z3 z4 z5 z6 m0 m1 m2 m3 m4 m5 m6 ln lm
      obtain ⟨d0, d1, d2, d3, d4, d5, d6⟩ := BN4.out.q7
      obtain ⟨z0, z1, z2, z3, z4, z5, z6⟩ := BN4.out.z7
      obtain ⟨m0, m1, m2, m3, m4, m5, m6⟩ := BM4.out.q7
      have ln := BN4.out.lt
      have lm := BM4.out.lt
      have hMN : w.heap.size ≠ N := by omega
      go_wp2
      go_meet
      refine ⟨rfl, ⟨u, lo, l, cl.set L 1, im.set L v, be, gu + 1⟩, h, cr, g, kc1, i, ic1, HL.out, by show (cl.set L 1).length = n; rw [List.length_set]; exact HCL.out, by show (im.set L v).length = n; rw [List.length_set]; exact HIM.out, hne, Lib.hid ?_, Lib.hid (BN4.out.set_ 6 _), Lib.hid (BR4.out.setF (p := ⟨N, 6, none⟩) (by show N ≠ w.heap.size + 1 + 1; omega) _), Lib.hid (own_setF (p := ⟨N, 6, none⟩) HR4.out (own_nbT HR4.out BN4.out (by decide)) _), Lib.hid (own_setF (p := ⟨N, 6, none⟩) HC4.out (own_nbT HC4.out BN4.out (by decide)) _), Lib.hid (own_setF (p := ⟨N, 6, none⟩) HI4.out (own_nbT HI4.out BN4.out (by decide)) _), Lib.hid (HB4.out.setCell (p := ⟨N, 6, none⟩) (by show w.heap.size ≤ N; omega) _)⟩
      unfold stM st5
      rw [if_neg (by decide), if_neg (by decide), if_neg (by decide), if_neg (by decide), if_pos rfl, if_pos (by dsimp only; rw [HLL.out, HL.out]; exact ⟨hLN, inB_iff.2 ⟨v0, v9⟩⟩)]
      dsimp only
      rw [HLL.out]
  · obtain ⟨h1, h2, h3, h4, h5⟩ := hk
    have h6 := HST.out
    unfold stepOkM at h6
    rw [if_neg h1, if_neg h2, if_neg h3, if_neg h4] at h6
    simp [h5] at h6
 case rest =>
  clear BN1 BR1 BS1 BM1 HR1 HC1 HI1 HB1 hne
  obtain ⟨rfl, q1, h, cr, g, kc1, i, ic1, hl1, hc1, hi1, hne, HE, BN, BR, HR, HC, HI, HB⟩ := hcut
  obtain ⟨W, hW⟩ : ∃ y : World, y = wc := ⟨_, rfl⟩
  subst hW
  obtain ⟨B, hB⟩ : ∃ B, mindB q1.u q1.lo q1.l q1.cl q1.im q1.be q1.gu = B := ⟨_, rfl⟩
  have HM := Lib.hid (fun (w : World) a b d => l21Good_any q1.u q1.lo (some ⟨h, 0, none⟩) n cr q1.l (some ⟨g, 0, none⟩) n kc1 q1.cl (some ⟨i, 0, none⟩) n ic1 q1.im q1.be q1.gu w (by omega) (by omega) (by omega) a b d)
  rw [hB] at HM
  have HBB := Lib.hid (show mdOK q1 = B from hB)
  have HL1 := Lib.hid hl1
  have NBHR := Lib.hid (own_nbT HR.out BR.out (by decide))
  have NBHC := Lib.hid (own_nbT HC.out BR.out (by decide))
  have NBHI := Lib.hid (own_nbT HI.out BR.out (by decide))
  clear hB hl1 hc1 hi1
  obtain ⟨d0, d1, d2, d3, d4, d5, d6⟩ := BN.out.q7
  obtain ⟨r0, r1, r2, r3, r4, r5, r6⟩ := BR.out.q7
  obtain ⟨y0, y1, y2, y3, y4, y5, y6⟩ := BR.out.z7
  have ln := BN.out.lt
  have lr := BR.out.lt
  go_upto_region 29 with fail
  go_region_held3 (fun w' => w'.cell? ⟨N, 0, none⟩ = some (.int .i64 q1.u) ∧ w'.cell? ⟨N, 1, none⟩ = some (.int .i64 q1.lo) ∧ w'.cell? ⟨N, 2, none⟩ = some (.slice (some ⟨h, 0, none⟩) n cr) ∧ w'.cell? ⟨N, 3, none⟩ = some (.slice (some ⟨g, 0, none⟩) n kc1) ∧ w'.cell? ⟨N, 4, none⟩ = some (.slice (some ⟨i, 0, none⟩) n ic1) ∧ w'.cell? ⟨N, 5, none⟩ = some (.int .i64 q1.be) ∧ w'.cell? ⟨N, 6, none⟩ = some (.int .i64 q1.gu)) (first | (go_split_ands; refine ⟨?_, ?_, ?_, ?_, ?_, ?_, ?_⟩ <;> with_reducible (repeat (first | assumption | refine cell_drew ?_ | refine ext_cell hb9 ?_ | refine cell_set_far (by show w.heap.size + 1 + 1 ≠ N; omega) ?_)))) (first | (go_at_call 98; (with_reducible refine (HM.out _ (Reads.of_own (base := w.heap.size) (e := 155) (c := cr) ?_) (Reads.of_own (base := w.heap.size) (e := 3) (c := kc1) ?_) (Reads.of_own (base := w.heap.size) (e := 3) (c := ic1) ?_)).mono ?_); (focus ((repeat (first | (with_reducible exact HR.out) | (with_reducible refine World.ownsRow.drew ?_) | (with_reducible refine own_setF ?_ ?_ _) | (exact NBHR.out))); done)); (focus ((repeat (first | (with_reducible exact HC.out) | (with_reducible refine World.ownsRow.drew ?_) | (with_reducible refine own_setF ?_ ?_ _) | (exact NBHC.out))); done)); (focus ((repeat (first | (with_reducible exact HI.out) | (with_reducible refine World.ownsRow.drew ?_) | (with_reducible refine own_setF ?_ ?_ _) | (exact NBHI.out))); done)); rintro e w9 ⟨rfl, hb9⟩; have HB9 := Lib.hid hb9; obtain ⟨hc9, hf9⟩ := bcell hb9; have z9 := hb9.size; (try simp at z9); have z91 : N < w9.heap.size := (by omega); have z90 : w.heap.size + 1 + 1 < w9.heap.size := (by omega); (try (have GR9 := BR.out.ext (ext_trans (ext_drew (ext_refl _)) hb9); obtain ⟨s0, s1, s2, s3, s4, s5, s6⟩ := GR9.q7; obtain ⟨t0, t1, t2, t3, t4, t5, t6⟩ := GR9.z7; clear GR9))))
  all_goals go_wp2
  all_goals
   refine bodyPost_ret (v := .tuple #[mdV q1.u q1.lo (some ⟨h, 0, none⟩) n cr (some ⟨g, 0, none⟩) n kc1 (some ⟨i, 0, none⟩) n ic1 q1.be q1.gu, .bool B]) (by simp [results, Try.results100, go_sem, *]) rfl ?_
   rw [HE.out]
   cases B
   · rw [show gdM q1 = none by unfold gdM; rw [HBB.out]; rfl]
     exact ⟨⟨_, _, _, _, _, _, _, _, _, _, _, _, _, rfl⟩, (by repeat (first | (with_reducible exact HB.out) | (with_reducible refine ext_drew ?_) | (with_reducible refine ext_set ?_ (by show w.heap.size ≤ w.heap.size + 1 + 1; omega) _) | (refine ext_trans ?_ HB9.out)))⟩
   · rw [show gdM q1 = some q1 by unfold gdM; rw [HBB.out]; rfl]
     have hl1 := HL1.out
     subst hl1
     exact ⟨h, cr, g, kc1, i, ic1, rfl, (by ((repeat (first | (with_reducible exact HR.out) | (with_reducible refine World.ownsRow.drew ?_) | (with_reducible refine own_setF ?_ ?_ _) | (refine own_ext ?_ HB9.out) | (exact NBHR.out))))), (by ((repeat (first | (with_reducible exact HC.out) | (with_reducible refine World.ownsRow.drew ?_) | (with_reducible refine own_setF ?_ ?_ _) | (refine own_ext ?_ HB9.out) | (exact NBHC.out))))), (by ((repeat (first | (with_reducible exact HI.out) | (with_reducible refine World.ownsRow.drew ?_) | (with_reducible refine own_setF ?_ ?_ _) | (refine own_ext ?_ HB9.out) | (exact NBHI.out))))), hne, (by repeat (first | (with_reducible exact HB.out) | (with_reducible refine ext_drew ?_) | (with_reducible refine ext_set ?_ (by show w.heap.size ≤ w.heap.size + 1 + 1; omega) _) | (refine ext_trans ?_ HB9.out)))⟩

end Go.Proofs.Ytlkfffohjeoooaa
