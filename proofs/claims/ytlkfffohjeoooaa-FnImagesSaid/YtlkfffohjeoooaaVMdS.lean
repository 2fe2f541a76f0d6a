/- Minds: the program's step. -/
import Derived.Deep.CutBlock
import Derived.Test.YtlkfffohjeoooaaVM10
namespace Go.Proofs.Ytlkfffohjeoooaa
open Go.RowKit
set_option linter.unusedVariables false
set_option linter.unusedSimpArgs false
theorem lost_le (im : List Int) : lostAt im ≤ im.length := List.findIdx_le_length
theorem lost_before {im : List Int} {k : Nat} {d : Int} (h : k < lostAt im) (hd : im[k]? = some d) : ¬ d < 0 := by
 have h1 := List.not_of_lt_findIdx (p := fun d : Int => decide (d < 0)) (xs := im) h
 obtain ⟨hk, hv⟩ := List.getElem?_eq_some_iff.1 hd
 rw [hv] at h1
 simpa using h1
theorem lost_at {im : List Int} {d : Int} (hd : im[lostAt im]? = some d) : d < 0 := by
 obtain ⟨hk, hv⟩ := List.getElem?_eq_some_iff.1 hd
 have h1 := List.findIdx_getElem (p := fun d : Int => decide (d < 0)) (xs := im) (w := hk)
 have h2 : im[lostAt im] = d := hv
 unfold lostAt at h2
 rw [h2] at h1
 simpa using h1
/-- a mind after a step comes back, or none -/
def RetSt (w : World) (o : Option Md) (e : Ending) (w' : World) : Prop := match o with
 | none => e = .returned (.tuple #[mdV 0 0 none 0 0 none 0 0 none 0 0 0 0, .bool false]) ∧ Below w.heap.size w w'
 | some q => ∃ h c g kc i ic, e = .returned (.tuple #[mdV q.u q.lo (some ⟨h, 0, none⟩) q.l.length c (some ⟨g, 0, none⟩) q.l.length kc (some ⟨i, 0, none⟩) q.l.length ic q.be q.gu, .bool true]) ∧
   w'.ownsRow w.heap.size 155 2 (.slice (some ⟨h, 0, none⟩) q.l.length c) q.l.length (rowsV2 q.l) ∧ w'.ownsRow w.heap.size 3 1 (.slice (some ⟨g, 0, none⟩) q.l.length kc) q.l.length (intsV q.cl) ∧ w'.ownsRow w.heap.size 3 1 (.slice (some ⟨i, 0, none⟩) q.l.length ic) q.l.length (intsV q.im) ∧ g ≠ i ∧ Below w.heap.size w w'
set_option maxRecDepth 100000 in
set_option maxHeartbeats 16000000 in
theorem stepped_any (u lo : Int) (A : Option Addr) (n c : Nat) (l : List R2) (K : Option Addr) (kc : Nat) (cl : List Int) (I : Option Addr) (ic : Nat) (im : List Int) (be gu k v : Int) (w : World) (hok : mdOK ⟨u, lo, l, cl, im, be, gu⟩ = true) (h : Reads w w.heap.size 2 A n (rowsV2 l)) (hc : Reads w w.heap.size 1 K n (intsV cl)) (hi : Reads w w.heap.size 1 I n (intsV im)) :
 Calls Try.prog 102 #[mdV u lo A n c K n kc I n ic be gu, .agg #[.int .i64 k, .int .i64 v]] w (RetSt w (stM ⟨u, lo, l, cl, im, be, gu⟩ k v)) := by
 obtain ⟨hg, him, hcl, ⟨be0, be9⟩, ⟨gu0, gu9⟩, hrow⟩ := mdOK_parts hok
 dsimp only at hg hcl him hrow be0 be9 gu0 gu9
 have hl := rows_len2 h
 rw [hl] at hcl him hrow
 obtain ⟨_, _, hn1, hn8⟩ := frB_head (good_fr hg)
 rw [hl] at hn1 hn8
 have HG := Lib.hid hg
 have HL := Lib.hid hl
 have HCL := Lib.hid hcl
 have HIM := Lib.hid him
 have HROW := Lib.hid hrow
 have H := Lib.hid h
 have HC := Lib.hid hc
 have HI := Lib.hid hi
 have hbx := Lib.hid (ext_alloc (ext_alloc (ext_alloc (ext_refl w) (.cells (mdC u lo A n c K n kc I n ic be gu) 47)) (.cells #[.int .i64 k, .int .i64 v] 51)) (.cells #[.int .i64 0, .int .i64 0, .slice none 0 0, .slice none 0 0, .slice none 0 0, .int .i64 0, .int .i64 0] 47))
 have BS0 := Lib.hid (((Blk.born (w.alloc (.cells (mdC u lo A n c K n kc I n ic be gu) 47)) #[.int .i64 k, .int .i64 v] 51 (H := w.heap.size + 1) (by simp))).al (.cells #[.int .i64 0, .int .i64 0, .slice none 0 0, .slice none 0 0, .slice none 0 0, .int .i64 0, .int .i64 0] 47))
 have BR0 := Lib.hid (Blk.born ((w.alloc (.cells (mdC u lo A n c K n kc I n ic be gu) 47)).alloc (.cells #[.int .i64 k, .int .i64 v] 51)) #[.int .i64 0, .int .i64 0, .slice none 0 0, .slice none 0 0, .slice none 0 0, .int .i64 0, .int .i64 0] 47 (H := w.heap.size + 1 + 1) (by simp))
 clear h hc hi hg hl hcl him hrow hok
 go_enter Try.func102, Try.ntmps102
 go_wp2_with fail
 (with_reducible refine (mindOwn_any u lo A n c l K kc cl I ic im be gu _ hn1 (by omega) (rdx H.out hbx.out) (rdx HC.out hbx.out) (rdx HI.out hbx.out)).mono ?_)
 rintro e w1 ⟨h, cr, g, kc1, i, ic1, rfl, hr, hc, hi, hne, hb⟩
 have hs0 := hbx.out.size
 obtain ⟨N, hN⟩ : ∃ N, N = w1.heap.size := ⟨_, rfl⟩
 obtain ⟨W, hW⟩ : ∃ y : World, y = w1.alloc (.cells (mdC u lo (some ⟨h, 0, none⟩) n cr (some ⟨g, 0, none⟩) n kc1 (some ⟨i, 0, none⟩) n ic1 be gu) 47) := ⟨_, rfl⟩
 have BN1 := Lib.hid (show Blk W N 47 (mdC u lo (some ⟨h, 0, none⟩) n cr (some ⟨g, 0, none⟩) n kc1 (some ⟨i, 0, none⟩) n ic1 be gu) by rw [hW]; exact Blk.born w1 (mdC u lo (some ⟨h, 0, none⟩) n cr (some ⟨g, 0, none⟩) n kc1 (some ⟨i, 0, none⟩) n ic1 be gu) 47 (H := N) hN)
 have BR1 := Lib.hid (show Blk W (w.heap.size + 1 + 1) 47 #[.int .i64 0, .int .i64 0, .slice none 0 0, .slice none 0 0, .slice none 0 0, .int .i64 0, .int .i64 0] by rw [hW]; exact (BR0.out.ext hb).al _)
 have BS1 := Lib.hid (show Blk W (w.heap.size + 1) 51 #[.int .i64 k, .int .i64 v] by rw [hW]; exact (BS0.out.ext hb).al _)
 have HR1 := Lib.hid (show W.ownsRow w.heap.size 155 2 (.slice (some ⟨h, 0, none⟩) n cr) n (rowsV2 l) by rw [hW]; exact (own_base (base' := w.heap.size) hr hs0).alloc _)
 have HC1 := Lib.hid (show W.ownsRow w.heap.size 3 1 (.slice (some ⟨g, 0, none⟩) n kc1) n (intsV cl) by rw [hW]; exact (own_base (base' := w.heap.size) hc hs0).alloc _)
 have HI1 := Lib.hid (show W.ownsRow w.heap.size 3 1 (.slice (some ⟨i, 0, none⟩) n ic1) n (intsV im) by rw [hW]; exact (own_base (base' := w.heap.size) hi hs0).alloc _)
 have HB1 := Lib.hid (show Below w.heap.size w W by rw [hW]; exact ext_alloc (ext_trans hbx.out hb) _)
 have hNw : w.heap.size + 1 + 1 < N := by have := (BR0.out.ext hb).lt; omega
 go_upto_region 2 with fail
 rw [← hN, ← hW]
 clear hr hc hi hb hN hW BR0 BS0 hbx hs0
 obtain ⟨s0, s1⟩ := BS1.out.q2
 have ls := BS1.out.lt
 go_upto_block 0 with fail
 clear s0 s1 ls
 go_cut [9] (fun s9 wx => ∃ (q1 : Md) (h cr g kc1 i ic1 : Nat), q1.l.length = n ∧ q1.cl.length = n ∧ q1.im.length = n ∧ g ≠ i ∧ Hid (stM ⟨u, lo, l, cl, im, be, gu⟩ k v = gdM q1) ∧ Hid (Blk wx N 47 (mdC q1.u q1.lo (some ⟨h, 0, none⟩) n cr (some ⟨g, 0, none⟩) n kc1 (some ⟨i, 0, none⟩) n ic1 q1.be q1.gu)) ∧ Hid (Blk wx (w.heap.size + 1 + 1) 47 #[.int .i64 0, .int .i64 0, .slice none 0 0, .slice none 0 0, .slice none 0 0, .int .i64 0, .int .i64 0]) ∧ Hid (wx.ownsRow w.heap.size 155 2 (.slice (some ⟨h, 0, none⟩) n cr) n (rowsV2 q1.l)) ∧ Hid (wx.ownsRow w.heap.size 3 1 (.slice (some ⟨g, 0, none⟩) n kc1) n (intsV q1.cl)) ∧ Hid (wx.ownsRow w.heap.size 3 1 (.slice (some ⟨i, 0, none⟩) n ic1) n (intsV q1.im)) ∧ Hid (Below w.heap.size w wx))
 case first =>
  rcases (show k = 1 ∨ k = 2 ∨ k = 3 ∨ k = 4 ∨ k = 5 ∨ (k ≠ 1 ∧ k ≠ 2 ∧ k ≠ 3 ∧ k ≠ 4 ∧ k ≠ 5) by omega) with rfl | rfl | rfl | rfl | rfl | hk
  · obtain ⟨d0, d1, d2, d3, d4, d5, d6⟩ := BN1.out.q7
    obtain ⟨z0, z1, z2, z3, z4, z5, z6⟩ := BN1.out.z7
    obtain ⟨s0, s1⟩ := BS1.out.q2
    obtain ⟨r0, r1, r2, r3, r4, r5, r6⟩ := BR1.out.q7
    obtain ⟨y0, y1, y2, y3, y4, y5, y6⟩ := BR1.out.z7
    have ln := BN1.out.lt
    have ls := BS1.out.lt
    have lr := BR1.out.lt
    obtain ⟨B, hB⟩ : ∃ B, inB v 1 9 = B := ⟨_, rfl⟩
    have HBB := Lib.hid hB
    go_wp2_with fail
    refine (within_b _ _ _ _ _ hB).mono ?_
    rintro e w2 ⟨rfl, hb⟩
    clear hB
    clear d0 d1 d2 d3 d4 d5 d6 z0 z1 z2 z3 z4 z5 z6 s0 s1 r0 r1 r2 r3 r4 r5 r6 y0 y1 y2 y3 y4 y5 y6 ln ls lr
    have BN2 := Lib.hid (BN1.out.ext hb)
    have BS2 := Lib.hid (BS1.out.ext hb)
    have BR2 := Lib.hid (BR1.out.ext hb)
    have HR2 := Lib.hid (own_ext HR1.out hb)
    have HC2 := Lib.hid (own_ext HC1.out hb)
    have HI2 := Lib.hid (own_ext HI1.out hb)
    have HB2 := Lib.hid (ext_trans HB1.out hb)
    obtain ⟨d0, d1, d2, d3, d4, d5, d6⟩ := BN2.out.q7
    obtain ⟨z0, z1, z2, z3, z4, z5, z6⟩ := BN2.out.z7
    obtain ⟨s0, s1⟩ := BS2.out.q2
    obtain ⟨r0, r1, r2, r3, r4, r5, r6⟩ := BR2.out.q7
    obtain ⟨y0, y1, y2, y3, y4, y5, y6⟩ := BR2.out.z7
    have ln := BN2.out.lt
    have ls := BS2.out.lt
    have lr := BR2.out.lt
    clear hb
    cases B
    · skip
      have E := Lib.hid (show stM ⟨u, lo, l, cl, im, be, gu⟩ 1 v = none by unfold stM st1; rw [if_pos rfl]; dsimp only; rw [HBB.out]; rfl)
      go_wp2
      refine bodyPost_ret (v := .tuple #[mdV 0 0 none 0 0 none 0 0 none 0 0 0 0, .bool false]) (by simp [results, Try.results102, go_sem, *]) rfl ?_
      rw [E.out]
      exact ⟨rfl, by repeat (first | (with_reducible exact HB2.out) | (with_reducible refine ext_alloc ?_ _) | (with_reducible refine ext_set ?_ (by show w.heap.size ≤ w.heap.size + 1 + 1; omega) _))⟩
    · skip
      obtain ⟨v0, v9⟩ := inB_iff.1 HBB.out
      go_wp2_with fail
      (with_reducible refine (fade_any w.heap.size 0 u lo (some ⟨h, 0, none⟩) n cr g kc1 i ic1 cl im be gu v (-1) _ hn8 hne HB2.out.size (by omega) v9 HROW.out HCL.out HIM.out HC2.out HI2.out).mono ?_)
      rintro e w3 ⟨rfl, hc3, hi3, hb3, hk3⟩
      have HC3 := Lib.hid hc3
      have HI3 := Lib.hid hi3
      have HB3 := Lib.hid (HB2.out.trans hb3)
      clear d0 d1 d2 d3 d4 d5 d6 z0 z1 z2 z3 z4 z5 z6 s0 s1 r0 r1 r2 r3 r4 r5 r6 y0 y1 y2 y3 y4 y5 y6 ln ls lr
      have BN3 := Lib.hid (hk3.2 _ _ _ BN2.out (by decide))
      have BS3 := Lib.hid (hk3.2 _ _ _ BS2.out (by decide))
      have BR3 := Lib.hid (hk3.2 _ _ _ BR2.out (by decide))
      have HR3 := Lib.hid (hk3.own HR2.out (by decide))
      clear hc3 hi3 hb3 hk3
      obtain ⟨d0, d1, d2, d3, d4, d5, d6⟩ := BN3.out.q7
      obtain ⟨z0, z1, z2, z3, z4, z5, z6⟩ := BN3.out.z7
      obtain ⟨s0, s1⟩ := BS3.out.q2
      obtain ⟨r0, r1, r2, r3, r4, r5, r6⟩ := BR3.out.q7
      obtain ⟨y0, y1, y2, y3, y4, y5, y6⟩ := BR3.out.z7
      have ln := BN3.out.lt
      have ls := BS3.out.lt
      have lr := BR3.out.lt
      go_wp2
      go_meet
      exact ⟨⟨u, lo, l, fC v (-1) cl im n, fI v (-1) cl im n, be + v, gu⟩, h, cr, g, kc1, i, ic1, HL.out, fCto_len .., fIto_len .., hne, Lib.hid (by unfold stM st1; rw [if_pos rfl]; dsimp only; rw [HBB.out, if_pos rfl, HL.out]), Lib.hid (BN3.out.set_ 5 _), Lib.hid (BR3.out.setF (p := ⟨N, 5, none⟩) (by show N ≠ w.heap.size + 1 + 1; omega) _), Lib.hid (own_setF (p := ⟨N, 5, none⟩) HR3.out (own_nbT HR3.out BN3.out (by decide)) _), Lib.hid (own_setF (p := ⟨N, 5, none⟩) HC3.out (own_nbT HC3.out BN3.out (by decide)) _), Lib.hid (own_setF (p := ⟨N, 5, none⟩) HI3.out (own_nbT HI3.out BN3.out (by decide)) _), Lib.hid (HB3.out.setCell (p := ⟨N, 5, none⟩) (by show w.heap.size ≤ N; omega) _)⟩
  · obtain ⟨d0, d1, d2, d3, d4, d5, d6⟩ := BN1.out.q7
    obtain ⟨z0, z1, z2, z3, z4, z5, z6⟩ := BN1.out.z7
    obtain ⟨s0, s1⟩ := BS1.out.q2
    obtain ⟨r0, r1, r2, r3, r4, r5, r6⟩ := BR1.out.q7
    obtain ⟨y0, y1, y2, y3, y4, y5, y6⟩ := BR1.out.z7
    have ln := BN1.out.lt
    have ls := BS1.out.lt
    have lr := BR1.out.lt
    by_cases hv : v = 0
    · subst hv
      go_wp2_with fail
      (with_reducible refine (looked_any u lo (some ⟨h, 0, none⟩) n cr l (some ⟨g, 0, none⟩) n kc1 (some ⟨i, 0, none⟩) n ic1 be gu _ HG.out (Reads.of_own HR1.out)).mono ?_)
      rintro e w2 ⟨g2, kc2, i2, ic2, rfl, hc2, hi2, hne2, hb⟩
      clear d0 d1 d2 d3 d4 d5 d6 z0 z1 z2 z3 z4 z5 z6 s0 s1 r0 r1 r2 r3 r4 r5 r6 y0 y1 y2 y3 y4 y5 y6 ln ls lr
      have BN2 := Lib.hid (BN1.out.ext hb)
      have BS2 := Lib.hid (BS1.out.ext hb)
      have BR2 := Lib.hid (BR1.out.ext hb)
      have HR2 := Lib.hid (own_ext HR1.out hb)
      have HC2 := Lib.hid (own_base (base' := w.heap.size) hc2 HB1.out.size)
      have HI2 := Lib.hid (own_base (base' := w.heap.size) hi2 HB1.out.size)
      have HB2 := Lib.hid (ext_trans HB1.out hb)
      have HDS := Lib.hid (show (dsOf l).length = n by rw [dsOf_len]; exact HL.out)
      clear hc2 hi2 hb
      obtain ⟨d0, d1, d2, d3, d4, d5, d6⟩ := BN2.out.q7
      obtain ⟨z0, z1, z2, z3, z4, z5, z6⟩ := BN2.out.z7
      obtain ⟨s0, s1⟩ := BS2.out.q2
      obtain ⟨r0, r1, r2, r3, r4, r5, r6⟩ := BR2.out.q7
      obtain ⟨y0, y1, y2, y3, y4, y5, y6⟩ := BR2.out.z7
      have ln := BN2.out.lt
      have ls := BS2.out.lt
      have lr := BR2.out.lt
      go_wp2
      go_meet
      refine ⟨⟨u, lo, l, List.replicate n 5, dsOf l, be + 3, gu⟩, h, cr, g2, kc2, i2, ic2, HL.out, by simp, HDS.out, hne2, Lib.hid ?_, Lib.hid ((m7_put BN2.out).set_ 5 _), Lib.hid ((m7_far BR2.out (by omega)).setF (p := ⟨N, 5, none⟩) (by show N ≠ w.heap.size + 1 + 1; omega) _), Lib.hid (own_setF (p := ⟨N, 5, none⟩) (m7_own HR2.out (own_nbT HR2.out BN2.out (by decide))) (own_nbT HR2.out BN2.out (by decide)) _), Lib.hid (own_setF (p := ⟨N, 5, none⟩) (m7_own HC2.out (own_nbT HC2.out BN2.out (by decide))) (own_nbT HC2.out BN2.out (by decide)) _), Lib.hid (own_setF (p := ⟨N, 5, none⟩) (m7_own HI2.out (own_nbT HI2.out BN2.out (by decide))) (own_nbT HI2.out BN2.out (by decide)) _), Lib.hid ((m7_below HB2.out (by omega)).setCell (p := ⟨N, 5, none⟩) (by show w.heap.size ≤ N; omega) _)⟩
      unfold stM st2
      rw [if_neg (by decide), if_pos rfl, if_pos rfl]
      dsimp only
      rw [HL.out]
    · have e1 : (v != 0) = true := by simpa using hv
      have E := Lib.hid (show stM ⟨u, lo, l, cl, im, be, gu⟩ 2 v = none by unfold stM st2; rw [if_neg (by decide), if_pos rfl, if_neg hv])
      go_wp2
      refine bodyPost_ret (v := .tuple #[mdV 0 0 none 0 0 none 0 0 none 0 0 0 0, .bool false]) (by simp [results, Try.results102, go_sem, *]) rfl ?_
      rw [E.out]
      exact ⟨rfl, by repeat (first | (with_reducible exact HB1.out) | (with_reducible refine ext_alloc ?_ _) | (with_reducible refine ext_set ?_ (by show w.heap.size ≤ w.heap.size + 1 + 1; omega) _))⟩
  · obtain ⟨d0, d1, d2, d3, d4, d5, d6⟩ := BN1.out.q7
    obtain ⟨z0, z1, z2, z3, z4, z5, z6⟩ := BN1.out.z7
    obtain ⟨s0, s1⟩ := BS1.out.q2
    obtain ⟨r0, r1, r2, r3, r4, r5, r6⟩ := BR1.out.q7
    obtain ⟨y0, y1, y2, y3, y4, y5, y6⟩ := BR1.out.z7
    have ln := BN1.out.lt
    have ls := BS1.out.lt
    have lr := BR1.out.lt
    obtain ⟨B, hB⟩ : ∃ B, inB v 0 ((n : Int) - 1) = B := ⟨_, rfl⟩
    have HBB := Lib.hid hB
    go_wp2_with fail
    refine (hasRod_b u lo (some ⟨h, 0, none⟩) n cr v B _ (by omega) hB).mono ?_
    rintro e w2 ⟨rfl, hb⟩
    clear hB
    clear d0 d1 d2 d3 d4 d5 d6 z0 z1 z2 z3 z4 z5 z6 s0 s1 r0 r1 r2 r3 r4 r5 r6 y0 y1 y2 y3 y4 y5 y6 ln ls lr
    have BN2 := Lib.hid (BN1.out.ext hb)
    have BS2 := Lib.hid (BS1.out.ext hb)
    have BR2 := Lib.hid (BR1.out.ext hb)
    have HR2 := Lib.hid (own_ext HR1.out hb)
    have HC2 := Lib.hid (own_ext HC1.out hb)
    have HI2 := Lib.hid (own_ext HI1.out hb)
    have HB2 := Lib.hid (ext_trans HB1.out hb)
    obtain ⟨d0, d1, d2, d3, d4, d5, d6⟩ := BN2.out.q7
    obtain ⟨z0, z1, z2, z3, z4, z5, z6⟩ := BN2.out.z7
    obtain ⟨s0, s1⟩ := BS2.out.q2
    obtain ⟨r0, r1, r2, r3, r4, r5, r6⟩ := BR2.out.q7
    obtain ⟨y0, y1, y2, y3, y4, y5, y6⟩ := BR2.out.z7
    have ln := BN2.out.lt
    have ls := BS2.out.lt
    have lr := BR2.out.lt
    clear hb
    cases B
    · skip
      have E := Lib.hid (show stM ⟨u, lo, l, cl, im, be, gu⟩ 3 v = none by unfold stM st3; rw [if_neg (by decide), if_neg (by decide), if_pos rfl, if_neg (by dsimp only; rw [HL.out, HBB.out]; simp)])
      go_wp2
      refine bodyPost_ret (v := .tuple #[mdV 0 0 none 0 0 none 0 0 none 0 0 0 0, .bool false]) (by simp [results, Try.results102, go_sem, *]) rfl ?_
      rw [E.out]
      exact ⟨rfl, by repeat (first | (with_reducible exact HB2.out) | (with_reducible refine ext_alloc ?_ _) | (with_reducible refine ext_set ?_ (by show w.heap.size ≤ w.heap.size + 1 + 1; omega) _))⟩
    · skip
      obtain ⟨v0, v1⟩ := inB_iff.1 HBB.out
      obtain ⟨r, hvr⟩ := Int.eq_ofNat_of_zero_le v0
      subst hvr
      have hrn : r < n := by omega
      have hrn2 : (r : Int) < (n : Int) := by omega
      obtain ⟨d, hd⟩ := list_split (l := im) (k := r) (by rw [HIM.out]; exact hrn)
      have qi := int_cell HI2.out hd
      have li : i < w2.heap.size := (HI2.out.lt _ rfl).2
      have HD := Lib.hid hd
      clear hd
      by_cases hd0 : d < 0
      · have e1 : decide (d < 0) = true := by simpa using hd0
        have HD0 := Lib.hid hd0
        clear hd0
        have E := Lib.hid (show stM ⟨u, lo, l, cl, im, be, gu⟩ 3 (r : Int) = none by unfold stM st3; rw [if_neg (by decide), if_neg (by decide), if_pos rfl, if_neg (by dsimp only; rw [Int.toNat_natCast, getD_of HD.out]; have := HD0.out; omega)])
        go_wp2
        refine bodyPost_ret (v := .tuple #[mdV 0 0 none 0 0 none 0 0 none 0 0 0 0, .bool false]) (by simp [results, Try.results102, go_sem, *]) rfl ?_
        rw [E.out]
        exact ⟨rfl, by repeat (first | (with_reducible exact HB2.out) | (with_reducible refine ext_alloc ?_ _) | (with_reducible refine ext_set ?_ (by show w.heap.size ≤ w.heap.size + 1 + 1; omega) _))⟩
      · have e1 : decide (d < 0) = false := by simpa using hd0
        have HD0 := Lib.hid hd0
        clear hd0
        go_wp2_with fail
        (with_reducible refine (fade_any w.heap.size 0 u lo (some ⟨h, 0, none⟩) n cr g kc1 i ic1 cl im be gu 1 (r : Int) _ hn8 hne HB2.out.size (by omega) (by omega) HROW.out HCL.out HIM.out HC2.out HI2.out).mono ?_)
        rintro e w3 ⟨rfl, hc3, hi3, hb3, hk3⟩
        have HC3 := Lib.hid hc3
        have HI3 := Lib.hid hi3
        have HB3 := Lib.hid (HB2.out.trans hb3)
        clear d0 d1 d2 d3 d4 d5 d6 z0 z1 z2 z3 z4 z5 z6 s0 s1 r0 r1 r2 r3 r4 r5 r6 y0 y1 y2 y3 y4 y5 y6 ln ls lr
        have BN3 := Lib.hid (hk3.2 _ _ _ BN2.out (by decide))
        have BS3 := Lib.hid (hk3.2 _ _ _ BS2.out (by decide))
        have BR3 := Lib.hid (hk3.2 _ _ _ BR2.out (by decide))
        have HR3 := Lib.hid (hk3.own HR2.out (by decide))
        clear hc3 hi3 hb3 hk3 qi li
        obtain ⟨d0, d1, d2, d3, d4, d5, d6⟩ := BN3.out.q7
        obtain ⟨z0, z1, z2, z3, z4, z5, z6⟩ := BN3.out.z7
        obtain ⟨s0, s1⟩ := BS3.out.q2
        obtain ⟨r0, r1, r2, r3, r4, r5, r6⟩ := BR3.out.q7
        obtain ⟨y0, y1, y2, y3, y4, y5, y6⟩ := BR3.out.z7
        have ln := BN3.out.lt
        have ls := BS3.out.lt
        have lr := BR3.out.lt
        obtain ⟨x, hx⟩ := list_split (l := fC 1 (r : Int) cl im n) (k := r) (by rw [show (fC 1 (r : Int) cl im n).length = n from fCto_len ..]; exact hrn)
        have qc := int_cell HC3.out hx
        have fc := own_frozen HC3.out r
        have lg : g < w3.heap.size := (HC3.out.lt _ rfl).2
        have HX := Lib.hid hx
        clear hx
        have hgN : g ≠ N := fun e => own_nbT HC3.out BN3.out (by decide) (by rw [e]; rfl)
        have hgR : g ≠ w.heap.size + 1 + 1 := fun e => own_nbT HC3.out BR3.out (by decide) (by rw [e]; rfl)
        go_wp2
        go_meet
        obtain ⟨cs, hcs⟩ := own_blk HC3.out
        refine ⟨⟨u, lo, l, (fC 1 (r : Int) cl im n).set r 5, fI 1 (r : Int) cl im n, be + 1, gu⟩, h, cr, g, kc1, i, ic1, HL.out, by show ((fC 1 (r : Int) cl im n).set r 5).length = n; rw [List.length_set]; exact fCto_len .., fIto_len .., hne, Lib.hid ?_, Lib.hid ((BN3.out.setF (p := ⟨g, r, none⟩) hgN _).set_ 5 _), Lib.hid ((BR3.out.setF (p := ⟨g, r, none⟩) hgR _).setF (p := ⟨N, 5, none⟩) (by show N ≠ w.heap.size + 1 + 1; omega) _), Lib.hid (own_setF (p := ⟨N, 5, none⟩) (own_setF (p := ⟨g, r, none⟩) HR3.out (own_nbT HR3.out hcs (by decide)) _) (own_nbT HR3.out BN3.out (by decide)) _), Lib.hid (own_setF (p := ⟨N, 5, none⟩) (int_set HC3.out) (own_nbT HC3.out BN3.out (by decide)) _), Lib.hid (own_setF (p := ⟨N, 5, none⟩) (own_setF (p := ⟨g, r, none⟩) HI3.out (by intro e; injection e with e; exact hne e.symm) _) (own_nbT HI3.out BN3.out (by decide)) _), Lib.hid ((HB3.out.setCell (p := ⟨g, r, none⟩) (HC3.out.lt _ rfl).1 _).setCell (p := ⟨N, 5, none⟩) (by show w.heap.size ≤ N; omega) _)⟩
        unfold stM st3
        rw [if_neg (by decide), if_neg (by decide), if_pos rfl, if_pos (by dsimp only; rw [HL.out, HBB.out, Int.toNat_natCast, getD_of HD.out]; exact ⟨rfl, by have := HD0.out; omega⟩)]
        dsimp only
        rw [HL.out, Int.toNat_natCast]
  · obtain ⟨d0, d1, d2, d3, d4, d5, d6⟩ := BN1.out.q7
    obtain ⟨z0, z1, z2, z3, z4, z5, z6⟩ := BN1.out.z7
    obtain ⟨s0, s1⟩ := BS1.out.q2
    obtain ⟨r0, r1, r2, r3, r4, r5, r6⟩ := BR1.out.q7
    obtain ⟨y0, y1, y2, y3, y4, y5, y6⟩ := BR1.out.z7
    have ln := BN1.out.lt
    have ls := BS1.out.lt
    have lr := BR1.out.lt
    cases hOK : addNok u lo l v
    · skip
      have HOK := Lib.hid hOK
      have HADD := Lib.hid (fun (w : World) a => implAddNumber_any u lo (some ⟨h, 0, none⟩) n cr l v w (by omega) a)
      rw [hOK, show addNF u lo l v = (0, 0, []) by simp [addNF, hOK]] at HADD
      unfold RetFrB at HADD
      dsimp only at HADD
      clear hOK
      go_wp2_with fail
      refine (HADD.out _ (Reads.of_own HR1.out)).mono ?_
      rintro e w2 ⟨A2, c2, rfl, _, hb⟩
      clear d0 d1 d2 d3 d4 d5 d6 z0 z1 z2 z3 z4 z5 z6 s0 s1 r0 r1 r2 r3 r4 r5 r6 y0 y1 y2 y3 y4 y5 y6 ln ls lr
      have BN2 := Lib.hid (BN1.out.ext hb)
      have BS2 := Lib.hid (BS1.out.ext hb)
      have BR2 := Lib.hid (BR1.out.ext hb)
      have HR2 := Lib.hid (own_ext HR1.out hb)
      have HC2 := Lib.hid (own_ext HC1.out hb)
      have HI2 := Lib.hid (own_ext HI1.out hb)
      have HB2 := Lib.hid (ext_trans HB1.out hb)
      obtain ⟨d0, d1, d2, d3, d4, d5, d6⟩ := BN2.out.q7
      obtain ⟨z0, z1, z2, z3, z4, z5, z6⟩ := BN2.out.z7
      obtain ⟨s0, s1⟩ := BS2.out.q2
      obtain ⟨r0, r1, r2, r3, r4, r5, r6⟩ := BR2.out.q7
      obtain ⟨y0, y1, y2, y3, y4, y5, y6⟩ := BR2.out.z7
      have ln := BN2.out.lt
      have ls := BS2.out.lt
      have lr := BR2.out.lt
      clear hb
      have E := Lib.hid (show stM ⟨u, lo, l, cl, im, be, gu⟩ 4 v = none by unfold stM st4; rw [if_neg (by decide), if_neg (by decide), if_neg (by decide), if_pos rfl, if_neg (by dsimp only; rw [HOK.out]; simp)])
      go_wp2
      refine bodyPost_ret (v := .tuple #[mdV 0 0 none 0 0 none 0 0 none 0 0 0 0, .bool false]) (by simp [results, Try.results102, go_sem, *]) rfl ?_
      rw [E.out]
      exact ⟨rfl, by repeat (first | (with_reducible exact HB2.out) | (with_reducible refine ext_alloc ?_ _) | (with_reducible refine ext_set ?_ (by show w.heap.size ≤ w.heap.size + 1 + 1; omega) _))⟩
    · skip
      have HOK := Lib.hid hOK
      have hXn : (rodsD (addNst l v).ds).length = n := by rw [rodsD_len]; unfold addNst; rw [addN_len]; show (dsOf l).length = n; rw [dsOf_len]; exact HL.out
      have HADD := Lib.hid (fun (w : World) a => implAddNumber_any u lo (some ⟨h, 0, none⟩) n cr l v w (by omega) a)
      rw [hOK, show addNF u lo l v = (u, lo, rodsD (addNst l v).ds) by simp [addNF, hOK]] at HADD
      unfold RetFrB at HADD
      dsimp only at HADD
      obtain ⟨X, hX⟩ : ∃ X, rodsD (addNst l v).ds = X := ⟨_, rfl⟩
      rw [hX] at HADD hXn
      rw [hXn] at HADD
      have HX := Lib.hid hX
      have HXN := Lib.hid hXn
      clear hOK hX hXn
      go_wp2_with fail
      refine (HADD.out _ (Reads.of_own HR1.out)).mono ?_
      rintro e w2 ⟨A2, c2, rfl, ho2, hb⟩
      obtain ⟨h2, cap2, hv2, _, _⟩ := ho2.form (by omega)
      injection hv2 with hv2 _ hv3
      subst hv2 hv3
      have HF2 := Lib.hid (own_base (base' := w.heap.size) ho2 HB1.out.size)
      clear ho2
      clear d0 d1 d2 d3 d4 d5 d6 z0 z1 z2 z3 z4 z5 z6 s0 s1 r0 r1 r2 r3 r4 r5 r6 y0 y1 y2 y3 y4 y5 y6 ln ls lr
      have BN2 := Lib.hid (BN1.out.ext hb)
      have BS2 := Lib.hid (BS1.out.ext hb)
      have BR2 := Lib.hid (BR1.out.ext hb)
      have HR2 := Lib.hid (own_ext HR1.out hb)
      have HC2 := Lib.hid (own_ext HC1.out hb)
      have HI2 := Lib.hid (own_ext HI1.out hb)
      have HB2 := Lib.hid (ext_trans HB1.out hb)
      obtain ⟨d0, d1, d2, d3, d4, d5, d6⟩ := BN2.out.q7
      obtain ⟨z0, z1, z2, z3, z4, z5, z6⟩ := BN2.out.z7
      obtain ⟨s0, s1⟩ := BS2.out.q2
      obtain ⟨r0, r1, r2, r3, r4, r5, r6⟩ := BR2.out.q7
      obtain ⟨y0, y1, y2, y3, y4, y5, y6⟩ := BR2.out.z7
      have ln := BN2.out.lt
      have ls := BS2.out.lt
      have lr := BR2.out.lt
      clear hb
      by_cases hv1 : v < 1
      · have e1 : decide (v < 1) = true := by simpa using hv1
        have HV1 := Lib.hid hv1
        clear hv1
        have E := Lib.hid (show stM ⟨u, lo, l, cl, im, be, gu⟩ 4 v = none by unfold stM st4; rw [if_neg (by decide), if_neg (by decide), if_neg (by decide), if_pos rfl, if_neg (fun e => e.2 HV1.out)])
        go_wp2
        refine bodyPost_ret (v := .tuple #[mdV 0 0 none 0 0 none 0 0 none 0 0 0 0, .bool false]) (by simp [results, Try.results102, go_sem, *]) rfl ?_
        rw [E.out]
        exact ⟨rfl, by repeat (first | (with_reducible exact HB2.out) | (with_reducible refine ext_alloc ?_ _) | (with_reducible refine ext_set ?_ (by show w.heap.size ≤ w.heap.size + 1 + 1; omega) _))⟩
      · have e1 : decide (v < 1) = false := by simpa using hv1
        have HV1 := Lib.hid hv1
        clear hv1
        go_wp2
        go_meet
        refine ⟨⟨u, lo, X, cl, im, be, gu⟩, h2, _, g, kc1, i, ic1, HXN.out, HCL.out, HIM.out, hne, Lib.hid ?_, Lib.hid ((((BN2.out.set_ 0 _).set_ 1 _).set_ 2 _).al _), Lib.hid ((fill_far BR2.out (by omega)).al _), Lib.hid (World.ownsRow.alloc (fill_own' HF2.out (own_nbT HF2.out BN2.out (by decide))) _), Lib.hid (World.ownsRow.alloc (fill_own' HC2.out (own_nbT HC2.out BN2.out (by decide))) _), Lib.hid (World.ownsRow.alloc (fill_own' HI2.out (own_nbT HI2.out BN2.out (by decide))) _), Lib.hid (ext_alloc (fill_below HB2.out (by omega)) _)⟩
        unfold stM st4
        rw [if_neg (by decide), if_neg (by decide), if_neg (by decide), if_pos rfl, if_pos ⟨HOK.out, by have := HV1.out; omega⟩]
        dsimp only
        rw [HX.out]
  · obtain ⟨d0, d1, d2, d3, d4, d5, d6⟩ := BN1.out.q7
    obtain ⟨z0, z1, z2, z3, z4, z5, z6⟩ := BN1.out.z7
    obtain ⟨s0, s1⟩ := BS1.out.q2
    obtain ⟨r0, r1, r2, r3, r4, r5, r6⟩ := BR1.out.q7
    obtain ⟨y0, y1, y2, y3, y4, y5, y6⟩ := BR1.out.z7
    have ln := BN1.out.lt
    have ls := BS1.out.lt
    have lr := BR1.out.lt
    have hLn := lost_le im
    rw [HIM.out] at hLn
    have HLB := Lib.hid (fun (k : Nat) (d : Int) (h : k < lostAt im) (hd : im[k]? = some d) => lost_before h hd)
    have HLA := Lib.hid (fun (d : Int) (hd : im[lostAt im]? = some d) => lost_at hd)
    obtain ⟨L, hL⟩ : ∃ L, lostAt im = L := ⟨_, rfl⟩
    rw [hL] at HLB HLA hLn
    have HLL := Lib.hid hL
    clear hL
    go_wp2_with fail
    go_loopw [9] (fun kk wr => ∃ j : Nat, j ≤ L ∧ kk = .int .i64 j ∧ W = wr) (fun kk _ => n - (intOf kk).toNat)
    case atStart => exact ⟨0, Nat.zero_le _, rfl, rfl⟩
    case round =>
     obtain ⟨j, hj, rfl, hwr⟩ := hrel
     subst hwr
     by_cases hlt : j < L
     · obtain ⟨d, hd⟩ := list_split (l := im) (k := j) (by rw [HIM.out]; omega)
       have qi := int_cell HI1.out hd
       have li : i < W.heap.size := (HI1.out.lt _ rfl).2
       have e1 : decide (0 ≤ d) = true := by have := HLB.out j d hlt hd; simpa using this
       have e2 : (j : Int) < (n : Int) := by omega
       clear hd
       go_wp2
       go_roundw
       case rel => exact ⟨j + 1, by omega, by go_num, by first | rfl | trivial⟩
       case measure => simp [intOf]; omega
     have hjL : j = L := by omega
     subst hjL
     by_cases hjn : j < n
     · skip
       obtain ⟨d, hd⟩ := list_split (l := im) (k := j) (by rw [HIM.out]; omega)
       obtain ⟨x, hx⟩ := list_split (l := cl) (k := j) (by rw [HCL.out]; omega)
       have qi := int_cell HI1.out hd
       have li : i < W.heap.size := (HI1.out.lt _ rfl).2
       have e1 : decide (0 ≤ d) = false := by have := HLA.out d hd; simp; omega
       have e2 : (j : Int) < (n : Int) := by omega
       have e3 : ((j : Int) == (n : Int)) = false := by simp; omega
       have HD := Lib.hid hd
       have HX := Lib.hid hx
       clear hd hx
       obtain ⟨B, hB⟩ : ∃ B, inB v 0 9 = B := ⟨_, rfl⟩
       have HBB := Lib.hid hB
       go_wp2_with fail
       refine (within_b _ _ _ _ _ hB).mono ?_
       rintro e w2 ⟨rfl, hb⟩
       clear hB
       clear d0 d1 d2 d3 d4 d5 d6 z0 z1 z2 z3 z4 z5 z6 s0 s1 r0 r1 r2 r3 r4 r5 r6 y0 y1 y2 y3 y4 y5 y6 ln ls lr
       have BN2 := Lib.hid (BN1.out.ext hb)
       have BS2 := Lib.hid (BS1.out.ext hb)
       have BR2 := Lib.hid (BR1.out.ext hb)
       have HR2 := Lib.hid (own_ext HR1.out hb)
       have HC2 := Lib.hid (own_ext HC1.out hb)
       have HI2 := Lib.hid (own_ext HI1.out hb)
       have HB2 := Lib.hid (ext_trans HB1.out hb)
       obtain ⟨d0, d1, d2, d3, d4, d5, d6⟩ := BN2.out.q7
       obtain ⟨z0, z1, z2, z3, z4, z5, z6⟩ := BN2.out.z7
       obtain ⟨s0, s1⟩ := BS2.out.q2
       obtain ⟨r0, r1, r2, r3, r4, r5, r6⟩ := BR2.out.q7
       obtain ⟨y0, y1, y2, y3, y4, y5, y6⟩ := BR2.out.z7
       have ln := BN2.out.lt
       have ls := BS2.out.lt
       have lr := BR2.out.lt
       clear hb
       clear qi li
       cases B
       · skip
         have E := Lib.hid (show stM ⟨u, lo, l, cl, im, be, gu⟩ 5 v = none by unfold stM st5; rw [if_neg (by decide), if_neg (by decide), if_neg (by decide), if_neg (by decide), if_pos rfl, if_neg (by dsimp only; rw [HBB.out]; simp)])
         go_wp2
         refine bodyPost_ret (v := .tuple #[mdV 0 0 none 0 0 none 0 0 none 0 0 0 0, .bool false]) (by simp [results, Try.results102, go_sem, *]) rfl ?_
         rw [E.out]
         exact ⟨rfl, by repeat (first | (with_reducible exact HB2.out) | (with_reducible refine ext_alloc ?_ _) | (with_reducible refine ext_set ?_ (by show w.heap.size ≤ w.heap.size + 1 + 1; omega) _))⟩
       · skip
         have qi := int_cell HI2.out HD.out
         have qc := int_cell HC2.out HX.out
         have fi := own_frozen HI2.out j
         have fc := own_frozen HC2.out j
         have li : i < w2.heap.size := (HI2.out.lt _ rfl).2
         have lg : g < w2.heap.size := (HC2.out.lt _ rfl).2
         have hiN : i ≠ N := fun e => own_nbT HI2.out BN2.out (by decide) (by rw [e]; rfl)
         have his : i ≠ w.heap.size + 1 := fun e => own_nbT HI2.out BS2.out (by decide) (by rw [e]; rfl)
         have hiR : i ≠ w.heap.size + 1 + 1 := fun e => own_nbT HI2.out BR2.out (by decide) (by rw [e]; rfl)
         have hgN : g ≠ N := fun e => own_nbT HC2.out BN2.out (by decide) (by rw [e]; rfl)
         have hgR : g ≠ w.heap.size + 1 + 1 := fun e => own_nbT HC2.out BR2.out (by decide) (by rw [e]; rfl)
         have hNi := hiN.symm
         have hsi := his.symm
         have hgi := hne.symm
         go_upto_region 31 with fail
         go_region
         obtain ⟨X, hX⟩ : ∃ y : World, y = ((w2.setCell ⟨i, j, none⟩ (.int .i64 v)).setCell ⟨g, j, none⟩ (.int .i64 1)).drew := ⟨_, rfl⟩
         obtain ⟨cs, hcs⟩ := own_blk HC2.out
         obtain ⟨ds, hds⟩ := own_blk HI2.out
         have BN3 := Lib.hid (show Blk X N 47 (mdC u lo (some ⟨h, 0, none⟩) n cr (some ⟨g, 0, none⟩) n kc1 (some ⟨i, 0, none⟩) n ic1 be gu) by rw [hX]; exact ((BN2.out.setF (p := ⟨i, j, none⟩) hiN _).setF (p := ⟨g, j, none⟩) hgN _).ext (ext_drew (ext_refl _)))
         have BR3 := Lib.hid (show Blk X (w.heap.size + 1 + 1) 47 #[.int .i64 0, .int .i64 0, .slice none 0 0, .slice none 0 0, .slice none 0 0, .int .i64 0, .int .i64 0] by rw [hX]; exact ((BR2.out.setF (p := ⟨i, j, none⟩) hiR _).setF (p := ⟨g, j, none⟩) hgR _).ext (ext_drew (ext_refl _)))
         have HR3 := Lib.hid (show X.ownsRow w.heap.size 155 2 (.slice (some ⟨h, 0, none⟩) n cr) n (rowsV2 l) by rw [hX]; exact World.ownsRow.drew (own_setF (p := ⟨g, j, none⟩) (own_setF (p := ⟨i, j, none⟩) HR2.out (own_nbT HR2.out hds (by decide)) _) (own_nbT HR2.out hcs (by decide)) _))
         have HC3 := Lib.hid (show X.ownsRow w.heap.size 3 1 (.slice (some ⟨g, 0, none⟩) n kc1) n (intsV (cl.set j 1)) by rw [hX]; exact World.ownsRow.drew (int_set (own_setF (p := ⟨i, j, none⟩) HC2.out (by intro e; injection e with e; exact hne e) _)))
         have HI3 := Lib.hid (show X.ownsRow w.heap.size 3 1 (.slice (some ⟨i, 0, none⟩) n ic1) n (intsV (im.set j v)) by rw [hX]; exact World.ownsRow.drew (own_setF (p := ⟨g, j, none⟩) (int_set HI2.out) (by intro e; injection e with e; exact hne e.symm) _))
         have HB3 := Lib.hid (show Below w.heap.size w X by rw [hX]; exact ((HB2.out.setCell (p := ⟨i, j, none⟩) (HI2.out.lt _ rfl).1 _).setCell (p := ⟨g, j, none⟩) (HC2.out.lt _ rfl).1 _).drew)
         rw [← hX]
         clear d0 d1 d2 d3 d4 d5 d6 z0 z1 z2 z3 z4 z5 z6 s0 s1 r0 r1 r2 r3 r4 r5 r6 y0 y1 y2 y3 y4 y5 y6 ln ls lr
         clear hX qi qc fi fc li lg hcs hds
         obtain ⟨d0, d1, d2, d3, d4, d5, d6⟩ := BN3.out.q7
         obtain ⟨z0, z1, z2, z3, z4, z5, z6⟩ := BN3.out.z7
         have ln := BN3.out.lt
         go_wp2
         go_meet
         refine ⟨⟨u, lo, l, cl.set j 1, im.set j v, be, gu + 1⟩, h, cr, g, kc1, i, ic1, HL.out, by show (cl.set j 1).length = n; rw [List.length_set]; exact HCL.out, by show (im.set j v).length = n; rw [List.length_set]; exact HIM.out, hne, Lib.hid ?_, Lib.hid (BN3.out.set_ 6 _), Lib.hid (BR3.out.setF (p := ⟨N, 6, none⟩) (by show N ≠ w.heap.size + 1 + 1; omega) _), Lib.hid (own_setF (p := ⟨N, 6, none⟩) HR3.out (own_nbT HR3.out BN3.out (by decide)) _), Lib.hid (own_setF (p := ⟨N, 6, none⟩) HC3.out (own_nbT HC3.out BN3.out (by decide)) _), Lib.hid (own_setF (p := ⟨N, 6, none⟩) HI3.out (own_nbT HI3.out BN3.out (by decide)) _), Lib.hid (HB3.out.setCell (p := ⟨N, 6, none⟩) (by show w.heap.size ≤ N; omega) _)⟩
         unfold stM st5
         rw [if_neg (by decide), if_neg (by decide), if_neg (by decide), if_neg (by decide), if_pos rfl, if_pos (by dsimp only; rw [HBB.out, HLL.out, HL.out]; exact ⟨hjn, rfl⟩)]
         dsimp only
         rw [HLL.out]
     · have e2 : ¬ ((j : Int) < (n : Int)) := by omega
       have e3 : ((j : Int) == (n : Int)) = true := by simp; omega
       have E := Lib.hid (show stM ⟨u, lo, l, cl, im, be, gu⟩ 5 v = none by unfold stM st5; rw [if_neg (by decide), if_neg (by decide), if_neg (by decide), if_neg (by decide), if_pos rfl, if_neg (by dsimp only; rw [HLL.out, HL.out]; intro e; exact hjn e.1)])
       go_wp2
       refine bodyPost_ret (v := .tuple #[mdV 0 0 none 0 0 none 0 0 none 0 0 0 0, .bool false]) (by simp [results, Try.results102, go_sem, *]) rfl ?_
       rw [E.out]
       exact ⟨rfl, by repeat (first | (with_reducible exact HB1.out) | (with_reducible refine ext_alloc ?_ _) | (with_reducible refine ext_set ?_ (by show w.heap.size ≤ w.heap.size + 1 + 1; omega) _))⟩
  · obtain ⟨d0, d1, d2, d3, d4, d5, d6⟩ := BN1.out.q7
    obtain ⟨z0, z1, z2, z3, z4, z5, z6⟩ := BN1.out.z7
    obtain ⟨s0, s1⟩ := BS1.out.q2
    obtain ⟨r0, r1, r2, r3, r4, r5, r6⟩ := BR1.out.q7
    obtain ⟨y0, y1, y2, y3, y4, y5, y6⟩ := BR1.out.z7
    have ln := BN1.out.lt
    have ls := BS1.out.lt
    have lr := BR1.out.lt
    obtain ⟨h1, h2, h3, h4, h5⟩ := hk
    have b1 : (k == 1) = false := by simpa using h1
    have b2 : (k == 2) = false := by simpa using h2
    have b3 : (k == 3) = false := by simpa using h3
    have b4 : (k == 4) = false := by simpa using h4
    have b5 : (k == 5) = false := by simpa using h5
    have E := Lib.hid (show stM ⟨u, lo, l, cl, im, be, gu⟩ k v = none by unfold stM; rw [if_neg h1, if_neg h2, if_neg h3, if_neg h4, if_neg h5])
    go_wp2
    refine bodyPost_ret (v := .tuple #[mdV 0 0 none 0 0 none 0 0 none 0 0 0 0, .bool false]) (by simp [results, Try.results102, go_sem, *]) rfl ?_
    rw [E.out]
    exact ⟨rfl, by repeat (first | (with_reducible exact HB1.out) | (with_reducible refine ext_alloc ?_ _) | (with_reducible refine ext_set ?_ (by show w.heap.size ≤ w.heap.size + 1 + 1; omega) _))⟩
 case rest =>
  clear BN1 BR1 BS1 HR1 HC1 HI1 HB1 hne
  obtain ⟨q1, h, cr, g, kc1, i, ic1, hl1, hc1, hi1, hne, HE, BN, BR, HR, HC, HI, HB⟩ := hcut
  obtain ⟨W, hW⟩ : ∃ y : World, y = wc := ⟨_, rfl⟩
  subst hW
  obtain ⟨d0, d1, d2, d3, d4, d5, d6⟩ := BN.out.q7
  obtain ⟨r0, r1, r2, r3, r4, r5, r6⟩ := BR.out.q7
  obtain ⟨y0, y1, y2, y3, y4, y5, y6⟩ := BR.out.z7
  have ln := BN.out.lt
  have lr := BR.out.lt
  obtain ⟨B, hB⟩ : ∃ B, mindB q1.u q1.lo q1.l q1.cl q1.im q1.be q1.gu = B := ⟨_, rfl⟩
  have HM := Lib.hid (fun (w : World) a b c => isMind_any q1.u q1.lo (some ⟨h, 0, none⟩) n cr q1.l (some ⟨g, 0, none⟩) n kc1 q1.cl (some ⟨i, 0, none⟩) n ic1 q1.im q1.be q1.gu w (by omega) (by omega) (by omega) a b c)
  rw [hB] at HM
  have HBB := Lib.hid (show mdOK q1 = B from hB)
  have HL1 := Lib.hid hl1
  clear hB hl1 hc1 hi1
  go_wp2_with fail
  refine (HM.out _ (Reads.of_own HR.out) (Reads.of_own HC.out) (Reads.of_own HI.out)).mono ?_
  rintro e w2 ⟨rfl, hb⟩
  clear d0 d1 d2 d3 d4 d5 d6 r0 r1 r2 r3 r4 r5 r6 y0 y1 y2 y3 y4 y5 y6 ln lr
  have BN2 := Lib.hid (BN.out.ext hb)
  have BR2 := Lib.hid (BR.out.ext hb)
  have HR2 := Lib.hid (own_ext HR.out hb)
  have HC2 := Lib.hid (own_ext HC.out hb)
  have HI2 := Lib.hid (own_ext HI.out hb)
  have HB2 := Lib.hid (ext_trans HB.out hb)
  clear hb BN BR HR HC HI HB HM
  obtain ⟨d0, d1, d2, d3, d4, d5, d6⟩ := BN2.out.q7
  obtain ⟨r0, r1, r2, r3, r4, r5, r6⟩ := BR2.out.q7
  obtain ⟨y0, y1, y2, y3, y4, y5, y6⟩ := BR2.out.z7
  have ln := BN2.out.lt
  have lr := BR2.out.lt
  cases B
  · go_wp2
    refine bodyPost_ret (v := .tuple #[mdV 0 0 none 0 0 none 0 0 none 0 0 0 0, .bool false]) (by simp [results, Try.results102, go_sem, *]) rfl ?_
    rw [HE.out, show gdM q1 = none by unfold gdM; rw [HBB.out]; rfl]
    exact ⟨rfl, by repeat (first | (with_reducible exact HB2.out) | (refine ext_set ?_ (by show w.heap.size ≤ w.heap.size + 1 + 1; omega) _))⟩
  · go_wp2
    refine bodyPost_ret (v := .tuple #[mdV q1.u q1.lo (some ⟨h, 0, none⟩) n cr (some ⟨g, 0, none⟩) n kc1 (some ⟨i, 0, none⟩) n ic1 q1.be q1.gu, .bool true]) (by simp [results, Try.results102, go_sem, *]) rfl ?_
    rw [HE.out, show gdM q1 = some q1 by unfold gdM; rw [HBB.out]; rfl]
    have hl1 := HL1.out
    subst hl1
    exact ⟨h, cr, g, kc1, i, ic1, rfl, m7_own HR2.out (own_nbT HR2.out BR2.out (by decide)), m7_own HC2.out (own_nbT HC2.out BR2.out (by decide)), m7_own HI2.out (own_nbT HI2.out BR2.out (by decide)), hne, m7_below HB2.out (by omega)⟩
end Go.Proofs.Ytlkfffohjeoooaa
