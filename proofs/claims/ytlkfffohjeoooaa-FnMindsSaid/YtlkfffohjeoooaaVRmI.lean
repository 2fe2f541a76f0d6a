/- RunMind: the program's. -/
import Derived.Test.YtlkfffohjeoooaaVM13
namespace Go.Proofs.Ytlkfffohjeoooaa
open Go.RowKit
set_option linter.unusedVariables false
set_option linter.unusedSimpArgs false

set_option maxRecDepth 100000 in
set_option maxHeartbeats 16000000 in
theorem implRunMind_any (u lo : Int) (A : Option Addr) (n c : Nat) (l : List R2) (K : Option Addr) (k' kc : Nat) (cl : List Int) (I : Option Addr) (m' ic : Nat) (im : List Int) (be gu : Int) (Bs : Option Addr) (n2 cb : Nat) (ss : List R2) (w : World) (hn : n ≤ 1048576) (hk : k' ≤ 1048576) (hm : m' ≤ 1048576) (hn2 : n2 ≤ 1048576) (h : Reads w w.heap.size 2 A n (rowsV2 l)) (hc : Reads w w.heap.size 1 K k' (intsV cl)) (hi : Reads w w.heap.size 1 I m' (intsV im)) (hs : Reads w w.heap.size 2 Bs n2 (rowsV2 ss)) :
 Calls Try.prog 37 #[mdV u lo A n c K k' kc I m' ic be gu, .slice Bs n2 cb] w (RetRu w (runO ⟨u, lo, l, cl, im, be, gu⟩ ss)) := by
 have hl := rows_len2 h
 have hcl := ints_len hc
 have him := ints_len hi
 have hsl := rows_len2 hs
 have H := Lib.hid h
 have HC := Lib.hid hc
 have HI := Lib.hid hi
 have HS := Lib.hid hs
 have hbx := Lib.hid (ext_alloc (ext_alloc (ext_refl w) (.cells (mdC u lo A n c K k' kc I m' ic be gu) 47)) (.cells #[.int .i64 0, .int .i64 0, .slice none 0 0, .slice none 0 0, .slice none 0 0, .int .i64 0, .int .i64 0] 47))
 have BM0 := Lib.hid ((Blk.born w (mdC u lo A n c K k' kc I m' ic be gu) 47 (H := w.heap.size) rfl).al (.cells #[.int .i64 0, .int .i64 0, .slice none 0 0, .slice none 0 0, .slice none 0 0, .int .i64 0, .int .i64 0] 47))
 have BR0 := Lib.hid (Blk.born (w.alloc (.cells (mdC u lo A n c K k' kc I m' ic be gu) 47)) #[.int .i64 0, .int .i64 0, .slice none 0 0, .slice none 0 0, .slice none 0 0, .int .i64 0, .int .i64 0] 47 (H := w.heap.size + 1) (by simp))
 have HM := Lib.hid (fun (w : World) a b d => isMind_any u lo A n c l K k' kc cl I m' ic im be gu w hn hk hm a b d)
 cases hok : mdOK ⟨u, lo, l, cl, im, be, gu⟩
 · rw [show mindB u lo l cl im be gu = false from hok] at HM
   rw [show runO ⟨u, lo, l, cl, im, be, gu⟩ ss = none by unfold runO; rw [if_neg (by rw [hok]; simp)]]
   clear h hc hi hs hl hcl him hsl hok
   go_enter Try.func37, Try.ntmps37
   go_wp2_with fail
   refine (HM.out _ (rdx H.out hbx.out) (rdx HC.out hbx.out) (rdx HI.out hbx.out)).mono ?_
   rintro e w1 ⟨rfl, hb⟩
   have BR1 := Lib.hid (BR0.out.ext hb)
   have HB1 := Lib.hid (ext_trans hbx.out hb)
   obtain ⟨r0, r1, r2, r3, r4, r5, r6⟩ := BR1.out.q7
   obtain ⟨y0, y1, y2, y3, y4, y5, y6⟩ := BR1.out.z7
   have lr := BR1.out.lt
   clear hb
   go_wp2
   refine bodyPost_ret (v := .tuple #[mdV 0 0 none 0 0 none 0 0 none 0 0 0 0, .int .i64 0, .bool false]) (by simp [results, Try.results37, go_sem, *]) rfl ?_
   exact ⟨rfl, m7_below HB1.out (by omega)⟩
 obtain ⟨hgd, h1, h2, _⟩ := mdOK_parts hok
 dsimp only at h1 h2 hgd
 have hk2 : k' = n := by omega
 have hm2 : m' = n := by omega
 subst hk2
 subst hm2
 obtain ⟨_, _, hn1, hn8⟩ := frB_head (good_fr hgd)
 subst hl
 rw [show mindB u lo l cl im be gu = true from hok] at HM
 by_cases h40 : 40 < n2
 · rw [show runO ⟨u, lo, l, cl, im, be, gu⟩ ss = none by unfold runO; rw [if_neg (by omega)]]
   have e1 : (40 : Int) < (n2 : Int) := by omega
   clear h hc hi hs hcl him hsl hok hgd h1 h2 h40
   go_enter Try.func37, Try.ntmps37
   go_wp2_with fail
   refine (HM.out _ (rdx H.out hbx.out) (rdx HC.out hbx.out) (rdx HI.out hbx.out)).mono ?_
   rintro e w1 ⟨rfl, hb⟩
   have BR1 := Lib.hid (BR0.out.ext hb)
   have HB1 := Lib.hid (ext_trans hbx.out hb)
   obtain ⟨r0, r1, r2, r3, r4, r5, r6⟩ := BR1.out.q7
   obtain ⟨y0, y1, y2, y3, y4, y5, y6⟩ := BR1.out.z7
   have lr := BR1.out.lt
   clear hb
   go_wp2
   refine bodyPost_ret (v := .tuple #[mdV 0 0 none 0 0 none 0 0 none 0 0 0 0, .int .i64 0, .bool false]) (by simp [results, Try.results37, go_sem, *]) rfl ?_
   exact ⟨rfl, m7_below HB1.out (by omega)⟩
 · have e1 : ¬ (40 : Int) < (n2 : Int) := by omega
   rw [show runO ⟨u, lo, l, cl, im, be, gu⟩ ss = some (runMi ⟨u, lo, l, cl, im, be, gu⟩ ss n2) by unfold runO; rw [if_pos ⟨hok, by omega⟩, hsl]]
   have HOK := Lib.hid hok
   have HSL := Lib.hid hsl
   clear h hc hi hs hcl him hsl hok hgd h1 h2 h40
   go_enter Try.func37, Try.ntmps37
   go_wp2_with fail
   refine (HM.out _ (rdx H.out hbx.out) (rdx HC.out hbx.out) (rdx HI.out hbx.out)).mono ?_
   rintro e w1 ⟨rfl, hb⟩
   have BM1 := Lib.hid (BM0.out.ext hb)
   have BR1 := Lib.hid (BR0.out.ext hb)
   have HB1 := Lib.hid (ext_trans hbx.out hb)
   obtain ⟨m0, m1, m2, m3, m4, m5, m6⟩ := BM1.out.q7
   have lm := BM1.out.lt
   clear hb
   go_wp2_with fail
   (with_reducible refine (mindOwn_any u lo A l.length c l K kc cl I ic im be gu _ hn1 (by omega) (rdx H.out HB1.out) (rdx HC.out HB1.out) (rdx HI.out HB1.out)).mono ?_)
   rintro e w2 ⟨h, cr, g, kc1, i, ic1, rfl, hr, hc, hi, hne, hb⟩
   have hs0 := HB1.out.size
   obtain ⟨N, hN⟩ : ∃ N, N = w2.heap.size := ⟨_, rfl⟩
   obtain ⟨W, hW⟩ : ∃ y : World, y = w2.alloc (.cells (mdC u lo (some ⟨h, 0, none⟩) l.length cr (some ⟨g, 0, none⟩) l.length kc1 (some ⟨i, 0, none⟩) l.length ic1 be gu) 47) := ⟨_, rfl⟩
   have BN1 := Lib.hid (show Blk W N 47 (mdC u lo (some ⟨h, 0, none⟩) l.length cr (some ⟨g, 0, none⟩) l.length kc1 (some ⟨i, 0, none⟩) l.length ic1 be gu) by rw [hW]; exact Blk.born w2 _ 47 (H := N) hN)
   have BR2 := Lib.hid (show Blk W (w.heap.size + 1) 47 #[.int .i64 0, .int .i64 0, .slice none 0 0, .slice none 0 0, .slice none 0 0, .int .i64 0, .int .i64 0] by rw [hW]; exact (BR1.out.ext hb).al _)
   have HR1 := Lib.hid (show W.ownsRow w.heap.size 155 2 (.slice (some ⟨h, 0, none⟩) l.length cr) l.length (rowsV2 l) by rw [hW]; exact (own_base (base' := w.heap.size) hr hs0).alloc _)
   have HC1 := Lib.hid (show W.ownsRow w.heap.size 3 1 (.slice (some ⟨g, 0, none⟩) l.length kc1) l.length (intsV cl) by rw [hW]; exact (own_base (base' := w.heap.size) hc hs0).alloc _)
   have HI1 := Lib.hid (show W.ownsRow w.heap.size 3 1 (.slice (some ⟨i, 0, none⟩) l.length ic1) l.length (intsV im) by rw [hW]; exact (own_base (base' := w.heap.size) hi hs0).alloc _)
   have HBW := Lib.hid (show Below w.heap.size w W by rw [hW]; exact ext_alloc (ext_trans HB1.out hb) _)
   have hNw : w.heap.size + 1 < N := by have := (BR1.out.ext hb).lt; omega
   go_upto_region 4 with fail
   rw [← hN, ← hW]
   clear hr hc hi hb hN hW BR0 BM0 BM1 BR1 HB1 hbx hs0 m0 m1 m2 m3 m4 m5 m6 lm
   go_wp2_with fail
   go_loopw [8, 26] (fun cc ii wr => ∃ (j : Nat) (q : Md) (h cr g kc i ic cnt : Nat), j ≤ n2 ∧ ii = .int .i64 j ∧ cc = .int .i64 cnt ∧ cnt ≤ j ∧ g ≠ i ∧ Hid (runMi ⟨u, lo, l, cl, im, be, gu⟩ ss j = (q, cnt)) ∧ Hid (mdOK q = true) ∧ Hid (Blk wr N 47 (mdC q.u q.lo (some ⟨h, 0, none⟩) q.l.length cr (some ⟨g, 0, none⟩) q.l.length kc (some ⟨i, 0, none⟩) q.l.length ic q.be q.gu)) ∧ Hid (wr.ownsRow w.heap.size 155 2 (.slice (some ⟨h, 0, none⟩) q.l.length cr) q.l.length (rowsV2 q.l)) ∧ Hid (wr.ownsRow w.heap.size 3 1 (.slice (some ⟨g, 0, none⟩) q.l.length kc) q.l.length (intsV q.cl)) ∧ Hid (wr.ownsRow w.heap.size 3 1 (.slice (some ⟨i, 0, none⟩) q.l.length ic) q.l.length (intsV q.im)) ∧ Hid (Blk wr (w.heap.size + 1) 47 #[.int .i64 0, .int .i64 0, .slice none 0 0, .slice none 0 0, .slice none 0 0, .int .i64 0, .int .i64 0]) ∧ Hid (Below w.heap.size w wr)) (fun _ ii _ => n2 - (intOf ii).toNat)
   case atStart => exact ⟨0, ⟨u, lo, l, cl, im, be, gu⟩, h, cr, g, kc1, i, ic1, 0, Nat.zero_le _, rfl, rfl, Nat.le_refl _, hne, Lib.hid rfl, HOK, BN1, HR1, HC1, HI1, BR2, HBW⟩
   case round =>
    clear BN1 HR1 HC1 HI1 BR2 HBW hne
    obtain ⟨j, q, h, cr, g, kc, i, ic, cnt, hj, rfl, rfl, hcj, hne, HQ, HQK, BNr, HRr, HCr, HIr, BRr, HBr⟩ := hrel
    obtain ⟨W, hW⟩ : ∃ y : World, y = wr := ⟨_, rfl⟩
    subst hW
    obtain ⟨d0, d1, d2, d3, d4, d5, d6⟩ := BNr.out.q7
    obtain ⟨z0, z1, z2, z3, z4, z5, z6⟩ := BNr.out.z7
    obtain ⟨r0, r1, r2, r3, r4, r5, r6⟩ := BRr.out.q7
    obtain ⟨y0, y1, y2, y3, y4, y5, y6⟩ := BRr.out.z7
    have ln := BNr.out.lt
    have lr := BRr.out.lt
    by_cases hlt : j < n2
    · obtain ⟨s, hs⟩ := list_split (l := ss) (k := j) (by rw [HSL.out]; exact hlt)
      have HRN := Lib.hid (runMi_next HQ.out hs)
      obtain ⟨b, o, rfl, hb, c0, c1⟩ := rows_at2 (rdx HS.out HBr.out) hs
      have e2 : (j : Int) < (n2 : Int) := by omega
      clear hs
      obtain ⟨O, hO⟩ : ∃ O, stM q s.a s.b = O := ⟨_, rfl⟩
      rw [hO] at HRN
      have HO := Lib.hid hO
      clear hO
      have HST := Lib.hid (fun (w : World) a b d => (stepped_any q.u q.lo (some ⟨h, 0, none⟩) q.l.length cr q.l (some ⟨g, 0, none⟩) kc q.cl (some ⟨i, 0, none⟩) ic q.im q.be q.gu s.a s.b w HQK.out a b d))
      rw [show stM ⟨q.u, q.lo, q.l, q.cl, q.im, q.be, q.gu⟩ s.a s.b = O from HO.out] at HST
      go_wp2_with fail
      (with_reducible refine (HST.out _ (Reads.of_own (HRr.out.alloc _)) (Reads.of_own (HCr.out.alloc _)) (Reads.of_own (HIr.out.alloc _))).mono ?_)
      rcases O with _ | q2
      · rintro e w3 ⟨rfl, hb3⟩
        have HX := Lib.hid (ext_trans (ext_alloc (ext_refl W) (.cells #[.int .i64 s.a, .int .i64 s.b] 51)) hb3)
        clear hb3
        go_wp2
        go_roundw
        case rel => refine ⟨j + 1, q, h, cr, g, kc, i, ic, cnt, by omega, by go_num, rfl, by omega, hne, HRN, HQK, Lib.hid ((BNr.out.ext HX.out).al _), Lib.hid (World.ownsRow.alloc (own_ext HRr.out HX.out) _), Lib.hid (World.ownsRow.alloc (own_ext HCr.out HX.out) _), Lib.hid (World.ownsRow.alloc (own_ext HIr.out HX.out) _), Lib.hid ((BRr.out.ext HX.out).al _), Lib.hid (ext_alloc (ext_trans HBr.out HX.out) _)⟩
        case measure => simp [intOf]; omega
      · rintro e w3 ⟨h2, cr2, g2, kc2, i2, ic2, rfl, hr2, hc2, hi2, hne2, hb3⟩
        have HX := Lib.hid (ext_trans (ext_alloc (ext_refl W) (.cells #[.int .i64 s.a, .int .i64 s.b] 51)) hb3)
        have hs1 : w.heap.size ≤ (W.alloc (.cells #[.int .i64 s.a, .int .i64 s.b] 51)).heap.size := (ext_alloc HBr.out _).size
        have HR2 := Lib.hid (own_base (base' := w.heap.size) hr2 hs1)
        have HC2 := Lib.hid (own_base (base' := w.heap.size) hc2 hs1)
        have HI2 := Lib.hid (own_base (base' := w.heap.size) hi2 hs1)
        have BN3 := Lib.hid (BNr.out.ext HX.out)
        have BR3 := Lib.hid (BRr.out.ext HX.out)
        have HB3 := Lib.hid (ext_trans HBr.out HX.out)
        have HQ2 := Lib.hid (st_ok HO.out)
        clear hb3 hr2 hc2 hi2 hs1 c0 c1 hb
        clear d0 d1 d2 d3 d4 d5 d6 z0 z1 z2 z3 z4 z5 z6 r0 r1 r2 r3 r4 r5 r6 y0 y1 y2 y3 y4 y5 y6 ln lr
        obtain ⟨d0, d1, d2, d3, d4, d5, d6⟩ := BN3.out.q7
        obtain ⟨z0, z1, z2, z3, z4, z5, z6⟩ := BN3.out.z7
        obtain ⟨r0, r1, r2, r3, r4, r5, r6⟩ := BR3.out.q7
        obtain ⟨y0, y1, y2, y3, y4, y5, y6⟩ := BR3.out.z7
        have ln := BN3.out.lt
        have lr := BR3.out.lt
        go_wp2
        go_roundw
        case rel => exact ⟨j + 1, q2, h2, cr2, g2, kc2, i2, ic2, cnt + 1, by omega, by go_num, by go_num, by omega, hne2, HRN, HQ2, Lib.hid ((m7_put BN3.out).al _), Lib.hid (World.ownsRow.alloc (m7_own HR2.out (own_nbT HR2.out BN3.out (by decide))) _), Lib.hid (World.ownsRow.alloc (m7_own HC2.out (own_nbT HC2.out BN3.out (by decide))) _), Lib.hid (World.ownsRow.alloc (m7_own HI2.out (own_nbT HI2.out BN3.out (by decide))) _), Lib.hid ((m7_far BR3.out (by omega)).al _), Lib.hid (ext_alloc (m7_below HB3.out (by omega)) _)⟩
        case measure => simp [intOf]; omega
    · obtain rfl : j = n2 := by omega
      go_wp2
      refine bodyPost_ret (v := .tuple #[mdV q.u q.lo (some ⟨h, 0, none⟩) q.l.length cr (some ⟨g, 0, none⟩) q.l.length kc (some ⟨i, 0, none⟩) q.l.length ic q.be q.gu, .int .i64 cnt, .bool true]) (by simp [results, Try.results37, go_sem, *]) rfl ?_
      rw [HQ.out]
      exact ⟨h, cr, g, kc, i, ic, rfl, m7_own HRr.out (own_nbT HRr.out BRr.out (by decide)), m7_own HCr.out (own_nbT HCr.out BRr.out (by decide)), m7_own HIr.out (own_nbT HIr.out BRr.out (by decide)), hne, m7_below HBr.out (by omega)⟩

end Go.Proofs.Ytlkfffohjeoooaa
