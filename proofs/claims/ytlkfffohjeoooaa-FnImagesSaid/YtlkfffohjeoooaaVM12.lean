/- Minds: StepMind, the reference's. -/
import Derived.Test.YtlkfffohjeoooaaVMdM
namespace Go.Proofs.Ytlkfffohjeoooaa
open Go.RowKit
set_option linter.unusedVariables false
set_option linter.unusedSimpArgs false
theorem st_bad {q : Md} {k v : Int} (hok : mdOK q = true) (h : stepOkM k v = false) : stM q k v = none := by
 obtain ⟨hg, _, _, _, _, _⟩ := mdOK_parts hok
 have hn8 := (frB_head (good_fr hg)).2.2.2
 unfold stepOkM at h
 unfold stM
 by_cases h1 : k = 1
 · rw [if_pos h1] at h ⊢; unfold st1; rw [h]; rfl
 rw [if_neg h1] at h ⊢
 by_cases h2 : k = 2
 · rw [if_pos h2] at h ⊢; unfold st2; rw [if_neg (by simpa using h)]
 rw [if_neg h2] at h ⊢
 by_cases h3 : k = 3
 · rw [if_pos h3] at h ⊢
   unfold st3
   rw [if_neg]
   rintro ⟨e, _⟩
   have e1 := inB_iff.1 e
   rw [inB_iff.2 (show 0 ≤ v ∧ v ≤ 7 by omega)] at h
   cases h
 rw [if_neg h3] at h ⊢
 by_cases h4 : k = 4
 · rw [if_pos h4] at h ⊢
   unfold st4
   rw [if_neg]
   rintro ⟨e, e2⟩
   unfold addNok canB at e
   simp only [Bool.and_eq_true, inB_iff] at e
   have h8 := pw_lt hn8
   rw [inB_iff.2 (show 1 ≤ v ∧ v ≤ 99999999 by omega)] at h
   cases h
 rw [if_neg h4] at h ⊢
 by_cases h5 : k = 5
 · rw [if_pos h5]
   unfold st5
   rw [if_neg]
   rintro ⟨_, e⟩
   rw [e] at h
   simp [h5] at h
 · rw [if_neg h5]
set_option maxRecDepth 100000 in
set_option maxHeartbeats 8000000 in
theorem specStepMind_any (u lo : Int) (A : Option Addr) (n c : Nat) (l : List R2) (K : Option Addr) (k' kc : Nat) (cl : List Int) (I : Option Addr) (m' ic : Nat) (im : List Int) (be gu k v : Int) (w : World) (hn : n ≤ 1048576) (hk : k' ≤ 1048576) (hm : m' ≤ 1048576) (h : Reads w w.heap.size 2 A n (rowsV2 l)) (hc : Reads w w.heap.size 1 K k' (intsV cl)) (hi : Reads w w.heap.size 1 I m' (intsV im)) :
 Calls Try.prog 27 #[mdV u lo A n c K k' kc I m' ic be gu, .agg #[.int .i64 k, .int .i64 v]] w (RetSt w (stepO ⟨u, lo, l, cl, im, be, gu⟩ k v)) := by
 have hl := rows_len2 h
 have hcl := ints_len hc
 have him := ints_len hi
 have H := Lib.hid h
 have HC := Lib.hid hc
 have HI := Lib.hid hi
 have hbx := Lib.hid (ext_alloc (ext_alloc (ext_alloc (ext_refl w) (.cells (mdC u lo A n c K k' kc I m' ic be gu) 47)) (.cells #[.int .i64 k, .int .i64 v] 51)) (.cells #[.int .i64 0, .int .i64 0, .slice none 0 0, .slice none 0 0, .slice none 0 0, .int .i64 0, .int .i64 0] 47))
 have BM0 := Lib.hid (((Blk.born w (mdC u lo A n c K k' kc I m' ic be gu) 47 (H := w.heap.size) rfl).al (.cells #[.int .i64 k, .int .i64 v] 51)).al (.cells #[.int .i64 0, .int .i64 0, .slice none 0 0, .slice none 0 0, .slice none 0 0, .int .i64 0, .int .i64 0] 47))
 have BS0 := Lib.hid (((Blk.born (w.alloc (.cells (mdC u lo A n c K k' kc I m' ic be gu) 47)) #[.int .i64 k, .int .i64 v] 51 (H := w.heap.size + 1) (by simp))).al (.cells #[.int .i64 0, .int .i64 0, .slice none 0 0, .slice none 0 0, .slice none 0 0, .int .i64 0, .int .i64 0] 47))
 have BR0 := Lib.hid (Blk.born ((w.alloc (.cells (mdC u lo A n c K k' kc I m' ic be gu) 47)).alloc (.cells #[.int .i64 k, .int .i64 v] 51)) #[.int .i64 0, .int .i64 0, .slice none 0 0, .slice none 0 0, .slice none 0 0, .int .i64 0, .int .i64 0] 47 (H := w.heap.size + 1 + 1) (by simp))
 have HM := Lib.hid (fun (w : World) a b d => l21Good_any u lo A n c l K k' kc cl I m' ic im be gu w hn hk hm a b d)
 cases hok : mdOK ⟨u, lo, l, cl, im, be, gu⟩
 · rw [show mindB u lo l cl im be gu = false from hok] at HM
   rw [show stepO ⟨u, lo, l, cl, im, be, gu⟩ k v = none by unfold stepO; rw [hok]; rfl]
   clear h hc hi hl hcl him hok
   go_enter Try.func27, Try.ntmps27
   go_wp2_with fail
   refine (HM.out _ (rdx H.out hbx.out) (rdx HC.out hbx.out) (rdx HI.out hbx.out)).mono ?_
   rintro e w1 ⟨rfl, hb⟩
   have BR1 := Lib.hid (BR0.out.ext hb)
   have BS1 := Lib.hid (BS0.out.ext hb)
   have BM1 := Lib.hid (BM0.out.ext hb)
   have HB1 := Lib.hid (ext_trans hbx.out hb)
   clear hb
   obtain ⟨d0, d1, d2, d3, d4, d5, d6⟩ := BM1.out.q7
   obtain ⟨s0, s1⟩ := BS1.out.q2
   obtain ⟨r0, r1, r2, r3, r4, r5, r6⟩ := BR1.out.q7
   obtain ⟨y0, y1, y2, y3, y4, y5, y6⟩ := BR1.out.z7
   have lm := BM1.out.lt
   have ls := BS1.out.lt
   have lr := BR1.out.lt
   go_wp2
   refine bodyPost_ret (v := .tuple #[mdV 0 0 none 0 0 none 0 0 none 0 0 0 0, .bool false]) (by simp [results, Try.results27, go_sem, *]) rfl ?_
   exact ⟨rfl, m7_below HB1.out (by omega)⟩
 obtain ⟨_, h1, h2, _⟩ := mdOK_parts hok
 dsimp only at h1 h2
 have hk2 : k' = n := by omega
 have hm2 : m' = n := by omega
 subst hk2
 subst hm2
 rw [show mindB u lo l cl im be gu = true from hok] at HM
 rw [show stepO ⟨u, lo, l, cl, im, be, gu⟩ k v = stM ⟨u, lo, l, cl, im, be, gu⟩ k v by unfold stepO; rw [if_pos hok]]
 cases hst : stepOkM k v
 · rw [st_bad hok hst]
   have HS := Lib.hid (fun (w : World) => l21Step_any k v w)
   rw [hst] at HS
   clear h hc hi hl hcl him hok h1 h2 hst
   go_enter Try.func27, Try.ntmps27
   go_wp2_with fail
   refine (HM.out _ (rdx H.out hbx.out) (rdx HC.out hbx.out) (rdx HI.out hbx.out)).mono ?_
   rintro e w1 ⟨rfl, hb⟩
   have BR1 := Lib.hid (BR0.out.ext hb)
   have BS1 := Lib.hid (BS0.out.ext hb)
   have BM1 := Lib.hid (BM0.out.ext hb)
   have HB1 := Lib.hid (ext_trans hbx.out hb)
   clear hb
   obtain ⟨d0, d1, d2, d3, d4, d5, d6⟩ := BM1.out.q7
   obtain ⟨s0, s1⟩ := BS1.out.q2
   obtain ⟨r0, r1, r2, r3, r4, r5, r6⟩ := BR1.out.q7
   obtain ⟨y0, y1, y2, y3, y4, y5, y6⟩ := BR1.out.z7
   have lm := BM1.out.lt
   have ls := BS1.out.lt
   have lr := BR1.out.lt
   go_wp2_with fail
   refine (HS.out _).mono ?_
   rintro e w2 ⟨rfl, hb⟩
   have BR2 := Lib.hid (BR1.out.ext hb)
   have BS2 := Lib.hid (BS1.out.ext hb)
   have BM2 := Lib.hid (BM1.out.ext hb)
   have HB2 := Lib.hid (ext_trans HB1.out hb)
   clear hb d0 d1 d2 d3 d4 d5 d6 s0 s1 r0 r1 r2 r3 r4 r5 r6 y0 y1 y2 y3 y4 y5 y6 lm ls lr
   obtain ⟨d0, d1, d2, d3, d4, d5, d6⟩ := BM2.out.q7
   obtain ⟨s0, s1⟩ := BS2.out.q2
   obtain ⟨r0, r1, r2, r3, r4, r5, r6⟩ := BR2.out.q7
   obtain ⟨y0, y1, y2, y3, y4, y5, y6⟩ := BR2.out.z7
   have lm := BM2.out.lt
   have ls := BS2.out.lt
   have lr := BR2.out.lt
   go_wp2
   refine bodyPost_ret (v := .tuple #[mdV 0 0 none 0 0 none 0 0 none 0 0 0 0, .bool false]) (by simp [results, Try.results27, go_sem, *]) rfl ?_
   exact ⟨rfl, m7_below HB2.out (by omega)⟩
 · have HS := Lib.hid (fun (w : World) => l21Step_any k v w)
   rw [hst] at HS
   have HK := Lib.hid (fun (w : World) a b d => l21Make_any u lo A m' c l K kc cl I ic im be gu k v w hok hst a b d)
   obtain ⟨O, hO⟩ : ∃ O, stM ⟨u, lo, l, cl, im, be, gu⟩ k v = O := ⟨_, rfl⟩
   rw [hO] at HK ⊢
   clear h hc hi hl hcl him hok h1 h2 hst hO
   go_enter Try.func27, Try.ntmps27
   go_wp2_with fail
   refine (HM.out _ (rdx H.out hbx.out) (rdx HC.out hbx.out) (rdx HI.out hbx.out)).mono ?_
   rintro e w1 ⟨rfl, hb⟩
   have BR1 := Lib.hid (BR0.out.ext hb)
   have BS1 := Lib.hid (BS0.out.ext hb)
   have BM1 := Lib.hid (BM0.out.ext hb)
   have HB1 := Lib.hid (ext_trans hbx.out hb)
   clear hb
   obtain ⟨d0, d1, d2, d3, d4, d5, d6⟩ := BM1.out.q7
   obtain ⟨s0, s1⟩ := BS1.out.q2
   obtain ⟨r0, r1, r2, r3, r4, r5, r6⟩ := BR1.out.q7
   obtain ⟨y0, y1, y2, y3, y4, y5, y6⟩ := BR1.out.z7
   have lm := BM1.out.lt
   have ls := BS1.out.lt
   have lr := BR1.out.lt
   go_wp2_with fail
   refine (HS.out _).mono ?_
   rintro e w2 ⟨rfl, hb⟩
   have BR2 := Lib.hid (BR1.out.ext hb)
   have BS2 := Lib.hid (BS1.out.ext hb)
   have BM2 := Lib.hid (BM1.out.ext hb)
   have HB2 := Lib.hid (ext_trans HB1.out hb)
   clear hb d0 d1 d2 d3 d4 d5 d6 s0 s1 r0 r1 r2 r3 r4 r5 r6 y0 y1 y2 y3 y4 y5 y6 lm ls lr
   obtain ⟨d0, d1, d2, d3, d4, d5, d6⟩ := BM2.out.q7
   obtain ⟨s0, s1⟩ := BS2.out.q2
   obtain ⟨r0, r1, r2, r3, r4, r5, r6⟩ := BR2.out.q7
   obtain ⟨y0, y1, y2, y3, y4, y5, y6⟩ := BR2.out.z7
   have lm := BM2.out.lt
   have ls := BS2.out.lt
   have lr := BR2.out.lt
   go_wp2_with fail
   refine (HK.out _ (rdx H.out HB2.out) (rdx HC.out HB2.out) (rdx HI.out HB2.out)).mono ?_
   have hs1 := HB2.out.size
   rcases O with _ | q
   · rintro e w3 ⟨⟨_, _, _, _, _, _, _, _, _, _, _, _, _, rfl⟩, hb⟩
     have BR3 := Lib.hid (BR2.out.ext hb)
     have BS3 := Lib.hid (BS2.out.ext hb)
     have BM3 := Lib.hid (BM2.out.ext hb)
     have HB3 := Lib.hid (ext_trans HB2.out hb)
     clear hb d0 d1 d2 d3 d4 d5 d6 s0 s1 r0 r1 r2 r3 r4 r5 r6 y0 y1 y2 y3 y4 y5 y6 lm ls lr
     obtain ⟨d0, d1, d2, d3, d4, d5, d6⟩ := BM3.out.q7
     obtain ⟨s0, s1⟩ := BS3.out.q2
     obtain ⟨r0, r1, r2, r3, r4, r5, r6⟩ := BR3.out.q7
     obtain ⟨y0, y1, y2, y3, y4, y5, y6⟩ := BR3.out.z7
     have lm := BM3.out.lt
     have ls := BS3.out.lt
     have lr := BR3.out.lt
     go_wp2
     refine bodyPost_ret (v := .tuple #[mdV 0 0 none 0 0 none 0 0 none 0 0 0 0, .bool false]) (by simp [results, Try.results27, go_sem, *]) rfl ?_
     exact ⟨rfl, ext_alloc (m7_below HB3.out (by omega)) _⟩
   · rintro e w3 ⟨h, c2, g, kc2, i, ic2, rfl, hr, hcc, hii, hne, hb⟩
     have HR3 := Lib.hid (own_base (base' := w.heap.size) hr hs1)
     have HC3 := Lib.hid (own_base (base' := w.heap.size) hcc hs1)
     have HI3 := Lib.hid (own_base (base' := w.heap.size) hii hs1)
     have BR3 := Lib.hid (BR2.out.ext hb)
     have BS3 := Lib.hid (BS2.out.ext hb)
     have BM3 := Lib.hid (BM2.out.ext hb)
     have HB3 := Lib.hid (ext_trans HB2.out hb)
     clear hb d0 d1 d2 d3 d4 d5 d6 s0 s1 r0 r1 r2 r3 r4 r5 r6 y0 y1 y2 y3 y4 y5 y6 lm ls lr
     obtain ⟨d0, d1, d2, d3, d4, d5, d6⟩ := BM3.out.q7
     obtain ⟨s0, s1⟩ := BS3.out.q2
     obtain ⟨r0, r1, r2, r3, r4, r5, r6⟩ := BR3.out.q7
     obtain ⟨y0, y1, y2, y3, y4, y5, y6⟩ := BR3.out.z7
     have lm := BM3.out.lt
     have ls := BS3.out.lt
     have lr := BR3.out.lt
     clear hr hcc hii
     go_wp2
     refine bodyPost_ret (v := .tuple #[mdV q.u q.lo (some ⟨h, 0, none⟩) q.l.length c2 (some ⟨g, 0, none⟩) q.l.length kc2 (some ⟨i, 0, none⟩) q.l.length ic2 q.be q.gu, .bool true]) (by simp [results, Try.results27, go_sem, *]) rfl ?_
     exact ⟨h, c2, g, kc2, i, ic2, rfl, World.ownsRow.alloc (m7_own HR3.out (own_nbT HR3.out BR3.out (by decide))) _, World.ownsRow.alloc (m7_own HC3.out (own_nbT HC3.out BR3.out (by decide))) _, World.ownsRow.alloc (m7_own HI3.out (own_nbT HI3.out BR3.out (by decide))) _, hne, ext_alloc (m7_below HB3.out (by omega)) _⟩
end Go.Proofs.Ytlkfffohjeoooaa
