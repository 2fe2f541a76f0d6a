/- Minds: StepMind, the program's. -/
import Derived.Test.YtlkfffohjeoooaaVMdS
namespace Go.Proofs.Ytlkfffohjeoooaa
open Go.RowKit
set_option linter.unusedVariables false
set_option linter.unusedSimpArgs false
def stepO (q : Md) (k v : Int) : Option Md := if mdOK q = true then stM q k v else none
set_option maxRecDepth 100000 in
set_option maxHeartbeats 8000000 in
theorem implStepMind_any (u lo : Int) (A : Option Addr) (n c : Nat) (l : List R2) (K : Option Addr) (k' kc : Nat) (cl : List Int) (I : Option Addr) (m' ic : Nat) (im : List Int) (be gu k v : Int) (w : World) (hn : n ≤ 1048576) (hk : k' ≤ 1048576) (hm : m' ≤ 1048576) (h : Reads w w.heap.size 2 A n (rowsV2 l)) (hc : Reads w w.heap.size 1 K k' (intsV cl)) (hi : Reads w w.heap.size 1 I m' (intsV im)) :
 Calls Try.prog 30 #[mdV u lo A n c K k' kc I m' ic be gu, .agg #[.int .i64 k, .int .i64 v]] w (RetSt w (stepO ⟨u, lo, l, cl, im, be, gu⟩ k v)) := by
 have hl := rows_len2 h
 have hcl := ints_len hc
 have him := ints_len hi
 have H := Lib.hid h
 have HC := Lib.hid hc
 have HI := Lib.hid hi
 have hbx := Lib.hid (ext_alloc (ext_alloc (ext_alloc (ext_refl w) (.cells (mdC u lo A n c K k' kc I m' ic be gu) 47)) (.cells #[.int .i64 k, .int .i64 v] 51)) (.cells #[.int .i64 0, .int .i64 0, .slice none 0 0, .slice none 0 0, .slice none 0 0, .int .i64 0, .int .i64 0] 47))
 have BM0 := Lib.hid (((Blk.born w (mdC u lo A n c K k' kc I m' ic be gu) 47 (H := w.heap.size) rfl).al (.cells #[.int .i64 k, .int .i64 v] 51)).al (.cells #[.int .i64 0, .int .i64 0, .slice none 0 0, .slice none 0 0, .slice none 0 0, .int .i64 0, .int .i64 0] 47))
 have BS0 := Lib.hid (((Blk.born (w.alloc (.cells (mdC u lo A n c K k' kc I m' ic be gu) 47)) #[.int .i64 k, .int .i64 v] 51 (H := w.heap.size + 1) (by simp))).al (.cells #[.int .i64 0, .int .i64 0, .slice none 0 0, .slice none 0 0, .slice none 0 0, .int .i64 0, .int .i64 0] 47))
 have BR0 := Lib.hid (Blk.born ((w.alloc (.cells (mdC u lo A n c K k' kc I m' ic be gu) 47)).alloc (.cells #[.int .i64 k, .int .i64 v] 51)) #[.int .i64 0, .int .i64 0, .slice none 0 0, .slice none 0 0, .slice none 0 0, .int .i64 0, .int .i64 0] 47 (H := w.heap.size + 1 + 1) (by simp))
 have HM := Lib.hid (fun (w : World) a b d => isMind_any u lo A n c l K k' kc cl I m' ic im be gu w hn hk hm a b d)
 cases hok : mdOK ⟨u, lo, l, cl, im, be, gu⟩
 · rw [show mindB u lo l cl im be gu = false from hok] at HM
   rw [show stepO ⟨u, lo, l, cl, im, be, gu⟩ k v = none by unfold stepO; rw [hok]; rfl]
   clear h hc hi hl hcl him hok
   go_enter Try.func30, Try.ntmps30
   go_wp2_with fail
   refine (HM.out _ (rdx H.out hbx.out) (rdx HC.out hbx.out) (rdx HI.out hbx.out)).mono ?_
   rintro e w1 ⟨rfl, hb⟩
   have BR1 := Lib.hid (BR0.out.ext hb)
   have HB1 := Lib.hid (ext_trans hbx.out hb)
   obtain ⟨r0, r1, r2, r3, r4, r5, r6⟩ := BR1.out.q7
   obtain ⟨y0, y1, y2, y3, y4, y5, y6⟩ := BR1.out.z7
   have lr := BR1.out.lt
   clear hb
   go_wp2
   refine bodyPost_ret (v := .tuple #[mdV 0 0 none 0 0 none 0 0 none 0 0 0 0, .bool false]) (by simp [results, Try.results30, go_sem, *]) rfl ?_
   exact ⟨rfl, m7_below HB1.out (by omega)⟩
 · obtain ⟨_, h1, h2, _⟩ := mdOK_parts hok
   dsimp only at h1 h2
   have hk2 : k' = n := by omega
   have hm2 : m' = n := by omega
   subst hk2
   subst hm2
   have HST := Lib.hid (fun (w : World) a b d => stepped_any u lo A m' c l K kc cl I ic im be gu k v w hok a b d)
   rw [show mindB u lo l cl im be gu = true from hok] at HM
   rw [show stepO ⟨u, lo, l, cl, im, be, gu⟩ k v = stM ⟨u, lo, l, cl, im, be, gu⟩ k v by unfold stepO; rw [if_pos hok]]
   obtain ⟨O, hO⟩ : ∃ O, stM ⟨u, lo, l, cl, im, be, gu⟩ k v = O := ⟨_, rfl⟩
   rw [hO] at HST ⊢
   clear h hc hi hl hcl him hok h1 h2 hO
   go_enter Try.func30, Try.ntmps30
   go_wp2_with fail
   refine (HM.out _ (rdx H.out hbx.out) (rdx HC.out hbx.out) (rdx HI.out hbx.out)).mono ?_
   rintro e w1 ⟨rfl, hb⟩
   have BR1 := Lib.hid (BR0.out.ext hb)
   have BS1 := Lib.hid (BS0.out.ext hb)
   have BM1 := Lib.hid (BM0.out.ext hb)
   have HB1 := Lib.hid (ext_trans hbx.out hb)
   obtain ⟨d0, d1, d2, d3, d4, d5, d6⟩ := BM1.out.q7
   obtain ⟨s0, s1⟩ := BS1.out.q2
   have lm := BM1.out.lt
   have ls := BS1.out.lt
   clear hb
   go_wp2_with fail
   refine (HST.out _ (rdx H.out HB1.out) (rdx HC.out HB1.out) (rdx HI.out HB1.out)).mono ?_
   have hs1 := HB1.out.size
   rcases O with _ | q
   · rintro e w2 ⟨rfl, hb⟩
     have BR2 := Lib.hid (BR1.out.ext hb)
     have HB2 := Lib.hid (ext_trans HB1.out hb)
     obtain ⟨r0, r1, r2, r3, r4, r5, r6⟩ := BR2.out.q7
     obtain ⟨y0, y1, y2, y3, y4, y5, y6⟩ := BR2.out.z7
     have lr := BR2.out.lt
     clear hb d0 d1 d2 d3 d4 d5 d6 s0 s1 lm ls
     go_wp2
     refine bodyPost_ret (v := .tuple #[mdV 0 0 none 0 0 none 0 0 none 0 0 0 0, .bool false]) (by simp [results, Try.results30, go_sem, *]) rfl ?_
     exact ⟨rfl, m7_below HB2.out (by omega)⟩
   · rintro e w2 ⟨h, c2, g, kc2, i, ic2, rfl, hr, hcc, hii, hne, hb⟩
     have BR2 := Lib.hid (BR1.out.ext hb)
     have HB2 := Lib.hid (ext_trans HB1.out hb)
     have HR2 := Lib.hid (own_base (base' := w.heap.size) hr hs1)
     have HC2 := Lib.hid (own_base (base' := w.heap.size) hcc hs1)
     have HI2 := Lib.hid (own_base (base' := w.heap.size) hii hs1)
     obtain ⟨r0, r1, r2, r3, r4, r5, r6⟩ := BR2.out.q7
     obtain ⟨y0, y1, y2, y3, y4, y5, y6⟩ := BR2.out.z7
     have lr := BR2.out.lt
     clear hb d0 d1 d2 d3 d4 d5 d6 s0 s1 lm ls hr hcc hii
     go_wp2
     refine bodyPost_ret (v := .tuple #[mdV q.u q.lo (some ⟨h, 0, none⟩) q.l.length c2 (some ⟨g, 0, none⟩) q.l.length kc2 (some ⟨i, 0, none⟩) q.l.length ic2 q.be q.gu, .bool true]) (by simp [results, Try.results30, go_sem, *]) rfl ?_
     exact ⟨h, c2, g, kc2, i, ic2, rfl, m7_own HR2.out (own_nbT HR2.out BR2.out (by decide)), m7_own HC2.out (own_nbT HC2.out BR2.out (by decide)), m7_own HI2.out (own_nbT HI2.out BR2.out (by decide)), hne, m7_below HB2.out (by omega)⟩
end Go.Proofs.Ytlkfffohjeoooaa
