/- The drawing for the law of minds: a run of steps. -/
import Derived.Maps.AppendAt
import Derived.Test.YtlkfffohjeoooaaVFdO
namespace Go.Proofs.Ytlkfffohjeoooaa
open Go.RowKit
set_option linter.unusedVariables false
set_option linter.unusedSimpArgs false
def lenV : Value → Nat
 | .slice _ n _ => n
 | _ => 0
set_option maxRecDepth 100000 in
set_option maxHeartbeats 16000000 in
theorem drawRunMind_any (Ac : Option Addr) (nc cc : Nat) (w : World) (h : Code w w.heap.size Ac nc) (hn : nc ≤ 65536) :
 Calls Try.prog 67 #[.slice Ac nc cc] w fun e w' => ∃ (q : Md) (A : Option Addr) (cr : Nat) (K : Option Addr) (kc : Nat) (I : Option Addr) (ic : Nat) (B : Option Addr) (m cb : Nat) (ss : List R2), e = .returned (.tuple #[mdV q.u q.lo A q.l.length cr K q.cl.length kc I q.im.length ic q.be q.gu, .slice B m cb]) ∧ q.l.length ≤ 9 ∧ q.cl.length ≤ 9 ∧ q.im.length ≤ 9 ∧ m ≤ 41 ∧ w'.ownsRow w.heap.size 155 2 (.slice A q.l.length cr) q.l.length (rowsV2 q.l) ∧ w'.ownsRow w.heap.size 3 1 (.slice K q.cl.length kc) q.cl.length (intsV q.cl) ∧ w'.ownsRow w.heap.size 3 1 (.slice I q.im.length ic) q.im.length (intsV q.im) ∧ w'.ownsRow w.heap.size 51 2 (.slice B m cb) m (rowsV2 ss) ∧ Below w.heap.size w w' := by
 obtain ⟨i0, hi0, hz0, hz1, hz2⟩ := info_parts info_ms
 have HC := Lib.hid (h.cur1 (by omega) cc (.cells #[.int .i64 0, .int .i64 0, .slice none 0 0, .slice none 0 0, .slice none 0 0, .int .i64 0, .int .i64 0] 47))
 have BR0 := Lib.hid ((Blk.born w #[.int .i64 0, .int .i64 0, .slice none 0 0, .slice none 0 0, .slice none 0 0, .int .i64 0, .int .i64 0] 47 (H := w.heap.size) rfl).al (.cells #[.slice Ac nc cc, .int .i64 0, .int .u64 0] 125))
 have hbx := Lib.hid (ext_alloc (ext_alloc (ext_refl w) (.cells #[.int .i64 0, .int .i64 0, .slice none 0 0, .slice none 0 0, .slice none 0 0, .int .i64 0, .int .i64 0] 47)) (.cells #[.slice Ac nc cc, .int .i64 0, .int .u64 0] 125))
 obtain ⟨g, hg⟩ : ∃ g, g = w.heap.size + 1 := ⟨_, rfl⟩
 rw [← hg] at HC
 have hwg : w.heap.size < g := by omega
 clear h
 go_enter Try.func67, Try.ntmps67
 go_wp2_with fail
 rw [← hg]
 have HGE := Lib.hid hg
 clear hg
 refine (drawMind_any g 0 _ HC.out (by omega)).mono ?_
 rintro e w1 ⟨q, A, cr, K, kc, I, ic, a1, rfl, hl9, hc9, hi9, ha1, hr1, hk1, hi1, hc1, hg1⟩
 have hs1 := hg1.size
 have hs2 := hbx.out.size
 obtain ⟨NM, hNM⟩ : ∃ N, N = w1.heap.size := ⟨_, rfl⟩
 obtain ⟨W, hW⟩ : ∃ y : World, y = w1.alloc (.cells #[.int .i64 q.u, .int .i64 q.lo, .slice A q.l.length cr, .slice K q.cl.length kc, .slice I q.im.length ic, .int .i64 q.be, .int .i64 q.gu] 47) := ⟨_, rfl⟩
 have hRg : w.heap.size ≠ g := by omega
 have hgl : g < NM := by have := hc1.lt; omega
 have hNg : NM ≠ g := by omega
 have BN1 := Lib.hid (show Blk W NM 47 #[.int .i64 q.u, .int .i64 q.lo, .slice A q.l.length cr, .slice K q.cl.length kc, .slice I q.im.length ic, .int .i64 q.be, .int .i64 q.gu] by rw [hW]; exact Blk.born w1 _ 47 (H := NM) hNM)
 have BR1 := Lib.hid (show Blk W w.heap.size 47 #[.int .i64 0, .int .i64 0, .slice none 0 0, .slice none 0 0, .slice none 0 0, .int .i64 0, .int .i64 0] by rw [hW]; exact (BR0.out.gr hg1 hRg).al _)
 have HR1 := Lib.hid (show W.ownsRow (g + 1) 155 2 (.slice A q.l.length cr) q.l.length (rowsV2 q.l) by rw [hW]; exact (own_base hr1 (by rw [HGE.out]; simp <;> omega)).alloc _)
 have HK1 := Lib.hid (show W.ownsRow (g + 1) 3 1 (.slice K q.cl.length kc) q.cl.length (intsV q.cl) by rw [hW]; exact (own_base hk1 (by rw [HGE.out]; simp <;> omega)).alloc _)
 have HI1 := Lib.hid (show W.ownsRow (g + 1) 3 1 (.slice I q.im.length ic) q.im.length (intsV q.im) by rw [hW]; exact (own_base hi1 (by rw [HGE.out]; simp <;> omega)).alloc _)
 have HC1 := Lib.hid (show CurAt W g a1 by rw [hW]; exact hc1.ext (ext_alloc (ext_refl _) _))
 have HG1 := Lib.hid (show Gr g w W by rw [hW]; exact ((Gr.of_ext hbx.out).trans hg1).trans (Gr.alloc _ _ _))
 have hgW : g + 1 ≤ W.heap.size := HC1.out.lt
 go_upto_region 3 with fail
 rw [← hNM, ← hW]
 clear hNM hW hr1 hk1 hi1 hc1 hg1 hs1 hs2 HC BR0 hbx HGE
 have HS2 := Lib.hid (own_base (base' := g + 1) (own_lit0 W 51 2) hgW)
 have BN2 := Lib.hid (BN1.out.al (.cells #[] 51))
 have BR2 := Lib.hid (BR1.out.al (.cells #[] 51))
 have HR2 := Lib.hid (HR1.out.alloc (.cells #[] 51))
 have HK2 := Lib.hid (HK1.out.alloc (.cells #[] 51))
 have HI2 := Lib.hid (HI1.out.alloc (.cells #[] 51))
 have HC2 := Lib.hid (HC1.out.ext (ext_alloc (ext_refl _) (.cells #[] 51)))
 have HG2 := Lib.hid (HG1.out.trans (Gr.alloc _ _ (.cells #[] 51)))
 clear BN1 BR1 HR1 HK1 HI1 HC1 HG1 hgW
 go_wp2_with fail
 refine (pick_any g a1 12 _ HC2.out (by omega) (by omega) (by omega)).mono ?_
 rintro e w3 ⟨pk, a2, rfl, pk0, pk1, ha2, hc, hg'⟩
 have HC3 := Lib.hid hc
 have HG3 := Lib.hid (HG2.out.trans hg')
 have BN3 := Lib.hid (BN2.out.gr hg' hNg)
 have BR3 := Lib.hid (BR2.out.gr hg' hRg)
 have HR3 := Lib.hid (own_gr HR2.out hg' (Nat.lt_succ_self g))
 have HK3 := Lib.hid (own_gr HK2.out hg' (Nat.lt_succ_self g))
 have HI3 := Lib.hid (own_gr HI2.out hg' (Nat.lt_succ_self g))
 have HS3 := Lib.hid (own_gr HS2.out hg' (Nat.lt_succ_self g))
 clear hc hg' HC2 HG2 BN2 BR2 HR2 HK2 HI2 HS2
 obtain ⟨kn, hkn⟩ := Int.eq_ofNat_of_zero_le pk0
 subst hkn
 have hkn11 : kn ≤ 11 := by omega
 have hA2 : a2 ≤ 3002 := by omega
 clear ha1 ha2 pk0 pk1
 go_wp2_with fail
 go_loopw [6, 7] (fun v kk wr => ∃ (k m cb a2 : Nat) (B : Option Addr) (ss : List R2), kk = .int .i64 k ∧ v = .slice B m cb ∧ m + k ≤ 11 ∧ a2 ≤ 3002 + 10 * m ∧ Hid (ss.length = m) ∧ Hid (CurAt wr g a2) ∧ Hid (Gr g w wr) ∧ Hid (Blk wr NM 47 #[.int .i64 q.u, .int .i64 q.lo, .slice A q.l.length cr, .slice K q.cl.length kc, .slice I q.im.length ic, .int .i64 q.be, .int .i64 q.gu]) ∧ Hid (wr.ownsRow (g + 1) 155 2 (.slice A q.l.length cr) q.l.length (rowsV2 q.l)) ∧ Hid (wr.ownsRow (g + 1) 3 1 (.slice K q.cl.length kc) q.cl.length (intsV q.cl)) ∧ Hid (wr.ownsRow (g + 1) 3 1 (.slice I q.im.length ic) q.im.length (intsV q.im)) ∧ Hid (wr.ownsRow (g + 1) 51 2 (.slice B m cb) m (rowsV2 ss)) ∧ Hid (Blk wr w.heap.size 47 #[.int .i64 0, .int .i64 0, .slice none 0 0, .slice none 0 0, .slice none 0 0, .int .i64 0, .int .i64 0])) (fun _ kk _ => (intOf kk).toNat)
 case atStart => exact ⟨kn, 0, 0, a2, _, [], rfl, rfl, by omega, by omega, Lib.hid rfl, HC3, HG3, BN3, HR3, HK3, HI3, HS3, BR3⟩
 case round =>
  clear HC3 HG3 BN3 HR3 HK3 HI3 HS3 BR3
  obtain ⟨k, m, cb, a2, B, ss, rfl, rfl, hmk, ha2, HL, HC4, HG4, BN4, HR4, HK4, HI4, HS4, BR4⟩ := hrel
  obtain ⟨n0, n1, n2, n3, n4, n5, n6⟩ := BN4.out.q7
  have lnm := BN4.out.lt
  by_cases hk0 : 0 < k
  · have e1 : (0 : Int) < (k : Int) := by omega
    go_wp2_with fail
    refine (mindStep_any g a2 q.u q.lo A q.l.length cr K q.cl.length kc I q.im.length ic q.be q.gu _ HC4.out (by omega) (by omega)).mono ?_
    rintro e w5 ⟨kd, sv, a5, rfl, _, _, _, _, ha5, hc, hg'⟩
    have HC5 := Lib.hid hc
    have HG5 := Lib.hid (HG4.out.trans hg')
    have BN5 := Lib.hid (BN4.out.gr hg' hNg)
    have BR5 := Lib.hid (BR4.out.gr hg' hRg)
    have HR5 := Lib.hid (own_gr HR4.out hg' (Nat.lt_succ_self g))
    have HK5 := Lib.hid (own_gr HK4.out hg' (Nat.lt_succ_self g))
    have HI5 := Lib.hid (own_gr HI4.out hg' (Nat.lt_succ_self g))
    have HS5 := Lib.hid (own_gr HS4.out hg' (Nat.lt_succ_self g))
    clear hc hg' HC4 HG4 BN4 BR4 HR4 HK4 HI4 HS4
    clear n0 n1 n2 n3 n4 n5 n6 lnm
    have m1 : m + 1 ≤ maxLen := by unfold maxLen; omega
    have m2 : (m + 1) * 16 ≤ 140737488355328 := by omega
    have hgw := HC5.out.lt
    go_wp2_with (at_builtin; refine wpList_append_own_at _ rfl (.tmp 20) (.tmp 24) 60 rfl (g + 1) 51 i0 _ 2 16 Try.underlying60 hi0 hz0 hz1 hz2 rfl (by decide) (.slice B m cb) m (rowsV2 ss) rfl (HS5.out.alloc (.cells #[.int .i64 kd, .int .i64 sv] 51)) _ 1 1 [.int .i64 kd, .int .i64 sv] rfl rfl (cells_new_at _ [.int .i64 kd, .int .i64 sv] _ (by simp)) (by simp [Value.oneCell']) m1 m2 (by simp; omega) ?_; intro v' w8 hown hgrow _ hat; have HGR := Lib.hid hgrow; have HOW := Lib.hid hown; clear hown hgrow hat)
    obtain ⟨g8, cap8, hv8, _, _⟩ := HOW.out.form (by omega)
    subst hv8
    have hbl : ∀ q', Value.ownBlock (.slice B m cb) = some q' → g + 1 ≤ q' := fun q' hq => (HS5.out.lt q' hq).1
    have BN8 := Lib.hid (Blk.grownF (BN5.out.al (.cells #[.int .i64 kd, .int .i64 sv] 51)) HGR.out (own_nbT (HS5.out.alloc (.cells #[.int .i64 kd, .int .i64 sv] 51)) (BN5.out.al (.cells #[.int .i64 kd, .int .i64 sv] 51)) (by decide)))
    have BR8 := Lib.hid (Blk.grownF (BR5.out.al (.cells #[.int .i64 kd, .int .i64 sv] 51)) HGR.out (own_nbT (HS5.out.alloc (.cells #[.int .i64 kd, .int .i64 sv] 51)) (BR5.out.al (.cells #[.int .i64 kd, .int .i64 sv] 51)) (by decide)))
    have HR8 := Lib.hid ((HR5.out.alloc (.cells #[.int .i64 kd, .int .i64 sv] 51)).kept HGR.out (own_neT (HR5.out.alloc (.cells #[.int .i64 kd, .int .i64 sv] 51)) (HS5.out.alloc (.cells #[.int .i64 kd, .int .i64 sv] 51)) (by decide)))
    have HK8 := Lib.hid ((HK5.out.alloc (.cells #[.int .i64 kd, .int .i64 sv] 51)).kept HGR.out (own_neT (HK5.out.alloc (.cells #[.int .i64 kd, .int .i64 sv] 51)) (HS5.out.alloc (.cells #[.int .i64 kd, .int .i64 sv] 51)) (by decide)))
    have HI8 := Lib.hid ((HI5.out.alloc (.cells #[.int .i64 kd, .int .i64 sv] 51)).kept HGR.out (own_neT (HI5.out.alloc (.cells #[.int .i64 kd, .int .i64 sv] 51)) (HS5.out.alloc (.cells #[.int .i64 kd, .int .i64 sv] 51)) (by decide)))
    have HC8 := Lib.hid ((HC5.out.ext (ext_alloc (ext_refl _) (.cells #[.int .i64 kd, .int .i64 sv] 51))).grown HGR.out (fun q' hq => Nat.lt_of_lt_of_le (Nat.lt_succ_self g) (hbl q' hq)))
    have HG8 := Lib.hid ((HG5.out.trans (Gr.alloc _ _ (.cells #[.int .i64 kd, .int .i64 sv] 51))).grown HGR.out (fun q' hq => Nat.le_trans (by omega) (hbl q' hq)))
    have HS8 := Lib.hid (show w8.ownsRow (g + 1) 51 2 (.slice (some ⟨g8, 0, none⟩) (m + 1) cap8) (m + 1) (rowsV2 (ss ++ [⟨kd, sv⟩])) by have h9 := HOW.out; rwa [show rowsV2 ss ++ [Value.int .i64 kd, Value.int .i64 sv] = rowsV2 (ss ++ [⟨kd, sv⟩]) by simp [rowsV2, R2.cells]] at h9)
    have HL8 := Lib.hid (show (ss ++ [(⟨kd, sv⟩ : R2)]).length = m + 1 by rw [List.length_append, HL.out]; rfl)
    clear hbl HGR HOW
    go_wp2
    go_roundw
    case rel => exact ⟨k - 1, m + 1, cap8, a5, _, ss ++ [⟨kd, sv⟩], by go_num, rfl, by omega, by omega, HL8, HC8, HG8, BN8, HR8, HK8, HI8, HS8, BR8⟩
    case measure => simp [intOf]; omega
  · have hk00 : k = 0 := by omega
    subst hk00
    clear n0 n1 n2 n3 n4 n5 n6 lnm
    go_wp2_with fail
    refine (one_any g a2 24 _ HC4.out (by omega) (by omega) (by omega)).mono ?_
    rintro e w5 ⟨b, a5, rfl, ha5, hc, hg'⟩
    have HC5 := Lib.hid hc
    have HG5 := Lib.hid (HG4.out.trans hg')
    have BN5 := Lib.hid (BN4.out.gr hg' hNg)
    have BR5 := Lib.hid (BR4.out.gr hg' hRg)
    have HR5 := Lib.hid (own_gr HR4.out hg' (Nat.lt_succ_self g))
    have HK5 := Lib.hid (own_gr HK4.out hg' (Nat.lt_succ_self g))
    have HI5 := Lib.hid (own_gr HI4.out hg' (Nat.lt_succ_self g))
    have HS5 := Lib.hid (own_gr HS4.out hg' (Nat.lt_succ_self g))
    clear hc hg' HC4 HG4 BN4 BR4 HR4 HK4 HI4 HS4
    cases b
    · obtain ⟨n0, n1, n2, n3, n4, n5, n6⟩ := BN5.out.q7
      obtain ⟨r0, r1, r2, r3, r4, r5, r6⟩ := BR5.out.q7
      obtain ⟨y0, y1, y2, y3, y4, y5, y6⟩ := BR5.out.z7
      have lnm := BN5.out.lt
      have lr := BR5.out.lt
      go_wp2
      refine bodyPost_ret (v := .tuple #[mdV q.u q.lo A q.l.length cr K q.cl.length kc I q.im.length ic q.be q.gu, .slice B m cb]) (by simp [results, Try.results67, go_sem, *]) rfl ?_
      refine ⟨q, A, cr, K, kc, I, ic, B, m, cb, ss, rfl, hl9, hc9, hi9, by omega, m7_own (own_base HR5.out (by omega)) (own_nbT HR5.out BR5.out (by decide)), m7_own (own_base HK5.out (by omega)) (own_nbT HK5.out BR5.out (by decide)), m7_own (own_base HI5.out (by omega)) (own_nbT HI5.out BR5.out (by decide)), m7_own (own_base HS5.out (by omega)) (own_nbT HS5.out BR5.out (by decide)), m7_below (Gr.below (ext_refl w) HG5.out (by omega)) (Nat.le_refl _)⟩
    · go_wp2_with fail
      go_loopw [6] (fun v wr => ∃ (m cb a2 : Nat) (B : Option Addr) (ss : List R2), v = .slice B m cb ∧ m ≤ 41 ∧ a2 ≤ 4000 + 10 * m ∧ Hid (ss.length = m) ∧ Hid (CurAt wr g a2) ∧ Hid (Gr g w wr) ∧ Hid (Blk wr NM 47 #[.int .i64 q.u, .int .i64 q.lo, .slice A q.l.length cr, .slice K q.cl.length kc, .slice I q.im.length ic, .int .i64 q.be, .int .i64 q.gu]) ∧ Hid (wr.ownsRow (g + 1) 155 2 (.slice A q.l.length cr) q.l.length (rowsV2 q.l)) ∧ Hid (wr.ownsRow (g + 1) 3 1 (.slice K q.cl.length kc) q.cl.length (intsV q.cl)) ∧ Hid (wr.ownsRow (g + 1) 3 1 (.slice I q.im.length ic) q.im.length (intsV q.im)) ∧ Hid (wr.ownsRow (g + 1) 51 2 (.slice B m cb) m (rowsV2 ss)) ∧ Hid (Blk wr w.heap.size 47 #[.int .i64 0, .int .i64 0, .slice none 0 0, .slice none 0 0, .slice none 0 0, .int .i64 0, .int .i64 0])) (fun v _ => 41 - lenV v)
      case atStart => exact ⟨m, cb, a5, B, ss, rfl, by omega, by omega, HL, HC5, HG5, BN5, HR5, HK5, HI5, HS5, BR5⟩
      case round =>
       clear HC5 HG5 BN5 HR5 HK5 HI5 HS5 BR5 HL ha2 ha5 hmk
       obtain ⟨m, cb, a2, B, ss, rfl, hm, ha2, HL, HC6, HG6, BN6, HR6, HK6, HI6, HS6, BR6⟩ := hrel
       go_wp2_with fail
       refine (pick_any g a2 2 _ HC6.out (by omega) (by omega) (by omega)).mono ?_
       rintro e w7 ⟨z, a7, rfl, zz0, zz1, ha7, hc, hg'⟩
       have HC7 := Lib.hid hc
       have HG7 := Lib.hid (HG6.out.trans hg')
       have BN7 := Lib.hid (BN6.out.gr hg' hNg)
       have BR7 := Lib.hid (BR6.out.gr hg' hRg)
       have HR7 := Lib.hid (own_gr HR6.out hg' (Nat.lt_succ_self g))
       have HK7 := Lib.hid (own_gr HK6.out hg' (Nat.lt_succ_self g))
       have HI7 := Lib.hid (own_gr HI6.out hg' (Nat.lt_succ_self g))
       have HS7 := Lib.hid (own_gr HS6.out hg' (Nat.lt_succ_self g))
       clear hc hg' HC6 HG6 BN6 BR6 HR6 HK6 HI6 HS6
       by_cases hlt : (m : Int) < 40 + z
       · have e2 : decide ((m : Int) < 40 + z) = true := by simpa using hlt
         have m1 : m + 1 ≤ maxLen := by unfold maxLen; omega
         have m2 : (m + 1) * 16 ≤ 140737488355328 := by omega
         have hgw := HC7.out.lt
         go_wp2_with (at_builtin; refine wpList_append_own_at _ rfl (.tmp 34) (.tmp 36) 60 rfl (g + 1) 51 i0 _ 2 16 Try.underlying60 hi0 hz0 hz1 hz2 rfl (by decide) (.slice B m cb) m (rowsV2 ss) rfl (HS7.out.alloc (.cells #[.int .i64 1, .int .i64 1] 51)) _ 1 1 [.int .i64 1, .int .i64 1] rfl rfl (cells_new_at _ [.int .i64 1, .int .i64 1] _ (by simp)) (by simp [Value.oneCell']) m1 m2 (by simp; omega) ?_; intro v' w8 hown hgrow _ hat; have HGR := Lib.hid hgrow; have HOW := Lib.hid hown; clear hown hgrow hat)
         obtain ⟨g8, cap8, hv8, _, _⟩ := HOW.out.form (by omega)
         subst hv8
         have hbl : ∀ q', Value.ownBlock (.slice B m cb) = some q' → g + 1 ≤ q' := fun q' hq => (HS7.out.lt q' hq).1
         have BN8 := Lib.hid (Blk.grownF (BN7.out.al (.cells #[.int .i64 1, .int .i64 1] 51)) HGR.out (own_nbT (HS7.out.alloc (.cells #[.int .i64 1, .int .i64 1] 51)) (BN7.out.al (.cells #[.int .i64 1, .int .i64 1] 51)) (by decide)))
         have BR8 := Lib.hid (Blk.grownF (BR7.out.al (.cells #[.int .i64 1, .int .i64 1] 51)) HGR.out (own_nbT (HS7.out.alloc (.cells #[.int .i64 1, .int .i64 1] 51)) (BR7.out.al (.cells #[.int .i64 1, .int .i64 1] 51)) (by decide)))
         have HR8 := Lib.hid ((HR7.out.alloc (.cells #[.int .i64 1, .int .i64 1] 51)).kept HGR.out (own_neT (HR7.out.alloc (.cells #[.int .i64 1, .int .i64 1] 51)) (HS7.out.alloc (.cells #[.int .i64 1, .int .i64 1] 51)) (by decide)))
         have HK8 := Lib.hid ((HK7.out.alloc (.cells #[.int .i64 1, .int .i64 1] 51)).kept HGR.out (own_neT (HK7.out.alloc (.cells #[.int .i64 1, .int .i64 1] 51)) (HS7.out.alloc (.cells #[.int .i64 1, .int .i64 1] 51)) (by decide)))
         have HI8 := Lib.hid ((HI7.out.alloc (.cells #[.int .i64 1, .int .i64 1] 51)).kept HGR.out (own_neT (HI7.out.alloc (.cells #[.int .i64 1, .int .i64 1] 51)) (HS7.out.alloc (.cells #[.int .i64 1, .int .i64 1] 51)) (by decide)))
         have HC8 := Lib.hid ((HC7.out.ext (ext_alloc (ext_refl _) (.cells #[.int .i64 1, .int .i64 1] 51))).grown HGR.out (fun q' hq => Nat.lt_of_lt_of_le (Nat.lt_succ_self g) (hbl q' hq)))
         have HG8 := Lib.hid ((HG7.out.trans (Gr.alloc _ _ (.cells #[.int .i64 1, .int .i64 1] 51))).grown HGR.out (fun q' hq => Nat.le_trans (by omega) (hbl q' hq)))
         have HS8 := Lib.hid (show w8.ownsRow (g + 1) 51 2 (.slice (some ⟨g8, 0, none⟩) (m + 1) cap8) (m + 1) (rowsV2 (ss ++ [⟨1, 1⟩])) by have h9 := HOW.out; rwa [show rowsV2 ss ++ [Value.int .i64 1, Value.int .i64 1] = rowsV2 (ss ++ [⟨1, 1⟩]) by simp [rowsV2, R2.cells]] at h9)
         have HL8 := Lib.hid (show (ss ++ [(⟨1, 1⟩ : R2)]).length = m + 1 by rw [List.length_append, HL.out]; rfl)
         clear hbl HGR HOW
         go_wp2
         go_roundw
         case rel => exact ⟨m + 1, cap8, a7, _, ss ++ [⟨1, 1⟩], rfl, by omega, by omega, HL8, HC8, HG8, BN8, HR8, HK8, HI8, HS8, BR8⟩
         case measure => simp [lenV]; omega
       · obtain ⟨n0, n1, n2, n3, n4, n5, n6⟩ := BN7.out.q7
         obtain ⟨r0, r1, r2, r3, r4, r5, r6⟩ := BR7.out.q7
         obtain ⟨y0, y1, y2, y3, y4, y5, y6⟩ := BR7.out.z7
         have lnm := BN7.out.lt
         have lr := BR7.out.lt
         go_wp2
         refine bodyPost_ret (v := .tuple #[mdV q.u q.lo A q.l.length cr K q.cl.length kc I q.im.length ic q.be q.gu, .slice B m cb]) (by simp [results, Try.results67, go_sem, *]) rfl ?_
         refine ⟨q, A, cr, K, kc, I, ic, B, m, cb, ss, rfl, hl9, hc9, hi9, by omega, m7_own (own_base HR7.out (by omega)) (own_nbT HR7.out BR7.out (by decide)), m7_own (own_base HK7.out (by omega)) (own_nbT HK7.out BR7.out (by decide)), m7_own (own_base HI7.out (by omega)) (own_nbT HI7.out BR7.out (by decide)), m7_own (own_base HS7.out (by omega)) (own_nbT HS7.out BR7.out (by decide)), m7_below (Gr.below (ext_refl w) HG7.out (by omega)) (Nat.le_refl _)⟩

end Go.Proofs.Ytlkfffohjeoooaa
