/- Rods remembered wrong, the number that is remembered: the reference's. -/
import Derived.Maps.AppendAt
import Derived.Test.YtlkfffohjeoooaaVM14
namespace Go.Proofs.Ytlkfffohjeoooaa
open Go.RowKit
set_option linter.unusedVariables false
set_option linter.unusedSimpArgs false
set_option maxRecDepth 100000 in
set_option maxHeartbeats 4000000 in
theorem specWrongRods_any (u lo : Int) (A : Option Addr) (n c : Nat) (l : List R2) (K : Option Addr) (k' kc : Nat) (cl : List Int) (I : Option Addr) (m' ic : Nat) (im : List Int) (be gu : Int) (w : World) (hn : n ≤ 1048576) (hk : k' ≤ 1048576) (hm : m' ≤ 1048576) (h : Reads w w.heap.size 2 A n (rowsV2 l)) (hc : Reads w w.heap.size 1 K k' (intsV cl)) (hi : Reads w w.heap.size 1 I m' (intsV im)) :
 Calls Try.prog 81 #[mdV u lo A n c K k' kc I m' ic be gu] w (RetSliceB w 3 1 (wrO ⟨u, lo, l, cl, im, be, gu⟩).length (intsV (wrO ⟨u, lo, l, cl, im, be, gu⟩)) (mdOK ⟨u, lo, l, cl, im, be, gu⟩)) := by
 obtain ⟨i0, hi0, hz0, hz1, hz2⟩ := info_parts info_int
 have him := ints_len hi
 have hcl := ints_len hc
 have hl := rows_len2 h
 have H := Lib.hid h
 have HC := Lib.hid hc
 have HI := Lib.hid hi
 have hbx := Lib.hid (ext_alloc (ext_alloc (ext_refl w) (.cells (mdC u lo A n c K k' kc I m' ic be gu) 47)) (.cells #[] 3))
 have BM0 := Lib.hid ((Blk.born w (mdC u lo A n c K k' kc I m' ic be gu) 47 (H := w.heap.size) rfl).al (.cells #[] 3))
 have HM := Lib.hid (fun (w : World) a b d => l21Good_any u lo A n c l K k' kc cl I m' ic im be gu w hn hk hm a b d)
 have ho0 := Lib.hid (by simpa using own_base (base' := w.heap.size) (own_lit0 (w.alloc (.cells (mdC u lo A n c K k' kc I m' ic be gu) 47)) 3 1) (by simp))
 cases hok : mdOK ⟨u, lo, l, cl, im, be, gu⟩
 · rw [show mindB u lo l cl im be gu = false from hok] at HM
   rw [show wrO ⟨u, lo, l, cl, im, be, gu⟩ = [] by unfold wrO; rw [if_neg (by rw [hok]; simp)]]
   clear h hc hi him hcl hl hok
   go_enter Try.func81, Try.ntmps81
   go_wp2_with fail
   refine (HM.out _ (rdx H.out hbx.out) (rdx HC.out hbx.out) (rdx HI.out hbx.out)).mono ?_
   rintro e w1 ⟨rfl, hb⟩
   go_wp2
   go_ret2
   exact ⟨_, _, rfl, own_ext ho0.out hb, ext_trans hbx.out hb⟩
 · obtain ⟨hgd, h1, h2, _, _, hrow⟩ := mdOK_parts hok
   dsimp only at h1 h2 hgd hrow
   have hfr := good_fr hgd
   obtain ⟨_, _, hn1, hn8⟩ := frB_head hfr
   have hmn : m' = n := by omega
   have hkn : k' = n := by omega
   subst hmn hkn
   have hdig := Lib.hid (fun j d cc (hj : j < k') (hd : im[j]? = some d) (hcc : cl[j]? = some cc) => show (-1 ≤ d ∧ d ≤ 9) ∧ (0 ≤ cc ∧ cc ≤ 5) ∧ (d < 0 ↔ cc = 0) by have := rowM_iff.1 (rowsM_at hrow (k := j) (by omega)); rw [getD_of hd, getD_of hcc] at this; exact this)
   rw [show wrO ⟨u, lo, l, cl, im, be, gu⟩ = wrongL im (dsOf l) k' by unfold wrO; rw [if_pos hok]; rw [him]]
   have hk8 : k' ≤ 8 := by omega
   rw [show mindB u lo l cl im be gu = true from hok] at HM
   have HIM := Lib.hid him
   have HCL := Lib.hid hcl
   have HLL := Lib.hid hl
   have HFR := Lib.hid hfr
   clear h hc hi him hcl hl hok hgd h1 h2 hrow hfr hn1
   go_enter Try.func81, Try.ntmps81
   go_wp2_with fail
   refine (HM.out _ (rdx H.out hbx.out) (rdx HC.out hbx.out) (rdx HI.out hbx.out)).mono ?_
   rintro e w1 ⟨rfl, hb⟩
   have BM1 := Lib.hid (BM0.out.ext hb)
   have HB1 := Lib.hid (ext_trans hbx.out hb)
   clear BM0 hbx
   obtain ⟨d0, d1, d2, d3, d4, d5, d6⟩ := BM1.out.q7
   have lm := BM1.out.lt
   have HO1 := Lib.hid (own_ext ho0.out hb)
   clear hb ho0
   go_wp2_with fail
   go_loopw [4, 5] (fun v ii wr => ∃ j : Nat, j ≤ k' ∧ ii = .int .i64 j ∧ Hid (wr.ownsRow w.heap.size 3 1 v (wrongL im (dsOf l) j).length (intsV (wrongL im (dsOf l) j))) ∧ Hid (Below w.heap.size w wr) ∧ Hid (Blk wr w.heap.size 47 (mdC u lo A k' c K k' kc I k' ic be gu))) (fun _ ii _ => k' - (intOf ii).toNat)
   case atStart => exact ⟨0, Nat.zero_le _, rfl, by simpa [wrongL, intsV] using HO1, HB1, BM1⟩
   case round =>
    clear HO1 HB1 BM1 d0 d1 d2 d3 d4 d5 d6 lm
    obtain ⟨j, hj, rfl, HO, HBr, BMr⟩ := hrel
    obtain ⟨B, cb, rfl⟩ := own_shape HO.out
    obtain ⟨d0, d1, d2, d3, d4, d5, d6⟩ := BMr.out.q7
    have lm := BMr.out.lt
    have hsr := HBr.out.size
    have hlen := wrongL_len im (dsOf l) j
    by_cases hlt : j < k'
    · obtain ⟨x, hx⟩ := list_split (l := im) (k := j) (by rw [HIM.out]; exact hlt)
      obtain ⟨r, hr⟩ := list_split (l := l) (k := j) (by rw [HLL.out]; exact hlt)
      have hy : (dsOf l)[j]? = some (dv r) := by unfold dsOf; rw [List.getElem?_map, hr]; rfl
      obtain ⟨b, o, hI', hb, c0⟩ := ints_at (rdx HI.out HBr.out) hx
      obtain ⟨b2, o2, hA', hb2, c1, c2⟩ := rows_at2 (rdx H.out HBr.out) hr
      subst hI' hA'
      have hsm := frB_Sm HFR.out hr
      have HVV := Lib.hid (fun (m : Later wr) => l2Value_any r m.world hsm)
      have e2 : (j : Int) < (k' : Int) := by omega
      have j0 : (0 : Int) ≤ (j : Int) := by omega
      obtain ⟨y, hyy⟩ : ∃ y, dv r = y := ⟨_, rfl⟩
      rw [hyy] at hy HVV
      unfold R2.val at HVV
      clear hyy hsm
      by_cases hw : 0 ≤ x ∧ x ≠ y
      · have e3 : decide (0 ≤ x) = true := by simpa using hw.1
        have e4 : (x != y) = true := by simpa using hw.2
        have HY := Lib.hid (wrongL_yes (im := im) (ds := dsOf l) (k := j) (by rw [getD_of hx]; exact hw.1) (by rw [getD_of hx, getD_of hy]; exact hw.2))
        have hL1 : (wrongL im (dsOf l) j).length + 1 ≤ maxLen := by unfold maxLen; omega
        have hL2 : ((wrongL im (dsOf l) j).length + 1) * 8 ≤ 140737488355328 := by omega
        have HLN := Lib.hid (show (wrongL im (dsOf l) (j + 1)).length = (wrongL im (dsOf l) j).length + 1 by rw [HY.out]; simp)
        obtain ⟨W, hW⟩ : ∃ W, wrongL im (dsOf l) j = W := ⟨_, rfl⟩
        rw [hW] at HO HY HLN hL1 hL2 ⊢
        clear hx hy hw hlen hW hr
        go_wp2_with fail
        (refine wp_region_later (by kernel_rfl) (by kernel_rfl) ?_; (repeat (go_big_quiet_step ((go_at_call 143; with_reducible exact Calls.later_of (HVV.out _))))); refine wpQuiet_nil ?_; intro wA hw1; obtain ⟨⟨wl, hb⟩, hw1'⟩ := hw1; simp only at hw1'; subst hw1')
        have HOA := Lib.hid (own_ext HO.out hb)
        have HBA := Lib.hid (ext_trans HBr.out hb)
        have BMA := Lib.hid (BMr.out.ext hb)
        clear hb
        go_wp2_with (at_builtin; refine wpList_append_own_at _ rfl (.tmp 39) (.tmp 41) 40 rfl w.heap.size 3 i0 _ 1 8 Try.underlying40 hi0 hz0 hz1 hz2 rfl (by decide) (.slice B W.length cb) W.length (intsV W) rfl (HOA.out.alloc (.cells #[.int .i64 (j : Int)] 3)) _ 1 1 [.int .i64 (j : Int)] rfl rfl (cells_new_at _ [.int .i64 (j : Int)] _ (by simp)) (by simp [Value.oneCell']) hL1 hL2 (by have h0 := HBA.out.size; simp; omega) ?_; intro v' w8 hown hgrow _ hat; have HGR := Lib.hid hgrow; have HOW := Lib.hid hown; clear hown hgrow hat)
        go_roundw
        case rel => exact ⟨j + 1, by omega, by go_num, Lib.hid (by rw [HLN.out, HY.out]; have h9 := HOW.out; simpa [intsV] using h9), Lib.hid (below_grown' (HOA.out.alloc (.cells #[.int .i64 (j : Int)] 3)) (Nat.le_refl _) (ext_alloc HBA.out _) HGR.out), Lib.hid (Blk.grownF (BMA.out.al (.cells #[.int .i64 (j : Int)] 3)) HGR.out (own_nbT (HOA.out.alloc (.cells #[.int .i64 (j : Int)] 3)) (BMA.out.al (.cells #[.int .i64 (j : Int)] 3)) (by decide)))⟩
        case measure => simp [intOf]; omega
      · have HNo := Lib.hid (wrongL_no (im := im) (ds := dsOf l) (k := j) (by rw [getD_of hx, getD_of hy]; exact hw))
        by_cases hx0 : 0 ≤ x
        · have hxy : x = y := Classical.byContradiction fun e => hw ⟨hx0, e⟩
          have e3 : decide (0 ≤ x) = true := by simpa using hx0
          have e4 : (x != y) = false := by simp [hxy]
          clear hx hy hw hlen hxy hr
          go_wp2_with fail
          (refine wp_region_later (by kernel_rfl) (by kernel_rfl) ?_; (repeat (go_big_quiet_step ((go_at_call 143; with_reducible exact Calls.later_of (HVV.out _))))); refine wpQuiet_nil ?_; intro wA hw1; obtain ⟨⟨wl, hb⟩, hw1'⟩ := hw1; simp only at hw1'; subst hw1')
          have HOA := Lib.hid (own_ext HO.out hb)
          have HBA := Lib.hid (ext_trans HBr.out hb)
          have BMA := Lib.hid (BMr.out.ext hb)
          clear hb
          go_wp2
          go_roundw
          case rel => exact ⟨j + 1, by omega, by go_num, by rw [HNo.out]; exact HOA, HBA, BMA⟩
          case measure => simp [intOf]; omega
        · have e3 : decide (0 ≤ x) = false := by simpa using hx0
          clear hx hy hw hlen hr
          go_wp2_with fail
          (refine wp_region_later (by kernel_rfl) (by kernel_rfl) ?_; (repeat (go_big_quiet_step ((go_at_call 143; with_reducible exact Calls.later_of (HVV.out _))))); refine wpQuiet_nil ?_; intro wA hw1; obtain ⟨⟨wl, hb⟩, hw1'⟩ := hw1; simp only at hw1'; subst hw1')
          have HOA := Lib.hid (own_ext HO.out hb)
          have HBA := Lib.hid (ext_trans HBr.out hb)
          have BMA := Lib.hid (BMr.out.ext hb)
          clear hb
          go_wp2
          go_roundw
          case rel => exact ⟨j + 1, by omega, by go_num, by rw [HNo.out]; exact HOA, HBA, BMA⟩
          case measure => simp [intOf]; omega
    · obtain rfl : j = k' := by omega
      go_wp2
      go_ret2
      exact ⟨B, cb, rfl, HO.out, HBr.out⟩
set_option maxRecDepth 100000 in
set_option maxHeartbeats 4000000 in
theorem specNumberInMind_any (u lo : Int) (A : Option Addr) (n c : Nat) (l : List R2) (K : Option Addr) (k' kc : Nat) (cl : List Int) (I : Option Addr) (m' ic : Nat) (im : List Int) (be gu : Int) (w : World) (hn : n ≤ 1048576) (hk : k' ≤ 1048576) (hm : m' ≤ 1048576) (h : Reads w w.heap.size 2 A n (rowsV2 l)) (hc : Reads w w.heap.size 1 K k' (intsV cl)) (hi : Reads w w.heap.size 1 I m' (intsV im)) :
 Calls Try.prog 83 #[mdV u lo A n c K k' kc I m' ic be gu] w (RetNim w (nimO ⟨u, lo, l, cl, im, be, gu⟩)) := by
 have him := ints_len hi
 have hcl := ints_len hc
 have hl := rows_len2 h
 have H := Lib.hid h
 have HC := Lib.hid hc
 have HI := Lib.hid hi
 have hbx := Lib.hid (ext_alloc (ext_refl w) (.cells (mdC u lo A n c K k' kc I m' ic be gu) 47))
 have BM0 := Lib.hid (Blk.born w (mdC u lo A n c K k' kc I m' ic be gu) 47 (H := w.heap.size) rfl)
 have HM := Lib.hid (fun (w : World) a b d => l21Good_any u lo A n c l K k' kc cl I m' ic im be gu w hn hk hm a b d)
 cases hok : mdOK ⟨u, lo, l, cl, im, be, gu⟩
 · rw [show mindB u lo l cl im be gu = false from hok] at HM
   rw [show nimO ⟨u, lo, l, cl, im, be, gu⟩ = none by unfold nimO; rw [if_neg (by rw [hok]; simp)]]
   clear h hc hi him hcl hl hok
   go_enter Try.func83, Try.ntmps83
   go_wp2_with fail
   refine (HM.out _ (rdx H.out hbx.out) (rdx HC.out hbx.out) (rdx HI.out hbx.out)).mono ?_
   rintro e w1 ⟨rfl, hb⟩
   go_wp2
   go_ret2
   exact ⟨rfl, ext_trans hbx.out hb⟩
 · obtain ⟨hgd, h1, h2, _, _, hrow⟩ := mdOK_parts hok
   dsimp only at h1 h2 hgd hrow
   have hfr := good_fr hgd
   obtain ⟨_, _, hn1, hn8⟩ := frB_head hfr
   have hmn : m' = n := by omega
   have hkn : k' = n := by omega
   subst hmn hkn
   have hdig := Lib.hid (fun j d cc (hj : j < k') (hd : im[j]? = some d) (hcc : cl[j]? = some cc) => show (-1 ≤ d ∧ d ≤ 9) ∧ (0 ≤ cc ∧ cc ≤ 5) ∧ (d < 0 ↔ cc = 0) by have := rowM_iff.1 (rowsM_at hrow (k := j) (by omega)); rw [getD_of hd, getD_of hcc] at this; exact this)
   have hlo := nimO_lost hok
   have HOK := Lib.hid hok
   dsimp only at hlo
   rw [him] at hlo
   have hk8 : k' ≤ 8 := by omega
   rw [show mindB u lo l cl im be gu = true from hok] at HM
   have HIM := Lib.hid him
   have HCL := Lib.hid hcl
   have HLL := Lib.hid hl
   have HFR := Lib.hid hfr
   clear h hc hi him hcl hl hok hgd h1 h2 hrow hfr hn1
   go_enter Try.func83, Try.ntmps83
   go_wp2_with fail
   refine (HM.out _ (rdx H.out hbx.out) (rdx HC.out hbx.out) (rdx HI.out hbx.out)).mono ?_
   rintro e w1 ⟨rfl, hb⟩
   have BM1 := Lib.hid (BM0.out.ext hb)
   have HB1 := Lib.hid (ext_trans hbx.out hb)
   clear BM0 hbx
   obtain ⟨d0, d1, d2, d3, d4, d5, d6⟩ := BM1.out.q7
   have lm := BM1.out.lt
   clear hb
   have HLO := Lib.hid hlo
   clear hlo
   go_wp2_with fail
   refine (l21Lost_any u lo A k' c K k' kc I k' ic im be gu _ (by omega) (rdx HI.out HB1.out)).mono ?_
   rintro e w2 ⟨B, cb, rfl, _, hb⟩
   have BM2 := Lib.hid (BM1.out.ext hb)
   have HB2 := Lib.hid (ext_trans HB1.out hb)
   clear hb d0 d1 d2 d3 d4 d5 d6 lm
   obtain ⟨d0, d1, d2, d3, d4, d5, d6⟩ := BM2.out.q7
   have lm := BM2.out.lt
   rcases HLO.out with ⟨h0, hN, hpos⟩ | ⟨h0, hN⟩
   · have e9 : decide ((0 : Int) < ((lostL im k').length : Int)) = true := by simpa using h0
     have e8 : (0 : Int) < ((lostL im k').length : Int) := by omega
     have HN := Lib.hid hN
     clear hN hpos h0
     go_wp2
     go_ret2
     rw [HN.out]
     exact ⟨rfl, HB2.out⟩
   · have e9 : decide ((0 : Int) < ((lostL im k').length : Int)) = false := by rw [h0]; rfl
     have e8 : ¬ (0 : Int) < ((lostL im k').length : Int) := by rw [h0]; simp
     have hz : ((lostL im k').length : Int) = 0 := by rw [h0]; rfl
     have HN := Lib.hid hN
     have HZ := Lib.hid h0
     rw [h0]
     clear hN h0 e9 e8 hz
     go_wp2_with fail
     go_loopw [4, 5] (fun s ii wr => ∃ j : Nat, j ≤ k' ∧ ii = .int .i64 j ∧ s = .int .i64 (nimL im j) ∧ w2 = wr) (fun _ ii _ => k' - (intOf ii).toNat)
     case atStart => exact ⟨0, Nat.zero_le _, rfl, rfl, rfl⟩
     case round =>
      obtain ⟨j, hj, rfl, rfl, hw⟩ := hrel
      subst hw
      by_cases hlt : j < k'
      · obtain ⟨d, hd⟩ := list_split (l := im) (k := j) (by rw [HIM.out]; exact hlt)
        obtain ⟨b, o, rfl, hb, c0⟩ := ints_at (rdx HI.out HB2.out) hd
        have e2 : (j : Int) < (k' : Int) := by omega
        have hdig2 : ∀ i x, i < k' → im[i]? = some x → 0 ≤ x ∧ x ≤ 9 := fun i x hi hx => by
         obtain ⟨cc, hcc⟩ := list_split (l := cl) (k := i) (by rw [HCL.out]; exact hi)
         obtain ⟨⟨q1, q2⟩, _, _⟩ := hdig.out i x cc hi hx hcc
         have := lost_none HZ.out hi hx
         omega
        have hd09 := hdig2 j d hlt hd
        have hnb := nimL_bound (im := im) (k := j) (fun i x hi hx => hdig2 i x (by omega) hx)
        have h10 := ten_le (k := j) (by omega)
        have HMORE := Lib.hid (nimL_more hd)
        obtain ⟨s, hs⟩ : ∃ s, nimL im j = s := ⟨_, rfl⟩
        rw [hs] at hnb HMORE ⊢
        have hs0 : 0 ≤ s := hnb.1
        have hs9 : s ≤ 100000000 := by omega
        clear hd hs hnb h10 hdig2
        go_wp2
        go_roundw
        case rel => exact ⟨j + 1, by omega, by go_num, by first | rw [HMORE.out] | (rw [HMORE.out]; go_num), by first | rfl | trivial⟩
        case measure => simp [intOf]; omega
      · obtain rfl : j = k' := by omega
        go_wp2
        go_ret2
        rw [HN.out]
        exact ⟨rfl, HB2.out⟩
end Go.Proofs.Ytlkfffohjeoooaa
