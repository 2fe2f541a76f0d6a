/- The text of a mind: both. -/
import Derived.Test.YtlkfffohjeoooaaVM14
import Derived.Test.YtlkfffohjeoooaaVM1
namespace Go.Proofs.Ytlkfffohjeoooaa
open Go.RowKit
set_option linter.unusedVariables false
set_option linter.unusedSimpArgs false
set_option maxRecDepth 100000 in
set_option maxHeartbeats 4000000 in
theorem implMindText_any (u lo : Int) (A : Option Addr) (n c : Nat) (l : List R2) (K : Option Addr) (k' kc : Nat) (cl : List Int) (I : Option Addr) (m' ic : Nat) (im : List Int) (be gu : Int) (w : World) (hn : n ≤ 1048576) (hk : k' ≤ 1048576) (hm : m' ≤ 1048576) (h : Reads w w.heap.size 2 A n (rowsV2 l)) (hc : Reads w w.heap.size 1 K k' (intsV cl)) (hi : Reads w w.heap.size 1 I m' (intsV im)) :
 Calls Try.prog 85 #[mdV u lo A n c K k' kc I m' ic be gu] w (fun e w' => e = .returned (.tuple #[.string (mtV ⟨u, lo, l, cl, im, be, gu⟩), .bool (mdOK ⟨u, lo, l, cl, im, be, gu⟩)]) ∧ Below w.heap.size w w') := by
 have him := ints_len hi
 have hcl := ints_len hc
 have hl := rows_len2 h
 have H := Lib.hid h
 have HC := Lib.hid hc
 have HI := Lib.hid hi
 have hbx := Lib.hid (ext_alloc (ext_refl w) (.cells (mdC u lo A n c K k' kc I m' ic be gu) 47))
 have BM0 := Lib.hid (Blk.born w (mdC u lo A n c K k' kc I m' ic be gu) 47 (H := w.heap.size) rfl)
 have HM := Lib.hid (fun (w : World) a b d => isMind_any u lo A n c l K k' kc cl I m' ic im be gu w hn hk hm a b d)
 cases hok : mdOK ⟨u, lo, l, cl, im, be, gu⟩
 · rw [show mindB u lo l cl im be gu = false from hok] at HM
   rw [show mtV ⟨u, lo, l, cl, im, be, gu⟩ = ⟨#[]⟩ by unfold mtV; rw [if_neg (by rw [hok]; simp)]]
   clear h hc hi him hcl hl hok
   go_enter Try.func85, Try.ntmps85
   go_wp2_with fail
   refine (HM.out _ (rdx H.out hbx.out) (rdx HC.out hbx.out) (rdx HI.out hbx.out)).mono ?_
   rintro e w1 ⟨rfl, hb⟩
   go_wp2
   go_ret2
   exact ⟨rfl, ext_trans hbx.out hb⟩
 · obtain ⟨hgd, h1, h2, _, _, hrow⟩ := mdOK_parts hok
   dsimp only at h1 h2 hgd hrow
   have hfr := good_fr hgd
   obtain ⟨_, _, hn1, hn8⟩ := frB_head hfr
   have hmn : m' = n := by omega
   have hkn : k' = n := by omega
   subst hmn hkn
   have hdig := Lib.hid (fun j d cc (hj : j < k') (hd : im[j]? = some d) (hcc : cl[j]? = some cc) => show (-1 ≤ d ∧ d ≤ 9) ∧ (0 ≤ cc ∧ cc ≤ 5) ∧ (d < 0 ↔ cc = 0) by have := rowM_iff.1 (rowsM_at hrow (k := j) (by omega)); rw [getD_of hd, getD_of hcc] at this; exact this)
   rw [show mtV ⟨u, lo, l, cl, im, be, gu⟩ = mtL im k' ++ ⟨#[32]⟩ ++ decI (numR l) by unfold mtV; rw [if_pos hok]; rw [him]]
   have hmb := numR_bounds hfr l.length
   rw [List.take_length] at hmb
   have hm0 := hmb.1
   have hm9 : numR l ≤ 100000000000 := by have := hmb.2; have h7 := ten_le (k := l.length) (by omega); omega
   have HN := Lib.hid (fun (w : World) h => number_any u lo A k' c l w hfr h)
   have HTT := Lib.hid (fun (w : World) => text_any (numR l) w (by omega) (by omega))
   have hdt := decI_size (numR l)
   obtain ⟨M, hM⟩ : ∃ M, numR l = M := ⟨_, rfl⟩
   rw [hM] at HN HTT hdt ⊢
   obtain ⟨tM, htM⟩ : ∃ t, decI M = t := ⟨_, rfl⟩
   rw [htM] at HTT hdt ⊢
   clear hM htM hm0 hm9 hmb
   have hk8 : k' ≤ 8 := by omega
   rw [show mindB u lo l cl im be gu = true from hok] at HM
   have HIM := Lib.hid him
   have HCL := Lib.hid hcl
   have HLL := Lib.hid hl
   have HFR := Lib.hid hfr
   clear h hc hi him hcl hl hok hgd h1 h2 hrow hfr hn1
   go_enter Try.func85, Try.ntmps85
   go_wp2_with fail
   refine (HM.out _ (rdx H.out hbx.out) (rdx HC.out hbx.out) (rdx HI.out hbx.out)).mono ?_
   rintro e w1 ⟨rfl, hb⟩
   have BM1 := Lib.hid (BM0.out.ext hb)
   have HB1 := Lib.hid (ext_trans hbx.out hb)
   clear BM0 hbx
   obtain ⟨d0, d1, d2, d3, d4, d5, d6⟩ := BM1.out.q7
   have lm := BM1.out.lt
   clear hb
   go_wp2_with fail
   go_loopw [4, 13] (fun s ii wr => ∃ j : Nat, j ≤ k' ∧ ii = .int .i64 j ∧ s = .string (mtL im j) ∧ Hid (Below w1.heap.size w1 wr)) (fun _ ii _ => k' - (intOf ii).toNat)
   case atStart => exact ⟨0, Nat.zero_le _, rfl, rfl, Lib.hid (ext_refl _)⟩
   case round =>
    obtain ⟨j, hj, rfl, rfl, HX⟩ := hrel
    have HBr := Lib.hid (ext_trans HB1.out HX.out)
    have BMr := Lib.hid (BM1.out.ext HX.out)
    obtain ⟨d0, d1, d2, d3, d4, d5, d6⟩ := BMr.out.q7
    have lm := BMr.out.lt
    have hls := mtL_size im j
    by_cases hlt : j < k'
    · obtain ⟨d, hd⟩ := list_split (l := im) (k := j) (by rw [HIM.out]; exact hlt)
      obtain ⟨b, o, rfl, hb, c0⟩ := ints_at (rdx HI.out HBr.out) hd
      have e2 : (j : Int) < (k' : Int) := by omega
      obtain ⟨cc, hcc⟩ := list_split (l := cl) (k := j) (by rw [HCL.out]; exact hlt)
      obtain ⟨⟨hd1, hd9⟩, _, _⟩ := hdig.out j d cc hlt hd hcc
      clear hcc
      by_cases hw : d < 0
      · have HY := Lib.hid (mtL_lost hd hw)
        obtain ⟨s, hs⟩ : ∃ s, mtL im j = s := ⟨_, rfl⟩
        rw [hs] at HY hls ⊢
        clear hd hs
        go_wp2
        go_roundw
        case rel => exact ⟨j + 1, by omega, by go_num, by rw [HY.out], HX⟩
        case measure => simp [intOf]; omega
      · have HY := Lib.hid (mtL_held hd hw)
        have HT := Lib.hid (fun (w : World) => text_any d w (by omega) (by omega))
        have hds := decI_size d
        obtain ⟨s, hs⟩ : ∃ s, mtL im j = s := ⟨_, rfl⟩
        obtain ⟨t, ht⟩ : ∃ t, decI d = t := ⟨_, rfl⟩
        rw [hs] at HY hls ⊢
        rw [ht] at HY HT hds
        clear hd hs ht
        go_wp2_with fail
        refine (HT.out _).mono ?_
        rintro e w2 ⟨rfl, hb2⟩
        have HX2 := Lib.hid (ext_trans HX.out hb2)
        clear hb2
        go_wp2
        go_roundw
        case rel => exact ⟨j + 1, by omega, by go_num, by rw [HY.out], HX2⟩
        case measure => simp [intOf]; omega
    · obtain rfl : j = k' := by omega
      go_wp2_with fail
      refine (HN.out _ (rdx H.out HBr.out)).mono ?_
      rintro e w2 ⟨rfl, hb2⟩
      have HB2 := Lib.hid (ext_trans HBr.out hb2)
      clear hb2
      go_wp2_with fail
      refine (HTT.out _).mono ?_
      rintro e w3 ⟨rfl, hb3⟩
      have HB3 := Lib.hid (ext_trans HB2.out hb3)
      clear hb3
      go_wp2
      go_ret2
      exact ⟨rfl, HB3.out⟩
set_option maxRecDepth 100000 in
set_option maxHeartbeats 4000000 in
theorem specMindText_any (u lo : Int) (A : Option Addr) (n c : Nat) (l : List R2) (K : Option Addr) (k' kc : Nat) (cl : List Int) (I : Option Addr) (m' ic : Nat) (im : List Int) (be gu : Int) (w : World) (hn : n ≤ 1048576) (hk : k' ≤ 1048576) (hm : m' ≤ 1048576) (h : Reads w w.heap.size 2 A n (rowsV2 l)) (hc : Reads w w.heap.size 1 K k' (intsV cl)) (hi : Reads w w.heap.size 1 I m' (intsV im)) :
 Calls Try.prog 86 #[mdV u lo A n c K k' kc I m' ic be gu] w (fun e w' => e = .returned (.tuple #[.string (mtV ⟨u, lo, l, cl, im, be, gu⟩), .bool (mdOK ⟨u, lo, l, cl, im, be, gu⟩)]) ∧ Below w.heap.size w w') := by
 have him := ints_len hi
 have hcl := ints_len hc
 have hl := rows_len2 h
 have H := Lib.hid h
 have HC := Lib.hid hc
 have HI := Lib.hid hi
 have hbx := Lib.hid (ext_alloc (ext_refl w) (.cells (mdC u lo A n c K k' kc I m' ic be gu) 47))
 have BM0 := Lib.hid (Blk.born w (mdC u lo A n c K k' kc I m' ic be gu) 47 (H := w.heap.size) rfl)
 have HM := Lib.hid (fun (w : World) a b d => l21Good_any u lo A n c l K k' kc cl I m' ic im be gu w hn hk hm a b d)
 cases hok : mdOK ⟨u, lo, l, cl, im, be, gu⟩
 · rw [show mindB u lo l cl im be gu = false from hok] at HM
   rw [show mtV ⟨u, lo, l, cl, im, be, gu⟩ = ⟨#[]⟩ by unfold mtV; rw [if_neg (by rw [hok]; simp)]]
   clear h hc hi him hcl hl hok
   go_enter Try.func86, Try.ntmps86
   go_wp2_with fail
   refine (HM.out _ (rdx H.out hbx.out) (rdx HC.out hbx.out) (rdx HI.out hbx.out)).mono ?_
   rintro e w1 ⟨rfl, hb⟩
   go_wp2
   go_ret2
   exact ⟨rfl, ext_trans hbx.out hb⟩
 · obtain ⟨hgd, h1, h2, _, _, hrow⟩ := mdOK_parts hok
   dsimp only at h1 h2 hgd hrow
   have hfr := good_fr hgd
   obtain ⟨_, _, hn1, hn8⟩ := frB_head hfr
   have hmn : m' = n := by omega
   have hkn : k' = n := by omega
   subst hmn hkn
   have hdig := Lib.hid (fun j d cc (hj : j < k') (hd : im[j]? = some d) (hcc : cl[j]? = some cc) => show (-1 ≤ d ∧ d ≤ 9) ∧ (0 ≤ cc ∧ cc ≤ 5) ∧ (d < 0 ↔ cc = 0) by have := rowM_iff.1 (rowsM_at hrow (k := j) (by omega)); rw [getD_of hd, getD_of hcc] at this; exact this)
   rw [show mtV ⟨u, lo, l, cl, im, be, gu⟩ = mtL im k' ++ ⟨#[32]⟩ ++ decI (numR l) by unfold mtV; rw [if_pos hok]; rw [him]]
   have hmb := numR_bounds hfr l.length
   rw [List.take_length] at hmb
   have hm0 := hmb.1
   have hm9 : numR l ≤ 100000000000 := by have := hmb.2; have h7 := ten_le (k := l.length) (by omega); omega
   have HN := Lib.hid (fun (w : World) h => l2Number_any u lo A k' c l w hfr h)
   have HTT := Lib.hid (fun (w : World) => l1Num_any (numR l) w (by omega) (by omega))
   have hdt := decI_size (numR l)
   obtain ⟨M, hM⟩ : ∃ M, numR l = M := ⟨_, rfl⟩
   rw [hM] at HN HTT hdt ⊢
   obtain ⟨tM, htM⟩ : ∃ t, decI M = t := ⟨_, rfl⟩
   rw [htM] at HTT hdt ⊢
   clear hM htM hm0 hm9 hmb
   have hk8 : k' ≤ 8 := by omega
   rw [show mindB u lo l cl im be gu = true from hok] at HM
   have HIM := Lib.hid him
   have HCL := Lib.hid hcl
   have HLL := Lib.hid hl
   have HFR := Lib.hid hfr
   clear h hc hi him hcl hl hok hgd h1 h2 hrow hfr hn1
   go_enter Try.func86, Try.ntmps86
   go_wp2_with fail
   refine (HM.out _ (rdx H.out hbx.out) (rdx HC.out hbx.out) (rdx HI.out hbx.out)).mono ?_
   rintro e w1 ⟨rfl, hb⟩
   have BM1 := Lib.hid (BM0.out.ext hb)
   have HB1 := Lib.hid (ext_trans hbx.out hb)
   clear BM0 hbx
   obtain ⟨d0, d1, d2, d3, d4, d5, d6⟩ := BM1.out.q7
   have lm := BM1.out.lt
   clear hb
   go_wp2_with fail
   go_loopw [4, 5] (fun s ii wr => ∃ j : Nat, j ≤ k' ∧ ii = .int .i64 j ∧ s = .string (mtL im j) ∧ Hid (Below w1.heap.size w1 wr)) (fun _ ii _ => k' - (intOf ii).toNat)
   case atStart => exact ⟨0, Nat.zero_le _, rfl, rfl, Lib.hid (ext_refl _)⟩
   case round =>
    obtain ⟨j, hj, rfl, rfl, HX⟩ := hrel
    have HBr := Lib.hid (ext_trans HB1.out HX.out)
    have BMr := Lib.hid (BM1.out.ext HX.out)
    obtain ⟨d0, d1, d2, d3, d4, d5, d6⟩ := BMr.out.q7
    have lm := BMr.out.lt
    have hls := mtL_size im j
    by_cases hlt : j < k'
    · obtain ⟨d, hd⟩ := list_split (l := im) (k := j) (by rw [HIM.out]; exact hlt)
      obtain ⟨b, o, rfl, hb, c0⟩ := ints_at (rdx HI.out HBr.out) hd
      have e2 : (j : Int) < (k' : Int) := by omega
      obtain ⟨cc, hcc⟩ := list_split (l := cl) (k := j) (by rw [HCL.out]; exact hlt)
      obtain ⟨⟨hd1, hd9⟩, _, _⟩ := hdig.out j d cc hlt hd hcc
      clear hcc
      by_cases hw : d < 0
      · have HY := Lib.hid (mtL_lost hd hw)
        obtain ⟨s, hs⟩ : ∃ s, mtL im j = s := ⟨_, rfl⟩
        rw [hs] at HY hls ⊢
        clear hd hs
        go_wp2
        go_roundw
        case rel => exact ⟨j + 1, by omega, by go_num, by rw [HY.out], HX⟩
        case measure => simp [intOf]; omega
      · have HY := Lib.hid (mtL_held hd hw)
        have HT := Lib.hid (fun (w : World) => l1Num_any d w (by omega) (by omega))
        have hds := decI_size d
        obtain ⟨s, hs⟩ : ∃ s, mtL im j = s := ⟨_, rfl⟩
        obtain ⟨t, ht⟩ : ∃ t, decI d = t := ⟨_, rfl⟩
        rw [hs] at HY hls ⊢
        rw [ht] at HY HT hds
        clear hd hs ht
        go_wp2_with fail
        refine (HT.out _).mono ?_
        rintro e w2 ⟨rfl, hb2⟩
        have HX2 := Lib.hid (ext_trans HX.out hb2)
        clear hb2
        go_wp2
        go_roundw
        case rel => exact ⟨j + 1, by omega, by go_num, by rw [HY.out], HX2⟩
        case measure => simp [intOf]; omega
    · obtain rfl : j = k' := by omega
      go_wp2_with fail
      refine (HN.out _ (rdx H.out HBr.out)).mono ?_
      rintro e w2 ⟨rfl, hb2⟩
      have HB2 := Lib.hid (ext_trans HBr.out hb2)
      clear hb2
      go_wp2_with fail
      refine (HTT.out _).mono ?_
      rintro e w3 ⟨rfl, hb3⟩
      have HB3 := Lib.hid (ext_trans HB2.out hb3)
      clear hb3
      go_wp2
      go_ret2
      exact ⟨rfl, HB3.out⟩
end Go.Proofs.Ytlkfffohjeoooaa
