/- Beats left, rods lost: both. -/
import Derived.Maps.AppendAt
import Derived.Test.YtlkfffohjeoooaaVM14
namespace Go.Proofs.Ytlkfffohjeoooaa
open Go.RowKit
set_option linter.unusedVariables false
set_option linter.unusedSimpArgs false
set_option maxRecDepth 100000 in
set_option maxHeartbeats 4000000 in
theorem implBeatsLeft_any (u lo : Int) (A : Option Addr) (n c : Nat) (l : List R2) (K : Option Addr) (k' kc : Nat) (cl : List Int) (I : Option Addr) (m' ic : Nat) (im : List Int) (be gu : Int) (w : World) (hn : n ≤ 1048576) (hk : k' ≤ 1048576) (hm : m' ≤ 1048576) (h : Reads w w.heap.size 2 A n (rowsV2 l)) (hc : Reads w w.heap.size 1 K k' (intsV cl)) (hi : Reads w w.heap.size 1 I m' (intsV im)) :
 Calls Try.prog 74 #[mdV u lo A n c K k' kc I m' ic be gu] w (fun e w' => e = .returned (.tuple #[.int .i64 (btV ⟨u, lo, l, cl, im, be, gu⟩), .bool (decide (0 < btV ⟨u, lo, l, cl, im, be, gu⟩))]) ∧ Below w.heap.size w w') := by
 have him := ints_len hi
 have hcl := ints_len hc
 have hl := rows_len2 h
 have H := Lib.hid h
 have HC := Lib.hid hc
 have HI := Lib.hid hi
 have hbx := Lib.hid (ext_alloc (ext_refl w) (.cells (mdC u lo A n c K k' kc I m' ic be gu) 47))
 have BM0 := Lib.hid (Blk.born w (mdC u lo A n c K k' kc I m' ic be gu) 47 (H := w.heap.size) rfl)
 have HM := Lib.hid (fun (w : World) a b d => isMind_any u lo A n c l K k' kc cl I m' ic im be gu w hn hk hm a b d)
 cases hok : mdOK ⟨u, lo, l, cl, im, be, gu⟩
 · rw [show mindB u lo l cl im be gu = false from hok] at HM
   rw [show btV ⟨u, lo, l, cl, im, be, gu⟩ = 0 by unfold btV; rw [if_neg (by rw [hok]; simp)]]
   clear h hc hi him hcl hl hok
   go_enter Try.func74, Try.ntmps74
   go_wp2_with fail
   refine (HM.out _ (rdx H.out hbx.out) (rdx HC.out hbx.out) (rdx HI.out hbx.out)).mono ?_
   rintro e w1 ⟨rfl, hb⟩
   go_wp2
   go_ret2
   exact ⟨rfl, ext_trans hbx.out hb⟩
 · obtain ⟨hgd, h1, h2, _, _, hrow⟩ := mdOK_parts hok
   dsimp only at h1 h2 hgd hrow
   have hfr := good_fr hgd
   obtain ⟨_, _, hn1, hn8⟩ := frB_head hfr
   have hmn : m' = n := by omega
   have hkn : k' = n := by omega
   subst hmn hkn
   have hdig := Lib.hid (fun j d cc (hj : j < k') (hd : im[j]? = some d) (hcc : cl[j]? = some cc) => show (-1 ≤ d ∧ d ≤ 9) ∧ (0 ≤ cc ∧ cc ≤ 5) ∧ (d < 0 ↔ cc = 0) by have := rowM_iff.1 (rowsM_at hrow (k := j) (by omega)); rw [getD_of hd, getD_of hcc] at this; exact this)
   rw [show btV ⟨u, lo, l, cl, im, be, gu⟩ = btL cl k' by unfold btV; rw [if_pos hok]; rw [hcl]]
   have hk8 : k' ≤ 8 := by omega
   rw [show mindB u lo l cl im be gu = true from hok] at HM
   have HIM := Lib.hid him
   have HCL := Lib.hid hcl
   have HLL := Lib.hid hl
   have HFR := Lib.hid hfr
   clear h hc hi him hcl hl hok hgd h1 h2 hrow hfr hn1
   go_enter Try.func74, Try.ntmps74
   go_wp2_with fail
   refine (HM.out _ (rdx H.out hbx.out) (rdx HC.out hbx.out) (rdx HI.out hbx.out)).mono ?_
   rintro e w1 ⟨rfl, hb⟩
   have BM1 := Lib.hid (BM0.out.ext hb)
   have HB1 := Lib.hid (ext_trans hbx.out hb)
   clear BM0 hbx
   obtain ⟨d0, d1, d2, d3, d4, d5, d6⟩ := BM1.out.q7
   have lm := BM1.out.lt
   clear hb
   go_wp2_with fail
   go_loopw [4, 13] (fun s ii wr => ∃ j : Nat, j ≤ k' ∧ ii = .int .i64 j ∧ s = .int .i64 (btL cl j) ∧ w1 = wr) (fun _ ii _ => k' - (intOf ii).toNat)
   case atStart => exact ⟨0, Nat.zero_le _, rfl, rfl, rfl⟩
   case round =>
    obtain ⟨j, hj, rfl, rfl, hw⟩ := hrel
    subst hw
    by_cases hlt : j < k'
    · obtain ⟨d, hd⟩ := list_split (l := im) (k := j) (by rw [HIM.out]; exact hlt)
      obtain ⟨cc, hc⟩ := list_split (l := cl) (k := j) (by rw [HCL.out]; exact hlt)
      obtain ⟨b, o, hA, hb, c0⟩ := ints_at (rdx HI.out HB1.out) hd
      obtain ⟨b2, o2, hA2, hb2, c1⟩ := ints_at (rdx HC.out HB1.out) hc
      subst hA hA2
      have e2 : (j : Int) < (k' : Int) := by omega
      have j0 : (0 : Int) ≤ (j : Int) := by omega
      obtain ⟨⟨hd1, hd9⟩, ⟨hc0, hc5⟩, hiff⟩ := hdig.out j d cc hlt hd hc
      have hst : d < 0 ∧ cc = 0 ∨ ¬ d < 0 ∧ 0 < cc := by
       by_cases h9 : d < 0
       · exact .inl ⟨h9, hiff.1 h9⟩
       · exact .inr ⟨h9, by have := fun x => h9 (hiff.2 x); omega⟩
      clear hiff
      rcases hst with ⟨hd0, hcz⟩ | ⟨hd0, hcz⟩
      · have e3 : decide (0 ≤ d) = false := by simp; omega
        have HM2 := Lib.hid (btL_skip hc (.inl (by omega)))
        clear hd hc
        go_wp2
        go_roundw
        case rel => exact ⟨j + 1, by omega, by go_num, by rw [HM2.out], by first | rfl | trivial⟩
        case measure => simp [intOf]; omega
      · have e3 : decide (0 ≤ d) = true := by simp; omega
        by_cases hs0 : btL cl j = 0
        · have HM2 := Lib.hid (btL_take hc hcz (.inl hs0))
          have e4 : (btL cl j == 0) = true := by simpa using hs0
          clear hd hc hs0
          go_wp2
          go_roundw
          case rel => exact ⟨j + 1, by omega, by go_num, by rw [HM2.out], by first | rfl | trivial⟩
          case measure => simp [intOf]; omega
        · have e4 : (btL cl j == 0) = false := by simpa using hs0
          by_cases hsl : cc < btL cl j
          · have HM2 := Lib.hid (btL_take hc hcz (.inr hsl))
            have e5 : decide (cc < btL cl j) = true := by simpa using hsl
            clear hd hc hs0 hsl
            go_wp2
            go_roundw
            case rel => exact ⟨j + 1, by omega, by go_num, by rw [HM2.out], by first | rfl | trivial⟩
            case measure => simp [intOf]; omega
          · have HM2 := Lib.hid (btL_skip hc (.inr ⟨hs0, hsl⟩))
            have e5 : decide (cc < btL cl j) = false := by simpa using hsl
            clear hd hc hs0 hsl
            go_wp2
            go_roundw
            case rel => exact ⟨j + 1, by omega, by go_num, by rw [HM2.out], by first | rfl | trivial⟩
            case measure => simp [intOf]; omega
    · obtain rfl : j = k' := by omega
      go_wp2
      go_ret2
      exact ⟨rfl, HB1.out⟩
set_option maxRecDepth 100000 in
set_option maxHeartbeats 4000000 in
theorem specBeatsLeft_any (u lo : Int) (A : Option Addr) (n c : Nat) (l : List R2) (K : Option Addr) (k' kc : Nat) (cl : List Int) (I : Option Addr) (m' ic : Nat) (im : List Int) (be gu : Int) (w : World) (hn : n ≤ 1048576) (hk : k' ≤ 1048576) (hm : m' ≤ 1048576) (h : Reads w w.heap.size 2 A n (rowsV2 l)) (hc : Reads w w.heap.size 1 K k' (intsV cl)) (hi : Reads w w.heap.size 1 I m' (intsV im)) :
 Calls Try.prog 75 #[mdV u lo A n c K k' kc I m' ic be gu] w (fun e w' => e = .returned (.tuple #[.int .i64 (btV ⟨u, lo, l, cl, im, be, gu⟩), .bool (decide (0 < btV ⟨u, lo, l, cl, im, be, gu⟩))]) ∧ Below w.heap.size w w') := by
 have him := ints_len hi
 have hcl := ints_len hc
 have hl := rows_len2 h
 have H := Lib.hid h
 have HC := Lib.hid hc
 have HI := Lib.hid hi
 have hbx := Lib.hid (ext_alloc (ext_refl w) (.cells (mdC u lo A n c K k' kc I m' ic be gu) 47))
 have BM0 := Lib.hid (Blk.born w (mdC u lo A n c K k' kc I m' ic be gu) 47 (H := w.heap.size) rfl)
 have HM := Lib.hid (fun (w : World) a b d => l21Good_any u lo A n c l K k' kc cl I m' ic im be gu w hn hk hm a b d)
 cases hok : mdOK ⟨u, lo, l, cl, im, be, gu⟩
 · rw [show mindB u lo l cl im be gu = false from hok] at HM
   rw [show btV ⟨u, lo, l, cl, im, be, gu⟩ = 0 by unfold btV; rw [if_neg (by rw [hok]; simp)]]
   clear h hc hi him hcl hl hok
   go_enter Try.func75, Try.ntmps75
   go_wp2_with fail
   refine (HM.out _ (rdx H.out hbx.out) (rdx HC.out hbx.out) (rdx HI.out hbx.out)).mono ?_
   rintro e w1 ⟨rfl, hb⟩
   go_wp2
   go_ret2
   exact ⟨rfl, ext_trans hbx.out hb⟩
 · obtain ⟨hgd, h1, h2, _, _, hrow⟩ := mdOK_parts hok
   dsimp only at h1 h2 hgd hrow
   have hfr := good_fr hgd
   obtain ⟨_, _, hn1, hn8⟩ := frB_head hfr
   have hmn : m' = n := by omega
   have hkn : k' = n := by omega
   subst hmn hkn
   have hdig := Lib.hid (fun j d cc (hj : j < k') (hd : im[j]? = some d) (hcc : cl[j]? = some cc) => show (-1 ≤ d ∧ d ≤ 9) ∧ (0 ≤ cc ∧ cc ≤ 5) ∧ (d < 0 ↔ cc = 0) by have := rowM_iff.1 (rowsM_at hrow (k := j) (by omega)); rw [getD_of hd, getD_of hcc] at this; exact this)
   rw [show btV ⟨u, lo, l, cl, im, be, gu⟩ = btL cl k' by unfold btV; rw [if_pos hok]; rw [hcl]]
   have hk8 : k' ≤ 8 := by omega
   rw [show mindB u lo l cl im be gu = true from hok] at HM
   have HIM := Lib.hid him
   have HCL := Lib.hid hcl
   have HLL := Lib.hid hl
   have HFR := Lib.hid hfr
   clear h hc hi him hcl hl hok hgd h1 h2 hrow hfr hn1
   go_enter Try.func75, Try.ntmps75
   go_wp2_with fail
   refine (HM.out _ (rdx H.out hbx.out) (rdx HC.out hbx.out) (rdx HI.out hbx.out)).mono ?_
   rintro e w1 ⟨rfl, hb⟩
   have BM1 := Lib.hid (BM0.out.ext hb)
   have HB1 := Lib.hid (ext_trans hbx.out hb)
   clear BM0 hbx
   obtain ⟨d0, d1, d2, d3, d4, d5, d6⟩ := BM1.out.q7
   have lm := BM1.out.lt
   clear hb
   go_wp2_with fail
   go_loopw [4, 5] (fun s ii wr => ∃ j : Nat, j ≤ k' ∧ ii = .int .i64 j ∧ s = .int .i64 (btL cl j) ∧ w1 = wr) (fun _ ii _ => k' - (intOf ii).toNat)
   case atStart => exact ⟨0, Nat.zero_le _, rfl, rfl, rfl⟩
   case round =>
    obtain ⟨j, hj, rfl, rfl, hw⟩ := hrel
    subst hw
    by_cases hlt : j < k'
    · obtain ⟨d, hd⟩ := list_split (l := im) (k := j) (by rw [HIM.out]; exact hlt)
      obtain ⟨cc, hc⟩ := list_split (l := cl) (k := j) (by rw [HCL.out]; exact hlt)
      obtain ⟨b, o, hA, hb, c0⟩ := ints_at (rdx HI.out HB1.out) hd
      obtain ⟨b2, o2, hA2, hb2, c1⟩ := ints_at (rdx HC.out HB1.out) hc
      subst hA hA2
      have e2 : (j : Int) < (k' : Int) := by omega
      have j0 : (0 : Int) ≤ (j : Int) := by omega
      obtain ⟨⟨hd1, hd9⟩, ⟨hc0, hc5⟩, hiff⟩ := hdig.out j d cc hlt hd hc
      have hst : d < 0 ∧ cc = 0 ∨ ¬ d < 0 ∧ 0 < cc := by
       by_cases h9 : d < 0
       · exact .inl ⟨h9, hiff.1 h9⟩
       · exact .inr ⟨h9, by have := fun x => h9 (hiff.2 x); omega⟩
      clear hiff
      rcases hst with ⟨hd0, hcz⟩ | ⟨hd0, hcz⟩
      · have e3 : decide (0 < cc) = false := by simp; omega
        have HM2 := Lib.hid (btL_skip hc (.inl (by omega)))
        clear hd hc
        go_wp2
        go_roundw
        case rel => exact ⟨j + 1, by omega, by go_num, by rw [HM2.out], by first | rfl | trivial⟩
        case measure => simp [intOf]; omega
      · have e3 : decide (0 < cc) = true := by simp; omega
        by_cases hs0 : btL cl j = 0
        · have HM2 := Lib.hid (btL_take hc hcz (.inl hs0))
          have e4 : (btL cl j == 0) = true := by simpa using hs0
          clear hd hc hs0
          go_wp2
          go_roundw
          case rel => exact ⟨j + 1, by omega, by go_num, by rw [HM2.out], by first | rfl | trivial⟩
          case measure => simp [intOf]; omega
        · have e4 : (btL cl j == 0) = false := by simpa using hs0
          by_cases hsl : cc < btL cl j
          · have HM2 := Lib.hid (btL_take hc hcz (.inr hsl))
            have e5 : decide (cc < btL cl j) = true := by simpa using hsl
            clear hd hc hs0 hsl
            go_wp2
            go_roundw
            case rel => exact ⟨j + 1, by omega, by go_num, by rw [HM2.out], by first | rfl | trivial⟩
            case measure => simp [intOf]; omega
          · have HM2 := Lib.hid (btL_skip hc (.inr ⟨hs0, hsl⟩))
            have e5 : decide (cc < btL cl j) = false := by simpa using hsl
            clear hd hc hs0 hsl
            go_wp2
            go_roundw
            case rel => exact ⟨j + 1, by omega, by go_num, by rw [HM2.out], by first | rfl | trivial⟩
            case measure => simp [intOf]; omega
    · obtain rfl : j = k' := by omega
      go_wp2
      go_ret2
      exact ⟨rfl, HB1.out⟩
set_option maxRecDepth 100000 in
set_option maxHeartbeats 4000000 in
theorem implLostRods_any (u lo : Int) (A : Option Addr) (n c : Nat) (l : List R2) (K : Option Addr) (k' kc : Nat) (cl : List Int) (I : Option Addr) (m' ic : Nat) (im : List Int) (be gu : Int) (w : World) (hn : n ≤ 1048576) (hk : k' ≤ 1048576) (hm : m' ≤ 1048576) (h : Reads w w.heap.size 2 A n (rowsV2 l)) (hc : Reads w w.heap.size 1 K k' (intsV cl)) (hi : Reads w w.heap.size 1 I m' (intsV im)) :
 Calls Try.prog 76 #[mdV u lo A n c K k' kc I m' ic be gu] w (RetSliceB w 3 1 (lsO ⟨u, lo, l, cl, im, be, gu⟩).length (intsV (lsO ⟨u, lo, l, cl, im, be, gu⟩)) (mdOK ⟨u, lo, l, cl, im, be, gu⟩)) := by
 obtain ⟨i0, hi0, hz0, hz1, hz2⟩ := info_parts info_int
 have him := ints_len hi
 have hcl := ints_len hc
 have hl := rows_len2 h
 have H := Lib.hid h
 have HC := Lib.hid hc
 have HI := Lib.hid hi
 have hbx := Lib.hid (ext_alloc (ext_refl w) (.cells (mdC u lo A n c K k' kc I m' ic be gu) 47))
 have BM0 := Lib.hid (Blk.born w (mdC u lo A n c K k' kc I m' ic be gu) 47 (H := w.heap.size) rfl)
 have HM := Lib.hid (fun (w : World) a b d => isMind_any u lo A n c l K k' kc cl I m' ic im be gu w hn hk hm a b d)
 cases hok : mdOK ⟨u, lo, l, cl, im, be, gu⟩
 · rw [show mindB u lo l cl im be gu = false from hok] at HM
   rw [show lsO ⟨u, lo, l, cl, im, be, gu⟩ = [] by unfold lsO; rw [if_neg (by rw [hok]; simp)]]
   clear h hc hi him hcl hl hok
   go_enter Try.func76, Try.ntmps76
   go_wp2_with fail
   refine (HM.out _ (rdx H.out hbx.out) (rdx HC.out hbx.out) (rdx HI.out hbx.out)).mono ?_
   rintro e w1 ⟨rfl, hb⟩
   go_wp2
   go_ret2
   exact ⟨none, 0, rfl, World.ownsRow_nil _ _ _ _, ext_trans hbx.out hb⟩
 · obtain ⟨hgd, h1, h2, _, _, hrow⟩ := mdOK_parts hok
   dsimp only at h1 h2 hgd hrow
   have hfr := good_fr hgd
   obtain ⟨_, _, hn1, hn8⟩ := frB_head hfr
   have hmn : m' = n := by omega
   have hkn : k' = n := by omega
   subst hmn hkn
   have hdig := Lib.hid (fun j d cc (hj : j < k') (hd : im[j]? = some d) (hcc : cl[j]? = some cc) => show (-1 ≤ d ∧ d ≤ 9) ∧ (0 ≤ cc ∧ cc ≤ 5) ∧ (d < 0 ↔ cc = 0) by have := rowM_iff.1 (rowsM_at hrow (k := j) (by omega)); rw [getD_of hd, getD_of hcc] at this; exact this)
   rw [show lsO ⟨u, lo, l, cl, im, be, gu⟩ = lostL im k' by unfold lsO; rw [if_pos hok]; rw [him]]
   have hk8 : k' ≤ 8 := by omega
   rw [show mindB u lo l cl im be gu = true from hok] at HM
   have HIM := Lib.hid him
   have HCL := Lib.hid hcl
   have HLL := Lib.hid hl
   have HFR := Lib.hid hfr
   clear h hc hi him hcl hl hok hgd h1 h2 hrow hfr hn1
   go_enter Try.func76, Try.ntmps76
   go_wp2_with fail
   refine (HM.out _ (rdx H.out hbx.out) (rdx HC.out hbx.out) (rdx HI.out hbx.out)).mono ?_
   rintro e w1 ⟨rfl, hb⟩
   have BM1 := Lib.hid (BM0.out.ext hb)
   have HB1 := Lib.hid (ext_trans hbx.out hb)
   clear BM0 hbx
   obtain ⟨d0, d1, d2, d3, d4, d5, d6⟩ := BM1.out.q7
   have lm := BM1.out.lt
   clear hb
   go_wp2_with fail
   go_loopw [4, 13] (fun v ii wr => ∃ (j cb : Nat) (B : Option Addr), j ≤ k' ∧ ii = .int .i64 j ∧ v = .slice B (lostL im j).length cb ∧ Hid (wr.ownsRow w1.heap.size 3 1 (.slice B (lostL im j).length cb) (lostL im j).length (intsV (lostL im j))) ∧ Hid (Below w1.heap.size w1 wr)) (fun _ ii _ => k' - (intOf ii).toNat)
   case atStart => exact ⟨0, 0, none, Nat.zero_le _, rfl, rfl, Lib.hid (World.ownsRow_nil _ _ _ _), Lib.hid (ext_refl _)⟩
   case round =>
    obtain ⟨j, cb, B, hj, rfl, rfl, HO, HX⟩ := hrel
    have HBr := Lib.hid (ext_trans HB1.out HX.out)
    have BMr := Lib.hid (BM1.out.ext HX.out)
    obtain ⟨d0, d1, d2, d3, d4, d5, d6⟩ := BMr.out.q7
    have lm := BMr.out.lt
    have hsr := HBr.out.size
    have hlen := lostL_len im j
    by_cases hlt : j < k'
    · obtain ⟨x, hx⟩ := list_split (l := im) (k := j) (by rw [HIM.out]; exact hlt)
      obtain ⟨cc, hcc⟩ := list_split (l := cl) (k := j) (by rw [HCL.out]; exact hlt)
      obtain ⟨b, o, hI', hb, c0⟩ := ints_at (rdx HI.out HBr.out) hx
      subst hI'
      have e2 : (j : Int) < (k' : Int) := by omega
      obtain ⟨⟨hx1, hx9⟩, _, _⟩ := hdig.out j x cc hlt hx hcc
      clear hcc
      by_cases hw : x < 0
      · obtain rfl : x = -1 := by omega
        have HY := Lib.hid (lostL_yes hx)
        have hL1 : (lostL im j).length + 1 ≤ maxLen := by unfold maxLen; omega
        have hL2 : ((lostL im j).length + 1) * 8 ≤ 140737488355328 := by omega
        have HLN := Lib.hid (show (lostL im (j + 1)).length = (lostL im j).length + 1 by rw [HY.out]; simp)
        obtain ⟨W, hW⟩ : ∃ W, lostL im j = W := ⟨_, rfl⟩
        rw [hW] at HO HY HLN hL1 hL2 ⊢
        clear hx hw hlen hW
        go_wp2_with (at_builtin; refine wpList_append_own_at _ rfl (.tmp 20) (.tmp 22) 40 rfl w1.heap.size 3 i0 _ 1 8 Try.underlying40 hi0 hz0 hz1 hz2 rfl (by decide) (.slice B W.length cb) W.length (intsV W) rfl (HO.out.alloc (.cells #[.int .i64 (j : Int)] 3)) _ 1 1 [.int .i64 (j : Int)] rfl rfl (cells_new_at _ [.int .i64 (j : Int)] _ (by simp)) (by simp [Value.oneCell']) hL1 hL2 (by have h0 := HX.out.size; simp; omega) ?_; intro v' w8 hown hgrow _ hat; have HGR := Lib.hid hgrow; have HOW := Lib.hid hown; clear hown hgrow hat)
        obtain ⟨g8, cap8, hv8, _, _⟩ := HOW.out.form (by omega)
        subst hv8
        have HX8 := Lib.hid (below_grown' (HO.out.alloc (.cells #[.int .i64 (j : Int)] 3)) (Nat.le_refl _) (ext_alloc HX.out (.cells #[.int .i64 (j : Int)] 3)) HGR.out)
        go_roundw
        case rel => exact ⟨j + 1, cap8, some ⟨g8, 0, none⟩, by omega, by go_num, by rw [HLN.out], Lib.hid (by rw [HLN.out, HY.out]; have h9 := HOW.out; simpa [intsV] using h9), HX8⟩
        case measure => simp [intOf]; omega
      · have HNo := Lib.hid (lostL_no hx (by omega))
        clear hx hlen
        go_wp2
        go_roundw
        case rel => exact ⟨j + 1, cb, B, by omega, by go_num, by rw [HNo.out], by rw [HNo.out]; exact HO, HX⟩
        case measure => simp [intOf]; omega
    · obtain rfl : j = k' := by omega
      go_wp2
      go_ret2
      exact ⟨B, cb, rfl, own_base HO.out HB1.out.size, HBr.out⟩
set_option maxRecDepth 100000 in
set_option maxHeartbeats 4000000 in
theorem specLostRods_any (u lo : Int) (A : Option Addr) (n c : Nat) (l : List R2) (K : Option Addr) (k' kc : Nat) (cl : List Int) (I : Option Addr) (m' ic : Nat) (im : List Int) (be gu : Int) (w : World) (hn : n ≤ 1048576) (hk : k' ≤ 1048576) (hm : m' ≤ 1048576) (h : Reads w w.heap.size 2 A n (rowsV2 l)) (hc : Reads w w.heap.size 1 K k' (intsV cl)) (hi : Reads w w.heap.size 1 I m' (intsV im)) :
 Calls Try.prog 79 #[mdV u lo A n c K k' kc I m' ic be gu] w (RetSliceB w 3 1 (lsO ⟨u, lo, l, cl, im, be, gu⟩).length (intsV (lsO ⟨u, lo, l, cl, im, be, gu⟩)) (mdOK ⟨u, lo, l, cl, im, be, gu⟩)) := by
 have him := ints_len hi
 have hcl := ints_len hc
 have hl := rows_len2 h
 have H := Lib.hid h
 have HC := Lib.hid hc
 have HI := Lib.hid hi
 have hbx := Lib.hid (ext_alloc (ext_refl w) (.cells (mdC u lo A n c K k' kc I m' ic be gu) 47))
 have BM0 := Lib.hid (Blk.born w (mdC u lo A n c K k' kc I m' ic be gu) 47 (H := w.heap.size) rfl)
 have HM := Lib.hid (fun (w : World) a b d => l21Good_any u lo A n c l K k' kc cl I m' ic im be gu w hn hk hm a b d)
 cases hok : mdOK ⟨u, lo, l, cl, im, be, gu⟩
 · rw [show mindB u lo l cl im be gu = false from hok] at HM
   rw [show lsO ⟨u, lo, l, cl, im, be, gu⟩ = [] by unfold lsO; rw [if_neg (by rw [hok]; simp)]]
   clear h hc hi him hcl hl hok
   go_enter Try.func79, Try.ntmps79
   go_wp2_with fail
   refine (HM.out _ (rdx H.out hbx.out) (rdx HC.out hbx.out) (rdx HI.out hbx.out)).mono ?_
   rintro e w1 ⟨rfl, hb⟩
   go_wp2
   go_ret2
   refine ⟨_, _, rfl, ?_, ?_⟩
   · exact own_base (own_lit0 _ 3 1) (by first | exact (ext_trans hbx.out hb).size | (have := (ext_trans hbx.out hb).size; simp; omega))
   · exact ext_alloc (ext_trans hbx.out hb) _
 · obtain ⟨hgd, h1, h2, _, _, hrow⟩ := mdOK_parts hok
   dsimp only at h1 h2 hgd hrow
   have hfr := good_fr hgd
   obtain ⟨_, _, hn1, hn8⟩ := frB_head hfr
   have hmn : m' = n := by omega
   have hkn : k' = n := by omega
   subst hmn hkn
   have hdig := Lib.hid (fun j d cc (hj : j < k') (hd : im[j]? = some d) (hcc : cl[j]? = some cc) => show (-1 ≤ d ∧ d ≤ 9) ∧ (0 ≤ cc ∧ cc ≤ 5) ∧ (d < 0 ↔ cc = 0) by have := rowM_iff.1 (rowsM_at hrow (k := j) (by omega)); rw [getD_of hd, getD_of hcc] at this; exact this)
   rw [show lsO ⟨u, lo, l, cl, im, be, gu⟩ = lostL im k' by unfold lsO; rw [if_pos hok]; rw [him]]
   have hk8 : k' ≤ 8 := by omega
   rw [show mindB u lo l cl im be gu = true from hok] at HM
   have HIM := Lib.hid him
   have HCL := Lib.hid hcl
   have HLL := Lib.hid hl
   have HFR := Lib.hid hfr
   clear h hc hi him hcl hl hok hgd h1 h2 hrow hfr hn1
   go_enter Try.func79, Try.ntmps79
   go_wp2_with fail
   refine (HM.out _ (rdx H.out hbx.out) (rdx HC.out hbx.out) (rdx HI.out hbx.out)).mono ?_
   rintro e w1 ⟨rfl, hb⟩
   have BM1 := Lib.hid (BM0.out.ext hb)
   have HB1 := Lib.hid (ext_trans hbx.out hb)
   clear BM0 hbx
   obtain ⟨d0, d1, d2, d3, d4, d5, d6⟩ := BM1.out.q7
   have lm := BM1.out.lt
   clear hb
   go_wp2_with fail
   refine (l21Lost_any u lo A k' c K k' kc I k' ic im be gu _ (by omega) (rdx HI.out HB1.out)).mono ?_
   rintro e w2 ⟨B, cb, rfl, ho, hb⟩
   go_wp2
   go_ret2
   exact ⟨B, cb, rfl, own_base ho HB1.out.size, ext_trans HB1.out hb⟩
end Go.Proofs.Ytlkfffohjeoooaa
