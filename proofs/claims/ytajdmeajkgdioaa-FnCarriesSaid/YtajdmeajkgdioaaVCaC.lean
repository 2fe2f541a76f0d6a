/- LongestCarry both, RodValue, KindOfAdd both. -/
import Derived.Deep.CutBlock
import Derived.Test.YtajdmeajkgdioaaVM11
import Derived.Test.YtajdmeajkgdioaaVTkY
import Derived.Test.YtajdmeajkgdioaaVFrV
import Derived.Test.YtajdmeajkgdioaaVFrW
namespace Go.Proofs.Ytajdmeajkgdioaa
open Go.RowKit
set_option linter.unusedVariables false
set_option linter.unusedSimpArgs false
/-- the longest carry that a one makes -/
def lcV (u lo : Int) (l : List R2) (rod : Int) : Int := if addDigitB u lo l rod 1 = true then 1 + cyc (rod.toNat + 1) 1 (dsOf l) else 0
def rvB (u lo : Int) (l : List R2) (rod : Int) : Bool := frB u lo l && inB rod 0 ((l.length : Int) - 1)
def rvV (u lo : Int) (l : List R2) (rod : Int) : Int := if rvB u lo l rod = true then dv (l.getD rod.toNat ⟨0, 0⟩) else 0
def kaB (v d : Int) : Bool := inB v 0 9 && inB d 1 9
def kN : Nat → ByteArray
 | 0 => ⟨#[100, 105, 114, 101, 99, 116]⟩
 | 1 => ⟨#[102, 105, 118, 101]⟩
 | 2 => ⟨#[116, 101, 110]⟩
 | _ => ⟨#[98, 111, 116, 104]⟩
def kaV (v d : Int) : ByteArray := if kaB v d = true then kN (kindO v d) else ⟨#[]⟩
set_option maxRecDepth 100000 in
set_option maxHeartbeats 2000000 in
theorem implLongestCarry_any (u lo : Int) (A : Option Addr) (n c : Nat) (l : List R2) (rod : Int) (w : World) (hn : n ≤ 1048576) (h : Reads w w.heap.size 2 A n (rowsV2 l)) :
 Calls Try.prog 43 #[frV u lo A n c, .int .i64 rod] w (RetV (.tuple #[.int .i64 (lcV u lo l rod), .bool (addDigitB u lo l rod 1)]) w) := by
 have hl := rows_len2 h
 have H := Lib.hid h
 have hbx := Lib.hid (ext_alloc (ext_refl w) (.cells #[.int .i64 u, .int .i64 lo, .slice A n c] 26))
 have BF0 := Lib.hid (Blk.born w #[.int .i64 u, .int .i64 lo, .slice A n c] 26 (H := w.heap.size) rfl)
 cases hg : addDigitB u lo l rod 1
 · have HG := Lib.hid hg
   rw [show lcV u lo l rod = 0 by unfold lcV; rw [if_neg (by rw [hg]; simp)]]
   clear h hg hl
   go_enter Try.func43, Try.ntmps43
   go_wp2_with fail
   refine (addDigit_no u lo A n c l rod 1 _ hn (rdx H.out hbx.out) HG.out).mono ?_
   rintro e w1 ⟨rfl, hb1⟩
   have hb2 := Lib.hid (ext_trans hbx.out hb1)
   clear hb1
   go_wp2
   go_ret2
   exact ⟨rfl, hb2.out⟩
 · have HG := Lib.hid hg
   obtain ⟨hf, hs, hfit⟩ := dsFit hg
   have hcy := addS_cyc (rod.toNat + 1) 1 ⟨dsOf l, [], 0⟩ hfit
   have hcb := cyc_bounds (rod.toNat + 1) 1 (dsOf l)
   have h8 := (frB_head hf).2.2.2
   have hr1 := hfit.1
   rw [dsOf_len] at hr1
   have hcy : (addS (rod.toNat + 1) 1 ⟨dsOf l, [], 0⟩).ask = 0 + cyc (rod.toNat + 1) 1 (dsOf l) := hcy
   rw [show lcV u lo l rod = (addS (rod.toNat + 1) 1 ⟨dsOf l, [], 0⟩).ask + 1 by unfold lcV; rw [if_pos hg, hcy]; omega]
   obtain ⟨st, hst⟩ : ∃ st, addS (rod.toNat + 1) 1 ⟨dsOf l, [], 0⟩ = st := ⟨_, rfl⟩
   have HY := Lib.hid (fun w h => addDigit_yes u lo A n c l rod 1 w hn h HG.out)
   rw [hst] at HY hcy ⊢
   have ha : 0 ≤ st.ask ∧ st.ask ≤ 8 := by omega
   clear h hg hl hst hcy hcb h8 hr1 hf hs hfit
   go_enter Try.func43, Try.ntmps43
   go_wp2_with fail
   refine (HY.out _ (rdx H.out hbx.out)).mono ?_
   rintro e w1 ⟨g, rfl, hW, hb1⟩
   obtain ⟨hh, cr, cm, Am, hB, _, hr, _⟩ := hW
   obtain ⟨q0, q1, q2, q3, q4⟩ := hB.q5
   have hgl := hB.lt
   have hb2 := Lib.hid (ext_trans hbx.out hb1)
   clear hb1 hB hr
   go_wp2
   go_ret2
   exact ⟨rfl, hb2.out⟩
set_option maxRecDepth 100000 in
set_option maxHeartbeats 2000000 in
theorem specLongestCarry_any (u lo : Int) (A : Option Addr) (n c : Nat) (l : List R2) (rod : Int) (w : World) (hn : n ≤ 1048576) (h : Reads w w.heap.size 2 A n (rowsV2 l)) :
 Calls Try.prog 44 #[frV u lo A n c, .int .i64 rod] w (RetV (.tuple #[.int .i64 (lcV u lo l rod), .bool (addDigitB u lo l rod 1)]) w) := by
 have hl := rows_len2 h
 have H := Lib.hid h
 have hbx := Lib.hid (ext_alloc (ext_refl w) (.cells #[.int .i64 u, .int .i64 lo, .slice A n c] 26))
 have BF0 := Lib.hid (Blk.born w #[.int .i64 u, .int .i64 lo, .slice A n c] 26 (H := w.heap.size) rfl)
 cases hg : addDigitB u lo l rod 1
 · have HG := Lib.hid hg
   rw [show lcV u lo l rod = 0 by unfold lcV; rw [if_neg (by rw [hg]; simp)]]
   clear h hg hl
   go_enter Try.func44, Try.ntmps44
   go_wp2_with fail
   refine (l6CanDigit_any u lo A n c l rod 1 _ hn (rdx H.out hbx.out)).mono ?_
   rw [HG.out]
   rintro e w1 ⟨rfl, hb1⟩
   have hb2 := Lib.hid (ext_trans hbx.out hb1)
   clear hb1
   go_wp2
   go_ret2
   exact ⟨rfl, hb2.out⟩
 · have HG := Lib.hid hg
   obtain ⟨hf, hs, hfit⟩ := dsFit hg
   have h8 := (frB_head hf).2.2.2
   have hr1 := hfit.1
   rw [dsOf_len] at hr1
   obtain ⟨r, rfl⟩ : ∃ r : Nat, rod = r := by
    unfold addDigitB at hg
    simp only [Bool.and_eq_true] at hg
    obtain ⟨r, hr⟩ := Int.eq_ofNat_of_zero_le (inB_iff.1 hg.1.1.2).1
    exact ⟨r, hr⟩
   rw [show (r : Int).toNat = r from rfl] at hr1 hfit
   rw [show lcV u lo l (r : Int) = 1 + cyc (r + 1) 1 (dsOf l) by unfold lcV; rw [if_pos hg]; rfl]
   have hcb := cyc_bounds (r + 1) 1 (dsOf l)
   have hwf := hfit.2.2.2.1
   have hdl : (dsOf l).length = n := by rw [dsOf_len, hl]
   have H2 := Lib.hid (show Reads w w.heap.size 2 A n (rowsV2 (rodsD (dsOf l))) by rw [rodsD_dsOf hf hs]; exact h)
   obtain ⟨ds, hds⟩ : ∃ ds, dsOf l = ds := ⟨_, rfl⟩
   rw [hds] at H2 hwf hdl hcb ⊢
   obtain ⟨Q, hQ⟩ : ∃ Q, cyc (r + 1) 1 ds = Q := ⟨_, rfl⟩
   rw [hQ] at hcb ⊢
   have HQ := Lib.hid hQ
   have HWF := Lib.hid hwf
   have HDL := Lib.hid hdl
   have hrn : r < n := by omega
   have hn8 : n ≤ 8 := by omega
   have hQ9 : 0 ≤ Q ∧ Q ≤ 8 := by omega
   clear h hg hl hds hdl hwf hfit hf hs hcb hQ h8 hr1
   go_enter Try.func44, Try.ntmps44
   go_wp2_with fail
   refine (l6CanDigit_any u lo A n c l r 1 _ hn (rdx H.out hbx.out)).mono ?_
   rw [HG.out]
   rintro e w1 ⟨rfl, hb1⟩
   have BF1 := Lib.hid (BF0.out.ext hb1)
   have hb2 := Lib.hid (ext_trans hbx.out hb1)
   clear hb1 BF0
   obtain ⟨p0, p1, p2⟩ := BF1.out.q3
   have lf := BF1.out.lt
   go_wp2_with fail
   go_loopw [6] (fun q wr => ∃ (i : Nat) (z : Int), q = .int .i64 z ∧ i ≤ r ∧ z = 1 + (r : Int) - i ∧ Hid (z + cyc (i + 1) 1 ds = 1 + Q) ∧ Hid (Below w1.heap.size w1 wr)) (fun q _ => (9 - intOf q).toNat)
   case atStart => exact ⟨r, 1, rfl, Nat.le_refl _, by omega, Lib.hid (by rw [HQ.out]), Lib.hid (ext_refl _)⟩
   case round =>
    obtain ⟨i, z, rfl, hi, hz, HZ, HX⟩ := hrel
    obtain ⟨V, hV⟩ : ∃ V : World, V = wr := ⟨_, rfl⟩
    subst hV
    have q0 := ext_cell HX.out p0
    have q1 := ext_cell HX.out p1
    have q2 := ext_cell HX.out p2
    have hNv := Nat.lt_of_lt_of_le lf HX.out.size
    have z1 : 1 ≤ z ∧ z ≤ 9 := by omega
    have hrz : (r : Int) - z = (i : Int) - 1 := by omega
    by_cases hi0 : 0 < i
    · obtain ⟨i, rfl⟩ : ∃ j, i = j + 1 := ⟨i - 1, by omega⟩
      obtain ⟨x, hx⟩ := list_split (l := ds) (k := i + 1) (by rw [HDL.out]; omega)
      have hxd : ds.getD (i + 1) 0 = x := by rw [List.getD_eq_getElem?_getD, hx]; rfl
      obtain ⟨b, o, rfl, hbb, v0, v1⟩ := rows_at2 (rdx H2.out (ext_trans hb2.out HX.out)) (rodsD_get hx)
      have hxb := HWF.out.get hx
      have HV := Lib.hid (fun w => l2Value_rod x w hxb.1 hxb.2)
      have i0 : (0 : Int) ≤ (r : Int) - z := by omega
      have i4 : (r : Int) - z + 1 = ((i + 1 : Nat) : Int) := by omega
      have i1 : (0 : Int) ≤ ((i + 1 : Nat) : Int) := by omega
      have i2 : ((i + 1 : Nat) : Int) < (n : Int) := by omega
      have HXD := Lib.hid hxd
      unfold rodD at v0 v1
      have HHZ := Lib.hid hz
      clear hx hxd hz hrz
      by_cases h9 : x = 9
      · have HZ2 := Lib.hid (show z + 1 + cyc (i + 1) 1 ds = 1 + Q by have h := HZ.out; rw [cyc_yes (by rw [HXD.out]; omega)] at h; omega)
        subst h9
        go_wp2_with fail
        refine (HV.out _).mono ?_
        rintro e w4 ⟨rfl, hb4⟩
        have HX4 := Lib.hid (ext_trans HX.out hb4)
        clear hb4
        go_wp2
        go_roundw
        case rel => exact ⟨i, z + 1, by go_num, by omega, by have h := HHZ.out; push_cast at h ⊢; omega, HZ2, HX4⟩
        case measure => simp [intOf]; omega
      · have HZ2 := Lib.hid (show z = 1 + Q by have h := HZ.out; rw [cyc_no (by rw [HXD.out]; omega)] at h; omega)
        have h9b : (x == 9) = false := by simpa using h9
        go_wp2_with fail
        refine (HV.out _).mono ?_
        rintro e w4 ⟨rfl, hb4⟩
        have HX4 := Lib.hid (ext_trans HX.out hb4)
        clear hb4
        go_wp2
        go_ret2
        exact ⟨by rw [HZ2.out]; rfl, ext_trans hb2.out HX4.out⟩
    · obtain rfl : i = 0 := by omega
      have HZ2 := Lib.hid (show z = 1 + Q by have h := HZ.out; rw [cyc_one] at h; omega)
      have i0 : ¬ (0 : Int) ≤ (r : Int) - z := by omega
      clear hz hrz
      go_wp2
      go_ret2
      exact ⟨by rw [HZ2.out]; rfl, ext_trans hb2.out HX.out⟩
set_option maxRecDepth 100000 in
set_option maxHeartbeats 2000000 in
theorem implRodValue_any (u lo : Int) (A : Option Addr) (n c : Nat) (l : List R2) (rod : Int) (w : World) (hn : n ≤ 1048576) (h : Reads w w.heap.size 2 A n (rowsV2 l)) :
 Calls Try.prog 45 #[frV u lo A n c, .int .i64 rod] w (RetV (.tuple #[.int .i64 (rvV u lo l rod), .bool (rvB u lo l rod)]) w) := by
 have hl := rows_len2 h
 have H := Lib.hid h
 have hbx := Lib.hid (ext_alloc (ext_refl w) (.cells #[.int .i64 u, .int .i64 lo, .slice A n c] 26))
 have BF0 := Lib.hid (Blk.born w #[.int .i64 u, .int .i64 lo, .slice A n c] 26 (H := w.heap.size) rfl)
 have HF := Lib.hid (fun w h => isFrame_any u lo A n c l w hn h)
 obtain ⟨fb, hfb⟩ : ∃ fb, frB u lo l = fb := ⟨_, rfl⟩
 rw [hfb] at HF
 obtain ⟨rb, hrb⟩ : ∃ rb, inB rod 0 ((n : Int) - 1) = rb := ⟨_, rfl⟩
 have HRB := Lib.hid (fun w => hasRod_b u lo A n c rod rb w hn hrb)
 have eB : rvB u lo l rod = (fb && rb) := by unfold rvB; rw [hfb, hl, hrb]
 rw [eB]
 cases fb
 · rw [show rvV u lo l rod = 0 by unfold rvV; rw [if_neg (by rw [eB]; simp)]]
   clear h hl hfb hrb eB
   go_enter Try.func45, Try.ntmps45
   go_wp2_with fail
   refine (HF.out _ (rdx H.out hbx.out)).mono ?_
   rintro e w1 ⟨rfl, hb1⟩
   have hb2 := Lib.hid (ext_trans hbx.out hb1)
   clear hb1
   go_wp2
   go_ret2
   exact ⟨rfl, hb2.out⟩
 · cases rb
   · rw [show rvV u lo l rod = 0 by unfold rvV; rw [if_neg (by rw [eB]; simp)]]
     clear h hl hfb hrb eB
     go_enter Try.func45, Try.ntmps45
     go_wp2_with fail
     refine (HF.out _ (rdx H.out hbx.out)).mono ?_
     rintro e w1 ⟨rfl, hb1⟩
     have BF1 := Lib.hid (BF0.out.ext hb1)
     have hb2 := Lib.hid (ext_trans hbx.out hb1)
     clear hb1
     obtain ⟨p0, p1, p2⟩ := BF1.out.q3
     have lf := BF1.out.lt
     go_wp2_with fail
     refine (HRB.out _).mono ?_
     rintro e w2 ⟨rfl, hb1⟩
     have hb3 := Lib.hid (ext_trans hb2.out hb1)
     clear hb1
     go_wp2
     go_ret2
     exact ⟨rfl, hb3.out⟩
   · have hr := inB_iff.1 hrb
     obtain ⟨r, rfl⟩ := Int.eq_ofNat_of_zero_le hr.1
     have hrn : r < n := by omega
     obtain ⟨x, hx⟩ := list_split (l := l) (k := r) (by omega)
     have hxs := frB_rod hfb hx
     have hh := frB_head hfb
     rw [show rvV u lo l (r : Int) = 5 * x.a + x.b by unfold rvV; rw [if_pos (by rw [eB]; rfl)]; show dv (l.getD r ⟨0, 0⟩) = _; rw [List.getD_eq_getElem?_getD, hx]; rfl]
     obtain ⟨b, o, rfl, hb0, v0, v1⟩ := rows_at2 h hx
     have k1 : (r : Int) < (n : Int) := by omega
     have k0 : (0 : Int) ≤ (r : Int) := by omega
     have xa : 0 ≤ x.a ∧ x.a ≤ 2 := by omega
     have xb : 0 ≤ x.b ∧ x.b ≤ 5 := by omega
     clear hr hl hfb hrb eB hx hxs hh
     go_enter Try.func45, Try.ntmps45
     go_wp2_with fail
     refine (HF.out _ (rdx H.out hbx.out)).mono ?_
     rintro e w1 ⟨rfl, hb1⟩
     have BF1 := Lib.hid (BF0.out.ext hb1)
     have hb2 := Lib.hid (ext_trans hbx.out hb1)
     clear hb1
     obtain ⟨p0, p1, p2⟩ := BF1.out.q3
     have lf := BF1.out.lt
     go_wp2_with fail
     refine (HRB.out _).mono ?_
     rintro e w2 ⟨rfl, hb1⟩
     have BF2 := Lib.hid (BF1.out.ext hb1)
     have hb3 := Lib.hid (ext_trans hb2.out hb1)
     have y0 := ext_cell hb3.out v0
     have y1 := ext_cell hb3.out v1
     clear hb1 p0 p1 p2 lf BF1 hb2 v0 v1
     obtain ⟨p0, p1, p2⟩ := BF2.out.q3
     have lf := BF2.out.lt
     have lb := Nat.lt_of_lt_of_le hb0 hb3.out.size
     go_wp2_with fail
     (refine wp_region_later (by kernel_rfl) (by kernel_rfl) ?_; (repeat (go_big_quiet_step (fail))); refine wpQuiet_nil ?_; intro w3 hw1; obtain ⟨⟨wl, hb⟩, hw1'⟩ := hw1; simp only at hw1'; subst hw1')
     have HB3 := Lib.hid (ext_trans hb3.out hb)
     clear hb
     go_wp2
     go_ret2
     exact ⟨rfl, HB3.out⟩
set_option maxHeartbeats 1000000 in
theorem l6Names_any (k : Nat) (w : World) (hk : k < 4) : Calls Try.prog 86 #[.int .i64 (k : Int)] w fun e w' => e = .returned (.string (kN k)) ∧ Below w.heap.size w w' := by
 rcases (show k = 0 ∨ k = 1 ∨ k = 2 ∨ k = 3 by omega) with rfl | rfl | rfl | rfl
 all_goals
  go_enter Try.func86, Try.ntmps86
  go_wp2
  go_ret
  exact ⟨rfl, (by repeat (first | exact ext_refl _ | assumption | refine ext_alloc ?_ _ | refine ext_drew ?_ | refine ext_drewN ?_ _ | refine ext_set ?_ (by simp <;> omega) _ | refine ext_trans ?_ (by assumption)))⟩
set_option maxHeartbeats 2000000 in
theorem implKindOfAdd_any (v d : Int) (w : World) : Calls Try.prog 47 #[.int .i64 v, .int .i64 d] w (RetV (.tuple #[.string (kaV v d), .bool (kaB v d)]) w) := by
 unfold RetV
 cases ha : inB v 0 9
 · rw [show kaB v d = false by unfold kaB; rw [ha]; rfl, show kaV v d = ⟨#[]⟩ by unfold kaV kaB; rw [ha]; rfl]
   have HA := Lib.hid ha
   clear ha
   go_enter Try.func47, Try.ntmps47
   go_wp2_with fail
   refine (within_b _ _ _ _ _ HA.out).mono ?_
   rintro e w1 ⟨rfl, hb1⟩
   go_wp2
   go_ret2
   exact ⟨rfl, (by repeat (first | exact ext_refl _ | assumption | refine ext_alloc ?_ _ | refine ext_drew ?_ | refine ext_drewN ?_ _ | refine ext_set ?_ (by simp <;> omega) _ | refine ext_trans ?_ (by assumption)))⟩
 cases hb : inB d 1 9
 · rw [show kaB v d = false by unfold kaB; rw [ha, hb]; rfl, show kaV v d = ⟨#[]⟩ by unfold kaV kaB; rw [ha, hb]; rfl]
   have HA := Lib.hid ha
   have HB := Lib.hid hb
   clear ha hb
   go_enter Try.func47, Try.ntmps47
   go_wp2_with fail
   refine (within_b _ _ _ _ _ HA.out).mono ?_
   rintro e w1 ⟨rfl, hb1⟩
   go_wp2_with fail
   refine (within_b _ _ _ _ _ HB.out).mono ?_
   rintro e w2 ⟨rfl, hb2⟩
   go_wp2
   go_ret2
   exact ⟨rfl, (by repeat (first | exact ext_refl _ | assumption | refine ext_alloc ?_ _ | refine ext_drew ?_ | refine ext_drewN ?_ _ | refine ext_set ?_ (by simp <;> omega) _ | refine ext_trans ?_ (by assumption)))⟩
 · rw [show kaB v d = true by unfold kaB; rw [ha, hb]; rfl, show kaV v d = kN (kindO v d) by unfold kaV kaB; rw [ha, hb]; rfl]
   have hv := inB_iff.1 ha
   have hd := inB_iff.1 hb
   have HK := Lib.hid (fun w => kindOfAdd_any v d w hv.1 hv.2 hd.1 hd.2)
   have hk4 := kindO_lt v d
   obtain ⟨k, hk⟩ : ∃ k, kindO v d = k := ⟨_, rfl⟩
   rw [hk] at HK hk4 ⊢
   have HA := Lib.hid ha
   have HB := Lib.hid hb
   clear ha hb hv hd hk
   rcases (show k = 0 ∨ k = 1 ∨ k = 2 ∨ k = 3 by omega) with rfl | rfl | rfl | rfl
   all_goals
    go_enter Try.func47, Try.ntmps47
    go_wp2_with fail
    refine (within_b _ _ _ _ _ HA.out).mono ?_
    rintro e w1 ⟨rfl, hb1⟩
    go_wp2_with fail
    refine (within_b _ _ _ _ _ HB.out).mono ?_
    rintro e w2 ⟨rfl, hb2⟩
    go_wp2_with fail
    refine (HK.out _).mono ?_
    rintro e w3 ⟨rfl, hw3⟩
    subst hw3
    go_wp2
    go_ret2
    exact ⟨rfl, (by repeat (first | exact ext_refl _ | assumption | refine ext_alloc ?_ _ | refine ext_drew ?_ | refine ext_drewN ?_ _ | refine ext_set ?_ (by simp <;> omega) _ | refine ext_trans ?_ (by assumption)))⟩
set_option maxHeartbeats 2000000 in
theorem specKindOfAdd_any (v d : Int) (w : World) : Calls Try.prog 48 #[.int .i64 v, .int .i64 d] w (RetV (.tuple #[.string (kaV v d), .bool (kaB v d)]) w) := by
 unfold RetV
 cases ha : inB v 0 9
 · rw [show kaB v d = false by unfold kaB; rw [ha]; rfl, show kaV v d = ⟨#[]⟩ by unfold kaV kaB; rw [ha]; rfl]
   have HA := Lib.hid ha
   clear ha
   go_enter Try.func48, Try.ntmps48
   go_wp2_with fail
   refine (l1In_b _ _ _ _ _ HA.out).mono ?_
   rintro e w1 ⟨rfl, hb1⟩
   go_wp2
   go_ret2
   exact ⟨rfl, (by repeat (first | exact ext_refl _ | assumption | refine ext_alloc ?_ _ | refine ext_drew ?_ | refine ext_drewN ?_ _ | refine ext_set ?_ (by simp <;> omega) _ | refine ext_trans ?_ (by assumption)))⟩
 cases hb : inB d 1 9
 · rw [show kaB v d = false by unfold kaB; rw [ha, hb]; rfl, show kaV v d = ⟨#[]⟩ by unfold kaV kaB; rw [ha, hb]; rfl]
   have HA := Lib.hid ha
   have HB := Lib.hid hb
   clear ha hb
   go_enter Try.func48, Try.ntmps48
   go_wp2_with fail
   refine (l1In_b _ _ _ _ _ HA.out).mono ?_
   rintro e w1 ⟨rfl, hb1⟩
   go_wp2_with fail
   refine (l1In_b _ _ _ _ _ HB.out).mono ?_
   rintro e w2 ⟨rfl, hb2⟩
   go_wp2
   go_ret2
   exact ⟨rfl, (by repeat (first | exact ext_refl _ | assumption | refine ext_alloc ?_ _ | refine ext_drew ?_ | refine ext_drewN ?_ _ | refine ext_set ?_ (by simp <;> omega) _ | refine ext_trans ?_ (by assumption)))⟩
 · rw [show kaB v d = true by unfold kaB; rw [ha, hb]; rfl, show kaV v d = kN (kindO v d) by unfold kaV kaB; rw [ha, hb]; rfl]
   have hv := inB_iff.1 ha
   have hd := inB_iff.1 hb
   have HK := Lib.hid (fun w => l6Kind_any v d w hv.1 hv.2 hd.1 hd.2)
   have hk4 := kindO_lt v d
   obtain ⟨k, hk⟩ : ∃ k, kindO v d = k := ⟨_, rfl⟩
   rw [hk] at HK hk4 ⊢
   have HA := Lib.hid ha
   have HB := Lib.hid hb
   clear ha hb hv hd hk
   have HN := Lib.hid (fun w => l6Names_any k w hk4)
   go_enter Try.func48, Try.ntmps48
   go_wp2_with fail
   refine (l1In_b _ _ _ _ _ HA.out).mono ?_
   rintro e w1 ⟨rfl, hb1⟩
   go_wp2_with fail
   refine (l1In_b _ _ _ _ _ HB.out).mono ?_
   rintro e w2 ⟨rfl, hb2⟩
   go_wp2_with fail
   refine (HK.out _).mono ?_
   rintro e w3 ⟨rfl, hw3⟩
   subst hw3
   go_wp2_with fail
   refine (HN.out _).mono ?_
   rintro e w4 ⟨rfl, hb4⟩
   go_wp2
   go_ret2
   exact ⟨rfl, (by repeat (first | exact ext_refl _ | assumption | refine ext_alloc ?_ _ | refine ext_drew ?_ | refine ext_drewN ?_ _ | refine ext_set ?_ (by simp <;> omega) _ | refine ext_trans ?_ (by assumption)))⟩
end Go.Proofs.Ytajdmeajkgdioaa
