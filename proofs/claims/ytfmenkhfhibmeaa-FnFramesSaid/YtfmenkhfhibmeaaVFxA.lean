/- The texts of frames: both. -/
import Derived.Test.YtfmenkhfhibmeaaVM2
import Derived.Test.YtfmenkhfhibmeaaVM1
import Derived.Test.YtfmenkhfhibmeaaVM4
namespace Go.Proofs.Ytfmenkhfhibmeaa
open Go.RowKit
set_option linter.unusedVariables false
set_option linter.unusedSimpArgs false
def ftV (u lo : Int) (l : List R2) : ByteArray := if frB u lo l = true then str (tF u lo l) else ⟨#[]⟩
theorem text_d (z : Int) (w : World) (h0 : 0 ≤ z) (h9 : z ≤ 9) : Calls Try.prog 84 #[.int .i64 z] w fun e w' => e = .returned (.string ⟨#[dgZ z]⟩) ∧ Below w.heap.size w w' := by
 obtain ⟨n, rfl⟩ := Int.eq_ofNat_of_zero_le h0
 have hn : n < 10 := by omega
 have h := text_any (n : Int) w (by omega) (by omega)
 rw [show decI (n : Int) = ⟨#[dig n]⟩ by rw [decI_pos, dec_small hn]] at h
 exact h
theorem l1Num_d (z : Int) (w : World) (h0 : 0 ≤ z) (h9 : z ≤ 9) : Calls Try.prog 86 #[.int .i64 z] w fun e w' => e = .returned (.string ⟨#[dgZ z]⟩) ∧ Below w.heap.size w w' := by
 obtain ⟨n, rfl⟩ := Int.eq_ofNat_of_zero_le h0
 have hn : n < 10 := by omega
 have h := l1Num_any (n : Int) w (by omega) (by omega)
 rw [show decI (n : Int) = ⟨#[dig n]⟩ by rw [decI_pos, dec_small hn]] at h
 exact h
set_option maxRecDepth 100000 in
set_option maxHeartbeats 4000000 in
theorem frameText_any (u lo : Int) (A : Option Addr) (n c : Nat) (l : List R2) (w : World) (hf : frB u lo l = true) (h : Reads w w.heap.size 2 A n (rowsV2 l)) :
 Calls Try.prog 48 #[frV u lo A n c] w fun e w' => e = .returned (.string (str (tF u lo l))) ∧ Below w.heap.size w w' := by
 have hl := rows_len2 h
 have hh := frB_head hf
 have H := Lib.hid h
 have HF := Lib.hid hf
 have hbx := Lib.hid (ext_alloc (ext_refl w) (.cells #[.int .i64 u, .int .i64 lo, .slice A n c] 26))
 have BF0 := Lib.hid (Blk.born w #[.int .i64 u, .int .i64 lo, .slice A n c] 26 (H := w.heap.size) rfl)
 have hu : 0 ≤ u ∧ u ≤ 9 := by omega
 have hlo : 0 ≤ lo ∧ lo ≤ 9 := by omega
 rw [hl] at hh
 have hn8 : n ≤ 8 := by omega
 have HL := Lib.hid hl
 clear h hl hf hh
 go_enter Try.func48, Try.ntmps48
 go_wp2_with fail
 obtain ⟨W0, hW0⟩ : ∃ y : World, y = w.alloc (.cells #[.int .i64 u, .int .i64 lo, .slice A n c] 26) := ⟨_, rfl⟩
 rw [← hW0] at hbx BF0
 obtain ⟨p0, p1, p2⟩ := BF0.out.q3
 have lp := BF0.out.lt
 go_upto_region 1 with fail
 rw [← hW0]
 clear hW0
 (refine wp_region_later (by kernel_rfl) (by kernel_rfl) ?_; (repeat (go_big_quiet_step (first | (go_at_call 84; exact Calls.later_of (text_d _ _ (by omega) (by omega)))))); refine wpQuiet_nil ?_; intro w1 hw1; obtain ⟨⟨wl, hb⟩, hw1'⟩ := hw1; simp only at hw1'; subst hw1')
 have HB1 := Lib.hid (ext_trans hbx.out hb)
 have BF1 := Lib.hid (BF0.out.ext hb)
 clear hb p0 p1 p2 lp BF0 hbx
 obtain ⟨p0, p1, p2⟩ := BF1.out.q3
 have lp := BF1.out.lt
 go_wp2_with fail
 go_loopw [3, 17] (fun s i wr => ∃ (k : Nat) (S : ByteArray), k ≤ n ∧ i = .int .i64 k ∧ s = .string S ∧ S.size ≤ 3 + 3 * k ∧ Hid (bl S = [dgZ u, 47, dgZ lo] ++ (l.take k).flatMap rodT) ∧ Hid (Below w.heap.size w wr) ∧ Hid (Blk wr w.heap.size 26 #[.int .i64 u, .int .i64 lo, .slice A n c])) (fun _ i _ => n - (intOf i).toNat)
 case atStart => exact ⟨0, _, Nat.zero_le _, rfl, rfl, by simp only [ByteArray.size_append]; show 1 + 1 + 1 ≤ _; omega, Lib.hid (by simp only [bl_append]; rfl), HB1, BF1⟩
 case round =>
  clear HB1 BF1 p0 p1 p2 lp
  obtain ⟨k, S, hk, rfl, rfl, hS, HS, HX, BFr⟩ := hrel
  obtain ⟨q0, q1, q2⟩ := BFr.out.q3
  have lq := BFr.out.lt
  by_cases hlt : k < n
  · obtain ⟨r, hr⟩ := list_split (l := l) (k := k) (by rw [HL.out]; exact hlt)
    have hrs := (fr_small HF.out).2.2 k r hr
    obtain ⟨V, hV⟩ : ∃ V : World, V = wr := ⟨_, rfl⟩
    subst hV
    obtain ⟨b, o, rfl, hbb, c0, c1⟩ := rows_at2 (rdx H.out HX.out) hr
    have HTK := Lib.hid (show (l.take (k + 1)).flatMap rodT = (l.take k).flatMap rodT ++ [32, dgZ r.a, dgZ r.b] by rw [List.take_add_one, hr, List.flatMap_append]; simp [rodT])
    have k1 : (k : Int) < (n : Int) := by omega
    have k0 : (0 : Int) ≤ (k : Int) := by omega
    clear hr
    have hq := fun (m : Later (V.alloc (.cells #[.int .i64 r.a, .int .i64 r.b] 55))) => m.h
    go_upto_region 5 with fail
    obtain ⟨N, hN⟩ : ∃ N, N = V.heap.size := ⟨_, rfl⟩
    obtain ⟨Wb, hWb⟩ : ∃ y : World, y = V.alloc (.cells #[.int .i64 r.a, .int .i64 r.b] 55) := ⟨_, rfl⟩
    have v0 : Wb.cell? ⟨N, 0, none⟩ = some (.int .i64 r.a) := by rw [hWb, hN]; simp [go_sem]
    have v1 : Wb.cell? ⟨N, 1, none⟩ = some (.int .i64 r.b) := by rw [hWb, hN]; simp [go_sem]
    have hNl : N < Wb.heap.size := by rw [hWb, hN]; simp
    have HXb := Lib.hid (show Below w.heap.size w Wb by rw [hWb]; exact ext_alloc HX.out _)
    have BFb := Lib.hid (show Blk Wb w.heap.size 26 #[.int .i64 u, .int .i64 lo, .slice (some ⟨b, o, none⟩) n c] by rw [hWb]; exact BFr.out.al _)
    rw [← hN, ← hWb]
    clear hN hWb q0 q1 q2 lq BFr HX hq c0 c1
    (refine wp_region_later (by kernel_rfl) (by kernel_rfl) ?_; (repeat (go_big_quiet_step (first | (go_at_call 84; exact Calls.later_of (text_d _ _ (by omega) (by omega)))))); refine wpQuiet_nil ?_; intro w5 hw1; obtain ⟨⟨wl, hb⟩, hw1'⟩ := hw1; simp only at hw1'; subst hw1')
    have HX5 := Lib.hid (ext_trans HXb.out hb)
    have BF5 := Lib.hid (BFb.out.ext hb)
    clear hb v0 v1 hNl
    go_wp2
    go_roundw
    case rel => exact ⟨k + 1, _, by omega, by go_num, rfl, by simp only [ByteArray.size_append]; show _ ≤ 3 + 3 * (k + 1); (have e1 : (⟨#[dgZ r.a]⟩ : ByteArray).size = 1 := rfl; have e2 : (⟨#[dgZ r.b]⟩ : ByteArray).size = 1 := rfl; have e3 : (⟨#[32]⟩ : ByteArray).size = 1 := rfl; omega), Lib.hid (by rw [HTK.out]; simp only [bl_append]; rw [HS.out]; simp; rfl), HX5, BF5⟩
    case measure => simp [intOf]; omega
  · obtain rfl : k = n := by omega
    have HFIN := Lib.hid (show S = str (tF u lo l) by
     apply bl_inj
     rw [HS.out, bl_str, List.take_of_length_le (by rw [HL.out]; exact Nat.le_refl _)]
     rfl)
    go_wp2
    go_ret
    exact ⟨by rw [HFIN.out]; rfl, HX.out⟩
set_option maxRecDepth 100000 in
set_option maxHeartbeats 4000000 in
theorem l2Text_any (u lo : Int) (A : Option Addr) (n c : Nat) (l : List R2) (w : World) (hf : frB u lo l = true) (h : Reads w w.heap.size 2 A n (rowsV2 l)) :
 Calls Try.prog 50 #[frV u lo A n c] w fun e w' => e = .returned (.string (str (tF u lo l))) ∧ Below w.heap.size w w' := by
 have hl := rows_len2 h
 have hh := frB_head hf
 have H := Lib.hid h
 have HF := Lib.hid hf
 have hbx := Lib.hid (ext_alloc (ext_refl w) (.cells #[.int .i64 u, .int .i64 lo, .slice A n c] 26))
 have BF0 := Lib.hid (Blk.born w #[.int .i64 u, .int .i64 lo, .slice A n c] 26 (H := w.heap.size) rfl)
 have hu : 0 ≤ u ∧ u ≤ 9 := by omega
 have hlo : 0 ≤ lo ∧ lo ≤ 9 := by omega
 rw [hl] at hh
 have hn8 : n ≤ 8 := by omega
 have HL := Lib.hid hl
 clear h hl hf hh
 go_enter Try.func50, Try.ntmps50
 go_wp2_with fail
 obtain ⟨W0, hW0⟩ : ∃ y : World, y = w.alloc (.cells #[.int .i64 u, .int .i64 lo, .slice A n c] 26) := ⟨_, rfl⟩
 rw [← hW0] at hbx BF0
 obtain ⟨p0, p1, p2⟩ := BF0.out.q3
 have lp := BF0.out.lt
 go_upto_region 1 with fail
 rw [← hW0]
 clear hW0
 (refine wp_region_later (by kernel_rfl) (by kernel_rfl) ?_; (repeat (go_big_quiet_step (first | (go_at_call 86; exact Calls.later_of (l1Num_d _ _ (by omega) (by omega)))))); refine wpQuiet_nil ?_; intro w1 hw1; obtain ⟨⟨wl, hb⟩, hw1'⟩ := hw1; simp only at hw1'; subst hw1')
 have HB1 := Lib.hid (ext_trans hbx.out hb)
 have BF1 := Lib.hid (BF0.out.ext hb)
 clear hb p0 p1 p2 lp BF0 hbx
 obtain ⟨p0, p1, p2⟩ := BF1.out.q3
 have lp := BF1.out.lt
 go_wp2_with fail
 go_loopw [3, 4] (fun s i wr => ∃ (k : Nat) (S : ByteArray), k ≤ n ∧ i = .int .i64 k ∧ s = .string S ∧ S.size ≤ 3 + 3 * k ∧ Hid (bl S = [dgZ u, 47, dgZ lo] ++ (l.take k).flatMap rodT) ∧ Hid (Below w.heap.size w wr) ∧ Hid (Blk wr w.heap.size 26 #[.int .i64 u, .int .i64 lo, .slice A n c])) (fun _ i _ => n - (intOf i).toNat)
 case atStart => exact ⟨0, _, Nat.zero_le _, rfl, rfl, by simp only [ByteArray.size_append]; show 1 + 1 + 1 ≤ _; omega, Lib.hid (by simp only [bl_append]; rfl), HB1, BF1⟩
 case round =>
  clear HB1 BF1 p0 p1 p2 lp
  obtain ⟨k, S, hk, rfl, rfl, hS, HS, HX, BFr⟩ := hrel
  obtain ⟨q0, q1, q2⟩ := BFr.out.q3
  have lq := BFr.out.lt
  by_cases hlt : k < n
  · obtain ⟨r, hr⟩ := list_split (l := l) (k := k) (by rw [HL.out]; exact hlt)
    have hrs := (fr_small HF.out).2.2 k r hr
    obtain ⟨V, hV⟩ : ∃ V : World, V = wr := ⟨_, rfl⟩
    subst hV
    obtain ⟨b, o, rfl, hbb, c0, c1⟩ := rows_at2 (rdx H.out HX.out) hr
    have HTK := Lib.hid (show (l.take (k + 1)).flatMap rodT = (l.take k).flatMap rodT ++ [32, dgZ r.a, dgZ r.b] by rw [List.take_add_one, hr, List.flatMap_append]; simp [rodT])
    have k1 : (k : Int) < (n : Int) := by omega
    have k0 : (0 : Int) ≤ (k : Int) := by omega
    clear hr
    go_upto_region 5 with fail
    (refine wp_region_later (by kernel_rfl) (by kernel_rfl) ?_; (repeat (go_big_quiet_step (first | (go_at_call 86; exact Calls.later_of (l1Num_d _ _ (by omega) (by omega)))))); refine wpQuiet_nil ?_; intro w5 hw1; obtain ⟨⟨wl, hb⟩, hw1'⟩ := hw1; simp only at hw1'; subst hw1')
    have HX5 := Lib.hid (ext_trans HX.out hb)
    have BF5 := Lib.hid (BFr.out.ext hb)
    clear hb q0 q1 q2 lq c0 c1
    go_wp2
    go_roundw
    case rel => exact ⟨k + 1, _, by omega, by go_num, rfl, by simp only [ByteArray.size_append]; show _ ≤ 3 + 3 * (k + 1); (have e1 : (⟨#[dgZ r.a]⟩ : ByteArray).size = 1 := rfl; have e2 : (⟨#[dgZ r.b]⟩ : ByteArray).size = 1 := rfl; have e3 : (⟨#[32]⟩ : ByteArray).size = 1 := rfl; omega), Lib.hid (by rw [HTK.out]; simp only [bl_append]; rw [HS.out]; simp; rfl), HX5, BF5⟩
    case measure => simp [intOf]; omega
  · obtain rfl : k = n := by omega
    have HFIN := Lib.hid (show S = str (tF u lo l) by
     apply bl_inj
     rw [HS.out, bl_str, List.take_of_length_le (by rw [HL.out]; exact Nat.le_refl _)]
     rfl)
    go_wp2
    go_ret
    exact ⟨by rw [HFIN.out]; rfl, HX.out⟩
set_option maxHeartbeats 2000000 in
theorem implFrameText_any (u lo : Int) (A : Option Addr) (n c : Nat) (l : List R2) (w : World) (hn : n ≤ 1048576) (h : Reads w w.heap.size 2 A n (rowsV2 l)) :
 Calls Try.prog 8 #[frV u lo A n c] w (RetV (.tuple #[.string (ftV u lo l), .bool (frB u lo l)]) w) := by
 have H := Lib.hid h
 have hbx := Lib.hid (ext_alloc (ext_refl w) (.cells #[.int .i64 u, .int .i64 lo, .slice A n c] 26))
 have BF0 := Lib.hid (Blk.born w #[.int .i64 u, .int .i64 lo, .slice A n c] 26 (H := w.heap.size) rfl)
 have HG := Lib.hid (fun w h => isFrame_any u lo A n c l w hn h)
 unfold RetV
 cases hf : frB u lo l
 · rw [show ftV u lo l = ⟨#[]⟩ by unfold ftV; rw [if_neg (by rw [hf]; simp)]]
   rw [hf] at HG
   clear h hf
   go_enter Try.func8, Try.ntmps8
   go_wp2_with fail
   refine (HG.out _ (rdx H.out hbx.out)).mono ?_
   rintro e w1 ⟨rfl, hb1⟩
   go_wp2
   go_ret2
   exact ⟨rfl, ext_trans hbx.out hb1⟩
 · rw [show ftV u lo l = str (tF u lo l) by unfold ftV; rw [if_pos hf]]
   rw [hf] at HG
   have HT := Lib.hid (fun w h => frameText_any u lo A n c l w hf h)
   clear h hf
   go_enter Try.func8, Try.ntmps8
   go_wp2_with fail
   refine (HG.out _ (rdx H.out hbx.out)).mono ?_
   rintro e w1 ⟨rfl, hb1⟩
   have BF1 := Lib.hid (BF0.out.ext hb1)
   have HB1 := Lib.hid (ext_trans hbx.out hb1)
   clear hb1
   obtain ⟨p0, p1, p2⟩ := BF1.out.q3
   have lp := BF1.out.lt
   go_wp2_with fail
   refine (HT.out _ (rdx H.out HB1.out)).mono ?_
   rintro e w2 ⟨rfl, hb2⟩
   have HB2 := Lib.hid (ext_trans HB1.out hb2)
   clear hb2
   go_wp2
   go_ret2
   exact ⟨rfl, HB2.out⟩
set_option maxHeartbeats 2000000 in
theorem specFrameText_any (u lo : Int) (A : Option Addr) (n c : Nat) (l : List R2) (w : World) (hn : n ≤ 1048576) (h : Reads w w.heap.size 2 A n (rowsV2 l)) :
 Calls Try.prog 10 #[frV u lo A n c] w (RetV (.tuple #[.string (ftV u lo l), .bool (frB u lo l)]) w) := by
 have H := Lib.hid h
 have hbx := Lib.hid (ext_alloc (ext_refl w) (.cells #[.int .i64 u, .int .i64 lo, .slice A n c] 26))
 have BF0 := Lib.hid (Blk.born w #[.int .i64 u, .int .i64 lo, .slice A n c] 26 (H := w.heap.size) rfl)
 have HG := Lib.hid (fun w h => l2Good_any u lo A n c l w hn h)
 unfold RetV
 cases hf : frB u lo l
 · rw [show ftV u lo l = ⟨#[]⟩ by unfold ftV; rw [if_neg (by rw [hf]; simp)]]
   rw [hf] at HG
   clear h hf
   go_enter Try.func10, Try.ntmps10
   go_wp2_with fail
   refine (HG.out _ (rdx H.out hbx.out)).mono ?_
   rintro e w1 ⟨rfl, hb1⟩
   go_wp2
   go_ret2
   exact ⟨rfl, ext_trans hbx.out hb1⟩
 · rw [show ftV u lo l = str (tF u lo l) by unfold ftV; rw [if_pos hf]]
   rw [hf] at HG
   have HT := Lib.hid (fun w h => l2Text_any u lo A n c l w hf h)
   clear h hf
   go_enter Try.func10, Try.ntmps10
   go_wp2_with fail
   refine (HG.out _ (rdx H.out hbx.out)).mono ?_
   rintro e w1 ⟨rfl, hb1⟩
   have BF1 := Lib.hid (BF0.out.ext hb1)
   have HB1 := Lib.hid (ext_trans hbx.out hb1)
   clear hb1
   obtain ⟨p0, p1, p2⟩ := BF1.out.q3
   have lp := BF1.out.lt
   go_wp2_with fail
   refine (HT.out _ (rdx H.out HB1.out)).mono ?_
   rintro e w2 ⟨rfl, hb2⟩
   have HB2 := Lib.hid (ext_trans HB1.out hb2)
   clear hb2
   go_wp2
   go_ret2
   exact ⟨rfl, HB2.out⟩
end Go.Proofs.Ytfmenkhfhibmeaa
