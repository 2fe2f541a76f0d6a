
/- AddDigitMoves, AddNumberMoves, TakeDigitMoves, TakeNumberMoves: the reference's. -/
import Derived.Test.YtlkfffohjeoooaaFrQ
namespace Go.Proofs.Ytlkfffohjeoooaa
open Go.RowKit
set_option linter.unusedVariables false
set_option linter.unusedSimpArgs false
theorem specAddDigitMoves_any (u lo : Int) (A : Option Addr) (n c : Nat) (l : List R2) (rod d : Int) (w : World) (hn : n ≤ 1048576) (h : Reads w w.heap.size 2 A n (rowsV2 l)) :
    Calls Try.prog 174 #[frV u lo A n c, .int .i64 rod, .int .i64 d] w (RetMv w (addDms u lo l rod d) (addDigitB u lo l rod d)) := by
  have hl := rows_len2 h
  have H := Lib.hid h
  cases hg : addDigitB u lo l rod d
  · have e : addDms u lo l rod d = [] := by simp [addDms, hg]
    rw [e]
    have HG := Lib.hid hg
    clear h e hg hl
    go_enter Try.func174, Try.ntmps174
    go_wp2_with fail
    refine (l6CanDigit_any u lo A n c l rod d _ hn (rdx H.out (ext_alloc (ext_refl w) _))).mono ?_
    rw [HG.out]
    rintro e w1 ⟨rfl, hb1⟩
    have hb2 := Lib.hid (ext_trans (ext_alloc (ext_refl w) _) hb1)
    have ho := Lib.hid (own_lit_at w1 113 3 (H := w1.heap.size) (B := w.heap.size) rfl hb2.out.size)
    clear hb1
    go_wp2
    go_ret2
    exact ⟨_, _, rfl, ho.out, ext_alloc hb2.out _⟩
  · have e : addDms u lo l rod d = (addS (rod.toNat + 1) d ⟨dsOf l, [], 0⟩).ms := by simp [addDms, hg]
    rw [e]
    have hg' := hg
    unfold addDigitB at hg'
    rw [hl] at hg'
    simp only [Bool.and_eq_true] at hg'
    obtain ⟨⟨⟨hgd, hr⟩, hd⟩, hcb⟩ := hg'
    have hf := good_fr hgd
    have hs := good_std hgd
    have hn8 := (frB_head hf).2.2.2
    rw [hl] at hn8
    obtain ⟨r0, r1⟩ := inB_iff.1 hr
    obtain ⟨d0, d9⟩ := inB_iff.1 hd
    obtain ⟨r, rfl⟩ := Int.eq_ofNat_of_zero_le r0
    have hrn : r < n := by omega
    have hdl : (dsOf l).length = n := by rw [dsOf_len, hl]
    rw [show (r : Int).toNat = r from rfl] at hcb ⊢
    have FIT := Lib.hid (show AddFit (r + 1) d (dsOf l) from ⟨by omega, d0, d9, dsOf_WF hf hs, by have := canAdd_fit hcb; rw [hdl]; (try rw [hdl] at this); exact this⟩)
    have H2 := Lib.hid (show Reads w w.heap.size 2 A n (rowsV2 (rodsD (dsOf l))) by rw [rodsD_dsOf hf hs]; exact h)
    obtain ⟨S, hS⟩ : ∃ S, S = addS (r + 1) d ⟨dsOf l, [], 0⟩ := ⟨_, rfl⟩
    rw [← hS]
    have HS := Lib.hid hS
    have HG := Lib.hid hg
    have HDL := Lib.hid hdl
    clear h e hg hgd hr hd hcb hf hs hdl hS hl
    go_enter Try.func174, Try.ntmps174
    go_wp2_with fail
    refine (l6CanDigit_any u lo A n c l r d _ hn (rdx H.out (ext_alloc (ext_refl w) _))).mono ?_
    rw [HG.out]
    rintro e w1 ⟨rfl, hb1⟩
    obtain ⟨BF, hb2, hs2⟩ := box_frame (by simpa using hb1)
    have hb2 := Lib.hid hb2
    obtain ⟨c0, c1, c2⟩ := BF.q3
    clear BF hb1
    go_wp2_with fail
    refine (l6Digit_n u lo A n c (dsOf l) r d S _ HDL.out hn8 FIT.out HS.out (rdx H2.out hb2.out)).mono ?_
    rintro e w2 ⟨A1, c1, h1, cr1, rfl, hm1, hr1, hb3⟩
    have hm1 := Lib.hid (own_base (base' := w.heap.size) hm1 hb2.out.size)
    have hb4 := Lib.hid (ext_trans hb2.out hb3)
    clear hb3 hr1
    go_wp2
    go_ret2
    exact ⟨_, _, rfl, hm1.out.alloc _, ext_alloc hb4.out _⟩
theorem specTakeDigitMoves_any (u lo : Int) (A : Option Addr) (n c : Nat) (l : List R2) (rod d : Int) (w : World) (hn : n ≤ 1048576) (h : Reads w w.heap.size 2 A n (rowsV2 l)) :
    Calls Try.prog 176 #[frV u lo A n c, .int .i64 rod, .int .i64 d] w (RetMv w (takeDms u lo l rod d) (takeDigitB u lo l rod d)) := by
  have hl := rows_len2 h
  have H := Lib.hid h
  cases hg : takeDigitB u lo l rod d
  · have e : takeDms u lo l rod d = [] := by simp [takeDms, hg]
    rw [e]
    have HG := Lib.hid hg
    clear h e hg hl
    go_enter Try.func176, Try.ntmps176
    go_wp2_with fail
    refine (l8CanDigit_any u lo A n c l rod d _ hn (rdx H.out (ext_alloc (ext_refl w) _))).mono ?_
    rw [HG.out]
    rintro e w1 ⟨rfl, hb1⟩
    have hb2 := Lib.hid (ext_trans (ext_alloc (ext_refl w) _) hb1)
    have ho := Lib.hid (own_lit_at w1 113 3 (H := w1.heap.size) (B := w.heap.size) rfl hb2.out.size)
    clear hb1
    go_wp2
    go_ret2
    exact ⟨_, _, rfl, ho.out, ext_alloc hb2.out _⟩
  · have e : takeDms u lo l rod d = (takeS (rod.toNat + 1) d ⟨dsOf l, [], 0⟩).ms := by simp [takeDms, hg]
    rw [e]
    have hg' := hg
    unfold takeDigitB at hg'
    rw [hl] at hg'
    simp only [Bool.and_eq_true] at hg'
    obtain ⟨⟨⟨hgd, hr⟩, hd⟩, hcb⟩ := hg'
    have hf := good_fr hgd
    have hs := good_std hgd
    have hn8 := (frB_head hf).2.2.2
    rw [hl] at hn8
    obtain ⟨r0, r1⟩ := inB_iff.1 hr
    obtain ⟨d0, d9⟩ := inB_iff.1 hd
    obtain ⟨r, rfl⟩ := Int.eq_ofNat_of_zero_le r0
    have hrn : r < n := by omega
    have hdl : (dsOf l).length = n := by rw [dsOf_len, hl]
    rw [show (r : Int).toNat = r from rfl] at hcb ⊢
    have FIT := Lib.hid (show TakeFit (r + 1) d (dsOf l) from ⟨by omega, d0, d9, dsOf_WF hf hs, by have := canTake_fit hcb; rw [hdl]; (try rw [hdl] at this); exact this⟩)
    have H2 := Lib.hid (show Reads w w.heap.size 2 A n (rowsV2 (rodsD (dsOf l))) by rw [rodsD_dsOf hf hs]; exact h)
    obtain ⟨S, hS⟩ : ∃ S, S = takeS (r + 1) d ⟨dsOf l, [], 0⟩ := ⟨_, rfl⟩
    rw [← hS]
    have HS := Lib.hid hS
    have HG := Lib.hid hg
    have HDL := Lib.hid hdl
    clear h e hg hgd hr hd hcb hf hs hdl hS hl
    go_enter Try.func176, Try.ntmps176
    go_wp2_with fail
    refine (l8CanDigit_any u lo A n c l r d _ hn (rdx H.out (ext_alloc (ext_refl w) _))).mono ?_
    rw [HG.out]
    rintro e w1 ⟨rfl, hb1⟩
    obtain ⟨BF, hb2, hs2⟩ := box_frame (by simpa using hb1)
    have hb2 := Lib.hid hb2
    obtain ⟨c0, c1, c2⟩ := BF.q3
    clear BF hb1
    go_wp2_with fail
    refine (l8Digit_n u lo A n c (dsOf l) r d S _ HDL.out hn8 FIT.out HS.out (rdx H2.out hb2.out)).mono ?_
    rintro e w2 ⟨A1, c1, h1, cr1, rfl, hm1, hr1, hb3⟩
    have hm1 := Lib.hid (own_base (base' := w.heap.size) hm1 hb2.out.size)
    have hb4 := Lib.hid (ext_trans hb2.out hb3)
    clear hb3 hr1
    go_wp2
    go_ret2
    exact ⟨_, _, rfl, hm1.out.alloc _, ext_alloc hb4.out _⟩
end Go.Proofs.Ytlkfffohjeoooaa
