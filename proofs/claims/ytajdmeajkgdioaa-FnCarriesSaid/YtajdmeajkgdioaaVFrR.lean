/- AddDigitMoves, AddNumberMoves, TakeDigitMoves, TakeNumberMoves: the reference's. -/
import Derived.Test.YtajdmeajkgdioaaVFrQ
namespace Go.Proofs.Ytajdmeajkgdioaa
open Go.RowKit
set_option linter.unusedVariables false
set_option linter.unusedSimpArgs false
theorem specAddDigitMoves_any (u lo : Int) (A : Option Addr) (n c : Nat) (l : List R2) (rod d : Int) (w : World) (hn : n ≤ 1048576) (h : Reads w w.heap.size 2 A n (rowsV2 l)) :
 Calls Try.prog 21 #[frV u lo A n c, .int .i64 rod, .int .i64 d] w (RetMv w (addDms u lo l rod d) (addDigitB u lo l rod d)) := by
 have hl := rows_len2 h
 have H := Lib.hid h
 cases hg : addDigitB u lo l rod d
 · have e : addDms u lo l rod d = [] := by simp [addDms, hg]
   rw [e]
   have HG := Lib.hid hg
   clear h e hg hl
   go_enter Try.func21, Try.ntmps21
   go_wp2_with fail
   refine (l6CanDigit_any u lo A n c l rod d _ hn (rdx H.out (ext_alloc (ext_refl w) _))).mono ?_
   rw [HG.out]
   rintro e w1 ⟨rfl, hb1⟩
   have hb2 := Lib.hid (ext_trans (ext_alloc (ext_refl w) _) hb1)
   have ho := Lib.hid (own_lit_at w1 72 3 (H := w1.heap.size) (B := w.heap.size) rfl hb2.out.size)
   clear hb1
   go_wp2
   go_ret2
   exact ⟨_, _, rfl, ho.out, ext_alloc hb2.out _⟩
 · have e : addDms u lo l rod d = (addS (rod.toNat + 1) d ⟨dsOf l, [], 0⟩).ms := by simp [addDms, hg]
   rw [e]
   have hg' := hg
   unfold addDigitB at hg'
   rw [hl] at hg'
   simp only [Bool.and_eq_true] at hg'
   obtain ⟨⟨⟨hgd, hr⟩, hd⟩, hcb⟩ := hg'
   have hf := good_fr hgd
   have hs := good_std hgd
   have hn8 := (frB_head hf).2.2.2
   rw [hl] at hn8
   obtain ⟨r0, r1⟩ := inB_iff.1 hr
   obtain ⟨d0, d9⟩ := inB_iff.1 hd
   obtain ⟨r, rfl⟩ := Int.eq_ofNat_of_zero_le r0
   have hrn : r < n := by omega
   have hdl : (dsOf l).length = n := by rw [dsOf_len, hl]
   rw [show (r : Int).toNat = r from rfl] at hcb ⊢
   have FIT := Lib.hid (show AddFit (r + 1) d (dsOf l) from ⟨by omega, d0, d9, dsOf_WF hf hs, by have := canAdd_fit hcb; rw [hdl]; (try rw [hdl] at this); exact this⟩)
   have H2 := Lib.hid (show Reads w w.heap.size 2 A n (rowsV2 (rodsD (dsOf l))) by rw [rodsD_dsOf hf hs]; exact h)
   obtain ⟨S, hS⟩ : ∃ S, S = addS (r + 1) d ⟨dsOf l, [], 0⟩ := ⟨_, rfl⟩
   rw [← hS]
   have HS := Lib.hid hS
   have HG := Lib.hid hg
   have HDL := Lib.hid hdl
   clear h e hg hgd hr hd hcb hf hs hdl hS hl
   go_enter Try.func21, Try.ntmps21
   go_wp2_with fail
   refine (l6CanDigit_any u lo A n c l r d _ hn (rdx H.out (ext_alloc (ext_refl w) _))).mono ?_
   rw [HG.out]
   rintro e w1 ⟨rfl, hb1⟩
   obtain ⟨BF, hb2, hs2⟩ := box_frame (by simpa using hb1)
   have hb2 := Lib.hid hb2
   obtain ⟨c0, c1, c2⟩ := BF.q3
   clear BF hb1
   go_wp2_with fail
   refine (l6Digit_n u lo A n c (dsOf l) r d S _ HDL.out hn8 FIT.out HS.out (rdx H2.out hb2.out)).mono ?_
   rintro e w2 ⟨A1, c1, h1, cr1, rfl, hm1, hr1, hb3⟩
   have hm1 := Lib.hid (own_base (base' := w.heap.size) hm1 hb2.out.size)
   have hb4 := Lib.hid (ext_trans hb2.out hb3)
   clear hb3 hr1
   go_wp2
   go_ret2
   exact ⟨_, _, rfl, hm1.out.alloc _, ext_alloc hb4.out _⟩
theorem specTakeDigitMoves_any (u lo : Int) (A : Option Addr) (n c : Nat) (l : List R2) (rod d : Int) (w : World) (hn : n ≤ 1048576) (h : Reads w w.heap.size 2 A n (rowsV2 l)) :
 Calls Try.prog 34 #[frV u lo A n c, .int .i64 rod, .int .i64 d] w (RetMv w (takeDms u lo l rod d) (takeDigitB u lo l rod d)) := by
 have hl := rows_len2 h
 have H := Lib.hid h
 cases hg : takeDigitB u lo l rod d
 · have e : takeDms u lo l rod d = [] := by simp [takeDms, hg]
   rw [e]
   have HG := Lib.hid hg
   clear h e hg hl
   go_enter Try.func34, Try.ntmps34
   go_wp2_with fail
   refine (l8CanDigit_any u lo A n c l rod d _ hn (rdx H.out (ext_alloc (ext_refl w) _))).mono ?_
   rw [HG.out]
   rintro e w1 ⟨rfl, hb1⟩
   have hb2 := Lib.hid (ext_trans (ext_alloc (ext_refl w) _) hb1)
   have ho := Lib.hid (own_lit_at w1 72 3 (H := w1.heap.size) (B := w.heap.size) rfl hb2.out.size)
   clear hb1
   go_wp2
   go_ret2
   exact ⟨_, _, rfl, ho.out, ext_alloc hb2.out _⟩
 · have e : takeDms u lo l rod d = (takeS (rod.toNat + 1) d ⟨dsOf l, [], 0⟩).ms := by simp [takeDms, hg]
   rw [e]
   have hg' := hg
   unfold takeDigitB at hg'
   rw [hl] at hg'
   simp only [Bool.and_eq_true] at hg'
   obtain ⟨⟨⟨hgd, hr⟩, hd⟩, hcb⟩ := hg'
   have hf := good_fr hgd
   have hs := good_std hgd
   have hn8 := (frB_head hf).2.2.2
   rw [hl] at hn8
   obtain ⟨r0, r1⟩ := inB_iff.1 hr
   obtain ⟨d0, d9⟩ := inB_iff.1 hd
   obtain ⟨r, rfl⟩ := Int.eq_ofNat_of_zero_le r0
   have hrn : r < n := by omega
   have hdl : (dsOf l).length = n := by rw [dsOf_len, hl]
   rw [show (r : Int).toNat = r from rfl] at hcb ⊢
   have FIT := Lib.hid (show TakeFit (r + 1) d (dsOf l) from ⟨by omega, d0, d9, dsOf_WF hf hs, by have := canTake_fit hcb; rw [hdl]; (try rw [hdl] at this); exact this⟩)
   have H2 := Lib.hid (show Reads w w.heap.size 2 A n (rowsV2 (rodsD (dsOf l))) by rw [rodsD_dsOf hf hs]; exact h)
   obtain ⟨S, hS⟩ : ∃ S, S = takeS (r + 1) d ⟨dsOf l, [], 0⟩ := ⟨_, rfl⟩
   rw [← hS]
   have HS := Lib.hid hS
   have HG := Lib.hid hg
   have HDL := Lib.hid hdl
   clear h e hg hgd hr hd hcb hf hs hdl hS hl
   go_enter Try.func34, Try.ntmps34
   go_wp2_with fail
   refine (l8CanDigit_any u lo A n c l r d _ hn (rdx H.out (ext_alloc (ext_refl w) _))).mono ?_
   rw [HG.out]
   rintro e w1 ⟨rfl, hb1⟩
   obtain ⟨BF, hb2, hs2⟩ := box_frame (by simpa using hb1)
   have hb2 := Lib.hid hb2
   obtain ⟨c0, c1, c2⟩ := BF.q3
   clear BF hb1
   go_wp2_with fail
   refine (l8Digit_n u lo A n c (dsOf l) r d S _ HDL.out hn8 FIT.out HS.out (rdx H2.out hb2.out)).mono ?_
   rintro e w2 ⟨A1, c1, h1, cr1, rfl, hm1, hr1, hb3⟩
   have hm1 := Lib.hid (own_base (base' := w.heap.size) hm1 hb2.out.size)
   have hb4 := Lib.hid (ext_trans hb2.out hb3)
   clear hb3 hr1
   go_wp2
   go_ret2
   exact ⟨_, _, rfl, hm1.out.alloc _, ext_alloc hb4.out _⟩
set_option maxRecDepth 100000 in
theorem specAddNumberMoves_any (u lo : Int) (A : Option Addr) (n c : Nat) (l : List R2) (m : Int) (w : World) (hn : n ≤ 1048576) (h : Reads w w.heap.size 2 A n (rowsV2 l)) :
 Calls Try.prog 12 #[frV u lo A n c, .int .i64 m] w (RetMv w (addNms u lo l m) (addNmok u lo l m)) := by
 have hl := rows_len2 h
 have H := Lib.hid h
 cases hg : addNok u lo l m
 · have e0 : addNmok u lo l m = false := by simp [addNmok, hg]
   have e : addNms u lo l m = [] := by simp [addNms, e0]
   rw [e, e0]
   have HG := Lib.hid hg
   clear h e e0 hg hl
   go_enter Try.func12, Try.ntmps12
   go_wp2_with fail
   refine (l6Can_any u lo A n c l m _ hn (rdx H.out (ext_alloc (ext_refl w) _))).mono ?_
   rw [HG.out]
   rintro e w1 ⟨rfl, hb1⟩
   have hb2 := Lib.hid (ext_trans (ext_alloc (ext_refl w) _) hb1)
   have ho := Lib.hid (own_lit_at w1 72 3 (H := w1.heap.size) (B := w.heap.size) rfl hb2.out.size)
   clear hb1
   go_wp2
   go_ret2
   exact ⟨_, _, rfl, ho.out, ext_alloc hb2.out _⟩
 · have hg' := hg
   unfold addNok at hg'
   simp only [Bool.and_eq_true] at hg'
   obtain ⟨hgd, hcb⟩ := hg'
   have hf := good_fr hgd
   have hs := good_std hgd
   have hn1 := (frB_head hf).2.2.1
   have hn8 := (frB_head hf).2.2.2
   rw [hl] at hn1 hn8
   have hdl : (dsOf l).length = n := by rw [dsOf_len, hl]
   have m0 : 0 ≤ m := canAdd_nonneg hcb
   have m1 : m < 200000000 := canAdd_bound hf hcb
   have FIT : ∀ k, k < n → AddFit (k + 1) (dg n m k) (addN n m ⟨dsOf l, [], 0⟩ k).ds := by
    intro k hk
    have := (addN_facts (s := ⟨dsOf l, [], 0⟩) (m := m) (dsOf_WF hf hs) m0 (canAdd_fit hcb) k (by show k ≤ (dsOf l).length; omega)).2 (by show k < (dsOf l).length; omega)
    rwa [show (WS.ds ⟨dsOf l, [], 0⟩).length = n from hdl] at this
   have FIT := Lib.hid FIT
   have H2 := Lib.hid (show Reads w w.heap.size 2 A n (rowsV2 (rodsD (dsOf l))) by rw [rodsD_dsOf hf hs]; exact h)
   have HG := Lib.hid hg
   have HDL := Lib.hid hdl
   have ES : addNst l m = addN n m ⟨dsOf l, [], 0⟩ n := by rw [← hl]; rfl
   have EB : addNmok u lo l m = decide ((addNst l m).ms.length ≤ 60) := by simp [addNmok, hg]
   have EM : addNms u lo l m = if (addNst l m).ms.length ≤ 60 then (addNst l m).ms else [] := by simp [addNms, EB]
   have EN : (addNst l m).ms.length ≤ 16 * n := by
    rw [ES]
    have := addN_msl n m ⟨dsOf l, [], 0⟩ n (by omega)
    simpa using this
   obtain ⟨st, hst⟩ : ∃ st, st = addN n m ⟨dsOf l, [], 0⟩ n := ⟨_, rfl⟩
   rw [EB, EM, ES, ← hst]
   rw [ES, ← hst] at EN
   have HST := Lib.hid hst
   clear h hg hgd hcb hf hs hdl hl EB EM ES hst
   by_cases h60 : st.ms.length ≤ 60
   · rw [if_pos h60]
     have hd : decide (st.ms.length ≤ 60) = true := by simpa using h60
     rw [hd]
     clear hd
     go_enter Try.func12, Try.ntmps12
     go_wp2_with fail
     refine (l6Can_any u lo A n c l m _ hn (rdx H.out (ext_alloc (ext_refl w) _))).mono ?_
     rw [HG.out]
     rintro e w1 ⟨rfl, hb1⟩
     obtain ⟨BF, hb2, hs2⟩ := box_frame (by simpa using hb1)
     have hb2 := Lib.hid hb2
     obtain ⟨c0, c1, c2⟩ := BF.q3
     clear BF hb1
     go_wp2_with fail
     refine (l6Number_any u lo A n c (dsOf l) m _ HDL.out hn1 hn8 m0 m1 FIT.out (rdx H2.out hb2.out)).mono ?_
     rw [← HST.out]
     rintro e w2 ⟨A1, c1, h1, cr1, rfl, hm1, hr1, hb3⟩
     have hm1 := Lib.hid (own_base (base' := w.heap.size) hm1 hb2.out.size)
     have hb4 := Lib.hid (ext_trans hb2.out hb3)
     clear hb3 hr1
     go_wp2
     go_ret2
     exact ⟨_, _, rfl, hm1.out.alloc _, ext_alloc hb4.out _⟩
   · rw [if_neg h60]
     have hd : decide (st.ms.length ≤ 60) = false := by simpa using h60
     rw [hd]
     clear hd
     go_enter Try.func12, Try.ntmps12
     go_wp2_with fail
     refine (l6Can_any u lo A n c l m _ hn (rdx H.out (ext_alloc (ext_refl w) _))).mono ?_
     rw [HG.out]
     rintro e w1 ⟨rfl, hb1⟩
     obtain ⟨BF, hb2, hs2⟩ := box_frame (by simpa using hb1)
     have hb2 := Lib.hid hb2
     obtain ⟨c0, c1, c2⟩ := BF.q3
     clear BF hb1
     go_wp2_with fail
     refine (l6Number_any u lo A n c (dsOf l) m _ HDL.out hn1 hn8 m0 m1 FIT.out (rdx H2.out hb2.out)).mono ?_
     rw [← HST.out]
     rintro e w2 ⟨A1, c1, h1, cr1, rfl, hm1, hr1, hb3⟩
     have hm1 := Lib.hid (own_base (base' := w.heap.size) hm1 hb2.out.size)
     have hb4 := Lib.hid (ext_trans hb2.out hb3)
     clear hb3 hr1
     have ho := Lib.hid (own_lit_at (w2.alloc (.cells #[.int .i64 u, .int .i64 lo, .slice (some ⟨h1, 0, none⟩) st.ds.length cr1] 26)) 72 3 (H := w2.heap.size + 1) (B := w.heap.size) (by simp) (by have := hb4.out.size; omega))
     go_wp2
     go_ret2
     exact ⟨_, _, rfl, ho.out, ext_alloc (ext_alloc hb4.out _) _⟩
set_option maxRecDepth 100000 in
theorem specTakeNumberMoves_any (u lo : Int) (A : Option Addr) (n c : Nat) (l : List R2) (m : Int) (w : World) (hn : n ≤ 1048576) (h : Reads w w.heap.size 2 A n (rowsV2 l)) :
 Calls Try.prog 26 #[frV u lo A n c, .int .i64 m] w (RetMv w (takeNms u lo l m) (takeNmok u lo l m)) := by
 have hl := rows_len2 h
 have H := Lib.hid h
 cases hg : takeNok u lo l m
 · have e0 : takeNmok u lo l m = false := by simp [takeNmok, hg]
   have e : takeNms u lo l m = [] := by simp [takeNms, e0]
   rw [e, e0]
   have HG := Lib.hid hg
   clear h e e0 hg hl
   go_enter Try.func26, Try.ntmps26
   go_wp2_with fail
   refine (l8Can_any u lo A n c l m _ hn (rdx H.out (ext_alloc (ext_refl w) _))).mono ?_
   rw [HG.out]
   rintro e w1 ⟨rfl, hb1⟩
   have hb2 := Lib.hid (ext_trans (ext_alloc (ext_refl w) _) hb1)
   have ho := Lib.hid (own_lit_at w1 72 3 (H := w1.heap.size) (B := w.heap.size) rfl hb2.out.size)
   clear hb1
   go_wp2
   go_ret2
   exact ⟨_, _, rfl, ho.out, ext_alloc hb2.out _⟩
 · have hg' := hg
   unfold takeNok at hg'
   simp only [Bool.and_eq_true] at hg'
   obtain ⟨hgd, hcb⟩ := hg'
   have hf := good_fr hgd
   have hs := good_std hgd
   have hn1 := (frB_head hf).2.2.1
   have hn8 := (frB_head hf).2.2.2
   rw [hl] at hn1 hn8
   have hdl : (dsOf l).length = n := by rw [dsOf_len, hl]
   have m0 : 0 ≤ m := canTake_nonneg hcb
   have m1 : m < 200000000 := canTake_bound hf hcb
   have FIT : ∀ k, k < n → TakeFit (k + 1) (dg n m k) (takeN n m ⟨dsOf l, [], 0⟩ k).ds := by
    intro k hk
    have := (takeN_facts (s := ⟨dsOf l, [], 0⟩) (m := m) (dsOf_WF hf hs) m0 (canTake_fit hcb) k (by show k ≤ (dsOf l).length; omega)).2 (by show k < (dsOf l).length; omega)
    rwa [show (WS.ds ⟨dsOf l, [], 0⟩).length = n from hdl] at this
   have FIT := Lib.hid FIT
   have H2 := Lib.hid (show Reads w w.heap.size 2 A n (rowsV2 (rodsD (dsOf l))) by rw [rodsD_dsOf hf hs]; exact h)
   have HG := Lib.hid hg
   have HDL := Lib.hid hdl
   have ES : takeNst l m = takeN n m ⟨dsOf l, [], 0⟩ n := by rw [← hl]; rfl
   have EB : takeNmok u lo l m = decide ((takeNst l m).ms.length ≤ 60) := by simp [takeNmok, hg]
   have EM : takeNms u lo l m = if (takeNst l m).ms.length ≤ 60 then (takeNst l m).ms else [] := by simp [takeNms, EB]
   have EN : (takeNst l m).ms.length ≤ 16 * n := by
    rw [ES]
    have := takeN_msl n m ⟨dsOf l, [], 0⟩ n (by omega)
    simpa using this
   obtain ⟨st, hst⟩ : ∃ st, st = takeN n m ⟨dsOf l, [], 0⟩ n := ⟨_, rfl⟩
   rw [EB, EM, ES, ← hst]
   rw [ES, ← hst] at EN
   have HST := Lib.hid hst
   clear h hg hgd hcb hf hs hdl hl EB EM ES hst
   by_cases h60 : st.ms.length ≤ 60
   · rw [if_pos h60]
     have hd : decide (st.ms.length ≤ 60) = true := by simpa using h60
     rw [hd]
     clear hd
     go_enter Try.func26, Try.ntmps26
     go_wp2_with fail
     refine (l8Can_any u lo A n c l m _ hn (rdx H.out (ext_alloc (ext_refl w) _))).mono ?_
     rw [HG.out]
     rintro e w1 ⟨rfl, hb1⟩
     obtain ⟨BF, hb2, hs2⟩ := box_frame (by simpa using hb1)
     have hb2 := Lib.hid hb2
     obtain ⟨c0, c1, c2⟩ := BF.q3
     clear BF hb1
     go_wp2_with fail
     refine (l8Number_any u lo A n c (dsOf l) m _ HDL.out hn1 hn8 m0 m1 FIT.out (rdx H2.out hb2.out)).mono ?_
     rw [← HST.out]
     rintro e w2 ⟨A1, c1, h1, cr1, rfl, hm1, hr1, hb3⟩
     have hm1 := Lib.hid (own_base (base' := w.heap.size) hm1 hb2.out.size)
     have hb4 := Lib.hid (ext_trans hb2.out hb3)
     clear hb3 hr1
     go_wp2
     go_ret2
     exact ⟨_, _, rfl, hm1.out.alloc _, ext_alloc hb4.out _⟩
   · rw [if_neg h60]
     have hd : decide (st.ms.length ≤ 60) = false := by simpa using h60
     rw [hd]
     clear hd
     go_enter Try.func26, Try.ntmps26
     go_wp2_with fail
     refine (l8Can_any u lo A n c l m _ hn (rdx H.out (ext_alloc (ext_refl w) _))).mono ?_
     rw [HG.out]
     rintro e w1 ⟨rfl, hb1⟩
     obtain ⟨BF, hb2, hs2⟩ := box_frame (by simpa using hb1)
     have hb2 := Lib.hid hb2
     obtain ⟨c0, c1, c2⟩ := BF.q3
     clear BF hb1
     go_wp2_with fail
     refine (l8Number_any u lo A n c (dsOf l) m _ HDL.out hn1 hn8 m0 m1 FIT.out (rdx H2.out hb2.out)).mono ?_
     rw [← HST.out]
     rintro e w2 ⟨A1, c1, h1, cr1, rfl, hm1, hr1, hb3⟩
     have hm1 := Lib.hid (own_base (base' := w.heap.size) hm1 hb2.out.size)
     have hb4 := Lib.hid (ext_trans hb2.out hb3)
     clear hb3 hr1
     have ho := Lib.hid (own_lit_at (w2.alloc (.cells #[.int .i64 u, .int .i64 lo, .slice (some ⟨h1, 0, none⟩) st.ds.length cr1] 26)) 72 3 (H := w2.heap.size + 1) (B := w.heap.size) (by simp) (by have := hb4.out.size; omega))
     go_wp2
     go_ret2
     exact ⟨_, _, rfl, ho.out, ext_alloc (ext_alloc hb4.out _) _⟩
end Go.Proofs.Ytajdmeajkgdioaa
