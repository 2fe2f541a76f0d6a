/- A number added: the reference's. -/
import Derived.Test.YtihljhikhplegaaVM4
import Derived.Test.YtihljhikhplegaaVFrM
import Derived.Test.YtihljhikhplegaaVM3
import Derived.Test.YtihljhikhplegaaVRuC
namespace Go.Proofs.Ytihljhikhplegaa
open Go.RowKit
set_option linter.unusedVariables false
set_option linter.unusedSimpArgs false
theorem l6Digit_n (u lo : Int) (A : Option Addr) (n c : Nat) (ds : List Int) (r0 : Nat) (d0 : Int) (S : WS) (w : World) (hn : ds.length = n) (hn8 : n ≤ 8) (hf : AddFit (r0 + 1) d0 ds) (hS : S = addS (r0 + 1) d0 ⟨ds, [], 0⟩) (h : Reads w w.heap.size 2 A n (rowsV2 (rodsD ds))) :
 Calls Try.prog 99 #[frV u lo A n c, .int .i64 (r0 : Int), .int .i64 d0] w (fun e w' => ∃ (A : Option Addr) (c' h c : Nat), e = .returned (.tuple #[.slice A S.ms.length c', frV u lo (some ⟨h, 0, none⟩) n c]) ∧ w'.ownsRow w.heap.size 75 3 (.slice A S.ms.length c') S.ms.length (rowsV3 S.ms) ∧
 w'.ownsRow w.heap.size 96 2 (.slice (some ⟨h, 0, none⟩) n c) n (rowsV2 (rodsD S.ds)) ∧ Below w.heap.size w w') := by
 subst hS
 have hl : (addS (r0 + 1) d0 ⟨ds, [], 0⟩).ds.length = n := by rw [addS_len]; exact hn
 refine (l6Digit_any u lo A n c ds r0 d0 w hn hn8 hf h).mono ?_
 rintro e w' ⟨A, c', h, c, rfl, h1, h2, h3⟩
 rw [hl] at h2 ⊢
 exact ⟨A, c', h, c, rfl, h1, h2, h3⟩
theorem l8Digit_n (u lo : Int) (A : Option Addr) (n c : Nat) (ds : List Int) (r0 : Nat) (d0 : Int) (S : WS) (w : World) (hn : ds.length = n) (hn8 : n ≤ 8) (hf : TakeFit (r0 + 1) d0 ds) (hS : S = takeS (r0 + 1) d0 ⟨ds, [], 0⟩) (h : Reads w w.heap.size 2 A n (rowsV2 (rodsD ds))) :
 Calls Try.prog 101 #[frV u lo A n c, .int .i64 (r0 : Int), .int .i64 d0] w (fun e w' => ∃ (A : Option Addr) (c' h c : Nat), e = .returned (.tuple #[.slice A S.ms.length c', frV u lo (some ⟨h, 0, none⟩) n c, .int .i64 S.ask]) ∧ w'.ownsRow w.heap.size 75 3 (.slice A S.ms.length c') S.ms.length (rowsV3 S.ms) ∧
 w'.ownsRow w.heap.size 96 2 (.slice (some ⟨h, 0, none⟩) n c) n (rowsV2 (rodsD S.ds)) ∧ Below w.heap.size w w') := by
 subst hS
 have hl : (takeS (r0 + 1) d0 ⟨ds, [], 0⟩).ds.length = n := by rw [takeS_len]; exact hn
 refine (l8Digit_any u lo A n c ds r0 d0 w hn hn8 hf h).mono ?_
 rintro e w' ⟨A, c', h, c, rfl, h1, h2, h3⟩
 rw [hl] at h2 ⊢
 exact ⟨A, c', h, c, rfl, h1, h2, h3⟩
end Go.Proofs.Ytihljhikhplegaa
namespace Go.Proofs.Ytihljhikhplegaa
open Go.RowKit
set_option linter.unusedVariables false
set_option linter.unusedSimpArgs false
def addDF (u lo : Int) (l : List R2) (rod d : Int) : Int × Int × List R2 := if addDigitB u lo l rod d = true then (u, lo, rodsD (addS (rod.toNat + 1) d ⟨dsOf l, [], 0⟩).ds) else (0, 0, [])
def takeDF (u lo : Int) (l : List R2) (rod d : Int) : Int × Int × List R2 := if takeDigitB u lo l rod d = true then (u, lo, rodsD (takeS (rod.toNat + 1) d ⟨dsOf l, [], 0⟩).ds) else (0, 0, [])
set_option maxRecDepth 100000 in
set_option maxHeartbeats 1000000 in
theorem specAddDigit_any (u lo : Int) (A : Option Addr) (n c : Nat) (l : List R2) (rod d : Int) (w : World) (hn : n ≤ 1048576) (h : Reads w w.heap.size 2 A n (rowsV2 l)) :
 Calls Try.prog 87 #[frV u lo A n c, .int .i64 rod, .int .i64 d] w (RetFrB w (addDF u lo l rod d) (addDigitB u lo l rod d)) := by
 have hl := rows_len2 h
 have H := Lib.hid h
 have BF0 := Lib.hid ((Blk.born w #[.int .i64 u, .int .i64 lo, .slice A n c] 26 (H := w.heap.size) rfl).al (.cells #[.int .i64 0, .int .i64 0, .slice none 0 0] 26))
 have BRes := Lib.hid (Blk.born (w.alloc (.cells #[.int .i64 u, .int .i64 lo, .slice A n c] 26)) #[.int .i64 0, .int .i64 0, .slice none 0 0] 26 (H := w.heap.size + 1) (by simp))
 have hbx := Lib.hid (ext_alloc (ext_alloc (ext_refl w) (.cells #[.int .i64 u, .int .i64 lo, .slice A n c] 26)) (.cells #[.int .i64 0, .int .i64 0, .slice none 0 0] 26))
 cases hg : addDigitB u lo l rod d
 · rw [show addDF u lo l rod d = (0, 0, []) by simp [addDF, hg]]
   have HG := Lib.hid hg
   clear h hg hl
   go_enter Try.func87, Try.ntmps87
   go_wp2_with fail
   refine (l6CanDigit_any u lo A n c l rod d _ hn (rdx H.out hbx.out)).mono ?_
   rw [HG.out]
   rintro e w1 ⟨rfl, hb1⟩
   have BR1 := Lib.hid (BRes.out.ext hb1)
   have hb2 := Lib.hid (ext_trans hbx.out hb1)
   obtain ⟨r0, r1, r2⟩ := BR1.out.q3
   obtain ⟨f0, f1, f2⟩ := BR1.out.z3
   have hRl := BR1.out.lt
   clear hb1
   go_wp2
   refine bodyPost_ret (v := .tuple #[frV 0 0 none 0 0, .bool false]) (by simp [results, Try.results87, go_sem, *]) rfl ?_
   exact ⟨none, 0, rfl, World.ownsRow_nil _ _ _ _, fill_below hb2.out (Nat.le_succ _)⟩
 · rw [show addDF u lo l rod d = (u, lo, rodsD (addS (rod.toNat + 1) d ⟨dsOf l, [], 0⟩).ds) by simp [addDF, hg]]
   have hg' := hg
   unfold addDigitB at hg'
   rw [hl] at hg'
   simp only [Bool.and_eq_true] at hg'
   obtain ⟨⟨⟨hgd, hr⟩, hd⟩, hcb⟩ := hg'
   have hf := good_fr hgd
   have hs := good_std hgd
   have hn8 := (frB_head hf).2.2.2
   rw [hl] at hn8
   obtain ⟨r0, r1⟩ := inB_iff.1 hr
   obtain ⟨d0, d9⟩ := inB_iff.1 hd
   obtain ⟨r, rfl⟩ := Int.eq_ofNat_of_zero_le r0
   have hrn : r < n := by omega
   have hdl : (dsOf l).length = n := by rw [dsOf_len, hl]
   rw [show (r : Int).toNat = r from rfl] at hcb ⊢
   have FIT := Lib.hid (show AddFit (r + 1) d (dsOf l) from ⟨by omega, d0, d9, dsOf_WF hf hs, by have := canAdd_fit hcb; rw [hdl]; (try rw [hdl] at this); exact this⟩)
   have H2 := Lib.hid (show Reads w w.heap.size 2 A n (rowsV2 (rodsD (dsOf l))) by rw [rodsD_dsOf hf hs]; exact h)
   obtain ⟨S, hS⟩ : ∃ S, S = addS (r + 1) d ⟨dsOf l, [], 0⟩ := ⟨_, rfl⟩
   have hSl : S.ds.length = n := by rw [hS, addS_len]; exact hdl
   rw [← hS]
   have HS := Lib.hid hS
   have HG := Lib.hid hg
   have HDL := Lib.hid hdl
   clear h hg hgd hr hd hcb hf hs hdl hS hl
   go_enter Try.func87, Try.ntmps87
   go_wp2_with fail
   refine (l6CanDigit_any u lo A n c l r d _ hn (rdx H.out hbx.out)).mono ?_
   rw [HG.out]
   rintro e w1 ⟨rfl, hb1⟩
   have BR1 := Lib.hid (BRes.out.ext hb1)
   have hb2 := Lib.hid (ext_trans hbx.out hb1)
   obtain ⟨c0, c1, c2⟩ := (BF0.out.ext hb1).q3
   clear hb1
   go_wp2_with fail
   refine (l6Digit_n u lo A n c (dsOf l) r d S _ HDL.out hn8 FIT.out HS.out (rdx H2.out hb2.out)).mono ?_
   rintro e w2 ⟨A1, c1', h1, cr1, rfl, hm1, hr1, hb3⟩
   have hr1 := Lib.hid (own_base (base' := w.heap.size) hr1 hb2.out.size)
   have BR2 := Lib.hid (BR1.out.ext hb3)
   have hb4 := Lib.hid (ext_trans hb2.out hb3)
   obtain ⟨r0', r1', r2'⟩ := BR2.out.q3
   obtain ⟨f0, f1, f2⟩ := BR2.out.z3
   have hRl := BR2.out.lt
   clear hb3 hm1 c0 c1 c2
   have hne1 : ¬ w2.heap.size = w.heap.size + 1 := by omega
   have hne2 : ¬ w.heap.size + 1 = w2.heap.size := by omega
   go_wp2
   refine bodyPost_ret (v := .tuple #[frV u lo (some ⟨h1, 0, none⟩) n cr1, .bool true]) (by simp [results, Try.results87, go_sem, *]) rfl ?_
   refine ⟨some ⟨h1, 0, none⟩, cr1, by rw [rodsD_len, hSl], ?_, ?_⟩
   · rw [rodsD_len, hSl]
     repeat (first | (with_reducible exact hr1.out) | (with_reducible refine World.ownsRow.alloc ?_ _) | (with_reducible refine fill_own' ?_ (own_nbT hr1.out BR2.out (by decide))))
   · repeat (first | (with_reducible exact hb4.out) | (with_reducible refine ext_alloc ?_ _) | (with_reducible refine fill_below ?_ (Nat.le_succ _)))
set_option maxRecDepth 100000 in
set_option maxHeartbeats 1000000 in
theorem specTakeDigit_any (u lo : Int) (A : Option Addr) (n c : Nat) (l : List R2) (rod d : Int) (w : World) (hn : n ≤ 1048576) (h : Reads w w.heap.size 2 A n (rowsV2 l)) :
 Calls Try.prog 89 #[frV u lo A n c, .int .i64 rod, .int .i64 d] w (RetFrB w (takeDF u lo l rod d) (takeDigitB u lo l rod d)) := by
 have hl := rows_len2 h
 have H := Lib.hid h
 have BF0 := Lib.hid ((Blk.born w #[.int .i64 u, .int .i64 lo, .slice A n c] 26 (H := w.heap.size) rfl).al (.cells #[.int .i64 0, .int .i64 0, .slice none 0 0] 26))
 have BRes := Lib.hid (Blk.born (w.alloc (.cells #[.int .i64 u, .int .i64 lo, .slice A n c] 26)) #[.int .i64 0, .int .i64 0, .slice none 0 0] 26 (H := w.heap.size + 1) (by simp))
 have hbx := Lib.hid (ext_alloc (ext_alloc (ext_refl w) (.cells #[.int .i64 u, .int .i64 lo, .slice A n c] 26)) (.cells #[.int .i64 0, .int .i64 0, .slice none 0 0] 26))
 cases hg : takeDigitB u lo l rod d
 · rw [show takeDF u lo l rod d = (0, 0, []) by simp [takeDF, hg]]
   have HG := Lib.hid hg
   clear h hg hl
   go_enter Try.func89, Try.ntmps89
   go_wp2_with fail
   refine (l8CanDigit_any u lo A n c l rod d _ hn (rdx H.out hbx.out)).mono ?_
   rw [HG.out]
   rintro e w1 ⟨rfl, hb1⟩
   have BR1 := Lib.hid (BRes.out.ext hb1)
   have hb2 := Lib.hid (ext_trans hbx.out hb1)
   obtain ⟨r0, r1, r2⟩ := BR1.out.q3
   obtain ⟨f0, f1, f2⟩ := BR1.out.z3
   have hRl := BR1.out.lt
   clear hb1
   go_wp2
   refine bodyPost_ret (v := .tuple #[frV 0 0 none 0 0, .bool false]) (by simp [results, Try.results89, go_sem, *]) rfl ?_
   exact ⟨none, 0, rfl, World.ownsRow_nil _ _ _ _, fill_below hb2.out (Nat.le_succ _)⟩
 · rw [show takeDF u lo l rod d = (u, lo, rodsD (takeS (rod.toNat + 1) d ⟨dsOf l, [], 0⟩).ds) by simp [takeDF, hg]]
   have hg' := hg
   unfold takeDigitB at hg'
   rw [hl] at hg'
   simp only [Bool.and_eq_true] at hg'
   obtain ⟨⟨⟨hgd, hr⟩, hd⟩, hcb⟩ := hg'
   have hf := good_fr hgd
   have hs := good_std hgd
   have hn8 := (frB_head hf).2.2.2
   rw [hl] at hn8
   obtain ⟨r0, r1⟩ := inB_iff.1 hr
   obtain ⟨d0, d9⟩ := inB_iff.1 hd
   obtain ⟨r, rfl⟩ := Int.eq_ofNat_of_zero_le r0
   have hrn : r < n := by omega
   have hdl : (dsOf l).length = n := by rw [dsOf_len, hl]
   rw [show (r : Int).toNat = r from rfl] at hcb ⊢
   have FIT := Lib.hid (show TakeFit (r + 1) d (dsOf l) from ⟨by omega, d0, d9, dsOf_WF hf hs, by have := canTake_fit hcb; rw [hdl]; (try rw [hdl] at this); exact this⟩)
   have H2 := Lib.hid (show Reads w w.heap.size 2 A n (rowsV2 (rodsD (dsOf l))) by rw [rodsD_dsOf hf hs]; exact h)
   obtain ⟨S, hS⟩ : ∃ S, S = takeS (r + 1) d ⟨dsOf l, [], 0⟩ := ⟨_, rfl⟩
   have hSl : S.ds.length = n := by rw [hS, takeS_len]; exact hdl
   rw [← hS]
   have HS := Lib.hid hS
   have HG := Lib.hid hg
   have HDL := Lib.hid hdl
   clear h hg hgd hr hd hcb hf hs hdl hS hl
   go_enter Try.func89, Try.ntmps89
   go_wp2_with fail
   refine (l8CanDigit_any u lo A n c l r d _ hn (rdx H.out hbx.out)).mono ?_
   rw [HG.out]
   rintro e w1 ⟨rfl, hb1⟩
   have BR1 := Lib.hid (BRes.out.ext hb1)
   have hb2 := Lib.hid (ext_trans hbx.out hb1)
   obtain ⟨c0, c1, c2⟩ := (BF0.out.ext hb1).q3
   clear hb1
   go_wp2_with fail
   refine (l8Digit_n u lo A n c (dsOf l) r d S _ HDL.out hn8 FIT.out HS.out (rdx H2.out hb2.out)).mono ?_
   rintro e w2 ⟨A1, c1', h1, cr1, rfl, hm1, hr1, hb3⟩
   have hr1 := Lib.hid (own_base (base' := w.heap.size) hr1 hb2.out.size)
   have BR2 := Lib.hid (BR1.out.ext hb3)
   have hb4 := Lib.hid (ext_trans hb2.out hb3)
   obtain ⟨r0', r1', r2'⟩ := BR2.out.q3
   obtain ⟨f0, f1, f2⟩ := BR2.out.z3
   have hRl := BR2.out.lt
   clear hb3 hm1 c0 c1 c2
   have hne1 : ¬ w2.heap.size = w.heap.size + 1 := by omega
   have hne2 : ¬ w.heap.size + 1 = w2.heap.size := by omega
   go_wp2
   refine bodyPost_ret (v := .tuple #[frV u lo (some ⟨h1, 0, none⟩) n cr1, .bool true]) (by simp [results, Try.results89, go_sem, *]) rfl ?_
   refine ⟨some ⟨h1, 0, none⟩, cr1, by rw [rodsD_len, hSl], ?_, ?_⟩
   · rw [rodsD_len, hSl]
     repeat (first | (with_reducible exact hr1.out) | (with_reducible refine World.ownsRow.alloc ?_ _) | (with_reducible refine fill_own' ?_ (own_nbT hr1.out BR2.out (by decide))))
   · repeat (first | (with_reducible exact hb4.out) | (with_reducible refine ext_alloc ?_ _) | (with_reducible refine fill_below ?_ (Nat.le_succ _)))
end Go.Proofs.Ytihljhikhplegaa
namespace Go.Proofs.Ytihljhikhplegaa
open Go.RowKit
set_option linter.unusedVariables false
set_option linter.unusedSimpArgs false
end Go.Proofs.Ytihljhikhplegaa
namespace Go.Proofs.Ytihljhikhplegaa
open Go.RowKit
set_option linter.unusedVariables false
set_option linter.unusedSimpArgs false
theorem specAddDigitMoves_any (u lo : Int) (A : Option Addr) (n c : Nat) (l : List R2) (rod d : Int) (w : World) (hn : n ≤ 1048576) (h : Reads w w.heap.size 2 A n (rowsV2 l)) :
 Calls Try.prog 86 #[frV u lo A n c, .int .i64 rod, .int .i64 d] w (RetMv w (addDms u lo l rod d) (addDigitB u lo l rod d)) := by
 have hl := rows_len2 h
 have H := Lib.hid h
 cases hg : addDigitB u lo l rod d
 · have e : addDms u lo l rod d = [] := by simp [addDms, hg]
   rw [e]
   have HG := Lib.hid hg
   clear h e hg hl
   go_enter Try.func86, Try.ntmps86
   go_wp2_with fail
   refine (l6CanDigit_any u lo A n c l rod d _ hn (rdx H.out (ext_alloc (ext_refl w) _))).mono ?_
   rw [HG.out]
   rintro e w1 ⟨rfl, hb1⟩
   have hb2 := Lib.hid (ext_trans (ext_alloc (ext_refl w) _) hb1)
   have ho := Lib.hid (own_lit_at w1 75 3 (H := w1.heap.size) (B := w.heap.size) rfl hb2.out.size)
   clear hb1
   go_wp2
   go_ret2
   exact ⟨_, _, rfl, ho.out, ext_alloc hb2.out _⟩
 · have e : addDms u lo l rod d = (addS (rod.toNat + 1) d ⟨dsOf l, [], 0⟩).ms := by simp [addDms, hg]
   rw [e]
   have hg' := hg
   unfold addDigitB at hg'
   rw [hl] at hg'
   simp only [Bool.and_eq_true] at hg'
   obtain ⟨⟨⟨hgd, hr⟩, hd⟩, hcb⟩ := hg'
   have hf := good_fr hgd
   have hs := good_std hgd
   have hn8 := (frB_head hf).2.2.2
   rw [hl] at hn8
   obtain ⟨r0, r1⟩ := inB_iff.1 hr
   obtain ⟨d0, d9⟩ := inB_iff.1 hd
   obtain ⟨r, rfl⟩ := Int.eq_ofNat_of_zero_le r0
   have hrn : r < n := by omega
   have hdl : (dsOf l).length = n := by rw [dsOf_len, hl]
   rw [show (r : Int).toNat = r from rfl] at hcb ⊢
   have FIT := Lib.hid (show AddFit (r + 1) d (dsOf l) from ⟨by omega, d0, d9, dsOf_WF hf hs, by have := canAdd_fit hcb; rw [hdl]; (try rw [hdl] at this); exact this⟩)
   have H2 := Lib.hid (show Reads w w.heap.size 2 A n (rowsV2 (rodsD (dsOf l))) by rw [rodsD_dsOf hf hs]; exact h)
   obtain ⟨S, hS⟩ : ∃ S, S = addS (r + 1) d ⟨dsOf l, [], 0⟩ := ⟨_, rfl⟩
   rw [← hS]
   have HS := Lib.hid hS
   have HG := Lib.hid hg
   have HDL := Lib.hid hdl
   clear h e hg hgd hr hd hcb hf hs hdl hS hl
   go_enter Try.func86, Try.ntmps86
   go_wp2_with fail
   refine (l6CanDigit_any u lo A n c l r d _ hn (rdx H.out (ext_alloc (ext_refl w) _))).mono ?_
   rw [HG.out]
   rintro e w1 ⟨rfl, hb1⟩
   obtain ⟨BF, hb2, hs2⟩ := box_frame (by simpa using hb1)
   have hb2 := Lib.hid hb2
   obtain ⟨c0, c1, c2⟩ := BF.q3
   clear BF hb1
   go_wp2_with fail
   refine (l6Digit_n u lo A n c (dsOf l) r d S _ HDL.out hn8 FIT.out HS.out (rdx H2.out hb2.out)).mono ?_
   rintro e w2 ⟨A1, c1, h1, cr1, rfl, hm1, hr1, hb3⟩
   have hm1 := Lib.hid (own_base (base' := w.heap.size) hm1 hb2.out.size)
   have hb4 := Lib.hid (ext_trans hb2.out hb3)
   clear hb3 hr1
   go_wp2
   go_ret2
   exact ⟨_, _, rfl, hm1.out.alloc _, ext_alloc hb4.out _⟩
theorem specTakeDigitMoves_any (u lo : Int) (A : Option Addr) (n c : Nat) (l : List R2) (rod d : Int) (w : World) (hn : n ≤ 1048576) (h : Reads w w.heap.size 2 A n (rowsV2 l)) :
 Calls Try.prog 88 #[frV u lo A n c, .int .i64 rod, .int .i64 d] w (RetMv w (takeDms u lo l rod d) (takeDigitB u lo l rod d)) := by
 have hl := rows_len2 h
 have H := Lib.hid h
 cases hg : takeDigitB u lo l rod d
 · have e : takeDms u lo l rod d = [] := by simp [takeDms, hg]
   rw [e]
   have HG := Lib.hid hg
   clear h e hg hl
   go_enter Try.func88, Try.ntmps88
   go_wp2_with fail
   refine (l8CanDigit_any u lo A n c l rod d _ hn (rdx H.out (ext_alloc (ext_refl w) _))).mono ?_
   rw [HG.out]
   rintro e w1 ⟨rfl, hb1⟩
   have hb2 := Lib.hid (ext_trans (ext_alloc (ext_refl w) _) hb1)
   have ho := Lib.hid (own_lit_at w1 75 3 (H := w1.heap.size) (B := w.heap.size) rfl hb2.out.size)
   clear hb1
   go_wp2
   go_ret2
   exact ⟨_, _, rfl, ho.out, ext_alloc hb2.out _⟩
 · have e : takeDms u lo l rod d = (takeS (rod.toNat + 1) d ⟨dsOf l, [], 0⟩).ms := by simp [takeDms, hg]
   rw [e]
   have hg' := hg
   unfold takeDigitB at hg'
   rw [hl] at hg'
   simp only [Bool.and_eq_true] at hg'
   obtain ⟨⟨⟨hgd, hr⟩, hd⟩, hcb⟩ := hg'
   have hf := good_fr hgd
   have hs := good_std hgd
   have hn8 := (frB_head hf).2.2.2
   rw [hl] at hn8
   obtain ⟨r0, r1⟩ := inB_iff.1 hr
   obtain ⟨d0, d9⟩ := inB_iff.1 hd
   obtain ⟨r, rfl⟩ := Int.eq_ofNat_of_zero_le r0
   have hrn : r < n := by omega
   have hdl : (dsOf l).length = n := by rw [dsOf_len, hl]
   rw [show (r : Int).toNat = r from rfl] at hcb ⊢
   have FIT := Lib.hid (show TakeFit (r + 1) d (dsOf l) from ⟨by omega, d0, d9, dsOf_WF hf hs, by have := canTake_fit hcb; rw [hdl]; (try rw [hdl] at this); exact this⟩)
   have H2 := Lib.hid (show Reads w w.heap.size 2 A n (rowsV2 (rodsD (dsOf l))) by rw [rodsD_dsOf hf hs]; exact h)
   obtain ⟨S, hS⟩ : ∃ S, S = takeS (r + 1) d ⟨dsOf l, [], 0⟩ := ⟨_, rfl⟩
   rw [← hS]
   have HS := Lib.hid hS
   have HG := Lib.hid hg
   have HDL := Lib.hid hdl
   clear h e hg hgd hr hd hcb hf hs hdl hS hl
   go_enter Try.func88, Try.ntmps88
   go_wp2_with fail
   refine (l8CanDigit_any u lo A n c l r d _ hn (rdx H.out (ext_alloc (ext_refl w) _))).mono ?_
   rw [HG.out]
   rintro e w1 ⟨rfl, hb1⟩
   obtain ⟨BF, hb2, hs2⟩ := box_frame (by simpa using hb1)
   have hb2 := Lib.hid hb2
   obtain ⟨c0, c1, c2⟩ := BF.q3
   clear BF hb1
   go_wp2_with fail
   refine (l8Digit_n u lo A n c (dsOf l) r d S _ HDL.out hn8 FIT.out HS.out (rdx H2.out hb2.out)).mono ?_
   rintro e w2 ⟨A1, c1, h1, cr1, rfl, hm1, hr1, hb3⟩
   have hm1 := Lib.hid (own_base (base' := w.heap.size) hm1 hb2.out.size)
   have hb4 := Lib.hid (ext_trans hb2.out hb3)
   clear hb3 hr1
   go_wp2
   go_ret2
   exact ⟨_, _, rfl, hm1.out.alloc _, ext_alloc hb4.out _⟩
end Go.Proofs.Ytihljhikhplegaa
namespace Go.Proofs.Ytihljhikhplegaa
open Go.RowKit
set_option linter.unusedVariables false
set_option linter.unusedSimpArgs false
/-- the first k texts, put together with another between them -/
def jnTo (sep : ByteArray) (ps : List ByteArray) (k : Nat) : ByteArray := match ps.take k with | [] => ⟨#[]⟩ | p :: r => r.foldl (fun a q => (a ++ sep) ++ q) p
theorem jnTo_zero (sep : ByteArray) (ps : List ByteArray) : jnTo sep ps 0 = ⟨#[]⟩ := by simp [jnTo]
theorem jnTo_one {sep : ByteArray} {ps : List ByteArray} {p : ByteArray} (h : ps[0]? = some p) : jnTo sep ps 1 = p := by
 unfold jnTo
 rw [List.take_add_one, h]; rfl
theorem jnTo_succ {sep : ByteArray} {ps : List ByteArray} {k : Nat} {p : ByteArray} (h : ps[k]? = some p) (hk : 0 < k) : jnTo sep ps (k + 1) = (jnTo sep ps k ++ sep) ++ p := by
 have hkl := (List.getElem?_eq_some_iff.1 h).1
 unfold jnTo
 rw [List.take_add_one, h]
 cases ps with
 | nil => simp at hkl
 | cons q ps =>
   obtain ⟨j, rfl⟩ : ∃ j, k = j + 1 := ⟨k - 1, by omega⟩
   simp [List.take_succ_cons, List.foldl_append]
theorem jnTo_size {sep : ByteArray} {ps : List ByteArray} (hs : sep.size ≤ 100) (hp : ∀ p ∈ ps, p.size ≤ 100) : ∀ k, k ≤ ps.length → (jnTo sep ps k).size ≤ k * 200 := by
 intro k
 induction k with
 | zero => intro _; rw [jnTo_zero]; exact Nat.zero_le _
 | succ k ih =>
   intro hk
   obtain ⟨p, hp2⟩ := list_split (l := ps) (k := k) (by omega)
   have h1 := hp p (List.mem_of_getElem? hp2)
   rcases Nat.eq_zero_or_pos k with h0 | h0
   · subst h0; rw [jnTo_one hp2]; omega
   · rw [jnTo_succ hp2 h0, ByteArray.size_append, ByteArray.size_append]
     have := ih (by omega)
     omega
def txsV (ps : List ByteArray) : List Value := ps.map Value.string
theorem txs_len {w : World} {B n : Nat} {A : Option Addr} {ps : List ByteArray} (h : Reads w B 1 A n (txsV ps)) : ps.length = n := by have := h.1; simp [txsV] at this; omega
theorem txs_at {w : World} {B n : Nat} {A : Option Addr} {ps : List ByteArray} (h : Reads w B 1 A n (txsV ps)) {k : Nat} {p : ByteArray} (hp : ps[k]? = some p) :
 ∃ b o, A = some ⟨b, o, none⟩ ∧ b < B ∧ w.cell? ⟨b, o + k, none⟩ = some (.string p) := by
 have hk := (List.getElem?_eq_some_iff.1 hp).1
 have hl := txs_len h
 obtain ⟨b, o, hA, hb, hc⟩ := h.2 (by omega)
 exact ⟨b, o, hA, hb, hc k _ (by simp [txsV, hp])⟩
set_option maxHeartbeats 2000000 in
theorem jn_any (A : Option Addr) (n c : Nat) (sep : ByteArray) (ps : List ByteArray) (w : World) (hn : n ≤ 100) (hs : sep.size ≤ 100) (hp : ∀ p ∈ ps, p.size ≤ 100) (h : Reads w w.heap.size 1 A n (txsV ps)) :
 Calls Try.prog 49 #[.slice A n c, .string sep] w fun e w' => e = .returned (.string (jnTo sep ps n)) ∧ Below w.heap.size w w' := by
 have hl := txs_len h
 have H := Lib.hid h
 have HL := Lib.hid hl
 have HP := Lib.hid hp
 have HZ := Lib.hid (jnTo_size hs hp)
 clear h hl hp
 go_enter Try.func49, Try.ntmps49
 go_wp2
 go_loopw [5, 10] (fun v i wr => ∃ (k : Nat) (tx : ByteArray), k ≤ n ∧ i = .int .i64 k ∧ v = .string tx ∧ tx.size ≤ k * 200 ∧ Hid (jnTo sep ps k = tx) ∧ Below w.heap.size w wr) (fun _ i _ => n - (intOf i).toNat)
 case atStart => exact ⟨0, ⟨#[]⟩, Nat.zero_le _, rfl, rfl, Nat.le_refl _, Lib.hid (jnTo_zero _ _), ext_refl _⟩
 case round =>
  obtain ⟨k, tx, hk, rfl, rfl, hTs, hT, hbl⟩ := hrel
  by_cases hlt : k < n
  · obtain ⟨p, hp⟩ := list_split (l := ps) (k := k) (by rw [HL.out]; exact hlt)
    obtain ⟨b, o, rfl, hbb, c0⟩ := txs_at (H.out.ext hbl (Nat.le_refl _)) hp
    have hbw : b < wr.heap.size := Nat.lt_of_lt_of_le hbb hbl.size
    have hps := HP.out p (List.mem_of_getElem? hp)
    have hlt' : (k : Int) < (n : Int) := by omega
    rcases Nat.eq_zero_or_pos k with hk0 | hpos
    · have hnew : Hid (jnTo sep ps (k + 1) = p) := Lib.hid (by rw [hk0] at hp ⊢; exact jnTo_one hp)
      have hTe : tx = ⟨#[]⟩ := by rw [← hT.out, hk0, jnTo_zero]
      have hpos' : decide (0 < k) = false := decide_eq_false (by omega)
      subst hTe
      clear hp hk0
      have hap : Hid ((⟨#[]⟩ : ByteArray) ++ p = p) := Lib.hid (bl_inj (by rw [bl_append]; rfl))
      go_wp2
      go_roundw
      case rel => exact ⟨k + 1, p, by omega, by go_num, by rw [hap.out], by omega, hnew, hbl⟩
      case measure => simp [intOf]; omega
    · have hnew := Lib.hid (jnTo_succ (sep := sep) hp hpos)
      rw [hT.out] at hnew
      have hsz : (tx ++ sep ++ p).size ≤ (k + 1) * 200 := by rw [ByteArray.size_append, ByteArray.size_append]; omega
      clear hp
      have hpos' : decide (0 < k) = true := decide_eq_true hpos
      go_wp2
      go_roundw
      case rel => exact ⟨k + 1, tx ++ sep ++ p, by omega, by go_num, rfl, hsz, hnew, hbl⟩
      case measure => simp [intOf]; omega
  · obtain rfl : k = n := by omega
    go_wp2
    go_ret
    exact ⟨by rw [hT.out]; rfl, hbl⟩
/-- scripts are scripts -/
theorem implIsScript_any (s : ByteArray) (w : World) (hs : s.size ≤ 16777216) : Calls Try.prog 10 #[.string s] w (RetV (.bool (scrB s)) w) := by
 have HR := Lib.hid (fun w => rulesOf_any s w hs)
 obtain ⟨b, hb⟩ : ∃ b, scrB s = b := ⟨_, rfl⟩
 rw [hb] at HR ⊢
 clear hb
 unfold RetV
 go_enter Try.func10, Try.ntmps10
 go_wp2_with fail
 refine (HR.out _).mono ?_
 rintro e w1 ⟨A1, c1, rfl, ho1, hb1⟩
 go_wp2
 go_ret
 exact ⟨rfl, hb1⟩
theorem specIsScript_any (s : ByteArray) (w : World) (hs : s.size ≤ 16777216) : Calls Try.prog 11 #[.string s] w (RetV (.bool (scrB s)) w) := by
 have HR := Lib.hid (fun w => l15Good_any s w hs)
 obtain ⟨b, hb⟩ : ∃ b, scrB s = b := ⟨_, rfl⟩
 rw [hb] at HR ⊢
 clear hb
 unfold RetV at *
 go_enter Try.func11, Try.ntmps11
 go_wp2_with fail
 refine (HR.out _).mono ?_
 rintro e w1 ⟨rfl, hb1⟩
 go_wp2
 go_ret
 exact ⟨rfl, hb1⟩
end Go.Proofs.Ytihljhikhplegaa
