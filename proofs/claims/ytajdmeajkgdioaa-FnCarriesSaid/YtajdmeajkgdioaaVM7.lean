/- AddDigit, TakeDigit: the reference's. -/
import Derived.Test.YtajdmeajkgdioaaVFrN
import Derived.Test.YtajdmeajkgdioaaVFrO
namespace Go.Proofs.Ytajdmeajkgdioaa
open Go.RowKit
set_option linter.unusedVariables false
set_option linter.unusedSimpArgs false
def addDF (u lo : Int) (l : List R2) (rod d : Int) : Int × Int × List R2 := if addDigitB u lo l rod d = true then (u, lo, rodsD (addS (rod.toNat + 1) d ⟨dsOf l, [], 0⟩).ds) else (0, 0, [])
def takeDF (u lo : Int) (l : List R2) (rod d : Int) : Int × Int × List R2 := if takeDigitB u lo l rod d = true then (u, lo, rodsD (takeS (rod.toNat + 1) d ⟨dsOf l, [], 0⟩).ds) else (0, 0, [])
set_option maxRecDepth 100000 in
set_option maxHeartbeats 1000000 in
theorem specAddDigit_any (u lo : Int) (A : Option Addr) (n c : Nat) (l : List R2) (rod d : Int) (w : World) (hn : n ≤ 1048576) (h : Reads w w.heap.size 2 A n (rowsV2 l)) :
 Calls Try.prog 19 #[frV u lo A n c, .int .i64 rod, .int .i64 d] w (RetFrB w (addDF u lo l rod d) (addDigitB u lo l rod d)) := by
 have hl := rows_len2 h
 have H := Lib.hid h
 have BF0 := Lib.hid ((Blk.born w #[.int .i64 u, .int .i64 lo, .slice A n c] 26 (H := w.heap.size) rfl).al (.cells #[.int .i64 0, .int .i64 0, .slice none 0 0] 26))
 have BRes := Lib.hid (Blk.born (w.alloc (.cells #[.int .i64 u, .int .i64 lo, .slice A n c] 26)) #[.int .i64 0, .int .i64 0, .slice none 0 0] 26 (H := w.heap.size + 1) (by simp))
 have hbx := Lib.hid (ext_alloc (ext_alloc (ext_refl w) (.cells #[.int .i64 u, .int .i64 lo, .slice A n c] 26)) (.cells #[.int .i64 0, .int .i64 0, .slice none 0 0] 26))
 cases hg : addDigitB u lo l rod d
 · rw [show addDF u lo l rod d = (0, 0, []) by simp [addDF, hg]]
   have HG := Lib.hid hg
   clear h hg hl
   go_enter Try.func19, Try.ntmps19
   go_wp2_with fail
   refine (l6CanDigit_any u lo A n c l rod d _ hn (rdx H.out hbx.out)).mono ?_
   rw [HG.out]
   rintro e w1 ⟨rfl, hb1⟩
   have BR1 := Lib.hid (BRes.out.ext hb1)
   have hb2 := Lib.hid (ext_trans hbx.out hb1)
   obtain ⟨r0, r1, r2⟩ := BR1.out.q3
   obtain ⟨f0, f1, f2⟩ := BR1.out.z3
   have hRl := BR1.out.lt
   clear hb1
   go_wp2
   refine bodyPost_ret (v := .tuple #[frV 0 0 none 0 0, .bool false]) (by simp [results, Try.results19, go_sem, *]) rfl ?_
   exact ⟨none, 0, rfl, World.ownsRow_nil _ _ _ _, fill_below hb2.out (Nat.le_succ _)⟩
 · rw [show addDF u lo l rod d = (u, lo, rodsD (addS (rod.toNat + 1) d ⟨dsOf l, [], 0⟩).ds) by simp [addDF, hg]]
   have hg' := hg
   unfold addDigitB at hg'
   rw [hl] at hg'
   simp only [Bool.and_eq_true] at hg'
   obtain ⟨⟨⟨hgd, hr⟩, hd⟩, hcb⟩ := hg'
   have hf := good_fr hgd
   have hs := good_std hgd
   have hn8 := (frB_head hf).2.2.2
   rw [hl] at hn8
   obtain ⟨r0, r1⟩ := inB_iff.1 hr
   obtain ⟨d0, d9⟩ := inB_iff.1 hd
   obtain ⟨r, rfl⟩ := Int.eq_ofNat_of_zero_le r0
   have hrn : r < n := by omega
   have hdl : (dsOf l).length = n := by rw [dsOf_len, hl]
   rw [show (r : Int).toNat = r from rfl] at hcb ⊢
   have FIT := Lib.hid (show AddFit (r + 1) d (dsOf l) from ⟨by omega, d0, d9, dsOf_WF hf hs, by have := canAdd_fit hcb; rw [hdl]; (try rw [hdl] at this); exact this⟩)
   have H2 := Lib.hid (show Reads w w.heap.size 2 A n (rowsV2 (rodsD (dsOf l))) by rw [rodsD_dsOf hf hs]; exact h)
   obtain ⟨S, hS⟩ : ∃ S, S = addS (r + 1) d ⟨dsOf l, [], 0⟩ := ⟨_, rfl⟩
   have hSl : S.ds.length = n := by rw [hS, addS_len]; exact hdl
   rw [← hS]
   have HS := Lib.hid hS
   have HG := Lib.hid hg
   have HDL := Lib.hid hdl
   clear h hg hgd hr hd hcb hf hs hdl hS hl
   go_enter Try.func19, Try.ntmps19
   go_wp2_with fail
   refine (l6CanDigit_any u lo A n c l r d _ hn (rdx H.out hbx.out)).mono ?_
   rw [HG.out]
   rintro e w1 ⟨rfl, hb1⟩
   have BR1 := Lib.hid (BRes.out.ext hb1)
   have hb2 := Lib.hid (ext_trans hbx.out hb1)
   obtain ⟨c0, c1, c2⟩ := (BF0.out.ext hb1).q3
   clear hb1
   go_wp2_with fail
   refine (l6Digit_n u lo A n c (dsOf l) r d S _ HDL.out hn8 FIT.out HS.out (rdx H2.out hb2.out)).mono ?_
   rintro e w2 ⟨A1, c1', h1, cr1, rfl, hm1, hr1, hb3⟩
   have hr1 := Lib.hid (own_base (base' := w.heap.size) hr1 hb2.out.size)
   have BR2 := Lib.hid (BR1.out.ext hb3)
   have hb4 := Lib.hid (ext_trans hb2.out hb3)
   obtain ⟨r0', r1', r2'⟩ := BR2.out.q3
   obtain ⟨f0, f1, f2⟩ := BR2.out.z3
   have hRl := BR2.out.lt
   clear hb3 hm1 c0 c1 c2
   have hne1 : ¬ w2.heap.size = w.heap.size + 1 := by omega
   have hne2 : ¬ w.heap.size + 1 = w2.heap.size := by omega
   go_wp2
   refine bodyPost_ret (v := .tuple #[frV u lo (some ⟨h1, 0, none⟩) n cr1, .bool true]) (by simp [results, Try.results19, go_sem, *]) rfl ?_
   refine ⟨some ⟨h1, 0, none⟩, cr1, by rw [rodsD_len, hSl], ?_, ?_⟩
   · rw [rodsD_len, hSl]
     repeat (first | (with_reducible exact hr1.out) | (with_reducible refine World.ownsRow.alloc ?_ _) | (with_reducible refine fill_own' ?_ (own_nbT hr1.out BR2.out (by decide))))
   · repeat (first | (with_reducible exact hb4.out) | (with_reducible refine ext_alloc ?_ _) | (with_reducible refine fill_below ?_ (Nat.le_succ _)))
set_option maxRecDepth 100000 in
set_option maxHeartbeats 1000000 in
theorem specTakeDigit_any (u lo : Int) (A : Option Addr) (n c : Nat) (l : List R2) (rod d : Int) (w : World) (hn : n ≤ 1048576) (h : Reads w w.heap.size 2 A n (rowsV2 l)) :
 Calls Try.prog 32 #[frV u lo A n c, .int .i64 rod, .int .i64 d] w (RetFrB w (takeDF u lo l rod d) (takeDigitB u lo l rod d)) := by
 have hl := rows_len2 h
 have H := Lib.hid h
 have BF0 := Lib.hid ((Blk.born w #[.int .i64 u, .int .i64 lo, .slice A n c] 26 (H := w.heap.size) rfl).al (.cells #[.int .i64 0, .int .i64 0, .slice none 0 0] 26))
 have BRes := Lib.hid (Blk.born (w.alloc (.cells #[.int .i64 u, .int .i64 lo, .slice A n c] 26)) #[.int .i64 0, .int .i64 0, .slice none 0 0] 26 (H := w.heap.size + 1) (by simp))
 have hbx := Lib.hid (ext_alloc (ext_alloc (ext_refl w) (.cells #[.int .i64 u, .int .i64 lo, .slice A n c] 26)) (.cells #[.int .i64 0, .int .i64 0, .slice none 0 0] 26))
 cases hg : takeDigitB u lo l rod d
 · rw [show takeDF u lo l rod d = (0, 0, []) by simp [takeDF, hg]]
   have HG := Lib.hid hg
   clear h hg hl
   go_enter Try.func32, Try.ntmps32
   go_wp2_with fail
   refine (l8CanDigit_any u lo A n c l rod d _ hn (rdx H.out hbx.out)).mono ?_
   rw [HG.out]
   rintro e w1 ⟨rfl, hb1⟩
   have BR1 := Lib.hid (BRes.out.ext hb1)
   have hb2 := Lib.hid (ext_trans hbx.out hb1)
   obtain ⟨r0, r1, r2⟩ := BR1.out.q3
   obtain ⟨f0, f1, f2⟩ := BR1.out.z3
   have hRl := BR1.out.lt
   clear hb1
   go_wp2
   refine bodyPost_ret (v := .tuple #[frV 0 0 none 0 0, .bool false]) (by simp [results, Try.results32, go_sem, *]) rfl ?_
   exact ⟨none, 0, rfl, World.ownsRow_nil _ _ _ _, fill_below hb2.out (Nat.le_succ _)⟩
 · rw [show takeDF u lo l rod d = (u, lo, rodsD (takeS (rod.toNat + 1) d ⟨dsOf l, [], 0⟩).ds) by simp [takeDF, hg]]
   have hg' := hg
   unfold takeDigitB at hg'
   rw [hl] at hg'
   simp only [Bool.and_eq_true] at hg'
   obtain ⟨⟨⟨hgd, hr⟩, hd⟩, hcb⟩ := hg'
   have hf := good_fr hgd
   have hs := good_std hgd
   have hn8 := (frB_head hf).2.2.2
   rw [hl] at hn8
   obtain ⟨r0, r1⟩ := inB_iff.1 hr
   obtain ⟨d0, d9⟩ := inB_iff.1 hd
   obtain ⟨r, rfl⟩ := Int.eq_ofNat_of_zero_le r0
   have hrn : r < n := by omega
   have hdl : (dsOf l).length = n := by rw [dsOf_len, hl]
   rw [show (r : Int).toNat = r from rfl] at hcb ⊢
   have FIT := Lib.hid (show TakeFit (r + 1) d (dsOf l) from ⟨by omega, d0, d9, dsOf_WF hf hs, by have := canTake_fit hcb; rw [hdl]; (try rw [hdl] at this); exact this⟩)
   have H2 := Lib.hid (show Reads w w.heap.size 2 A n (rowsV2 (rodsD (dsOf l))) by rw [rodsD_dsOf hf hs]; exact h)
   obtain ⟨S, hS⟩ : ∃ S, S = takeS (r + 1) d ⟨dsOf l, [], 0⟩ := ⟨_, rfl⟩
   have hSl : S.ds.length = n := by rw [hS, takeS_len]; exact hdl
   rw [← hS]
   have HS := Lib.hid hS
   have HG := Lib.hid hg
   have HDL := Lib.hid hdl
   clear h hg hgd hr hd hcb hf hs hdl hS hl
   go_enter Try.func32, Try.ntmps32
   go_wp2_with fail
   refine (l8CanDigit_any u lo A n c l r d _ hn (rdx H.out hbx.out)).mono ?_
   rw [HG.out]
   rintro e w1 ⟨rfl, hb1⟩
   have BR1 := Lib.hid (BRes.out.ext hb1)
   have hb2 := Lib.hid (ext_trans hbx.out hb1)
   obtain ⟨c0, c1, c2⟩ := (BF0.out.ext hb1).q3
   clear hb1
   go_wp2_with fail
   refine (l8Digit_n u lo A n c (dsOf l) r d S _ HDL.out hn8 FIT.out HS.out (rdx H2.out hb2.out)).mono ?_
   rintro e w2 ⟨A1, c1', h1, cr1, rfl, hm1, hr1, hb3⟩
   have hr1 := Lib.hid (own_base (base' := w.heap.size) hr1 hb2.out.size)
   have BR2 := Lib.hid (BR1.out.ext hb3)
   have hb4 := Lib.hid (ext_trans hb2.out hb3)
   obtain ⟨r0', r1', r2'⟩ := BR2.out.q3
   obtain ⟨f0, f1, f2⟩ := BR2.out.z3
   have hRl := BR2.out.lt
   clear hb3 hm1 c0 c1 c2
   have hne1 : ¬ w2.heap.size = w.heap.size + 1 := by omega
   have hne2 : ¬ w.heap.size + 1 = w2.heap.size := by omega
   go_wp2
   refine bodyPost_ret (v := .tuple #[frV u lo (some ⟨h1, 0, none⟩) n cr1, .bool true]) (by simp [results, Try.results32, go_sem, *]) rfl ?_
   refine ⟨some ⟨h1, 0, none⟩, cr1, by rw [rodsD_len, hSl], ?_, ?_⟩
   · rw [rodsD_len, hSl]
     repeat (first | (with_reducible exact hr1.out) | (with_reducible refine World.ownsRow.alloc ?_ _) | (with_reducible refine fill_own' ?_ (own_nbT hr1.out BR2.out (by decide))))
   · repeat (first | (with_reducible exact hb4.out) | (with_reducible refine ext_alloc ?_ _) | (with_reducible refine fill_below ?_ (Nat.le_succ _)))
end Go.Proofs.Ytajdmeajkgdioaa
