/- The asked functions of fewest moves: the reference's. -/
import Derived.Deep.CutBlock
import Derived.Test.YtmfjaoljeildbaaVBsK
import Derived.Test.YtmfjaoljeildbaaVM4
namespace Go.Proofs.Ytmfjaoljeildbaa
open Go.RowKit
set_option linter.unusedVariables false
set_option linter.unusedSimpArgs false
set_option maxRecDepth 100000 in
set_option maxHeartbeats 8000000 in
theorem l13Asked_any (u lo : Int) (A : Option Addr) (n c : Nat) (l : List R2) (m : Int) (w : World) (hn : n ≤ 1048576) (h63 : m ≤ 9223372036854775807) (h : Reads w w.heap.size 2 A n (rowsV2 l)) :
 Calls Try.prog 39 #[frV u lo A n c, .int .i64 m] w (RetV (.bool (askB u lo l m)) w) := by
 have hl := rows_len2 h
 have H := Lib.hid h
 have BF0 := Lib.hid (Blk.born w #[.int .i64 u, .int .i64 lo, .slice A n c] 26 (H := w.heap.size) rfl)
 have hbx := Lib.hid (ext_alloc (ext_refl w) (.cells #[.int .i64 u, .int .i64 lo, .slice A n c] 26))
 clear h
 cases hf : frB u lo l
 · rw [show askB u lo l m = false by simp [askB, hf]]
   have HF := Lib.hid hf
   clear hf hl
   have BF1 := BF0
   obtain ⟨W1, hW1⟩ : ∃ y : World, y = w.alloc (.cells #[.int .i64 u, .int .i64 lo, .slice A n c] 26) := ⟨_, rfl⟩
   rw [← hW1] at BF1
   have hb1 := Lib.hid (show Below w.heap.size w W1 by rw [hW1]; exact hbx.out)
   clear BF0 hbx
   go_enter Try.func39, Try.ntmps39
   go_upto_region 1 with fail
   rw [← hW1]
   clear hW1
   obtain ⟨f0, f1, f2⟩ := BF1.out.q3
   have lF := BF1.out.lt
   go_wp2_with fail
   refine (l2Good_any u lo A n c l _ hn (rdx H.out hb1.out)).mono ?_
   rw [HF.out]
   rintro e w2 ⟨rfl, hb2⟩
   go_wp2
   go_ret
   exact ⟨by rfl, ext_trans hb1.out hb2⟩
 by_cases hm0 : 0 ≤ m
 · rw [show askB u lo l m = true by simp [askB, hf, hm0]]
   have HF := Lib.hid hf
   have kb : decide (0 ≤ m) = true := decide_eq_true hm0
   clear hf hl
   have BF1 := BF0
   obtain ⟨W1, hW1⟩ : ∃ y : World, y = w.alloc (.cells #[.int .i64 u, .int .i64 lo, .slice A n c] 26) := ⟨_, rfl⟩
   rw [← hW1] at BF1
   have hb1 := Lib.hid (show Below w.heap.size w W1 by rw [hW1]; exact hbx.out)
   clear BF0 hbx
   go_enter Try.func39, Try.ntmps39
   go_upto_region 1 with fail
   rw [← hW1]
   clear hW1
   obtain ⟨f0, f1, f2⟩ := BF1.out.q3
   have lF := BF1.out.lt
   go_wp2_with fail
   refine (l2Good_any u lo A n c l _ hn (rdx H.out hb1.out)).mono ?_
   rw [HF.out]
   rintro e w2 ⟨rfl, hb2⟩
   go_wp2
   go_ret
   exact ⟨by first | rfl | (rw [kb]; rfl) | (simp [kb]), ext_trans hb1.out hb2⟩
 · rw [show askB u lo l m = false by simp [askB, hm0]]
   have HF := Lib.hid hf
   have kb : decide (0 ≤ m) = false := decide_eq_false hm0
   clear hf hl
   have BF1 := BF0
   obtain ⟨W1, hW1⟩ : ∃ y : World, y = w.alloc (.cells #[.int .i64 u, .int .i64 lo, .slice A n c] 26) := ⟨_, rfl⟩
   rw [← hW1] at BF1
   have hb1 := Lib.hid (show Below w.heap.size w W1 by rw [hW1]; exact hbx.out)
   clear BF0 hbx
   go_enter Try.func39, Try.ntmps39
   go_upto_region 1 with fail
   rw [← hW1]
   clear hW1
   obtain ⟨f0, f1, f2⟩ := BF1.out.q3
   have lF := BF1.out.lt
   go_wp2_with fail
   refine (l2Good_any u lo A n c l _ hn (rdx H.out hb1.out)).mono ?_
   rw [HF.out]
   rintro e w2 ⟨rfl, hb2⟩
   go_wp2
   go_ret
   exact ⟨by first | rfl | (rw [kb]; rfl) | (simp [kb]), ext_trans hb1.out hb2⟩
set_option maxRecDepth 100000 in
set_option maxHeartbeats 8000000 in
theorem specFewestMoves_any (u lo : Int) (A : Option Addr) (n c : Nat) (l : List R2) (m : Int) (w : World) (hn : n ≤ 1048576) (h63 : m ≤ 9223372036854775807) (h : Reads w w.heap.size 2 A n (rowsV2 l)) :
 Calls Try.prog 11 #[frV u lo A n c, .int .i64 m] w (RetV (.tuple #[.int .i64 (nearW u lo l m).m, .bool (nearW u lo l m).ok]) w) := by
 have hl := rows_len2 h
 have H := Lib.hid h
 have BF0 := Lib.hid (Blk.born w #[.int .i64 u, .int .i64 lo, .slice A n c] 26 (H := w.heap.size) rfl)
 have hbx := Lib.hid (ext_alloc (ext_refl w) (.cells #[.int .i64 u, .int .i64 lo, .slice A n c] 26))
 clear h
 cases ha : askB u lo l m
 · skip
   rw [show nearW u lo l m = zeroW by unfold nearW; rw [if_neg (by rw [ha]; simp)]]
   have HA := Lib.hid ha
   clear ha hl
   have BF1 := BF0
   obtain ⟨W1, hW1⟩ : ∃ y : World, y = w.alloc (.cells #[.int .i64 u, .int .i64 lo, .slice A n c] 26) := ⟨_, rfl⟩
   rw [← hW1] at BF1
   have hb1 := Lib.hid (show Below w.heap.size w W1 by rw [hW1]; exact hbx.out)
   clear BF0 hbx
   go_enter Try.func11, Try.ntmps11
   go_upto_region 1 with fail
   rw [← hW1]
   clear hW1
   obtain ⟨f0, f1, f2⟩ := BF1.out.q3
   have lF := BF1.out.lt
   go_wp2_with fail
   refine (l13Asked_any u lo A n c l m _ hn h63 (rdx H.out hb1.out)).mono ?_
   rw [HA.out]
   rintro e w2 ⟨rfl, hb⟩
   have BF2 := Lib.hid (BF1.out.ext hb)
   have hb2 := Lib.hid (ext_trans hb1.out hb)
   clear hb f0 f1 f2 lF BF1 hb1
   obtain ⟨f0, f1, f2⟩ := BF2.out.q3
   have lF := BF2.out.lt
   go_wp2
   go_ret2
   exact ⟨rfl, hb2.out⟩
 · have hf : frB u lo l = true := by unfold askB at ha; simp at ha; exact ha.1
   have hm0 : 0 ≤ m := by unfold askB at ha; simp at ha; exact ha.2
   have hh := frB_head hf
   rw [hl] at hh
   have HB := Lib.hid (fun (w : World) h => l13Best_any u lo A n c l m w hf hl hm0 h63 h)
   rw [show minT nearP l n (tgP u lo n m) = nearW u lo l m by unfold nearW; rw [if_pos ha, hl]] at HB
   have HZ := Lib.hid (near_is u lo l m)
   have HFR := Lib.hid (nearW_fr u lo l m)
   have HLN := Lib.hid (nearW_len u lo l m)
   have HXM := Lib.hid (nearW_m u lo l m)
   rw [hl] at HLN HXM
   have HMS := Lib.hid (show nearMs u lo l m = if (nearW u lo l m).ok = true then btw l (nearW u lo l m).l n else [] by unfold nearMs; rw [hl])
   skip
   obtain ⟨X, hX⟩ : ∃ o9, nearW u lo l m = o9 := ⟨_, rfl⟩
   rw [hX] at HB HZ HFR HLN HXM HMS ⊢
   obtain ⟨MS, hMS⟩ : ∃ o9, nearMs u lo l m = o9 := ⟨_, rfl⟩
   rw [hMS] at HMS
   (try rw [hMS])
   unfold RetBest at HB
   have HA := Lib.hid ha
   have HF := Lib.hid hf
   clear hX hMS hl hf ha
   have BF1 := BF0
   obtain ⟨W1, hW1⟩ : ∃ y : World, y = w.alloc (.cells #[.int .i64 u, .int .i64 lo, .slice A n c] 26) := ⟨_, rfl⟩
   rw [← hW1] at BF1
   have hb1 := Lib.hid (show Below w.heap.size w W1 by rw [hW1]; exact hbx.out)
   clear BF0 hbx
   go_enter Try.func11, Try.ntmps11
   go_upto_region 1 with fail
   rw [← hW1]
   clear hW1
   obtain ⟨f0, f1, f2⟩ := BF1.out.q3
   have lF := BF1.out.lt
   go_wp2_with fail
   refine (l13Asked_any u lo A n c l m _ hn h63 (rdx H.out hb1.out)).mono ?_
   rw [HA.out]
   rintro e w2 ⟨rfl, hb⟩
   have BF2 := Lib.hid (BF1.out.ext hb)
   have hb2 := Lib.hid (ext_trans hb1.out hb)
   clear hb f0 f1 f2 lF BF1 hb1
   obtain ⟨f0, f1, f2⟩ := BF2.out.q3
   have lF := BF2.out.lt
   go_wp2_with fail
   refine (HB.out _ (rdx H.out hb2.out)).mono ?_
   rintro e w3 ⟨U, L, A3, c3, rfl, hu1, hu0, ho3, hb3⟩
   obtain ⟨N9, hN9⟩ : ∃ o9, w3.heap.size = o9 := ⟨_, rfl⟩
   obtain ⟨W4, hW4⟩ : ∃ y : World, y = w3.alloc (.cells #[.int .i64 U, .int .i64 L, .slice A3 X.l.length c3] 26) := ⟨_, rfl⟩
   have BX := Lib.hid (show Blk W4 N9 26 #[.int .i64 U, .int .i64 L, .slice A3 X.l.length c3] by rw [hW4]; exact Blk.born w3 _ 26 hN9.symm)
   have hb4 := Lib.hid (show Below w.heap.size w W4 by rw [hW4]; exact ext_alloc (ext_trans hb2.out hb3) _)
   have ho4 := Lib.hid (show W4.ownsRow w.heap.size 86 2 (.slice A3 X.l.length c3) X.l.length (rowsV2 X.l) by rw [hW4]; exact (own_base ho3 hb2.out.size).alloc _)
   have BF4 := Lib.hid (show Blk W4 w.heap.size 26 #[.int .i64 u, .int .i64 lo, .slice A n c] by rw [hW4]; exact (BF2.out.ext hb3).al _)
   skip
   clear ho3 hb3 f0 f1 f2 lF BF2 hb2
   go_upto_region 4 with fail
   rw [← hW4]
   clear hW4 hN9
   obtain ⟨x0, x1, x2⟩ := BX.out.q3
   have lX := BX.out.lt
   obtain ⟨f0, f1, f2⟩ := BF4.out.q3
   have lF := BF4.out.lt
   cases ho : X.ok
   · obtain rfl : X = zeroW := by
      rcases HZ.out with h | h
      · exact h.2.1
      · rw [ho] at h; cases h.1
     obtain ⟨rfl, rfl⟩ := hu0 ho
     go_wp2
     go_ret2
     exact ⟨rfl, hb4.out⟩
   · obtain ⟨rfl, rfl⟩ := hu1 ho
     have hxl := HLN.out ho
     have hfr := HFR.out ho
     have hms : MS = btw l X.l n := by rw [HMS.out, if_pos ho]
     have hxm := HXM.out ho
     rw [hxl] at x2 ho4
     have HBT := Lib.hid (fun (w : World) h h' => l4Between_any U L A A3 n c c3 l X.l w hfr.1 hfr.2 h h')
     rw [← hms] at HBT hxm
     unfold RetSlice at HBT
     clear hms hfr hu1 hu0
     go_wp2_with fail
     refine (HBT.out _ (rdx H.out hb4.out) (Reads.of_own ho4.out)).mono ?_
     rintro e w5 ⟨A5, c5, rfl, ho5, hb5⟩
     go_wp2
     go_ret2
     exact ⟨by rw [ho, hxm]; rfl, ext_trans hb4.out hb5⟩
set_option maxRecDepth 100000 in
set_option maxHeartbeats 8000000 in
theorem specNearestTarget_any (u lo : Int) (A : Option Addr) (n c : Nat) (l : List R2) (m : Int) (w : World) (hn : n ≤ 1048576) (h63 : m ≤ 9223372036854775807) (h : Reads w w.heap.size 2 A n (rowsV2 l)) :
 Calls Try.prog 8 #[frV u lo A n c, .int .i64 m] w (RetBest w u lo (nearW u lo l m)) := by
 have hl := rows_len2 h
 have H := Lib.hid h
 have BF0 := Lib.hid (Blk.born w #[.int .i64 u, .int .i64 lo, .slice A n c] 26 (H := w.heap.size) rfl)
 have hbx := Lib.hid (ext_alloc (ext_refl w) (.cells #[.int .i64 u, .int .i64 lo, .slice A n c] 26))
 clear h
 cases ha : askB u lo l m
 · skip
   rw [show nearW u lo l m = zeroW by unfold nearW; rw [if_neg (by rw [ha]; simp)]]
   have HA := Lib.hid ha
   clear ha hl
   obtain ⟨N8, hN8⟩ : ∃ o9, w.heap.size + 1 = o9 := ⟨_, rfl⟩
   obtain ⟨W1, hW1⟩ : ∃ y : World, y = (w.alloc (.cells #[.int .i64 u, .int .i64 lo, .slice A n c] 26)).alloc (.cells #[.int .i64 0, .int .i64 0, .slice none 0 0] 26) := ⟨_, rfl⟩
   have BF1 := Lib.hid (show Blk W1 w.heap.size 26 #[.int .i64 u, .int .i64 lo, .slice A n c] by rw [hW1]; exact BF0.out.al _)
   have BZ1 := Lib.hid (show Blk W1 N8 26 #[.int .i64 0, .int .i64 0, .slice none 0 0] by rw [hW1]; exact Blk.born _ #[.int .i64 0, .int .i64 0, .slice none 0 0] 26 (H := N8) (by rw [← hN8]; simp))
   have hb1 := Lib.hid (show Below w.heap.size w W1 by rw [hW1]; exact ext_alloc hbx.out _)
   have hw8 : w.heap.size < N8 := by omega
   clear BF0 hbx
   go_enter Try.func8, Try.ntmps8
   go_upto_region 1 with fail
   rw [← hW1]
   clear hW1
   obtain ⟨f0, f1, f2⟩ := BF1.out.q3
   have lF := BF1.out.lt
   go_wp2_with fail
   refine (l13Asked_any u lo A n c l m _ hn h63 (rdx H.out hb1.out)).mono ?_
   rw [HA.out]
   rintro e w2 ⟨rfl, hb⟩
   have BF2 := Lib.hid (BF1.out.ext hb)
   have hb2 := Lib.hid (ext_trans hb1.out hb)
   have BZ2 := Lib.hid (BZ1.out.ext hb)
   clear BZ1
   obtain ⟨z0, z1, z2⟩ := BZ2.out.z3
   obtain ⟨y0, y1, y2⟩ := BZ2.out.q3
   have lZ := BZ2.out.lt
   clear hb f0 f1 f2 lF BF1 hb1
   obtain ⟨f0, f1, f2⟩ := BF2.out.q3
   have lF := BF2.out.lt
   go_wp2
   refine bodyPost_ret (v := .tuple #[frV 0 0 none 0 0, .bool false]) (by simp [results, Try.results8, go_sem, *]) rfl ?_
   exact ⟨0, 0, none, 0, rfl, (fun h => by cases h), (fun _ => ⟨rfl, rfl⟩), World.ownsRow_nil _ _ _ _, fill_below hb2.out (by omega)⟩
 · have hf : frB u lo l = true := by unfold askB at ha; simp at ha; exact ha.1
   have hm0 : 0 ≤ m := by unfold askB at ha; simp at ha; exact ha.2
   have hh := frB_head hf
   rw [hl] at hh
   have HB := Lib.hid (fun (w : World) h => l13Best_any u lo A n c l m w hf hl hm0 h63 h)
   rw [show minT nearP l n (tgP u lo n m) = nearW u lo l m by unfold nearW; rw [if_pos ha, hl]] at HB
   have HZ := Lib.hid (near_is u lo l m)
   have HFR := Lib.hid (nearW_fr u lo l m)
   have HLN := Lib.hid (nearW_len u lo l m)
   have HXM := Lib.hid (nearW_m u lo l m)
   rw [hl] at HLN HXM
   have HMS := Lib.hid (show nearMs u lo l m = if (nearW u lo l m).ok = true then btw l (nearW u lo l m).l n else [] by unfold nearMs; rw [hl])
   skip
   obtain ⟨X, hX⟩ : ∃ o9, nearW u lo l m = o9 := ⟨_, rfl⟩
   rw [hX] at HB HZ HFR HLN HXM HMS ⊢
   obtain ⟨MS, hMS⟩ : ∃ o9, nearMs u lo l m = o9 := ⟨_, rfl⟩
   rw [hMS] at HMS
   (try rw [hMS])
   unfold RetBest at HB
   have HA := Lib.hid ha
   have HF := Lib.hid hf
   clear hX hMS hl hf ha
   obtain ⟨N8, hN8⟩ : ∃ o9, w.heap.size + 1 = o9 := ⟨_, rfl⟩
   obtain ⟨W1, hW1⟩ : ∃ y : World, y = (w.alloc (.cells #[.int .i64 u, .int .i64 lo, .slice A n c] 26)).alloc (.cells #[.int .i64 0, .int .i64 0, .slice none 0 0] 26) := ⟨_, rfl⟩
   have BF1 := Lib.hid (show Blk W1 w.heap.size 26 #[.int .i64 u, .int .i64 lo, .slice A n c] by rw [hW1]; exact BF0.out.al _)
   have BZ1 := Lib.hid (show Blk W1 N8 26 #[.int .i64 0, .int .i64 0, .slice none 0 0] by rw [hW1]; exact Blk.born _ #[.int .i64 0, .int .i64 0, .slice none 0 0] 26 (H := N8) (by rw [← hN8]; simp))
   have hb1 := Lib.hid (show Below w.heap.size w W1 by rw [hW1]; exact ext_alloc hbx.out _)
   have hw8 : w.heap.size < N8 := by omega
   clear BF0 hbx
   go_enter Try.func8, Try.ntmps8
   go_upto_region 1 with fail
   rw [← hW1]
   clear hW1
   obtain ⟨f0, f1, f2⟩ := BF1.out.q3
   have lF := BF1.out.lt
   go_wp2_with fail
   refine (l13Asked_any u lo A n c l m _ hn h63 (rdx H.out hb1.out)).mono ?_
   rw [HA.out]
   rintro e w2 ⟨rfl, hb⟩
   have BF2 := Lib.hid (BF1.out.ext hb)
   have hb2 := Lib.hid (ext_trans hb1.out hb)
   have BZ2 := Lib.hid (BZ1.out.ext hb)
   clear BZ1
   obtain ⟨z0, z1, z2⟩ := BZ2.out.z3
   obtain ⟨y0, y1, y2⟩ := BZ2.out.q3
   have lZ := BZ2.out.lt
   clear hb f0 f1 f2 lF BF1 hb1
   obtain ⟨f0, f1, f2⟩ := BF2.out.q3
   have lF := BF2.out.lt
   go_wp2_with fail
   refine (HB.out _ (rdx H.out hb2.out)).mono ?_
   rintro e w3 ⟨U, L, A3, c3, rfl, hu1, hu0, ho3, hb3⟩
   obtain ⟨N9, hN9⟩ : ∃ o9, w3.heap.size = o9 := ⟨_, rfl⟩
   obtain ⟨W4, hW4⟩ : ∃ y : World, y = w3.alloc (.cells #[.int .i64 U, .int .i64 L, .slice A3 X.l.length c3] 26) := ⟨_, rfl⟩
   have BX := Lib.hid (show Blk W4 N9 26 #[.int .i64 U, .int .i64 L, .slice A3 X.l.length c3] by rw [hW4]; exact Blk.born w3 _ 26 hN9.symm)
   have hb4 := Lib.hid (show Below w.heap.size w W4 by rw [hW4]; exact ext_alloc (ext_trans hb2.out hb3) _)
   have ho4 := Lib.hid (show W4.ownsRow w.heap.size 86 2 (.slice A3 X.l.length c3) X.l.length (rowsV2 X.l) by rw [hW4]; exact (own_base ho3 hb2.out.size).alloc _)
   have BF4 := Lib.hid (show Blk W4 w.heap.size 26 #[.int .i64 u, .int .i64 lo, .slice A n c] by rw [hW4]; exact (BF2.out.ext hb3).al _)
   have BZ4 := Lib.hid (show Blk W4 N8 26 #[.int .i64 0, .int .i64 0, .slice none 0 0] by rw [hW4]; exact (BZ2.out.ext hb3).al _)
   clear z0 z1 z2 y0 y1 y2 lZ BZ2
   obtain ⟨z0, z1, z2⟩ := BZ4.out.z3
   obtain ⟨y0, y1, y2⟩ := BZ4.out.q3
   have lZ := BZ4.out.lt
   clear ho3 hb3 f0 f1 f2 lF BF2 hb2
   go_upto_region 4 with fail
   rw [← hW4]
   clear hW4 hN9
   obtain ⟨x0, x1, x2⟩ := BX.out.q3
   have lX := BX.out.lt
   obtain ⟨f0, f1, f2⟩ := BF4.out.q3
   have lF := BF4.out.lt
   cases ho : X.ok
   · obtain rfl : X = zeroW := by
      rcases HZ.out with h | h
      · exact h.2.1
      · rw [ho] at h; cases h.1
     obtain ⟨rfl, rfl⟩ := hu0 ho
     go_wp2
     refine bodyPost_ret (v := .tuple #[frV 0 0 A3 zeroW.l.length c3, .bool false]) (by simp [results, Try.results8, go_sem, *]) rfl ?_
     exact ⟨0, 0, A3, c3, rfl, (fun h => by cases h), (fun _ => ⟨rfl, rfl⟩), fill_own' ho4.out (own_nbT ho4.out BZ4.out (by decide)), fill_below hb4.out (by omega)⟩
   · obtain ⟨rfl, rfl⟩ := hu1 ho
     go_wp2
     refine bodyPost_ret (v := .tuple #[frV U L A3 X.l.length c3, .bool true]) (by simp [results, Try.results8, go_sem, *]) rfl ?_
     exact ⟨U, L, A3, c3, by rw [ho], (fun _ => ⟨rfl, rfl⟩), (fun h => by rw [ho] at h; cases h), fill_own' ho4.out (own_nbT ho4.out BZ4.out (by decide)), fill_below hb4.out (by omega)⟩
set_option maxRecDepth 100000 in
set_option maxHeartbeats 8000000 in
theorem specMovesTo_any (u lo : Int) (A : Option Addr) (n c : Nat) (l : List R2) (m : Int) (w : World) (hn : n ≤ 1048576) (h63 : m ≤ 9223372036854775807) (h : Reads w w.heap.size 2 A n (rowsV2 l)) :
 Calls Try.prog 13 #[frV u lo A n c, .int .i64 m] w (RetSliceB w 54 3 (nearMs u lo l m).length (rowsV3 (nearMs u lo l m)) (nearW u lo l m).ok) := by
 have hl := rows_len2 h
 have H := Lib.hid h
 have BF0 := Lib.hid (Blk.born w #[.int .i64 u, .int .i64 lo, .slice A n c] 26 (H := w.heap.size) rfl)
 have hbx := Lib.hid (ext_alloc (ext_refl w) (.cells #[.int .i64 u, .int .i64 lo, .slice A n c] 26))
 clear h
 cases ha : askB u lo l m
 · have hms0 : nearMs u lo l m = [] := by unfold nearMs; rw [show nearW u lo l m = zeroW by unfold nearW; rw [if_neg (by rw [ha]; simp)]]; rfl
   rw [hms0]
   clear hms0
   rw [show nearW u lo l m = zeroW by unfold nearW; rw [if_neg (by rw [ha]; simp)]]
   have HA := Lib.hid ha
   clear ha hl
   have BF1 := BF0
   obtain ⟨W1, hW1⟩ : ∃ y : World, y = w.alloc (.cells #[.int .i64 u, .int .i64 lo, .slice A n c] 26) := ⟨_, rfl⟩
   rw [← hW1] at BF1
   have hb1 := Lib.hid (show Below w.heap.size w W1 by rw [hW1]; exact hbx.out)
   clear BF0 hbx
   go_enter Try.func13, Try.ntmps13
   go_upto_region 1 with fail
   rw [← hW1]
   clear hW1
   obtain ⟨f0, f1, f2⟩ := BF1.out.q3
   have lF := BF1.out.lt
   go_wp2_with fail
   refine (l13Asked_any u lo A n c l m _ hn h63 (rdx H.out hb1.out)).mono ?_
   rw [HA.out]
   rintro e w2 ⟨rfl, hb⟩
   have BF2 := Lib.hid (BF1.out.ext hb)
   have hb2 := Lib.hid (ext_trans hb1.out hb)
   clear hb f0 f1 f2 lF BF1 hb1
   obtain ⟨f0, f1, f2⟩ := BF2.out.q3
   have lF := BF2.out.lt
   have hb3 := Lib.hid (ext_alloc hb2.out (.cells #[] 54))
   go_wp2
   go_ret2
   exact ⟨_, _, rfl, own_empty2 (Blk.born w2 #[] 54 rfl) hb2.out.size, ext_alloc hb2.out _⟩
 · have hf : frB u lo l = true := by unfold askB at ha; simp at ha; exact ha.1
   have hm0 : 0 ≤ m := by unfold askB at ha; simp at ha; exact ha.2
   have hh := frB_head hf
   rw [hl] at hh
   have HB := Lib.hid (fun (w : World) h => l13Best_any u lo A n c l m w hf hl hm0 h63 h)
   rw [show minT nearP l n (tgP u lo n m) = nearW u lo l m by unfold nearW; rw [if_pos ha, hl]] at HB
   have HZ := Lib.hid (near_is u lo l m)
   have HFR := Lib.hid (nearW_fr u lo l m)
   have HLN := Lib.hid (nearW_len u lo l m)
   have HXM := Lib.hid (nearW_m u lo l m)
   rw [hl] at HLN HXM
   have HMS := Lib.hid (show nearMs u lo l m = if (nearW u lo l m).ok = true then btw l (nearW u lo l m).l n else [] by unfold nearMs; rw [hl])
   skip
   obtain ⟨X, hX⟩ : ∃ o9, nearW u lo l m = o9 := ⟨_, rfl⟩
   rw [hX] at HB HZ HFR HLN HXM HMS ⊢
   obtain ⟨MS, hMS⟩ : ∃ o9, nearMs u lo l m = o9 := ⟨_, rfl⟩
   rw [hMS] at HMS
   (try rw [hMS])
   unfold RetBest at HB
   have HA := Lib.hid ha
   have HF := Lib.hid hf
   clear hX hMS hl hf ha
   have BF1 := BF0
   obtain ⟨W1, hW1⟩ : ∃ y : World, y = w.alloc (.cells #[.int .i64 u, .int .i64 lo, .slice A n c] 26) := ⟨_, rfl⟩
   rw [← hW1] at BF1
   have hb1 := Lib.hid (show Below w.heap.size w W1 by rw [hW1]; exact hbx.out)
   clear BF0 hbx
   go_enter Try.func13, Try.ntmps13
   go_upto_region 1 with fail
   rw [← hW1]
   clear hW1
   obtain ⟨f0, f1, f2⟩ := BF1.out.q3
   have lF := BF1.out.lt
   go_wp2_with fail
   refine (l13Asked_any u lo A n c l m _ hn h63 (rdx H.out hb1.out)).mono ?_
   rw [HA.out]
   rintro e w2 ⟨rfl, hb⟩
   have BF2 := Lib.hid (BF1.out.ext hb)
   have hb2 := Lib.hid (ext_trans hb1.out hb)
   clear hb f0 f1 f2 lF BF1 hb1
   obtain ⟨f0, f1, f2⟩ := BF2.out.q3
   have lF := BF2.out.lt
   go_wp2_with fail
   refine (HB.out _ (rdx H.out hb2.out)).mono ?_
   rintro e w3 ⟨U, L, A3, c3, rfl, hu1, hu0, ho3, hb3⟩
   obtain ⟨N9, hN9⟩ : ∃ o9, w3.heap.size = o9 := ⟨_, rfl⟩
   obtain ⟨W4, hW4⟩ : ∃ y : World, y = w3.alloc (.cells #[.int .i64 U, .int .i64 L, .slice A3 X.l.length c3] 26) := ⟨_, rfl⟩
   have BX := Lib.hid (show Blk W4 N9 26 #[.int .i64 U, .int .i64 L, .slice A3 X.l.length c3] by rw [hW4]; exact Blk.born w3 _ 26 hN9.symm)
   have hb4 := Lib.hid (show Below w.heap.size w W4 by rw [hW4]; exact ext_alloc (ext_trans hb2.out hb3) _)
   have ho4 := Lib.hid (show W4.ownsRow w.heap.size 86 2 (.slice A3 X.l.length c3) X.l.length (rowsV2 X.l) by rw [hW4]; exact (own_base ho3 hb2.out.size).alloc _)
   have BF4 := Lib.hid (show Blk W4 w.heap.size 26 #[.int .i64 u, .int .i64 lo, .slice A n c] by rw [hW4]; exact (BF2.out.ext hb3).al _)
   skip
   clear ho3 hb3 f0 f1 f2 lF BF2 hb2
   go_upto_region 4 with fail
   rw [← hW4]
   clear hW4 hN9
   obtain ⟨x0, x1, x2⟩ := BX.out.q3
   have lX := BX.out.lt
   obtain ⟨f0, f1, f2⟩ := BF4.out.q3
   have lF := BF4.out.lt
   cases ho : X.ok
   · obtain rfl : X = zeroW := by
      rcases HZ.out with h | h
      · exact h.2.1
      · rw [ho] at h; cases h.1
     obtain rfl : MS = [] := by rw [HMS.out, if_neg (by decide)]
     go_wp2
     go_ret2
     exact ⟨_, _, rfl, own_empty2 (Blk.born W4 #[] 54 rfl) hb4.out.size, ext_alloc hb4.out _⟩
   · obtain ⟨rfl, rfl⟩ := hu1 ho
     have hxl := HLN.out ho
     have hfr := HFR.out ho
     have hms : MS = btw l X.l n := by rw [HMS.out, if_pos ho]
     have hxm := HXM.out ho
     rw [hxl] at x2 ho4
     have HBT := Lib.hid (fun (w : World) h h' => l4Between_any U L A A3 n c c3 l X.l w hfr.1 hfr.2 h h')
     rw [← hms] at HBT hxm
     unfold RetSlice at HBT
     clear hms hfr hu1 hu0
     go_wp2_with fail
     refine (HBT.out _ (rdx H.out hb4.out) (Reads.of_own ho4.out)).mono ?_
     rintro e w5 ⟨A5, c5, rfl, ho5, hb5⟩
     go_wp2
     go_ret2
     exact ⟨A5, c5, by rw [ho]; rfl, own_base ho5 hb4.out.size, ext_trans hb4.out hb5⟩

end Go.Proofs.Ytmfjaoljeildbaa
