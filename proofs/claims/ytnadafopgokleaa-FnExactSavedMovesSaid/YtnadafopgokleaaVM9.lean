/- The asked functions of fewest moves: the reference's. -/
import Derived.Deep.CutBlock
import Derived.Test.YtnadafopgokleaaVBsK
import Derived.Test.YtnadafopgokleaaVM4
namespace Go.Proofs.Ytnadafopgokleaa
open Go.RowKit
set_option linter.unusedVariables false
set_option linter.unusedSimpArgs false
set_option maxRecDepth 100000 in
set_option maxHeartbeats 8000000 in
theorem l13Asked_any (u lo : Int) (A : Option Addr) (n c : Nat) (l : List R2) (m : Int) (w : World) (hn : n ≤ 1048576) (h63 : m ≤ 9223372036854775807) (h : Reads w w.heap.size 2 A n (rowsV2 l)) :
 Calls Try.prog 27 #[frV u lo A n c, .int .i64 m] w (RetV (.bool (askB u lo l m)) w) := by
 have hl := rows_len2 h
 have H := Lib.hid h
 have BF0 := Lib.hid (Blk.born w #[.int .i64 u, .int .i64 lo, .slice A n c] 28 (H := w.heap.size) rfl)
 have hbx := Lib.hid (ext_alloc (ext_refl w) (.cells #[.int .i64 u, .int .i64 lo, .slice A n c] 28))
 clear h
 cases hf : frB u lo l
 · rw [show askB u lo l m = false by simp [askB, hf]]
   have HF := Lib.hid hf
   clear hf hl
   have BF1 := BF0
   obtain ⟨W1, hW1⟩ : ∃ y : World, y = w.alloc (.cells #[.int .i64 u, .int .i64 lo, .slice A n c] 28) := ⟨_, rfl⟩
   rw [← hW1] at BF1
   have hb1 := Lib.hid (show Below w.heap.size w W1 by rw [hW1]; exact hbx.out)
   clear BF0 hbx
   go_enter Try.func27, Try.ntmps27
   go_upto_region 1 with fail
   rw [← hW1]
   clear hW1
   obtain ⟨f0, f1, f2⟩ := BF1.out.q3
   have lF := BF1.out.lt
   go_wp2_with fail
   refine (l2Good_any u lo A n c l _ hn (rdx H.out hb1.out)).mono ?_
   rw [HF.out]
   rintro e w2 ⟨rfl, hb2⟩
   go_wp2
   go_ret
   exact ⟨by rfl, ext_trans hb1.out hb2⟩
 by_cases hm0 : 0 ≤ m
 · rw [show askB u lo l m = true by simp [askB, hf, hm0]]
   have HF := Lib.hid hf
   have kb : decide (0 ≤ m) = true := decide_eq_true hm0
   clear hf hl
   have BF1 := BF0
   obtain ⟨W1, hW1⟩ : ∃ y : World, y = w.alloc (.cells #[.int .i64 u, .int .i64 lo, .slice A n c] 28) := ⟨_, rfl⟩
   rw [← hW1] at BF1
   have hb1 := Lib.hid (show Below w.heap.size w W1 by rw [hW1]; exact hbx.out)
   clear BF0 hbx
   go_enter Try.func27, Try.ntmps27
   go_upto_region 1 with fail
   rw [← hW1]
   clear hW1
   obtain ⟨f0, f1, f2⟩ := BF1.out.q3
   have lF := BF1.out.lt
   go_wp2_with fail
   refine (l2Good_any u lo A n c l _ hn (rdx H.out hb1.out)).mono ?_
   rw [HF.out]
   rintro e w2 ⟨rfl, hb2⟩
   go_wp2
   go_ret
   exact ⟨by first | rfl | (rw [kb]; rfl) | (simp [kb]), ext_trans hb1.out hb2⟩
 · rw [show askB u lo l m = false by simp [askB, hm0]]
   have HF := Lib.hid hf
   have kb : decide (0 ≤ m) = false := decide_eq_false hm0
   clear hf hl
   have BF1 := BF0
   obtain ⟨W1, hW1⟩ : ∃ y : World, y = w.alloc (.cells #[.int .i64 u, .int .i64 lo, .slice A n c] 28) := ⟨_, rfl⟩
   rw [← hW1] at BF1
   have hb1 := Lib.hid (show Below w.heap.size w W1 by rw [hW1]; exact hbx.out)
   clear BF0 hbx
   go_enter Try.func27, Try.ntmps27
   go_upto_region 1 with fail
   rw [← hW1]
   clear hW1
   obtain ⟨f0, f1, f2⟩ := BF1.out.q3
   have lF := BF1.out.lt
   go_wp2_with fail
   refine (l2Good_any u lo A n c l _ hn (rdx H.out hb1.out)).mono ?_
   rw [HF.out]
   rintro e w2 ⟨rfl, hb2⟩
   go_wp2
   go_ret
   exact ⟨by first | rfl | (rw [kb]; rfl) | (simp [kb]), ext_trans hb1.out hb2⟩
end Go.Proofs.Ytnadafopgokleaa
