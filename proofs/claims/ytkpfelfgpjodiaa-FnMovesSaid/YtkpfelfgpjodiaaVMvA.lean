/- FnMoves' small functions: both. -/
import Derived.Test.YtkpfelfgpjodiaaVGmD
import Derived.Test.YtkpfelfgpjodiaaVGmE
import Derived.Test.YtkpfelfgpjodiaaVGmF
import Derived.Test.YtkpfelfgpjodiaaVM4
namespace Go.Proofs.Ytkpfelfgpjodiaa
open Go.RowKit
set_option linter.unusedVariables false
set_option linter.unusedSimpArgs false
/-- frames of one kind -/
def mbB (u lo : Int) (l : List R2) (u' lo' : Int) (l' : List R2) : Bool := frB u lo l && frB u' lo' l' && decide (u = u') && decide (lo = lo') && decide (l.length = l'.length)
def mbL (u lo : Int) (l : List R2) (u' lo' : Int) (l' : List R2) : List R3 := if mbB u lo l u' lo' l' = true then btw l l' l.length else []
theorem mb_parts {u lo u' lo' : Int} {l l' : List R2} (h : mbB u lo l u' lo' l' = true) : frB u lo l = true ∧ frB u' lo' l' = true ∧ u = u' ∧ lo = lo' ∧ l.length = l'.length := by
 unfold mbB at h
 simp only [Bool.and_eq_true, decide_eq_true_eq] at h
 exact ⟨h.1.1.1.1, h.1.1.1.2, h.1.1.2, h.1.2, h.2⟩
theorem mvs_small {ms : List R3} (h : mvsB ms = true) : smallM ms := by
 intro m hm
 unfold mvsB at h
 simp only [Bool.and_eq_true, List.all_eq_true] at h
 have := (okM_iff.1 (h.2 m hm)).2.2.1
 omega
set_option maxHeartbeats 2000000 in
theorem implBeadsOf_any (A : Option Addr) (n c : Nat) (ms : List R3) (w : World) (hn : n ≤ 1048576) (h : Reads w w.heap.size 3 A n (rowsV3 ms)) :
 Calls Try.prog 16 #[.slice A n c] w (RetV (.tuple #[.int .i64 (if mvsB ms = true then beads ms else 0), .bool (mvsB ms)]) w) := by
 have H := Lib.hid h
 have HA := Lib.hid (fun (w : World) h => areMoves_any A n c ms w hn h)
 unfold RetV at HA ⊢
 cases hm : mvsB ms
 · rw [hm] at HA
   rw [if_neg (by simp)]
   clear h hm
   go_enter Try.func16, Try.ntmps16
   go_wp2_with fail
   refine (HA.out _ H.out).mono ?_
   rintro e w1 ⟨rfl, hb1⟩
   go_wp2
   go_ret2
   exact ⟨rfl, hb1⟩
 · rw [hm] at HA
   rw [if_pos rfl]
   have HB := Lib.hid (fun (w : World) h => beadsOf_any A n c ms w hn (mvs_small hm) h)
   unfold RetV at HB
   clear h hm
   go_enter Try.func16, Try.ntmps16
   go_wp2_with fail
   refine (HA.out _ H.out).mono ?_
   rintro e w1 ⟨rfl, hb1⟩
   go_wp2_with fail
   refine (HB.out _ (rdx H.out hb1)).mono ?_
   rintro e w2 ⟨rfl, hb2⟩
   go_wp2
   go_ret2
   exact ⟨rfl, ext_trans hb1 hb2⟩
set_option maxRecDepth 100000 in
theorem alike_any (u lo : Int) (A : Option Addr) (n c : Nat) (u' lo' : Int) (B : Option Addr) (n' d : Nat) (w : World) :
 Calls Try.prog 76 #[frV u lo A n c, frV u' lo' B n' d] w (fun e w' => e = .returned (.bool (decide (u = u') && decide (lo = lo') && decide (n = n'))) ∧ Below w.heap.size w w') := by
 have HB0 := Lib.hid (ext_alloc (ext_alloc (ext_refl w) (.cells #[.int .i64 u, .int .i64 lo, .slice A n c] 26)) (.cells #[.int .i64 u', .int .i64 lo', .slice B n' d] 26))
 have BF0 := Lib.hid ((Blk.born w #[.int .i64 u, .int .i64 lo, .slice A n c] 26 (H := w.heap.size) rfl).al (.cells #[.int .i64 u', .int .i64 lo', .slice B n' d] 26))
 have BG0 := Lib.hid (Blk.born (w.alloc (.cells #[.int .i64 u, .int .i64 lo, .slice A n c] 26)) #[.int .i64 u', .int .i64 lo', .slice B n' d] 26 (H := w.heap.size + 1) (by simp))
 rcases (show u ≠ u' ∨ (u = u' ∧ lo ≠ lo') ∨ (u = u' ∧ lo = lo' ∧ n ≠ n') ∨ (u = u' ∧ lo = lo' ∧ n = n') by omega) with hk | ⟨rfl, hk⟩ | ⟨rfl, rfl, hk⟩ | ⟨rfl, rfl, rfl⟩
 · have k1 : (u == u') = false := by simpa using hk
   rw [show (decide (u = u') && decide (lo = lo') && decide (n = n')) = false by simp [hk]]
   go_enter Try.func76, Try.ntmps76
   go_wp2_with fail
   obtain ⟨W0, hW0⟩ : ∃ y : World, y = (w.alloc (.cells #[.int .i64 u, .int .i64 lo, .slice A n c] 26)).alloc (.cells #[.int .i64 u', .int .i64 lo', .slice B n' d] 26) := ⟨_, rfl⟩
   rw [← hW0] at HB0 BF0 BG0
   go_upto_region 1 with fail
   rw [← hW0]
   clear hW0
   obtain ⟨a0, a1, a2⟩ := BF0.out.q3
   obtain ⟨b0, b1, b2⟩ := BG0.out.q3
   have la := BF0.out.lt
   have lb := BG0.out.lt
   go_wp2
   go_ret
   exact ⟨rfl, HB0.out⟩
 · have k1 : (lo == lo') = false := by simpa using hk
   rw [show (decide (u = u) && decide (lo = lo') && decide (n = n')) = false by simp [hk]]
   go_enter Try.func76, Try.ntmps76
   go_wp2_with fail
   obtain ⟨W0, hW0⟩ : ∃ y : World, y = (w.alloc (.cells #[.int .i64 u, .int .i64 lo, .slice A n c] 26)).alloc (.cells #[.int .i64 u, .int .i64 lo', .slice B n' d] 26) := ⟨_, rfl⟩
   rw [← hW0] at HB0 BF0 BG0
   go_upto_region 1 with fail
   rw [← hW0]
   clear hW0
   obtain ⟨a0, a1, a2⟩ := BF0.out.q3
   obtain ⟨b0, b1, b2⟩ := BG0.out.q3
   have la := BF0.out.lt
   have lb := BG0.out.lt
   go_wp2
   go_ret
   exact ⟨rfl, HB0.out⟩
 · have k1 : ((n : Int) == (n' : Int)) = false := by rw [beq_eq_false_iff_ne]; omega
   rw [show (decide (u = u) && decide (lo = lo) && decide (n = n')) = false by simp [hk]]
   go_enter Try.func76, Try.ntmps76
   go_wp2_with fail
   obtain ⟨W0, hW0⟩ : ∃ y : World, y = (w.alloc (.cells #[.int .i64 u, .int .i64 lo, .slice A n c] 26)).alloc (.cells #[.int .i64 u, .int .i64 lo, .slice B n' d] 26) := ⟨_, rfl⟩
   rw [← hW0] at HB0 BF0 BG0
   go_upto_region 1 with fail
   rw [← hW0]
   clear hW0
   obtain ⟨a0, a1, a2⟩ := BF0.out.q3
   obtain ⟨b0, b1, b2⟩ := BG0.out.q3
   have la := BF0.out.lt
   have lb := BG0.out.lt
   go_wp2
   go_ret
   exact ⟨rfl, HB0.out⟩
 · skip
   rw [show (decide (u = u) && decide (lo = lo) && decide (n = n)) = true by simp]
   go_enter Try.func76, Try.ntmps76
   go_wp2_with fail
   obtain ⟨W0, hW0⟩ : ∃ y : World, y = (w.alloc (.cells #[.int .i64 u, .int .i64 lo, .slice A n c] 26)).alloc (.cells #[.int .i64 u, .int .i64 lo, .slice B n d] 26) := ⟨_, rfl⟩
   rw [← hW0] at HB0 BF0 BG0
   go_upto_region 1 with fail
   rw [← hW0]
   clear hW0
   obtain ⟨a0, a1, a2⟩ := BF0.out.q3
   obtain ⟨b0, b1, b2⟩ := BG0.out.q3
   have la := BF0.out.lt
   have lb := BG0.out.lt
   go_wp2
   go_ret
   exact ⟨rfl, HB0.out⟩
set_option maxRecDepth 100000 in
set_option maxHeartbeats 4000000 in
theorem l4Alike_any (u lo : Int) (A : Option Addr) (n c : Nat) (l : List R2) (u' lo' : Int) (B : Option Addr) (n' d : Nat) (l' : List R2) (w : World) (hn : n ≤ 1048576) (hn' : n' ≤ 1048576) (h : Reads w w.heap.size 2 A n (rowsV2 l)) (h' : Reads w w.heap.size 2 B n' (rowsV2 l')) :
 Calls Try.prog 85 #[frV u lo A n c, frV u' lo' B n' d] w (fun e w' => e = .returned (.bool (mbB u lo l u' lo' l')) ∧ Below w.heap.size w w') := by
 have hl := rows_len2 h
 have hl' := rows_len2 h'
 have H := Lib.hid h
 have H' := Lib.hid h'
 have HB0 := Lib.hid (ext_alloc (ext_alloc (ext_refl w) (.cells #[.int .i64 u, .int .i64 lo, .slice A n c] 26)) (.cells #[.int .i64 u', .int .i64 lo', .slice B n' d] 26))
 have BF0 := Lib.hid ((Blk.born w #[.int .i64 u, .int .i64 lo, .slice A n c] 26 (H := w.heap.size) rfl).al (.cells #[.int .i64 u', .int .i64 lo', .slice B n' d] 26))
 have BG0 := Lib.hid (Blk.born (w.alloc (.cells #[.int .i64 u, .int .i64 lo, .slice A n c] 26)) #[.int .i64 u', .int .i64 lo', .slice B n' d] 26 (H := w.heap.size + 1) (by simp))
 have HI := Lib.hid (fun (w : World) h => l2Good_any u lo A n c l w hn h)
 have HJ := Lib.hid (fun (w : World) h => l2Good_any u' lo' B n' d l' w hn' h)
 unfold RetV at HI HJ
 cases hf : frB u lo l
 · rw [show mbB u lo l u' lo' l' = false by unfold mbB; rw [hf]; rfl]
   rw [hf] at HI
   clear h h' hl hl' hf
   go_enter Try.func85, Try.ntmps85
   go_wp2_with fail
   obtain ⟨W0, hW0⟩ : ∃ y : World, y = (w.alloc (.cells #[.int .i64 u, .int .i64 lo, .slice A n c] 26)).alloc (.cells #[.int .i64 u', .int .i64 lo', .slice B n' d] 26) := ⟨_, rfl⟩
   rw [← hW0] at HB0 BF0 BG0
   go_upto_region 1 with fail
   rw [← hW0]
   clear hW0
   obtain ⟨a0, a1, a2⟩ := BF0.out.q3
   obtain ⟨b0, b1, b2⟩ := BG0.out.q3
   have la := BF0.out.lt
   have lb := BG0.out.lt
   go_wp2_with fail
   refine (HI.out _ (rdx H.out HB0.out)).mono ?_
   rintro e w1 ⟨rfl, hb⟩
   clear a0 a1 a2 b0 b1 b2 la lb
   have BF1 := Lib.hid (BF0.out.ext hb)
   have BG1 := Lib.hid (BG0.out.ext hb)
   have HB1 := Lib.hid (ext_trans HB0.out hb)
   clear hb
   obtain ⟨a0, a1, a2⟩ := BF1.out.q3
   obtain ⟨b0, b1, b2⟩ := BG1.out.q3
   have la := BF1.out.lt
   have lb := BG1.out.lt
   go_wp2_with fail
   go_wp2
   go_ret
   exact ⟨rfl, HB1.out⟩
 cases hf' : frB u' lo' l'
 · rw [show mbB u lo l u' lo' l' = false by unfold mbB; rw [hf, hf']; rfl]
   rw [hf] at HI
   rw [hf'] at HJ
   clear h h' hl hl' hf hf'
   go_enter Try.func85, Try.ntmps85
   go_wp2_with fail
   obtain ⟨W0, hW0⟩ : ∃ y : World, y = (w.alloc (.cells #[.int .i64 u, .int .i64 lo, .slice A n c] 26)).alloc (.cells #[.int .i64 u', .int .i64 lo', .slice B n' d] 26) := ⟨_, rfl⟩
   rw [← hW0] at HB0 BF0 BG0
   go_upto_region 1 with fail
   rw [← hW0]
   clear hW0
   obtain ⟨a0, a1, a2⟩ := BF0.out.q3
   obtain ⟨b0, b1, b2⟩ := BG0.out.q3
   have la := BF0.out.lt
   have lb := BG0.out.lt
   go_wp2_with fail
   refine (HI.out _ (rdx H.out HB0.out)).mono ?_
   rintro e w1 ⟨rfl, hb⟩
   clear a0 a1 a2 b0 b1 b2 la lb
   have BF1 := Lib.hid (BF0.out.ext hb)
   have BG1 := Lib.hid (BG0.out.ext hb)
   have HB1 := Lib.hid (ext_trans HB0.out hb)
   clear hb
   obtain ⟨a0, a1, a2⟩ := BF1.out.q3
   obtain ⟨b0, b1, b2⟩ := BG1.out.q3
   have la := BF1.out.lt
   have lb := BG1.out.lt
   go_wp2_with fail
   refine (HJ.out _ (rdx H'.out HB1.out)).mono ?_
   rintro e w2 ⟨rfl, hb⟩
   clear a0 a1 a2 b0 b1 b2 la lb
   have BF2 := Lib.hid (BF1.out.ext hb)
   have BG2 := Lib.hid (BG1.out.ext hb)
   have HB2 := Lib.hid (ext_trans HB1.out hb)
   clear hb
   obtain ⟨a0, a1, a2⟩ := BF2.out.q3
   obtain ⟨b0, b1, b2⟩ := BG2.out.q3
   have la := BF2.out.lt
   have lb := BG2.out.lt
   go_wp2_with fail
   go_wp2
   go_ret
   exact ⟨rfl, HB2.out⟩
 rcases (show u ≠ u' ∨ (u = u' ∧ lo ≠ lo') ∨ (u = u' ∧ lo = lo' ∧ n ≠ n') ∨ (u = u' ∧ lo = lo' ∧ n = n') by omega) with hk | ⟨rfl, hk⟩ | ⟨rfl, rfl, hk⟩ | ⟨rfl, rfl, rfl⟩
 · have k1 : (u == u') = false := by simpa using hk
   rw [show mbB u lo l u' lo' l' = false by unfold mbB; rw [hf, hf', hl, hl']; simp [hk]]
   rw [hf] at HI
   rw [hf'] at HJ
   clear h h' hl hl' hf hf'
   go_enter Try.func85, Try.ntmps85
   go_wp2_with fail
   obtain ⟨W0, hW0⟩ : ∃ y : World, y = (w.alloc (.cells #[.int .i64 u, .int .i64 lo, .slice A n c] 26)).alloc (.cells #[.int .i64 u', .int .i64 lo', .slice B n' d] 26) := ⟨_, rfl⟩
   rw [← hW0] at HB0 BF0 BG0
   go_upto_region 1 with fail
   rw [← hW0]
   clear hW0
   obtain ⟨a0, a1, a2⟩ := BF0.out.q3
   obtain ⟨b0, b1, b2⟩ := BG0.out.q3
   have la := BF0.out.lt
   have lb := BG0.out.lt
   go_wp2_with fail
   refine (HI.out _ (rdx H.out HB0.out)).mono ?_
   rintro e w1 ⟨rfl, hb⟩
   clear a0 a1 a2 b0 b1 b2 la lb
   have BF1 := Lib.hid (BF0.out.ext hb)
   have BG1 := Lib.hid (BG0.out.ext hb)
   have HB1 := Lib.hid (ext_trans HB0.out hb)
   clear hb
   obtain ⟨a0, a1, a2⟩ := BF1.out.q3
   obtain ⟨b0, b1, b2⟩ := BG1.out.q3
   have la := BF1.out.lt
   have lb := BG1.out.lt
   go_wp2_with fail
   refine (HJ.out _ (rdx H'.out HB1.out)).mono ?_
   rintro e w2 ⟨rfl, hb⟩
   clear a0 a1 a2 b0 b1 b2 la lb
   have BF2 := Lib.hid (BF1.out.ext hb)
   have BG2 := Lib.hid (BG1.out.ext hb)
   have HB2 := Lib.hid (ext_trans HB1.out hb)
   clear hb
   obtain ⟨a0, a1, a2⟩ := BF2.out.q3
   obtain ⟨b0, b1, b2⟩ := BG2.out.q3
   have la := BF2.out.lt
   have lb := BG2.out.lt
   go_wp2_with fail
   go_wp2
   go_ret
   exact ⟨rfl, HB2.out⟩
 · have k1 : (lo == lo') = false := by simpa using hk
   rw [show mbB u lo l u lo' l' = false by unfold mbB; rw [hf, hf', hl, hl']; simp [hk]]
   rw [hf] at HI
   rw [hf'] at HJ
   clear h h' hl hl' hf hf'
   go_enter Try.func85, Try.ntmps85
   go_wp2_with fail
   obtain ⟨W0, hW0⟩ : ∃ y : World, y = (w.alloc (.cells #[.int .i64 u, .int .i64 lo, .slice A n c] 26)).alloc (.cells #[.int .i64 u, .int .i64 lo', .slice B n' d] 26) := ⟨_, rfl⟩
   rw [← hW0] at HB0 BF0 BG0
   go_upto_region 1 with fail
   rw [← hW0]
   clear hW0
   obtain ⟨a0, a1, a2⟩ := BF0.out.q3
   obtain ⟨b0, b1, b2⟩ := BG0.out.q3
   have la := BF0.out.lt
   have lb := BG0.out.lt
   go_wp2_with fail
   refine (HI.out _ (rdx H.out HB0.out)).mono ?_
   rintro e w1 ⟨rfl, hb⟩
   clear a0 a1 a2 b0 b1 b2 la lb
   have BF1 := Lib.hid (BF0.out.ext hb)
   have BG1 := Lib.hid (BG0.out.ext hb)
   have HB1 := Lib.hid (ext_trans HB0.out hb)
   clear hb
   obtain ⟨a0, a1, a2⟩ := BF1.out.q3
   obtain ⟨b0, b1, b2⟩ := BG1.out.q3
   have la := BF1.out.lt
   have lb := BG1.out.lt
   go_wp2_with fail
   refine (HJ.out _ (rdx H'.out HB1.out)).mono ?_
   rintro e w2 ⟨rfl, hb⟩
   clear a0 a1 a2 b0 b1 b2 la lb
   have BF2 := Lib.hid (BF1.out.ext hb)
   have BG2 := Lib.hid (BG1.out.ext hb)
   have HB2 := Lib.hid (ext_trans HB1.out hb)
   clear hb
   obtain ⟨a0, a1, a2⟩ := BF2.out.q3
   obtain ⟨b0, b1, b2⟩ := BG2.out.q3
   have la := BF2.out.lt
   have lb := BG2.out.lt
   go_wp2_with fail
   go_wp2
   go_ret
   exact ⟨rfl, HB2.out⟩
 · have k1 : ((n : Int) == (n' : Int)) = false := by rw [beq_eq_false_iff_ne]; omega
   rw [show mbB u lo l u lo l' = false by unfold mbB; rw [hf, hf', hl, hl']; simp [hk]]
   rw [hf] at HI
   rw [hf'] at HJ
   clear h h' hl hl' hf hf'
   go_enter Try.func85, Try.ntmps85
   go_wp2_with fail
   obtain ⟨W0, hW0⟩ : ∃ y : World, y = (w.alloc (.cells #[.int .i64 u, .int .i64 lo, .slice A n c] 26)).alloc (.cells #[.int .i64 u, .int .i64 lo, .slice B n' d] 26) := ⟨_, rfl⟩
   rw [← hW0] at HB0 BF0 BG0
   go_upto_region 1 with fail
   rw [← hW0]
   clear hW0
   obtain ⟨a0, a1, a2⟩ := BF0.out.q3
   obtain ⟨b0, b1, b2⟩ := BG0.out.q3
   have la := BF0.out.lt
   have lb := BG0.out.lt
   go_wp2_with fail
   refine (HI.out _ (rdx H.out HB0.out)).mono ?_
   rintro e w1 ⟨rfl, hb⟩
   clear a0 a1 a2 b0 b1 b2 la lb
   have BF1 := Lib.hid (BF0.out.ext hb)
   have BG1 := Lib.hid (BG0.out.ext hb)
   have HB1 := Lib.hid (ext_trans HB0.out hb)
   clear hb
   obtain ⟨a0, a1, a2⟩ := BF1.out.q3
   obtain ⟨b0, b1, b2⟩ := BG1.out.q3
   have la := BF1.out.lt
   have lb := BG1.out.lt
   go_wp2_with fail
   refine (HJ.out _ (rdx H'.out HB1.out)).mono ?_
   rintro e w2 ⟨rfl, hb⟩
   clear a0 a1 a2 b0 b1 b2 la lb
   have BF2 := Lib.hid (BF1.out.ext hb)
   have BG2 := Lib.hid (BG1.out.ext hb)
   have HB2 := Lib.hid (ext_trans HB1.out hb)
   clear hb
   obtain ⟨a0, a1, a2⟩ := BF2.out.q3
   obtain ⟨b0, b1, b2⟩ := BG2.out.q3
   have la := BF2.out.lt
   have lb := BG2.out.lt
   go_wp2_with fail
   go_wp2
   go_ret
   exact ⟨rfl, HB2.out⟩
 · skip
   rw [show mbB u lo l u lo l' = true by unfold mbB; rw [hf, hf', hl, hl']; simp]
   rw [hf] at HI
   rw [hf'] at HJ
   clear h h' hl hl' hf hf'
   go_enter Try.func85, Try.ntmps85
   go_wp2_with fail
   obtain ⟨W0, hW0⟩ : ∃ y : World, y = (w.alloc (.cells #[.int .i64 u, .int .i64 lo, .slice A n c] 26)).alloc (.cells #[.int .i64 u, .int .i64 lo, .slice B n d] 26) := ⟨_, rfl⟩
   rw [← hW0] at HB0 BF0 BG0
   go_upto_region 1 with fail
   rw [← hW0]
   clear hW0
   obtain ⟨a0, a1, a2⟩ := BF0.out.q3
   obtain ⟨b0, b1, b2⟩ := BG0.out.q3
   have la := BF0.out.lt
   have lb := BG0.out.lt
   go_wp2_with fail
   refine (HI.out _ (rdx H.out HB0.out)).mono ?_
   rintro e w1 ⟨rfl, hb⟩
   clear a0 a1 a2 b0 b1 b2 la lb
   have BF1 := Lib.hid (BF0.out.ext hb)
   have BG1 := Lib.hid (BG0.out.ext hb)
   have HB1 := Lib.hid (ext_trans HB0.out hb)
   clear hb
   obtain ⟨a0, a1, a2⟩ := BF1.out.q3
   obtain ⟨b0, b1, b2⟩ := BG1.out.q3
   have la := BF1.out.lt
   have lb := BG1.out.lt
   go_wp2_with fail
   refine (HJ.out _ (rdx H'.out HB1.out)).mono ?_
   rintro e w2 ⟨rfl, hb⟩
   clear a0 a1 a2 b0 b1 b2 la lb
   have BF2 := Lib.hid (BF1.out.ext hb)
   have BG2 := Lib.hid (BG1.out.ext hb)
   have HB2 := Lib.hid (ext_trans HB1.out hb)
   clear hb
   obtain ⟨a0, a1, a2⟩ := BF2.out.q3
   obtain ⟨b0, b1, b2⟩ := BG2.out.q3
   have la := BF2.out.lt
   have lb := BG2.out.lt
   go_wp2_with fail
   go_wp2
   go_ret
   exact ⟨rfl, HB2.out⟩
set_option maxRecDepth 100000 in
set_option maxHeartbeats 4000000 in
theorem implMovesBetween_any (u lo : Int) (A : Option Addr) (n c : Nat) (l : List R2) (u' lo' : Int) (B : Option Addr) (n' d : Nat) (l' : List R2) (w : World) (hn : n ≤ 1048576) (hn' : n' ≤ 1048576) (h : Reads w w.heap.size 2 A n (rowsV2 l)) (h' : Reads w w.heap.size 2 B n' (rowsV2 l')) :
 Calls Try.prog 15 #[frV u lo A n c, frV u' lo' B n' d] w (RetSliceB w 41 3 (mbL u lo l u' lo' l').length (rowsV3 (mbL u lo l u' lo' l')) (mbB u lo l u' lo' l')) := by
 have hl := rows_len2 h
 have hl' := rows_len2 h'
 have H := Lib.hid h
 have H' := Lib.hid h'
 have HB0 := Lib.hid (ext_alloc (ext_alloc (ext_refl w) (.cells #[.int .i64 u, .int .i64 lo, .slice A n c] 26)) (.cells #[.int .i64 u', .int .i64 lo', .slice B n' d] 26))
 have BF0 := Lib.hid ((Blk.born w #[.int .i64 u, .int .i64 lo, .slice A n c] 26 (H := w.heap.size) rfl).al (.cells #[.int .i64 u', .int .i64 lo', .slice B n' d] 26))
 have BG0 := Lib.hid (Blk.born (w.alloc (.cells #[.int .i64 u, .int .i64 lo, .slice A n c] 26)) #[.int .i64 u', .int .i64 lo', .slice B n' d] 26 (H := w.heap.size + 1) (by simp))
 have HI := Lib.hid (fun (w : World) h => isFrame_any u lo A n c l w hn h)
 have HJ := Lib.hid (fun (w : World) h => isFrame_any u' lo' B n' d l' w hn' h)
 have HK := Lib.hid (fun (w : World) => alike_any u lo A n c u' lo' B n' d w)
 unfold RetSliceB
 cases hf : frB u lo l
 · have e : mbB u lo l u' lo' l' = false := by unfold mbB; rw [hf]; rfl
   rw [show mbL u lo l u' lo' l' = [] by unfold mbL; rw [if_neg (by rw [e]; simp)], e]
   rw [hf] at HI
   clear h h' hl hl' hf e
   go_enter Try.func15, Try.ntmps15
   go_wp2_with fail
   obtain ⟨W0, hW0⟩ : ∃ y : World, y = (w.alloc (.cells #[.int .i64 u, .int .i64 lo, .slice A n c] 26)).alloc (.cells #[.int .i64 u', .int .i64 lo', .slice B n' d] 26) := ⟨_, rfl⟩
   rw [← hW0] at HB0 BF0 BG0
   go_upto_region 1 with fail
   rw [← hW0]
   clear hW0
   obtain ⟨a0, a1, a2⟩ := BF0.out.q3
   obtain ⟨b0, b1, b2⟩ := BG0.out.q3
   have la := BF0.out.lt
   have lb := BG0.out.lt
   go_wp2_with fail
   refine (HI.out _ (rdx H.out HB0.out)).mono ?_
   rintro e w1 ⟨rfl, hb⟩
   clear a0 a1 a2 b0 b1 b2 la lb
   have BF1 := Lib.hid (BF0.out.ext hb)
   have BG1 := Lib.hid (BG0.out.ext hb)
   have HB1 := Lib.hid (ext_trans HB0.out hb)
   clear hb
   obtain ⟨a0, a1, a2⟩ := BF1.out.q3
   obtain ⟨b0, b1, b2⟩ := BG1.out.q3
   have la := BF1.out.lt
   have lb := BG1.out.lt
   go_wp2_with fail
   go_wp2
   go_ret2
   exact ⟨_, _, rfl, World.ownsRow_nil _ _ _ _, HB1.out⟩
 cases hf' : frB u' lo' l'
 · have e : mbB u lo l u' lo' l' = false := by unfold mbB; rw [hf, hf']; rfl
   rw [show mbL u lo l u' lo' l' = [] by unfold mbL; rw [if_neg (by rw [e]; simp)], e]
   rw [hf] at HI
   rw [hf'] at HJ
   clear h h' hl hl' hf hf' e
   go_enter Try.func15, Try.ntmps15
   go_wp2_with fail
   obtain ⟨W0, hW0⟩ : ∃ y : World, y = (w.alloc (.cells #[.int .i64 u, .int .i64 lo, .slice A n c] 26)).alloc (.cells #[.int .i64 u', .int .i64 lo', .slice B n' d] 26) := ⟨_, rfl⟩
   rw [← hW0] at HB0 BF0 BG0
   go_upto_region 1 with fail
   rw [← hW0]
   clear hW0
   obtain ⟨a0, a1, a2⟩ := BF0.out.q3
   obtain ⟨b0, b1, b2⟩ := BG0.out.q3
   have la := BF0.out.lt
   have lb := BG0.out.lt
   go_wp2_with fail
   refine (HI.out _ (rdx H.out HB0.out)).mono ?_
   rintro e w1 ⟨rfl, hb⟩
   clear a0 a1 a2 b0 b1 b2 la lb
   have BF1 := Lib.hid (BF0.out.ext hb)
   have BG1 := Lib.hid (BG0.out.ext hb)
   have HB1 := Lib.hid (ext_trans HB0.out hb)
   clear hb
   obtain ⟨a0, a1, a2⟩ := BF1.out.q3
   obtain ⟨b0, b1, b2⟩ := BG1.out.q3
   have la := BF1.out.lt
   have lb := BG1.out.lt
   go_wp2_with fail
   refine (HJ.out _ (rdx H'.out HB1.out)).mono ?_
   rintro e w2 ⟨rfl, hb⟩
   clear a0 a1 a2 b0 b1 b2 la lb
   have BF2 := Lib.hid (BF1.out.ext hb)
   have BG2 := Lib.hid (BG1.out.ext hb)
   have HB2 := Lib.hid (ext_trans HB1.out hb)
   clear hb
   obtain ⟨a0, a1, a2⟩ := BF2.out.q3
   obtain ⟨b0, b1, b2⟩ := BG2.out.q3
   have la := BF2.out.lt
   have lb := BG2.out.lt
   go_wp2_with fail
   go_wp2
   go_ret2
   exact ⟨_, _, rfl, World.ownsRow_nil _ _ _ _, HB2.out⟩
 by_cases hk : u = u' ∧ lo = lo' ∧ n = n'
 · obtain ⟨rfl, rfl, rfl⟩ := hk
   have e : mbB u lo l u lo l' = true := by unfold mbB; rw [hf, hf', hl, hl']; simp
   rw [show mbL u lo l u lo l' = btw l l' n by unfold mbL; rw [if_pos e, hl], e]
   have HM := Lib.hid (fun (w : World) h h' => movesBetween_any u lo A B n c d l l' w hf hf' h h')
   unfold RetSlice at HM
   rw [hf] at HI
   rw [hf'] at HJ
   rw [show (decide (u = u) && decide (lo = lo) && decide (n = n)) = true by simp] at HK
   clear h h' hl hl' hf hf' e
   go_enter Try.func15, Try.ntmps15
   go_wp2_with fail
   obtain ⟨W0, hW0⟩ : ∃ y : World, y = (w.alloc (.cells #[.int .i64 u, .int .i64 lo, .slice A n c] 26)).alloc (.cells #[.int .i64 u, .int .i64 lo, .slice B n d] 26) := ⟨_, rfl⟩
   rw [← hW0] at HB0 BF0 BG0
   go_upto_region 1 with fail
   rw [← hW0]
   clear hW0
   obtain ⟨a0, a1, a2⟩ := BF0.out.q3
   obtain ⟨b0, b1, b2⟩ := BG0.out.q3
   have la := BF0.out.lt
   have lb := BG0.out.lt
   go_wp2_with fail
   refine (HI.out _ (rdx H.out HB0.out)).mono ?_
   rintro e w1 ⟨rfl, hb⟩
   clear a0 a1 a2 b0 b1 b2 la lb
   have BF1 := Lib.hid (BF0.out.ext hb)
   have BG1 := Lib.hid (BG0.out.ext hb)
   have HB1 := Lib.hid (ext_trans HB0.out hb)
   clear hb
   obtain ⟨a0, a1, a2⟩ := BF1.out.q3
   obtain ⟨b0, b1, b2⟩ := BG1.out.q3
   have la := BF1.out.lt
   have lb := BG1.out.lt
   go_wp2_with fail
   refine (HJ.out _ (rdx H'.out HB1.out)).mono ?_
   rintro e w2 ⟨rfl, hb⟩
   clear a0 a1 a2 b0 b1 b2 la lb
   have BF2 := Lib.hid (BF1.out.ext hb)
   have BG2 := Lib.hid (BG1.out.ext hb)
   have HB2 := Lib.hid (ext_trans HB1.out hb)
   clear hb
   obtain ⟨a0, a1, a2⟩ := BF2.out.q3
   obtain ⟨b0, b1, b2⟩ := BG2.out.q3
   have la := BF2.out.lt
   have lb := BG2.out.lt
   go_wp2_with fail
   refine (HK.out _ ).mono ?_
   rintro e w3 ⟨rfl, hb⟩
   clear a0 a1 a2 b0 b1 b2 la lb
   have BF3 := Lib.hid (BF2.out.ext hb)
   have BG3 := Lib.hid (BG2.out.ext hb)
   have HB3 := Lib.hid (ext_trans HB2.out hb)
   clear hb
   obtain ⟨a0, a1, a2⟩ := BF3.out.q3
   obtain ⟨b0, b1, b2⟩ := BG3.out.q3
   have la := BF3.out.lt
   have lb := BG3.out.lt
   go_wp2_with fail
   refine (HM.out _ (rdx H.out HB3.out) (rdx H'.out HB3.out)).mono ?_
   rintro e w4 ⟨Am, cm, rfl, ho, hb⟩
   go_wp2
   go_ret2
   exact ⟨_, _, rfl, own_base ho HB3.out.size, ext_trans HB3.out hb⟩
 · have hk' : (decide (u = u') && decide (lo = lo') && decide (n = n')) = false := by
    cases hx : (decide (u = u') && decide (lo = lo') && decide (n = n'))
    · rfl
    · simp only [Bool.and_eq_true, decide_eq_true_eq] at hx; exact absurd ⟨hx.1.1, hx.1.2, hx.2⟩ hk
   have e : mbB u lo l u' lo' l' = false := by unfold mbB; rw [hf, hf', hl, hl', Bool.and_assoc, Bool.and_assoc, Bool.true_and, Bool.true_and, ← Bool.and_assoc]; exact hk'
   rw [show mbL u lo l u' lo' l' = [] by unfold mbL; rw [if_neg (by rw [e]; simp)], e]
   rw [hf] at HI
   rw [hf'] at HJ
   rw [hk'] at HK
   clear h h' hl hl' hf hf' e hk hk'
   go_enter Try.func15, Try.ntmps15
   go_wp2_with fail
   obtain ⟨W0, hW0⟩ : ∃ y : World, y = (w.alloc (.cells #[.int .i64 u, .int .i64 lo, .slice A n c] 26)).alloc (.cells #[.int .i64 u', .int .i64 lo', .slice B n' d] 26) := ⟨_, rfl⟩
   rw [← hW0] at HB0 BF0 BG0
   go_upto_region 1 with fail
   rw [← hW0]
   clear hW0
   obtain ⟨a0, a1, a2⟩ := BF0.out.q3
   obtain ⟨b0, b1, b2⟩ := BG0.out.q3
   have la := BF0.out.lt
   have lb := BG0.out.lt
   go_wp2_with fail
   refine (HI.out _ (rdx H.out HB0.out)).mono ?_
   rintro e w1 ⟨rfl, hb⟩
   clear a0 a1 a2 b0 b1 b2 la lb
   have BF1 := Lib.hid (BF0.out.ext hb)
   have BG1 := Lib.hid (BG0.out.ext hb)
   have HB1 := Lib.hid (ext_trans HB0.out hb)
   clear hb
   obtain ⟨a0, a1, a2⟩ := BF1.out.q3
   obtain ⟨b0, b1, b2⟩ := BG1.out.q3
   have la := BF1.out.lt
   have lb := BG1.out.lt
   go_wp2_with fail
   refine (HJ.out _ (rdx H'.out HB1.out)).mono ?_
   rintro e w2 ⟨rfl, hb⟩
   clear a0 a1 a2 b0 b1 b2 la lb
   have BF2 := Lib.hid (BF1.out.ext hb)
   have BG2 := Lib.hid (BG1.out.ext hb)
   have HB2 := Lib.hid (ext_trans HB1.out hb)
   clear hb
   obtain ⟨a0, a1, a2⟩ := BF2.out.q3
   obtain ⟨b0, b1, b2⟩ := BG2.out.q3
   have la := BF2.out.lt
   have lb := BG2.out.lt
   go_wp2_with fail
   refine (HK.out _ ).mono ?_
   rintro e w3 ⟨rfl, hb⟩
   clear a0 a1 a2 b0 b1 b2 la lb
   have BF3 := Lib.hid (BF2.out.ext hb)
   have BG3 := Lib.hid (BG2.out.ext hb)
   have HB3 := Lib.hid (ext_trans HB2.out hb)
   clear hb
   obtain ⟨a0, a1, a2⟩ := BF3.out.q3
   obtain ⟨b0, b1, b2⟩ := BG3.out.q3
   have la := BF3.out.lt
   have lb := BG3.out.lt
   go_wp2_with fail
   go_wp2
   go_ret2
   exact ⟨_, _, rfl, World.ownsRow_nil _ _ _ _, HB3.out⟩
set_option maxRecDepth 100000 in
set_option maxHeartbeats 4000000 in
theorem specMovesBetween_any (u lo : Int) (A : Option Addr) (n c : Nat) (l : List R2) (u' lo' : Int) (B : Option Addr) (n' d : Nat) (l' : List R2) (w : World) (hn : n ≤ 1048576) (hn' : n' ≤ 1048576) (h : Reads w w.heap.size 2 A n (rowsV2 l)) (h' : Reads w w.heap.size 2 B n' (rowsV2 l')) :
 Calls Try.prog 26 #[frV u lo A n c, frV u' lo' B n' d] w (RetSliceB w 41 3 (mbL u lo l u' lo' l').length (rowsV3 (mbL u lo l u' lo' l')) (mbB u lo l u' lo' l')) := by
 have hl := rows_len2 h
 have hl' := rows_len2 h'
 have H := Lib.hid h
 have H' := Lib.hid h'
 have HB0 := Lib.hid (ext_alloc (ext_alloc (ext_refl w) (.cells #[.int .i64 u, .int .i64 lo, .slice A n c] 26)) (.cells #[.int .i64 u', .int .i64 lo', .slice B n' d] 26))
 have BF0 := Lib.hid ((Blk.born w #[.int .i64 u, .int .i64 lo, .slice A n c] 26 (H := w.heap.size) rfl).al (.cells #[.int .i64 u', .int .i64 lo', .slice B n' d] 26))
 have BG0 := Lib.hid (Blk.born (w.alloc (.cells #[.int .i64 u, .int .i64 lo, .slice A n c] 26)) #[.int .i64 u', .int .i64 lo', .slice B n' d] 26 (H := w.heap.size + 1) (by simp))
 have HK := Lib.hid (fun (w : World) h h' => l4Alike_any u lo A n c l u' lo' B n' d l' w hn hn' h h')
 unfold RetSliceB
 cases e : mbB u lo l u' lo' l'
 · rw [show mbL u lo l u' lo' l' = [] by unfold mbL; rw [if_neg (by rw [e]; simp)]]
   rw [e] at HK
   clear h h' hl hl' e
   go_enter Try.func26, Try.ntmps26
   go_wp2_with fail
   obtain ⟨W0, hW0⟩ : ∃ y : World, y = (w.alloc (.cells #[.int .i64 u, .int .i64 lo, .slice A n c] 26)).alloc (.cells #[.int .i64 u', .int .i64 lo', .slice B n' d] 26) := ⟨_, rfl⟩
   rw [← hW0] at HB0 BF0 BG0
   go_upto_region 1 with fail
   rw [← hW0]
   clear hW0
   obtain ⟨a0, a1, a2⟩ := BF0.out.q3
   obtain ⟨b0, b1, b2⟩ := BG0.out.q3
   have la := BF0.out.lt
   have lb := BG0.out.lt
   go_wp2_with fail
   refine (HK.out _ (rdx H.out HB0.out) (rdx H'.out HB0.out)).mono ?_
   rintro e w1 ⟨rfl, hb⟩
   clear a0 a1 a2 b0 b1 b2 la lb
   have BF1 := Lib.hid (BF0.out.ext hb)
   have BG1 := Lib.hid (BG0.out.ext hb)
   have HB1 := Lib.hid (ext_trans HB0.out hb)
   clear hb
   obtain ⟨a0, a1, a2⟩ := BF1.out.q3
   obtain ⟨b0, b1, b2⟩ := BG1.out.q3
   have la := BF1.out.lt
   have lb := BG1.out.lt
   go_wp2_with fail
   go_wp2
   go_ret2
   exact ⟨_, _, rfl, own_base (own_lit_at _ _ _ rfl (Nat.le_refl _)) HB1.out.size, ext_alloc HB1.out _⟩
 · obtain ⟨hf, hf', rfl, rfl, hk⟩ := mb_parts e
   rw [hl, hl'] at hk
   obtain rfl : n = n' := hk
   rw [show mbL u lo l u lo l' = btw l l' n by unfold mbL; rw [if_pos e, hl]]
   have HM := Lib.hid (fun (w : World) h h' => l4Between_any u lo A B n c d l l' w hf hf' h h')
   unfold RetSlice at HM
   rw [e] at HK
   clear h h' hl hl' hf hf' e
   go_enter Try.func26, Try.ntmps26
   go_wp2_with fail
   obtain ⟨W0, hW0⟩ : ∃ y : World, y = (w.alloc (.cells #[.int .i64 u, .int .i64 lo, .slice A n c] 26)).alloc (.cells #[.int .i64 u, .int .i64 lo, .slice B n d] 26) := ⟨_, rfl⟩
   rw [← hW0] at HB0 BF0 BG0
   go_upto_region 1 with fail
   rw [← hW0]
   clear hW0
   obtain ⟨a0, a1, a2⟩ := BF0.out.q3
   obtain ⟨b0, b1, b2⟩ := BG0.out.q3
   have la := BF0.out.lt
   have lb := BG0.out.lt
   go_wp2_with fail
   refine (HK.out _ (rdx H.out HB0.out) (rdx H'.out HB0.out)).mono ?_
   rintro e w1 ⟨rfl, hb⟩
   clear a0 a1 a2 b0 b1 b2 la lb
   have BF1 := Lib.hid (BF0.out.ext hb)
   have BG1 := Lib.hid (BG0.out.ext hb)
   have HB1 := Lib.hid (ext_trans HB0.out hb)
   clear hb
   obtain ⟨a0, a1, a2⟩ := BF1.out.q3
   obtain ⟨b0, b1, b2⟩ := BG1.out.q3
   have la := BF1.out.lt
   have lb := BG1.out.lt
   go_wp2_with fail
   refine (HM.out _ (rdx H.out HB1.out) (rdx H'.out HB1.out)).mono ?_
   rintro e w4 ⟨Am, cm, rfl, ho, hb⟩
   go_wp2
   go_ret2
   exact ⟨_, _, rfl, own_base ho HB1.out.size, ext_trans HB1.out hb⟩
end Go.Proofs.Ytkpfelfgpjodiaa
