/- MoveBeads: both. -/
import Derived.Test.YtkpfelfgpjodiaaVMvA
import Derived.Test.YtkpfelfgpjodiaaVM3
namespace Go.Proofs.Ytkpfelfgpjodiaa
open Go.RowKit
set_option linter.unusedVariables false
set_option linter.unusedSimpArgs false
def mbeF (u lo : Int) (l : List R2) (m : R3) : Int × Int × List R2 := if (frB u lo l && okM m) = true then mvF u lo l m else (0, 0, [])
def mbeB (u lo : Int) (l : List R2) (m : R3) : Bool := frB u lo l && okM m && mvB u lo l m
set_option maxRecDepth 100000 in
set_option maxHeartbeats 4000000 in
theorem implMoveBeads_any (u lo : Int) (A : Option Addr) (n c : Nat) (l : List R2) (m : R3) (w : World) (hn : n ≤ 1048576) (h : Reads w w.heap.size 2 A n (rowsV2 l)) :
 Calls Try.prog 18 #[frV u lo A n c, m.val] w (RetFrB w (mbeF u lo l m) (mbeB u lo l m)) := by
 have H := Lib.hid h
 have HB0 := Lib.hid (ext_alloc (ext_alloc (ext_alloc (ext_refl w) (.cells #[.int .i64 u, .int .i64 lo, .slice A n c] 26)) (.cells #[.int .i64 m.a, .int .i64 m.b, .int .i64 m.c] 41)) (.cells #[.int .i64 0, .int .i64 0, .slice none 0 0] 26))
 have BF0 := Lib.hid (((Blk.born w #[.int .i64 u, .int .i64 lo, .slice A n c] 26 (H := w.heap.size) rfl).al (.cells #[.int .i64 m.a, .int .i64 m.b, .int .i64 m.c] 41)).al (.cells #[.int .i64 0, .int .i64 0, .slice none 0 0] 26))
 have BM0 := Lib.hid ((Blk.born (w.alloc (.cells #[.int .i64 u, .int .i64 lo, .slice A n c] 26)) #[.int .i64 m.a, .int .i64 m.b, .int .i64 m.c] 41 (H := w.heap.size + 1) (by simp)).al (.cells #[.int .i64 0, .int .i64 0, .slice none 0 0] 26))
 have BR0 := Lib.hid (Blk.born ((w.alloc (.cells #[.int .i64 u, .int .i64 lo, .slice A n c] 26)).alloc (.cells #[.int .i64 m.a, .int .i64 m.b, .int .i64 m.c] 41)) #[.int .i64 0, .int .i64 0, .slice none 0 0] 26 (H := w.heap.size + 1 + 1) (by simp))
 have HI := Lib.hid (fun (w : World) h => isFrame_any u lo A n c l w hn h)
 have HJ := Lib.hid (fun (w : World) => IsBeadMove_any m w)
 (try unfold RetV at HI)
 unfold RetFrB
 cases hf : frB u lo l
 · rw [show mbeF u lo l m = (0, 0, []) by unfold mbeF; rw [hf]; rfl, show mbeB u lo l m = false by unfold mbeB; rw [hf]; rfl]
   rw [hf] at HI
   clear h hf
   go_enter Try.func18, Try.ntmps18
   go_wp2_with fail
   obtain ⟨W0, hW0⟩ : ∃ y : World, y = ((w.alloc (.cells #[.int .i64 u, .int .i64 lo, .slice A n c] 26)).alloc (.cells #[.int .i64 m.a, .int .i64 m.b, .int .i64 m.c] 41)).alloc (.cells #[.int .i64 0, .int .i64 0, .slice none 0 0] 26) := ⟨_, rfl⟩
   rw [← hW0] at HB0 BF0 BM0 BR0
   go_upto_region 1 with fail
   rw [← hW0]
   clear hW0
   obtain ⟨a0, a1, a2⟩ := BF0.out.q3
   obtain ⟨b0, b1, b2⟩ := BM0.out.q3
   have la := BF0.out.lt
   have lb := BM0.out.lt
   go_wp2_with fail
   refine (HI.out _ (rdx H.out HB0.out)).mono ?_
   rintro e w1 ⟨rfl, hb⟩
   clear a0 a1 a2 b0 b1 b2 la lb
   have BF1 := Lib.hid (BF0.out.ext hb)
   have BM1 := Lib.hid (BM0.out.ext hb)
   have BR1 := Lib.hid (BR0.out.ext hb)
   have HB1 := Lib.hid (ext_trans HB0.out hb)
   clear hb
   obtain ⟨a0, a1, a2⟩ := BF1.out.q3
   obtain ⟨b0, b1, b2⟩ := BM1.out.q3
   have la := BF1.out.lt
   have lb := BM1.out.lt
   clear a0 a1 a2 b0 b1 b2 la lb
   obtain ⟨r0, r1, r2⟩ := BR1.out.q3
   obtain ⟨z0, z1, z2⟩ := BR1.out.z3
   have lr := BR1.out.lt
   go_wp2
   refine bodyPost_ret (v := .tuple #[frV 0 0 none 0 0, .bool false]) (by simp [results, Try.results18, go_sem, *]) rfl ?_
   exact ⟨none, 0, rfl, World.ownsRow_nil _ _ _ _, fill_below HB1.out (by omega)⟩
 cases hm : okM m
 · rw [show mbeF u lo l m = (0, 0, []) by unfold mbeF; rw [hf, hm]; rfl, show mbeB u lo l m = false by unfold mbeB; rw [hf, hm]; rfl]
   rw [hf] at HI
   unfold R3.val at HJ ⊢
   rw [hm] at HJ
   clear h hf hm
   go_enter Try.func18, Try.ntmps18
   go_wp2_with fail
   obtain ⟨W0, hW0⟩ : ∃ y : World, y = ((w.alloc (.cells #[.int .i64 u, .int .i64 lo, .slice A n c] 26)).alloc (.cells #[.int .i64 m.a, .int .i64 m.b, .int .i64 m.c] 41)).alloc (.cells #[.int .i64 0, .int .i64 0, .slice none 0 0] 26) := ⟨_, rfl⟩
   rw [← hW0] at HB0 BF0 BM0 BR0
   go_upto_region 1 with fail
   rw [← hW0]
   clear hW0
   obtain ⟨a0, a1, a2⟩ := BF0.out.q3
   obtain ⟨b0, b1, b2⟩ := BM0.out.q3
   have la := BF0.out.lt
   have lb := BM0.out.lt
   go_wp2_with fail
   refine (HI.out _ (rdx H.out HB0.out)).mono ?_
   rintro e w1 ⟨rfl, hb⟩
   clear a0 a1 a2 b0 b1 b2 la lb
   have BF1 := Lib.hid (BF0.out.ext hb)
   have BM1 := Lib.hid (BM0.out.ext hb)
   have BR1 := Lib.hid (BR0.out.ext hb)
   have HB1 := Lib.hid (ext_trans HB0.out hb)
   clear hb
   obtain ⟨a0, a1, a2⟩ := BF1.out.q3
   obtain ⟨b0, b1, b2⟩ := BM1.out.q3
   have la := BF1.out.lt
   have lb := BM1.out.lt
   go_wp2_with fail
   refine (HJ.out _).mono ?_
   rintro e w2 ⟨rfl, hb⟩
   clear a0 a1 a2 b0 b1 b2 la lb
   have BF2 := Lib.hid (BF1.out.ext hb)
   have BM2 := Lib.hid (BM1.out.ext hb)
   have BR2 := Lib.hid (BR1.out.ext hb)
   have HB2 := Lib.hid (ext_trans HB1.out hb)
   clear hb
   obtain ⟨a0, a1, a2⟩ := BF2.out.q3
   obtain ⟨b0, b1, b2⟩ := BM2.out.q3
   have la := BF2.out.lt
   have lb := BM2.out.lt
   clear a0 a1 a2 b0 b1 b2 la lb
   obtain ⟨r0, r1, r2⟩ := BR2.out.q3
   obtain ⟨z0, z1, z2⟩ := BR2.out.z3
   have lr := BR2.out.lt
   go_wp2
   refine bodyPost_ret (v := .tuple #[frV 0 0 none 0 0, .bool false]) (by simp [results, Try.results18, go_sem, *]) rfl ?_
   exact ⟨none, 0, rfl, World.ownsRow_nil _ _ _ _, fill_below HB2.out (by omega)⟩
 · rw [show mbeF u lo l m = mvF u lo l m by unfold mbeF; rw [hf, hm]; rfl, show mbeB u lo l m = mvB u lo l m by unfold mbeB; rw [hf, hm]; rfl]
   have HM := Lib.hid (fun (w : World) h => moved_any u lo A n c l m w hf hm h)
   obtain ⟨R, hR⟩ : ∃ o9, mvF u lo l m = o9 := ⟨_, rfl⟩
   obtain ⟨b, hb⟩ : ∃ o9, mvB u lo l m = o9 := ⟨_, rfl⟩
   rw [hR, hb] at HM
   rw [hR, hb]
   obtain ⟨U, LO, L⟩ := R
   unfold RetFrB at HM
   dsimp only at HM ⊢
   unfold R3.val at HJ HM ⊢
   rw [hf] at HI
   rw [hm] at HJ
   clear h hf hm hR hb
   go_enter Try.func18, Try.ntmps18
   go_wp2_with fail
   obtain ⟨W0, hW0⟩ : ∃ y : World, y = ((w.alloc (.cells #[.int .i64 u, .int .i64 lo, .slice A n c] 26)).alloc (.cells #[.int .i64 m.a, .int .i64 m.b, .int .i64 m.c] 41)).alloc (.cells #[.int .i64 0, .int .i64 0, .slice none 0 0] 26) := ⟨_, rfl⟩
   rw [← hW0] at HB0 BF0 BM0 BR0
   go_upto_region 1 with fail
   rw [← hW0]
   clear hW0
   obtain ⟨a0, a1, a2⟩ := BF0.out.q3
   obtain ⟨b0, b1, b2⟩ := BM0.out.q3
   have la := BF0.out.lt
   have lb := BM0.out.lt
   go_wp2_with fail
   refine (HI.out _ (rdx H.out HB0.out)).mono ?_
   rintro e w1 ⟨rfl, hb⟩
   clear a0 a1 a2 b0 b1 b2 la lb
   have BF1 := Lib.hid (BF0.out.ext hb)
   have BM1 := Lib.hid (BM0.out.ext hb)
   have BR1 := Lib.hid (BR0.out.ext hb)
   have HB1 := Lib.hid (ext_trans HB0.out hb)
   clear hb
   obtain ⟨a0, a1, a2⟩ := BF1.out.q3
   obtain ⟨b0, b1, b2⟩ := BM1.out.q3
   have la := BF1.out.lt
   have lb := BM1.out.lt
   go_wp2_with fail
   refine (HJ.out _).mono ?_
   rintro e w2 ⟨rfl, hb⟩
   clear a0 a1 a2 b0 b1 b2 la lb
   have BF2 := Lib.hid (BF1.out.ext hb)
   have BM2 := Lib.hid (BM1.out.ext hb)
   have BR2 := Lib.hid (BR1.out.ext hb)
   have HB2 := Lib.hid (ext_trans HB1.out hb)
   clear hb
   obtain ⟨a0, a1, a2⟩ := BF2.out.q3
   obtain ⟨b0, b1, b2⟩ := BM2.out.q3
   have la := BF2.out.lt
   have lb := BM2.out.lt
   go_wp2_with fail
   refine (HM.out _ (rdx H.out HB2.out)).mono ?_
   rintro e w3 ⟨Am, cm, rfl, ho, hb⟩
   clear a0 a1 a2 b0 b1 b2 la lb
   have BF3 := Lib.hid (BF2.out.ext hb)
   have BM3 := Lib.hid (BM2.out.ext hb)
   have BR3 := Lib.hid (BR2.out.ext hb)
   have HB3 := Lib.hid (ext_trans HB2.out hb)
   clear hb
   obtain ⟨a0, a1, a2⟩ := BF3.out.q3
   obtain ⟨b0, b1, b2⟩ := BM3.out.q3
   have la := BF3.out.lt
   have lb := BM3.out.lt
   have HO3 := Lib.hid (own_base ho HB2.out.size)
   clear ho a0 a1 a2 b0 b1 b2 la lb
   obtain ⟨r0, r1, r2⟩ := BR3.out.q3
   obtain ⟨z0, z1, z2⟩ := BR3.out.z3
   have lr := BR3.out.lt
   go_wp2
   refine bodyPost_ret (v := .tuple #[frV U LO Am L.length cm, .bool b]) (by simp [results, Try.results18, go_sem, *]) rfl ?_
   exact ⟨Am, cm, rfl, fill_own' HO3.out (own_nbT HO3.out BR3.out (by decide)), fill_below HB3.out (by omega)⟩
set_option maxRecDepth 100000 in
set_option maxHeartbeats 4000000 in
theorem specMoveBeads_any (u lo : Int) (A : Option Addr) (n c : Nat) (l : List R2) (m : R3) (w : World) (hn : n ≤ 1048576) (h : Reads w w.heap.size 2 A n (rowsV2 l)) :
 Calls Try.prog 19 #[frV u lo A n c, m.val] w (RetFrB w (mbeF u lo l m) (mbeB u lo l m)) := by
 have H := Lib.hid h
 have HB0 := Lib.hid (ext_alloc (ext_alloc (ext_alloc (ext_refl w) (.cells #[.int .i64 u, .int .i64 lo, .slice A n c] 26)) (.cells #[.int .i64 m.a, .int .i64 m.b, .int .i64 m.c] 41)) (.cells #[.int .i64 0, .int .i64 0, .slice none 0 0] 26))
 have BF0 := Lib.hid (((Blk.born w #[.int .i64 u, .int .i64 lo, .slice A n c] 26 (H := w.heap.size) rfl).al (.cells #[.int .i64 m.a, .int .i64 m.b, .int .i64 m.c] 41)).al (.cells #[.int .i64 0, .int .i64 0, .slice none 0 0] 26))
 have BM0 := Lib.hid ((Blk.born (w.alloc (.cells #[.int .i64 u, .int .i64 lo, .slice A n c] 26)) #[.int .i64 m.a, .int .i64 m.b, .int .i64 m.c] 41 (H := w.heap.size + 1) (by simp)).al (.cells #[.int .i64 0, .int .i64 0, .slice none 0 0] 26))
 have BR0 := Lib.hid (Blk.born ((w.alloc (.cells #[.int .i64 u, .int .i64 lo, .slice A n c] 26)).alloc (.cells #[.int .i64 m.a, .int .i64 m.b, .int .i64 m.c] 41)) #[.int .i64 0, .int .i64 0, .slice none 0 0] 26 (H := w.heap.size + 1 + 1) (by simp))
 have HI := Lib.hid (fun (w : World) h => l2Good_any u lo A n c l w hn h)
 have HJ := Lib.hid (fun (w : World) => l4One_any m w)
 (try unfold RetV at HI)
 unfold RetFrB
 cases hf : frB u lo l
 · rw [show mbeF u lo l m = (0, 0, []) by unfold mbeF; rw [hf]; rfl, show mbeB u lo l m = false by unfold mbeB; rw [hf]; rfl]
   rw [hf] at HI
   clear h hf
   go_enter Try.func19, Try.ntmps19
   go_wp2_with fail
   obtain ⟨W0, hW0⟩ : ∃ y : World, y = ((w.alloc (.cells #[.int .i64 u, .int .i64 lo, .slice A n c] 26)).alloc (.cells #[.int .i64 m.a, .int .i64 m.b, .int .i64 m.c] 41)).alloc (.cells #[.int .i64 0, .int .i64 0, .slice none 0 0] 26) := ⟨_, rfl⟩
   rw [← hW0] at HB0 BF0 BM0 BR0
   go_upto_region 1 with fail
   rw [← hW0]
   clear hW0
   obtain ⟨a0, a1, a2⟩ := BF0.out.q3
   obtain ⟨b0, b1, b2⟩ := BM0.out.q3
   have la := BF0.out.lt
   have lb := BM0.out.lt
   go_wp2_with fail
   refine (HI.out _ (rdx H.out HB0.out)).mono ?_
   rintro e w1 ⟨rfl, hb⟩
   clear a0 a1 a2 b0 b1 b2 la lb
   have BF1 := Lib.hid (BF0.out.ext hb)
   have BM1 := Lib.hid (BM0.out.ext hb)
   have BR1 := Lib.hid (BR0.out.ext hb)
   have HB1 := Lib.hid (ext_trans HB0.out hb)
   clear hb
   obtain ⟨a0, a1, a2⟩ := BF1.out.q3
   obtain ⟨b0, b1, b2⟩ := BM1.out.q3
   have la := BF1.out.lt
   have lb := BM1.out.lt
   clear a0 a1 a2 b0 b1 b2 la lb
   obtain ⟨r0, r1, r2⟩ := BR1.out.q3
   obtain ⟨z0, z1, z2⟩ := BR1.out.z3
   have lr := BR1.out.lt
   go_wp2
   refine bodyPost_ret (v := .tuple #[frV 0 0 none 0 0, .bool false]) (by simp [results, Try.results19, go_sem, *]) rfl ?_
   exact ⟨none, 0, rfl, World.ownsRow_nil _ _ _ _, fill_below HB1.out (by omega)⟩
 cases hm : okM m
 · rw [show mbeF u lo l m = (0, 0, []) by unfold mbeF; rw [hf, hm]; rfl, show mbeB u lo l m = false by unfold mbeB; rw [hf, hm]; rfl]
   rw [hf] at HI
   unfold R3.val at HJ ⊢
   rw [hm] at HJ
   clear h hf hm
   go_enter Try.func19, Try.ntmps19
   go_wp2_with fail
   obtain ⟨W0, hW0⟩ : ∃ y : World, y = ((w.alloc (.cells #[.int .i64 u, .int .i64 lo, .slice A n c] 26)).alloc (.cells #[.int .i64 m.a, .int .i64 m.b, .int .i64 m.c] 41)).alloc (.cells #[.int .i64 0, .int .i64 0, .slice none 0 0] 26) := ⟨_, rfl⟩
   rw [← hW0] at HB0 BF0 BM0 BR0
   go_upto_region 1 with fail
   rw [← hW0]
   clear hW0
   obtain ⟨a0, a1, a2⟩ := BF0.out.q3
   obtain ⟨b0, b1, b2⟩ := BM0.out.q3
   have la := BF0.out.lt
   have lb := BM0.out.lt
   go_wp2_with fail
   refine (HI.out _ (rdx H.out HB0.out)).mono ?_
   rintro e w1 ⟨rfl, hb⟩
   clear a0 a1 a2 b0 b1 b2 la lb
   have BF1 := Lib.hid (BF0.out.ext hb)
   have BM1 := Lib.hid (BM0.out.ext hb)
   have BR1 := Lib.hid (BR0.out.ext hb)
   have HB1 := Lib.hid (ext_trans HB0.out hb)
   clear hb
   obtain ⟨a0, a1, a2⟩ := BF1.out.q3
   obtain ⟨b0, b1, b2⟩ := BM1.out.q3
   have la := BF1.out.lt
   have lb := BM1.out.lt
   go_wp2_with fail
   refine (HJ.out _).mono ?_
   rintro e w2 ⟨rfl, hb⟩
   clear a0 a1 a2 b0 b1 b2 la lb
   have BF2 := Lib.hid (BF1.out.ext hb)
   have BM2 := Lib.hid (BM1.out.ext hb)
   have BR2 := Lib.hid (BR1.out.ext hb)
   have HB2 := Lib.hid (ext_trans HB1.out hb)
   clear hb
   obtain ⟨a0, a1, a2⟩ := BF2.out.q3
   obtain ⟨b0, b1, b2⟩ := BM2.out.q3
   have la := BF2.out.lt
   have lb := BM2.out.lt
   clear a0 a1 a2 b0 b1 b2 la lb
   obtain ⟨r0, r1, r2⟩ := BR2.out.q3
   obtain ⟨z0, z1, z2⟩ := BR2.out.z3
   have lr := BR2.out.lt
   go_wp2
   refine bodyPost_ret (v := .tuple #[frV 0 0 none 0 0, .bool false]) (by simp [results, Try.results19, go_sem, *]) rfl ?_
   exact ⟨none, 0, rfl, World.ownsRow_nil _ _ _ _, fill_below HB2.out (by omega)⟩
 · rw [show mbeF u lo l m = mvF u lo l m by unfold mbeF; rw [hf, hm]; rfl, show mbeB u lo l m = mvB u lo l m by unfold mbeB; rw [hf, hm]; rfl]
   have HM := Lib.hid (fun (w : World) h => l4Make_any u lo A n c l m w hf hm h)
   obtain ⟨R, hR⟩ : ∃ o9, mvF u lo l m = o9 := ⟨_, rfl⟩
   obtain ⟨b, hb⟩ : ∃ o9, mvB u lo l m = o9 := ⟨_, rfl⟩
   rw [hR, hb] at HM
   rw [hR, hb]
   obtain ⟨U, LO, L⟩ := R
   unfold RetFrB at HM
   dsimp only at HM ⊢
   unfold R3.val at HJ HM ⊢
   rw [hf] at HI
   rw [hm] at HJ
   clear h hf hm hR hb
   go_enter Try.func19, Try.ntmps19
   go_wp2_with fail
   obtain ⟨W0, hW0⟩ : ∃ y : World, y = ((w.alloc (.cells #[.int .i64 u, .int .i64 lo, .slice A n c] 26)).alloc (.cells #[.int .i64 m.a, .int .i64 m.b, .int .i64 m.c] 41)).alloc (.cells #[.int .i64 0, .int .i64 0, .slice none 0 0] 26) := ⟨_, rfl⟩
   rw [← hW0] at HB0 BF0 BM0 BR0
   go_upto_region 1 with fail
   rw [← hW0]
   clear hW0
   obtain ⟨a0, a1, a2⟩ := BF0.out.q3
   obtain ⟨b0, b1, b2⟩ := BM0.out.q3
   have la := BF0.out.lt
   have lb := BM0.out.lt
   go_wp2_with fail
   refine (HI.out _ (rdx H.out HB0.out)).mono ?_
   rintro e w1 ⟨rfl, hb⟩
   clear a0 a1 a2 b0 b1 b2 la lb
   have BF1 := Lib.hid (BF0.out.ext hb)
   have BM1 := Lib.hid (BM0.out.ext hb)
   have BR1 := Lib.hid (BR0.out.ext hb)
   have HB1 := Lib.hid (ext_trans HB0.out hb)
   clear hb
   obtain ⟨a0, a1, a2⟩ := BF1.out.q3
   obtain ⟨b0, b1, b2⟩ := BM1.out.q3
   have la := BF1.out.lt
   have lb := BM1.out.lt
   go_wp2_with fail
   refine (HJ.out _).mono ?_
   rintro e w2 ⟨rfl, hb⟩
   clear a0 a1 a2 b0 b1 b2 la lb
   have BF2 := Lib.hid (BF1.out.ext hb)
   have BM2 := Lib.hid (BM1.out.ext hb)
   have BR2 := Lib.hid (BR1.out.ext hb)
   have HB2 := Lib.hid (ext_trans HB1.out hb)
   clear hb
   obtain ⟨a0, a1, a2⟩ := BF2.out.q3
   obtain ⟨b0, b1, b2⟩ := BM2.out.q3
   have la := BF2.out.lt
   have lb := BM2.out.lt
   go_wp2_with fail
   refine (HM.out _ (rdx H.out HB2.out)).mono ?_
   rintro e w3 ⟨Am, cm, rfl, ho, hb⟩
   clear a0 a1 a2 b0 b1 b2 la lb
   have BF3 := Lib.hid (BF2.out.ext hb)
   have BM3 := Lib.hid (BM2.out.ext hb)
   have BR3 := Lib.hid (BR2.out.ext hb)
   have HB3 := Lib.hid (ext_trans HB2.out hb)
   clear hb
   obtain ⟨a0, a1, a2⟩ := BF3.out.q3
   obtain ⟨b0, b1, b2⟩ := BM3.out.q3
   have la := BF3.out.lt
   have lb := BM3.out.lt
   have HO3 := Lib.hid (own_base ho HB2.out.size)
   clear ho a0 a1 a2 b0 b1 b2 la lb
   obtain ⟨r0, r1, r2⟩ := BR3.out.q3
   obtain ⟨z0, z1, z2⟩ := BR3.out.z3
   have lr := BR3.out.lt
   go_wp2
   refine bodyPost_ret (v := .tuple #[frV U LO Am L.length cm, .bool b]) (by simp [results, Try.results19, go_sem, *]) rfl ?_
   exact ⟨Am, cm, rfl, World.ownsRow.alloc (fill_own' HO3.out (own_nbT HO3.out BR3.out (by decide))) _, ext_alloc (fill_below HB3.out (by omega)) _⟩
set_option maxHeartbeats 2000000 in
theorem specIsBeadMove_any (m : R3) (w : World) : Calls Try.prog 21 #[m.val] w fun e w' => e = .returned (.bool (okM m)) ∧ Below w.heap.size w w' := by
 have HJ := Lib.hid (fun (w : World) => l4One_any m w)
 have HB0 := Lib.hid (ext_alloc (ext_refl w) (.cells #[.int .i64 m.a, .int .i64 m.b, .int .i64 m.c] 41))
 unfold R3.val at HJ ⊢
 obtain ⟨b, hb⟩ : ∃ o9, okM m = o9 := ⟨_, rfl⟩
 rw [hb] at HJ ⊢
 clear hb
 go_enter Try.func21, Try.ntmps21
 go_wp2_with fail
 refine (HJ.out _).mono ?_
 rintro e w1 ⟨rfl, hb1⟩
 go_wp2
 go_ret
 exact ⟨rfl, ext_trans HB0.out hb1⟩
end Go.Proofs.Ytkpfelfgpjodiaa
