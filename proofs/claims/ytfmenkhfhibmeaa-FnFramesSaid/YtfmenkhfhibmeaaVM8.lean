/- What FnFrames draws. -/
import Derived.Test.YtfmenkhfhibmeaaVFxA
import Derived.Test.YtfmenkhfhibmeaaVFdB
import Derived.Test.YtfmenkhfhibmeaaVFdC
import Derived.Test.YtfmenkhfhibmeaaVAdA
import Derived.Test.YtfmenkhfhibmeaaVM1
import Derived.Test.YtfmenkhfhibmeaaVFrN
namespace Go.Proofs.Ytfmenkhfhibmeaa
open Go.RowKit
set_option linter.unusedVariables false
set_option linter.unusedSimpArgs false
def DFr (w : World) (e : Ending) (w' : World) : Prop := ∃ (u lo : Int) (l : List R2) (A : Option Addr) (c : Nat), e = .returned (frV u lo A l.length c) ∧ FrIn u lo l ∧ w'.ownsRow w.heap.size 55 2 (.slice A l.length c) l.length (rowsV2 l) ∧ Below w.heap.size w w'
set_option maxRecDepth 100000 in
set_option maxHeartbeats 8000000 in
theorem drawIsFrame_any (Ac : Option Addr) (nc cc : Nat) (w : World) (h : Code w w.heap.size Ac nc) (hn : nc ≤ 65536) :
 Calls Try.prog 47 #[.slice Ac nc cc] w (DFr w) := by
 have HC := Lib.hid (h.cur1 (by omega) cc (.cells #[.int .i64 0, .int .i64 0, .slice none 0 0] 26))
 have BR0 := Lib.hid ((Blk.born w #[.int .i64 0, .int .i64 0, .slice none 0 0] 26 (H := w.heap.size) rfl).al (.cells #[.slice Ac nc cc, .int .i64 0, .int .u64 0] 61))
 have hbx := Lib.hid (ext_alloc (ext_alloc (ext_refl w) (.cells #[.int .i64 0, .int .i64 0, .slice none 0 0] 26)) (.cells #[.slice Ac nc cc, .int .i64 0, .int .u64 0] 61))
 obtain ⟨g, hg⟩ : ∃ g, g = w.heap.size + 1 := ⟨_, rfl⟩
 rw [← hg] at HC
 have hwg : w.heap.size < g := by omega
 have hRg : w.heap.size ≠ g := by omega
 clear h
 go_enter Try.func47, Try.ntmps47
 go_wp2_with fail
 rw [← hg]
 have HGE := Lib.hid hg
 clear hg
 refine (frame_any g 0 _ HC.out (by omega)).mono ?_
 rintro e w8 ⟨u, lo, l, A, c, a8, rfl, hIN, ha8, hr8, hc8, hg8⟩
 have BR8 := Lib.hid (BR0.out.gr hg8 hRg)
 have HR8 := Lib.hid (own_base (base' := w.heap.size) hr8 (hbx.out.size))
 have HG8 := Lib.hid ((Gr.of_ext hbx.out).trans hg8)
 have HIN := Lib.hid hIN
 clear hr8 hc8 hg8 hIN
 obtain ⟨r0, r1, r2⟩ := BR8.out.q3
 obtain ⟨z0, z1, z2⟩ := BR8.out.z3
 have lr := BR8.out.lt
 go_wp2
 refine bodyPost_ret (v := frV u lo A l.length c) (by simp [results, Try.results47, go_sem, *]) rfl ?_
 exact ⟨u, lo, l, A, c, rfl, HIN.out, fill_own' HR8.out (own_nbT HR8.out BR8.out (by decide)), fill_below (Gr.below (ext_refl w) HG8.out (by omega)) (Nat.le_refl _)⟩
set_option maxRecDepth 100000 in
set_option maxHeartbeats 8000000 in
theorem drawIsStandard_any (Ac : Option Addr) (nc cc : Nat) (w : World) (h : Code w w.heap.size Ac nc) (hn : nc ≤ 65536) :
 Calls Try.prog 20 #[.slice Ac nc cc] w (DFr w) := by
 have HC := Lib.hid (h.cur1 (by omega) cc (.cells #[.int .i64 0, .int .i64 0, .slice none 0 0] 26))
 have BR0 := Lib.hid ((Blk.born w #[.int .i64 0, .int .i64 0, .slice none 0 0] 26 (H := w.heap.size) rfl).al (.cells #[.slice Ac nc cc, .int .i64 0, .int .u64 0] 61))
 have hbx := Lib.hid (ext_alloc (ext_alloc (ext_refl w) (.cells #[.int .i64 0, .int .i64 0, .slice none 0 0] 26)) (.cells #[.slice Ac nc cc, .int .i64 0, .int .u64 0] 61))
 obtain ⟨g, hg⟩ : ∃ g, g = w.heap.size + 1 := ⟨_, rfl⟩
 rw [← hg] at HC
 have hwg : w.heap.size < g := by omega
 have hRg : w.heap.size ≠ g := by omega
 clear h
 go_enter Try.func20, Try.ntmps20
 go_wp2_with fail
 rw [← hg]
 have HGE := Lib.hid hg
 clear hg
 refine (one_any g 0 2 _ HC.out (by omega) (by omega) (by omega)).mono ?_
 rintro e w1 ⟨b, a1, rfl, ha1, hc1, hg1⟩
 have HC1 := Lib.hid hc1
 have HG1 := Lib.hid ((Gr.of_ext hbx.out).trans hg1)
 have BR1 := Lib.hid (BR0.out.gr hg1 hRg)
 clear hc1 hg1 HC BR0 hbx
 cases b
 · go_wp2_with fail
   refine (frame_any g a1 _ HC1.out (by omega)).mono ?_
   rintro e w8 ⟨u, lo, l, A, c, a8, rfl, hIN, ha8, hr8, hc8, hg8⟩
   have BR8 := Lib.hid (BR1.out.gr hg8 hRg)
   have HR8 := Lib.hid (own_base (base' := w.heap.size) hr8 (HG1.out.size))
   have HG8 := Lib.hid ((HG1.out).trans hg8)
   have HIN := Lib.hid hIN
   clear hr8 hc8 hg8 hIN
   obtain ⟨r0, r1, r2⟩ := BR8.out.q3
   obtain ⟨z0, z1, z2⟩ := BR8.out.z3
   have lr := BR8.out.lt
   go_wp2
   refine bodyPost_ret (v := frV u lo A l.length c) (by simp [results, Try.results20, go_sem, *]) rfl ?_
   exact ⟨u, lo, l, A, c, rfl, HIN.out, fill_own' HR8.out (own_nbT HR8.out BR8.out (by decide)), fill_below (Gr.below (ext_refl w) HG8.out (by omega)) (Nat.le_refl _)⟩
 · go_wp2_with fail
   refine (stdFrame_any g a1 _ HC1.out (by omega)).mono ?_
   rintro e w8 ⟨u, lo, l, A, c, a8, rfl, hIN, ha8, hr8, hc8, hg8⟩
   have BR8 := Lib.hid (BR1.out.gr hg8 hRg)
   have HR8 := Lib.hid (own_base (base' := w.heap.size) hr8 (HG1.out.size))
   have HG8 := Lib.hid ((HG1.out).trans hg8)
   have HIN := Lib.hid hIN
   clear hr8 hc8 hg8 hIN
   obtain ⟨r0, r1, r2⟩ := BR8.out.q3
   obtain ⟨z0, z1, z2⟩ := BR8.out.z3
   have lr := BR8.out.lt
   go_wp2
   refine bodyPost_ret (v := frV u lo A l.length c) (by simp [results, Try.results20, go_sem, *]) rfl ?_
   exact ⟨u, lo, l, A, c, rfl, HIN.out, fill_own' HR8.out (own_nbT HR8.out BR8.out (by decide)), fill_below (Gr.below (ext_refl w) HG8.out (by omega)) (Nat.le_refl _)⟩
set_option maxRecDepth 100000 in
set_option maxHeartbeats 4000000 in
theorem drawFrameText_any (Ac : Option Addr) (nc cc : Nat) (w : World) (h : Code w w.heap.size Ac nc) (hn : nc ≤ 65536) :
 Calls Try.prog 7 #[.slice Ac nc cc] w (DFr w) := by
 have hbx := Lib.hid (ext_alloc (ext_refl w) (.cells #[.int .i64 0, .int .i64 0, .slice none 0 0] 26))
 have BR0 := Lib.hid (Blk.born w #[.int .i64 0, .int .i64 0, .slice none 0 0] 26 (H := w.heap.size) rfl)
 have HC := Lib.hid ((h.below hbx.out).more hbx.out.size)
 clear h
 go_enter Try.func7, Try.ntmps7
 go_wp2_with fail
 refine (drawIsFrame_any Ac nc cc _ HC.out hn).mono ?_
 rintro e w1 ⟨u, lo, l, A, c, rfl, hIN, ho1, hb1⟩
 have BR1 := Lib.hid (BR0.out.ext hb1)
 have HR1 := Lib.hid (own_base (base' := w.heap.size) ho1 (by simp <;> omega))
 have HB1 := Lib.hid (ext_trans hbx.out hb1)
 have HIN := Lib.hid hIN
 clear ho1 hb1 hIN
 obtain ⟨r0, r1, r2⟩ := BR1.out.q3
 obtain ⟨y0, y1, y2⟩ := BR1.out.z3
 have lr := BR1.out.lt
 go_wp2
 refine bodyPost_ret (v := frV u lo A l.length c) (by simp [results, Try.results7, go_sem, *]) rfl ?_
 exact ⟨u, lo, l, A, c, rfl, HIN.out, fill_own' HR1.out (own_nbT HR1.out BR1.out (by decide)), fill_below HB1.out (Nat.le_refl _)⟩
set_option maxRecDepth 100000 in
set_option maxHeartbeats 4000000 in
theorem drawMadeStandard_any (Ac : Option Addr) (nc cc : Nat) (w : World) (h : Code w w.heap.size Ac nc) (hn : nc ≤ 65536) :
 Calls Try.prog 15 #[.slice Ac nc cc] w (DFr w) := by
 have hbx := Lib.hid (ext_alloc (ext_refl w) (.cells #[.int .i64 0, .int .i64 0, .slice none 0 0] 26))
 have BR0 := Lib.hid (Blk.born w #[.int .i64 0, .int .i64 0, .slice none 0 0] 26 (H := w.heap.size) rfl)
 have HC := Lib.hid ((h.below hbx.out).more hbx.out.size)
 clear h
 go_enter Try.func15, Try.ntmps15
 go_wp2_with fail
 refine (drawIsFrame_any Ac nc cc _ HC.out hn).mono ?_
 rintro e w1 ⟨u, lo, l, A, c, rfl, hIN, ho1, hb1⟩
 have BR1 := Lib.hid (BR0.out.ext hb1)
 have HR1 := Lib.hid (own_base (base' := w.heap.size) ho1 (by simp <;> omega))
 have HB1 := Lib.hid (ext_trans hbx.out hb1)
 have HIN := Lib.hid hIN
 clear ho1 hb1 hIN
 obtain ⟨r0, r1, r2⟩ := BR1.out.q3
 obtain ⟨y0, y1, y2⟩ := BR1.out.z3
 have lr := BR1.out.lt
 go_wp2
 refine bodyPost_ret (v := frV u lo A l.length c) (by simp [results, Try.results15, go_sem, *]) rfl ?_
 exact ⟨u, lo, l, A, c, rfl, HIN.out, fill_own' HR1.out (own_nbT HR1.out BR1.out (by decide)), fill_below HB1.out (Nat.le_refl _)⟩
set_option maxRecDepth 100000 in
set_option maxHeartbeats 8000000 in
theorem drawParseFrame_any (Ac : Option Addr) (nc cc : Nat) (w : World) (h : Code w w.heap.size Ac nc) (hn : nc ≤ 65536) :
 Calls Try.prog 13 #[.slice Ac nc cc] w fun e w' => ∃ s : ByteArray, e = .returned (.string s) ∧ s.size ≤ 1000 ∧ Below w.heap.size w w' := by
 have HC := Lib.hid (h.cur (by omega) cc)
 have hbx := Lib.hid (ext_alloc (ext_refl w) (.cells #[.slice Ac nc cc, .int .i64 0, .int .u64 0] 61))
 obtain ⟨g, hg⟩ : ∃ g, g = w.heap.size := ⟨_, rfl⟩
 rw [← hg] at HC
 clear h
 go_enter Try.func13, Try.ntmps13
 go_wp2_with fail
 rw [← hg]
 have HGE := Lib.hid hg
 clear hg
 refine (frame_any g 0 _ HC.out (by omega)).mono ?_
 rintro e w1 ⟨u, lo, l, A, c, a1, rfl, hIN, ha1, hr1, hc1, hg1⟩
 have hl9 : l.length ≤ 9 := hIN.2.2.2.2.2.1
 obtain ⟨NM, hNM⟩ : ∃ N, N = w1.heap.size := ⟨_, rfl⟩
 obtain ⟨W, hW⟩ : ∃ y : World, y = w1.alloc (.cells #[.int .i64 u, .int .i64 lo, .slice A l.length c] 26) := ⟨_, rfl⟩
 have BN1 := Lib.hid (show Blk W NM 26 #[.int .i64 u, .int .i64 lo, .slice A l.length c] by rw [hW]; exact Blk.born w1 _ 26 (H := NM) hNM)
 have HR1 := Lib.hid (show Reads W W.heap.size 2 A l.length (rowsV2 l) by rw [hW]; exact Reads.of_own (World.ownsRow.alloc hr1 _))
 have HC1 := Lib.hid (show CurAt W g a1 by rw [hW]; exact hc1.ext (ext_alloc (ext_refl _) _))
 have HG1 := Lib.hid (show Gr g w W by rw [hW]; exact ((Gr.of_ext hbx.out).trans hg1).trans (Gr.alloc _ _ _))
 go_upto_region 4 with fail
 rw [← hNM, ← hW]
 clear hNM hW hr1 hc1 hg1 HC hbx hIN
 obtain ⟨m0, m1, m2⟩ := BN1.out.q3
 have lm := BN1.out.lt
 have HGD := Lib.hid (fun (w : World) h => l2Good_any u lo A l.length c l w (by omega) h)
 unfold RetV at HGD
 go_wp2_with fail
 refine (HGD.out _ HR1.out).mono ?_
 rintro e w2 ⟨rfl, hb2⟩
 have HC2 := Lib.hid (HC1.out.ext hb2)
 have HG2 := Lib.hid (HG1.out.trans (Gr.of_ext hb2))
 have BN2 := Lib.hid (BN1.out.ext hb2)
 have HR2 := Lib.hid (rdx HR1.out hb2)
 clear hb2 m0 m1 m2 lm HC1 HG1 BN1 HR1 HGD
 obtain ⟨bf, hbf⟩ : ∃ b, frB u lo l = b := ⟨_, rfl⟩
 rw [hbf]
 have HBF := Lib.hid hbf
 clear hbf
 go_upto_if 12 with fail
 go_cut [4] (fun s4 wx => ∃ S : ByteArray, s4 = .string S ∧ S.size ≤ 60 ∧ Hid (CurAt wx g a1) ∧ Hid (Gr g w wx))
 case first =>
  cases bf
  · go_wp2_with fail
    go_meet
    exact ⟨_, rfl, by decide, HC2, HG2⟩
  · obtain ⟨m0, m1, m2⟩ := BN2.out.q3
    have lm := BN2.out.lt
    have HTX := Lib.hid (fun (w : World) h => l2Text_any u lo A l.length c l w HBF.out h)
    go_wp2_with fail
    refine (HTX.out _ HR2.out).mono ?_
    rintro e w3 ⟨rfl, hb3⟩
    go_wp2_with fail
    go_meet
    exact ⟨_, rfl, by rw [str_sz, tF_len]; omega, Lib.hid (HC2.out.ext hb3), Lib.hid (HG2.out.trans (Gr.of_ext hb3))⟩
 case rest =>
 obtain ⟨S, rfl, hS, HC3, HG3⟩ := hcut
 obtain ⟨W3, hW3⟩ : ∃ x : World, x = wc := ⟨_, rfl⟩
 subst hW3
 clear HC2 HG2 BN2 HR2
 go_wp2_with fail
 refine (one_any g a1 4 _ HC3.out (by omega) (by omega) (by omega)).mono ?_
 rintro e w4 ⟨b, a4, rfl, ha4, hc4, hg4⟩
 have HC4 := Lib.hid hc4
 have HG4 := Lib.hid (HG3.out.trans hg4)
 clear hc4 hg4 HC3 HG3
 cases b
 · go_wp2
   go_ret
   exact ⟨_, rfl, by omega, Gr.below (ext_refl w) HG4.out (Nat.le_of_eq HGE.out.symm)⟩
 · go_wp2_with fail
   refine (spoilt_any g a4 S ⟨#[47, 32, 48, 49, 50, 52, 53]⟩ _ HC4.out (by omega) (by omega) (by decide) (by decide)).mono ?_
   rintro e w5 ⟨S5, a5, rfl, hS5, ha5, hc5, hg5⟩
   have HG5 := Lib.hid (HG4.out.trans hg5)
   clear hc5 hg5
   go_wp2
   go_ret
   exact ⟨_, rfl, by omega, Gr.below (ext_refl w) HG5.out (Nat.le_of_eq HGE.out.symm)⟩
end Go.Proofs.Ytfmenkhfhibmeaa
