/- ReachedIn and FormsOf, the program's and the reference's. -/
import Derived.Deep.CutBlock
import Derived.Test.YtaghjaiaoajpiaaVRcE
import Derived.Test.YtaghjaiaoajpiaaVRcF
namespace Go.Proofs.Ytaghjaiaoajpiaa
open Go.RowKit
set_option linter.unusedVariables false
set_option linter.unusedSimpArgs false
set_option maxRecDepth 100000 in
set_option maxHeartbeats 8000000 in
theorem specReachedIn_any (u lo : Int) (A : Option Addr) (n c : Nat) (l : List R2) (m : Int) (w : World) (hn : n ≤ 1048576) (h : Reads w w.heap.size 2 A n (rowsV2 l)) :
 Calls Try.prog 8 #[frV u lo A n c, .int .i64 m] w (RetSliceB w 3 1 (rchL u lo l m).length (intsV (rchL u lo l m)) (rchB u lo l m)) := by
 have hl := rows_len2 h
 have H := Lib.hid h
 obtain ⟨W1, hW1⟩ : ∃ y : World, y = w.alloc (.cells #[.int .i64 u, .int .i64 lo, .slice A n c] 26) := ⟨_, rfl⟩
 have BF1 := Lib.hid (show Blk W1 w.heap.size 26 #[.int .i64 u, .int .i64 lo, .slice A n c] by rw [hW1]; exact Blk.born w _ 26 rfl)
 have hb1 := Lib.hid (show Below w.heap.size w W1 by rw [hW1]; exact ext_alloc (ext_refl w) _)
 clear h
 cases hf : frB u lo l
 · have HB := Lib.hid (show rchB u lo l m = false by unfold rchB; rw [hf]; rfl)
   have HLL := Lib.hid (show rchL u lo l m = [] by unfold rchL; rw [if_neg (by rw [HB.out]; simp)])
   rw [HB.out, HLL.out]
   have HF := Lib.hid hf
   clear hf hl
   go_enter Try.func8, Try.ntmps8
   go_upto_region 1 with fail
   rw [← hW1]
   clear hW1
   obtain ⟨f0, f1, f2⟩ := BF1.out.q3
   have lF := BF1.out.lt
   go_wp2_with fail
   refine (l2Good_any u lo A n c l _ hn (rdx H.out hb1.out)).mono ?_
   rw [HF.out]
   rintro e w2 ⟨rfl, hb⟩
   have BF2 := Lib.hid (BF1.out.ext hb)
   have hb2 := Lib.hid (ext_trans hb1.out hb)
   clear hb f0 f1 f2 lF BF1 hb1
   obtain ⟨f0, f1, f2⟩ := BF2.out.q3
   have lF := BF2.out.lt
   go_wp2
   go_ret2
   exact ⟨_, _, rfl, own_empty2 (Blk.born w2 #[] 3 rfl) hb2.out.size, ext_alloc hb2.out _⟩
 · by_cases hn2 : n ≤ 2
   · have hg : ¬ (2 : Int) < (n : Int) := by omega
     have hgb : decide ((2 : Int) < (n : Int)) = false := decide_eq_false hg
     cases hin : inB m 0 4
     · have HB := Lib.hid (show rchB u lo l m = false by unfold rchB; rw [hf, hin]; simp)
       have HLL := Lib.hid (show rchL u lo l m = [] by unfold rchL; rw [if_neg (by rw [HB.out]; simp)])
       rw [HB.out, HLL.out]
       have HF := Lib.hid hf
       have HIN := Lib.hid hin
       clear hf hl hin
       go_enter Try.func8, Try.ntmps8
       go_upto_region 1 with fail
       rw [← hW1]
       clear hW1
       obtain ⟨f0, f1, f2⟩ := BF1.out.q3
       have lF := BF1.out.lt
       go_wp2_with fail
       refine (l2Good_any u lo A n c l _ hn (rdx H.out hb1.out)).mono ?_
       rw [HF.out]
       rintro e w2 ⟨rfl, hb⟩
       have BF2 := Lib.hid (BF1.out.ext hb)
       have hb2 := Lib.hid (ext_trans hb1.out hb)
       clear hb f0 f1 f2 lF BF1 hb1
       obtain ⟨f0, f1, f2⟩ := BF2.out.q3
       have lF := BF2.out.lt
       go_wp2_with fail
       refine (inB_l1In m 0 4 _).mono ?_
       rw [HIN.out]
       rintro e w3 ⟨rfl, hb⟩
       subst hb
       go_wp2
       go_ret2
       exact ⟨_, _, rfl, own_empty2 (Blk.born w2 #[] 3 rfl) hb2.out.size, ext_alloc hb2.out _⟩
     · have HB := Lib.hid (show rchB u lo l m = true by unfold rchB; rw [hf, hin, decide_eq_true (by omega)]; rfl)
       have HLL := Lib.hid (show rchL u lo l m = rS u lo l m from if_pos HB.out)
       have hm := inB_iff.1 hin
       have HR := Lib.hid (fun (w : World) h => l13Reach_any u lo A n c l hf hl (by omega) n 0 m w (by omega) hm.1 hm.2 h)
       rw [List.drop_zero] at HR
       obtain ⟨L, hL⟩ : ∃ o9, rS u lo l m = o9 := ⟨_, rfl⟩
       rw [hL] at HR HLL
       rw [HB.out, HLL.out]
       have HF := Lib.hid hf
       have HIN := Lib.hid hin
       unfold RetSlice at HR
       clear hf hl hin hL hm
       go_enter Try.func8, Try.ntmps8
       go_upto_region 1 with fail
       rw [← hW1]
       clear hW1
       obtain ⟨f0, f1, f2⟩ := BF1.out.q3
       have lF := BF1.out.lt
       go_wp2_with fail
       refine (l2Good_any u lo A n c l _ hn (rdx H.out hb1.out)).mono ?_
       rw [HF.out]
       rintro e w2 ⟨rfl, hb⟩
       have BF2 := Lib.hid (BF1.out.ext hb)
       have hb2 := Lib.hid (ext_trans hb1.out hb)
       clear hb f0 f1 f2 lF BF1 hb1
       obtain ⟨f0, f1, f2⟩ := BF2.out.q3
       have lF := BF2.out.lt
       go_wp2_with fail
       refine (inB_l1In m 0 4 _).mono ?_
       rw [HIN.out]
       rintro e w3 ⟨rfl, hb⟩
       subst hb
       go_wp2_with fail
       refine (HR.out _ (rdx H.out hb2.out)).mono ?_
       rintro e w4 ⟨A4, c4, rfl, ho4, hb4⟩
       go_wp2
       go_ret2
       exact ⟨A4, c4, rfl, own_base ho4 hb2.out.size, ext_trans hb2.out hb4⟩
   · have hg : (2 : Int) < (n : Int) := by omega
     have hgb : decide ((2 : Int) < (n : Int)) = true := decide_eq_true hg
     have HB := Lib.hid (show rchB u lo l m = false by unfold rchB; rw [hf, decide_eq_false (by omega)]; rfl)
     have HLL := Lib.hid (show rchL u lo l m = [] by unfold rchL; rw [if_neg (by rw [HB.out]; simp)])
     rw [HB.out, HLL.out]
     have HF := Lib.hid hf
     clear hf hl
     go_enter Try.func8, Try.ntmps8
     go_upto_region 1 with fail
     rw [← hW1]
     clear hW1
     obtain ⟨f0, f1, f2⟩ := BF1.out.q3
     have lF := BF1.out.lt
     go_wp2_with fail
     refine (l2Good_any u lo A n c l _ hn (rdx H.out hb1.out)).mono ?_
     rw [HF.out]
     rintro e w2 ⟨rfl, hb⟩
     have BF2 := Lib.hid (BF1.out.ext hb)
     have hb2 := Lib.hid (ext_trans hb1.out hb)
     clear hb f0 f1 f2 lF BF1 hb1
     obtain ⟨f0, f1, f2⟩ := BF2.out.q3
     have lF := BF2.out.lt
     go_wp2
     go_ret2
     exact ⟨_, _, rfl, own_empty2 (Blk.born w2 #[] 3 rfl) hb2.out.size, ext_alloc hb2.out _⟩

set_option maxRecDepth 100000 in
set_option maxHeartbeats 8000000 in
theorem implReachedIn_any (u lo : Int) (A : Option Addr) (n c : Nat) (l : List R2) (m : Int) (w : World) (hn : n ≤ 1048576) (h : Reads w w.heap.size 2 A n (rowsV2 l)) :
 Calls Try.prog 7 #[frV u lo A n c, .int .i64 m] w (RetSliceB w 3 1 (rchL u lo l m).length (intsV (rchL u lo l m)) (rchB u lo l m)) := by
 have hl := rows_len2 h
 have H := Lib.hid h
 obtain ⟨W1, hW1⟩ : ∃ y : World, y = w.alloc (.cells #[.int .i64 u, .int .i64 lo, .slice A n c] 26) := ⟨_, rfl⟩
 have BF1 := Lib.hid (show Blk W1 w.heap.size 26 #[.int .i64 u, .int .i64 lo, .slice A n c] by rw [hW1]; exact Blk.born w _ 26 rfl)
 have hb1 := Lib.hid (show Below w.heap.size w W1 by rw [hW1]; exact ext_alloc (ext_refl w) _)
 clear h
 cases hf : frB u lo l
 · have HB := Lib.hid (show rchB u lo l m = false by unfold rchB; rw [hf]; rfl)
   have HLL := Lib.hid (show rchL u lo l m = [] by unfold rchL; rw [if_neg (by rw [HB.out]; simp)])
   rw [HB.out, HLL.out]
   have HF := Lib.hid hf
   clear hf hl
   go_enter Try.func7, Try.ntmps7
   go_upto_region 1 with fail
   rw [← hW1]
   clear hW1
   obtain ⟨f0, f1, f2⟩ := BF1.out.q3
   have lF := BF1.out.lt
   go_wp2_with fail
   refine (isFrame_any u lo A n c l _ hn (rdx H.out hb1.out)).mono ?_
   rw [HF.out]
   rintro e w2 ⟨rfl, hb⟩
   have BF2 := Lib.hid (BF1.out.ext hb)
   have hb2 := Lib.hid (ext_trans hb1.out hb)
   clear hb f0 f1 f2 lF BF1 hb1
   obtain ⟨f0, f1, f2⟩ := BF2.out.q3
   have lF := BF2.out.lt
   go_wp2
   go_ret2
   exact ⟨none, 0, rfl, World.ownsRow_nil _ _ _ _, hb2.out⟩
 · by_cases hn2 : n ≤ 2
   · have hg : ¬ (2 : Int) < (n : Int) := by omega
     have hgb : decide ((2 : Int) < (n : Int)) = false := decide_eq_false hg
     cases hin : inB m 0 4
     · have HB := Lib.hid (show rchB u lo l m = false by unfold rchB; rw [hf, hin]; simp)
       have HLL := Lib.hid (show rchL u lo l m = [] by unfold rchL; rw [if_neg (by rw [HB.out]; simp)])
       rw [HB.out, HLL.out]
       have HF := Lib.hid hf
       have HIN := Lib.hid hin
       clear hf hl hin
       go_enter Try.func7, Try.ntmps7
       go_upto_region 1 with fail
       rw [← hW1]
       clear hW1
       obtain ⟨f0, f1, f2⟩ := BF1.out.q3
       have lF := BF1.out.lt
       go_wp2_with fail
       refine (isFrame_any u lo A n c l _ hn (rdx H.out hb1.out)).mono ?_
       rw [HF.out]
       rintro e w2 ⟨rfl, hb⟩
       have BF2 := Lib.hid (BF1.out.ext hb)
       have hb2 := Lib.hid (ext_trans hb1.out hb)
       clear hb f0 f1 f2 lF BF1 hb1
       obtain ⟨f0, f1, f2⟩ := BF2.out.q3
       have lF := BF2.out.lt
       go_wp2_with fail
       refine (inB_within m 0 4 _).mono ?_
       rw [HIN.out]
       rintro e w3 ⟨rfl, hb⟩
       subst hb
       go_wp2
       go_ret2
       exact ⟨none, 0, rfl, World.ownsRow_nil _ _ _ _, hb2.out⟩
     · have HB := Lib.hid (show rchB u lo l m = true by unfold rchB; rw [hf, hin, decide_eq_true (by omega)]; rfl)
       have HLL := Lib.hid (show rchL u lo l m = rS u lo l m from if_pos HB.out)
       have hm := inB_iff.1 hin
       have HRI := Lib.hid (rI_rS u lo l m hm.1)
       have hh := frB_head hf
       have HR := Lib.hid (fun (B : Nat) (w : World) hB h ho => reached_any u lo B n (by omega) (by omega) (2 * n) 0 A c l m [] none 0 0 w (by omega) hf hl hm.1 hm.2 hB h ho OKL.nil rfl)
       rw [hl] at HRI
       rw [HRI.out] at HR
       obtain ⟨L, hL⟩ : ∃ o9, rS u lo l m = o9 := ⟨_, rfl⟩
       rw [hL] at HR HLL
       rw [HB.out, HLL.out]
       have HF := Lib.hid hf
       have HIN := Lib.hid hin
       unfold RetList at HR
       clear hf hl hin hL hm hh HRI
       go_enter Try.func7, Try.ntmps7
       go_upto_region 1 with fail
       rw [← hW1]
       clear hW1
       obtain ⟨f0, f1, f2⟩ := BF1.out.q3
       have lF := BF1.out.lt
       go_wp2_with fail
       refine (isFrame_any u lo A n c l _ hn (rdx H.out hb1.out)).mono ?_
       rw [HF.out]
       rintro e w2 ⟨rfl, hb⟩
       have BF2 := Lib.hid (BF1.out.ext hb)
       have hb2 := Lib.hid (ext_trans hb1.out hb)
       clear hb f0 f1 f2 lF BF1 hb1
       obtain ⟨f0, f1, f2⟩ := BF2.out.q3
       have lF := BF2.out.lt
       go_wp2_with fail
       refine (inB_within m 0 4 _).mono ?_
       rw [HIN.out]
       rintro e w3 ⟨rfl, hb⟩
       subst hb
       go_wp2_with fail
       refine (HR.out w.heap.size _ hb2.out.size ((Rods.of_reads H.out).ki ⟨hb2.out, fun b t cs hb _ => hb.ext hb2.out⟩) (World.ownsRow_nil _ _ _ _)).mono ?_
       rintro e w4 ⟨A4, c4, rfl, ho4, hk4⟩
       go_wp2
       go_ret2
       exact ⟨A4, c4, rfl, ho4, hb2.out.trans hk4.1⟩
   · have hg : (2 : Int) < (n : Int) := by omega
     have hgb : decide ((2 : Int) < (n : Int)) = true := decide_eq_true hg
     have HB := Lib.hid (show rchB u lo l m = false by unfold rchB; rw [hf, decide_eq_false (by omega)]; rfl)
     have HLL := Lib.hid (show rchL u lo l m = [] by unfold rchL; rw [if_neg (by rw [HB.out]; simp)])
     rw [HB.out, HLL.out]
     have HF := Lib.hid hf
     clear hf hl
     go_enter Try.func7, Try.ntmps7
     go_upto_region 1 with fail
     rw [← hW1]
     clear hW1
     obtain ⟨f0, f1, f2⟩ := BF1.out.q3
     have lF := BF1.out.lt
     go_wp2_with fail
     refine (isFrame_any u lo A n c l _ hn (rdx H.out hb1.out)).mono ?_
     rw [HF.out]
     rintro e w2 ⟨rfl, hb⟩
     have BF2 := Lib.hid (BF1.out.ext hb)
     have hb2 := Lib.hid (ext_trans hb1.out hb)
     clear hb f0 f1 f2 lF BF1 hb1
     obtain ⟨f0, f1, f2⟩ := BF2.out.q3
     have lF := BF2.out.lt
     go_wp2
     go_ret2
     exact ⟨none, 0, rfl, World.ownsRow_nil _ _ _ _, hb2.out⟩

def fmB (u lo v : Int) : Bool := inB u 1 2 && (inB lo 4 5 && inB v 0 15)
def fmL (u lo v : Int) : List R2 := if fmB u lo v = true then forms u lo v else []
set_option maxRecDepth 100000 in
set_option maxHeartbeats 8000000 in
theorem specFormsOf_any (u lo v : Int) (w : World) :
 Calls Try.prog 15 #[.int .i64 u, .int .i64 lo, .int .i64 v] w (RetSliceB w 42 2 (fmL u lo v).length (rowsV2 (fmL u lo v)) (fmB u lo v)) := by
 cases h1 : inB u 1 2
 · rw [show fmB u lo v = false by unfold fmB; rw [h1]; rfl, show fmL u lo v = [] by unfold fmL; rw [if_neg (by rw [show fmB u lo v = false by unfold fmB; rw [h1]; rfl]; simp)]]
   have HA := Lib.hid h1
   clear h1
   go_enter Try.func15, Try.ntmps15
   go_wp2_with fail
   refine (inB_l1In u 1 2 _).mono ?_
   rw [HA.out]
   rintro e w3 ⟨rfl, hb⟩
   subst hb
   go_wp2
   go_ret2
   exact ⟨_, _, rfl, own_empty2 (Blk.born w #[] 42 rfl) (Nat.le_refl _), ext_alloc (ext_refl _) _⟩
 · cases h2 : inB lo 4 5
   · rw [show fmB u lo v = false by unfold fmB; rw [h1, h2]; rfl, show fmL u lo v = [] by unfold fmL; rw [if_neg (by rw [show fmB u lo v = false by unfold fmB; rw [h1, h2]; rfl]; simp)]]
     have HA := Lib.hid h1
     have HB := Lib.hid h2
     clear h1 h2
     go_enter Try.func15, Try.ntmps15
     go_wp2_with fail
     refine (inB_l1In u 1 2 _).mono ?_
     rw [HA.out]
     rintro e w3 ⟨rfl, hb⟩
     subst hb
     go_wp2_with fail
     refine (inB_l1In lo 4 5 _).mono ?_
     rw [HB.out]
     rintro e w3 ⟨rfl, hb⟩
     subst hb
     go_wp2
     go_ret2
     exact ⟨_, _, rfl, own_empty2 (Blk.born w #[] 42 rfl) (Nat.le_refl _), ext_alloc (ext_refl _) _⟩
   · cases h3 : inB v 0 15
     · rw [show fmB u lo v = false by unfold fmB; rw [h1, h2, h3]; rfl, show fmL u lo v = [] by unfold fmL; rw [if_neg (by rw [show fmB u lo v = false by unfold fmB; rw [h1, h2, h3]; rfl]; simp)]]
       have HA := Lib.hid h1
       have HB := Lib.hid h2
       have HC := Lib.hid h3
       clear h1 h2 h3
       go_enter Try.func15, Try.ntmps15
       go_wp2_with fail
       refine (inB_l1In u 1 2 _).mono ?_
       rw [HA.out]
       rintro e w3 ⟨rfl, hb⟩
       subst hb
       go_wp2_with fail
       refine (inB_l1In lo 4 5 _).mono ?_
       rw [HB.out]
       rintro e w3 ⟨rfl, hb⟩
       subst hb
       go_wp2_with fail
       refine (inB_l1In v 0 15 _).mono ?_
       rw [HC.out]
       rintro e w3 ⟨rfl, hb⟩
       subst hb
       go_wp2
       go_ret2
       exact ⟨_, _, rfl, own_empty2 (Blk.born w #[] 42 rfl) (Nat.le_refl _), ext_alloc (ext_refl _) _⟩
     · have hu := inB_iff.1 h1
       have hlo := inB_iff.1 h2
       have hv := inB_iff.1 h3
       have hBB : fmB u lo v = true := by unfold fmB; rw [h1, h2, h3]; rfl
       rw [hBB, show fmL u lo v = forms u lo v from if_pos hBB]
       have HG := Lib.hid (fun (w : World) => l13Forms_any u lo v w (by omega) (by omega))
       obtain ⟨fs, hfs⟩ : ∃ o9, forms u lo v = o9 := ⟨_, rfl⟩
       rw [hfs] at HG ⊢
       unfold RetSlice at HG
       have HA := Lib.hid h1
       have HB := Lib.hid h2
       have HC := Lib.hid h3
       clear h1 h2 h3 hu hlo hv hBB hfs
       go_enter Try.func15, Try.ntmps15
       go_wp2_with fail
       refine (inB_l1In u 1 2 _).mono ?_
       rw [HA.out]
       rintro e w3 ⟨rfl, hb⟩
       subst hb
       go_wp2_with fail
       refine (inB_l1In lo 4 5 _).mono ?_
       rw [HB.out]
       rintro e w3 ⟨rfl, hb⟩
       subst hb
       go_wp2_with fail
       refine (inB_l1In v 0 15 _).mono ?_
       rw [HC.out]
       rintro e w3 ⟨rfl, hb⟩
       subst hb
       go_wp2_with fail
       refine (HG.out _).mono ?_
       rintro e w4 ⟨A4, c4, rfl, ho4, hb4⟩
       go_wp2
       go_ret2
       exact ⟨A4, c4, rfl, ho4, hb4⟩

set_option maxRecDepth 100000 in
set_option maxHeartbeats 8000000 in
theorem implFormsOf_any (u lo v : Int) (w : World) :
 Calls Try.prog 14 #[.int .i64 u, .int .i64 lo, .int .i64 v] w (RetSliceB w 42 2 (fmL u lo v).length (rowsV2 (fmL u lo v)) (fmB u lo v)) := by
 cases h1 : inB u 1 2
 · rw [show fmB u lo v = false by unfold fmB; rw [h1]; rfl, show fmL u lo v = [] by unfold fmL; rw [if_neg (by rw [show fmB u lo v = false by unfold fmB; rw [h1]; rfl]; simp)]]
   have HA := Lib.hid h1
   clear h1
   go_enter Try.func14, Try.ntmps14
   go_wp2_with fail
   refine (inB_within u 1 2 _).mono ?_
   rw [HA.out]
   rintro e w3 ⟨rfl, hb⟩
   subst hb
   go_wp2
   go_ret2
   exact ⟨none, 0, rfl, World.ownsRow_nil _ _ _ _, ext_refl _⟩
 · cases h2 : inB lo 4 5
   · rw [show fmB u lo v = false by unfold fmB; rw [h1, h2]; rfl, show fmL u lo v = [] by unfold fmL; rw [if_neg (by rw [show fmB u lo v = false by unfold fmB; rw [h1, h2]; rfl]; simp)]]
     have HA := Lib.hid h1
     have HB := Lib.hid h2
     clear h1 h2
     go_enter Try.func14, Try.ntmps14
     go_wp2_with fail
     refine (inB_within u 1 2 _).mono ?_
     rw [HA.out]
     rintro e w3 ⟨rfl, hb⟩
     subst hb
     go_wp2_with fail
     refine (inB_within lo 4 5 _).mono ?_
     rw [HB.out]
     rintro e w3 ⟨rfl, hb⟩
     subst hb
     go_wp2
     go_ret2
     exact ⟨none, 0, rfl, World.ownsRow_nil _ _ _ _, ext_refl _⟩
   · cases h3 : inB v 0 15
     · rw [show fmB u lo v = false by unfold fmB; rw [h1, h2, h3]; rfl, show fmL u lo v = [] by unfold fmL; rw [if_neg (by rw [show fmB u lo v = false by unfold fmB; rw [h1, h2, h3]; rfl]; simp)]]
       have HA := Lib.hid h1
       have HB := Lib.hid h2
       have HC := Lib.hid h3
       clear h1 h2 h3
       go_enter Try.func14, Try.ntmps14
       go_wp2_with fail
       refine (inB_within u 1 2 _).mono ?_
       rw [HA.out]
       rintro e w3 ⟨rfl, hb⟩
       subst hb
       go_wp2_with fail
       refine (inB_within lo 4 5 _).mono ?_
       rw [HB.out]
       rintro e w3 ⟨rfl, hb⟩
       subst hb
       go_wp2_with fail
       refine (inB_within v 0 15 _).mono ?_
       rw [HC.out]
       rintro e w3 ⟨rfl, hb⟩
       subst hb
       go_wp2
       go_ret2
       exact ⟨none, 0, rfl, World.ownsRow_nil _ _ _ _, ext_refl _⟩
     · have hu := inB_iff.1 h1
       have hlo := inB_iff.1 h2
       have hv := inB_iff.1 h3
       have hBB : fmB u lo v = true := by unfold fmB; rw [h1, h2, h3]; rfl
       rw [hBB, show fmL u lo v = forms u lo v from if_pos hBB]
       have HG := Lib.hid (fun (w : World) => formsOf_any u lo v w (by omega) (by omega))
       obtain ⟨fs, hfs⟩ : ∃ o9, forms u lo v = o9 := ⟨_, rfl⟩
       rw [hfs] at HG ⊢
       unfold RetSlice at HG
       have HA := Lib.hid h1
       have HB := Lib.hid h2
       have HC := Lib.hid h3
       clear h1 h2 h3 hu hlo hv hBB hfs
       go_enter Try.func14, Try.ntmps14
       go_wp2_with fail
       refine (inB_within u 1 2 _).mono ?_
       rw [HA.out]
       rintro e w3 ⟨rfl, hb⟩
       subst hb
       go_wp2_with fail
       refine (inB_within lo 4 5 _).mono ?_
       rw [HB.out]
       rintro e w3 ⟨rfl, hb⟩
       subst hb
       go_wp2_with fail
       refine (inB_within v 0 15 _).mono ?_
       rw [HC.out]
       rintro e w3 ⟨rfl, hb⟩
       subst hb
       go_wp2_with fail
       refine (HG.out _).mono ?_
       rintro e w4 ⟨A4, c4, rfl, ho4, hb4⟩
       go_wp2
       go_ret2
       exact ⟨A4, c4, rfl, ho4, hb4⟩

end Go.Proofs.Ytaghjaiaoajpiaa
