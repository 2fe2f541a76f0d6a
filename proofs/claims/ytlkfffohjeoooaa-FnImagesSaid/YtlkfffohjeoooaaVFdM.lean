/- The drawing of a mind's steps. -/
import Derived.Test.YtlkfffohjeoooaaVFdC
import Derived.Test.YtlkfffohjeoooaaVM12
namespace Go.Proofs.Ytlkfffohjeoooaa
open Go.RowKit
set_option linter.unusedVariables false
set_option linter.unusedSimpArgs false
def DrawMs (g a K : Nat) (w : World) (e : Ending) (w' : World) : Prop := ∃ (k v : Int) (a' : Nat), e = .returned (.agg #[.int .i64 k, .int .i64 v]) ∧ 0 ≤ k ∧ k ≤ 6 ∧ -2 ≤ v ∧ v ≤ 99999999 ∧ a' ≤ a + K ∧ CurAt w' g a' ∧ Gr g w w'
set_option maxRecDepth 100000 in
set_option maxHeartbeats 8000000 in
theorem mindStep_any (g a : Nat) (u lo : Int) (A : Option Addr) (n c : Nat) (K : Option Addr) (k kc : Nat) (I : Option Addr) (m ic : Nat) (be gu : Int) (w : World) (h : CurAt w g a) (ha : a ≤ 500000000000) (hk : k ≤ 60000) :
 Calls Try.prog 133 #[.pointer (some ⟨g, 0, none⟩), mdV u lo A n c K k kc I m ic be gu] w (DrawMs g a 10 w) := by
 have hgS : g < w.heap.size := h.lt
 have BM0 := Lib.hid ((Blk.born w (mdC u lo A n c K k kc I m ic be gu) 47 (H := w.heap.size) rfl).al (.cells #[.int .i64 0, .int .i64 0] 51))
 have BR0 := Lib.hid (Blk.born (w.alloc (.cells (mdC u lo A n c K k kc I m ic be gu) 47)) #[.int .i64 0, .int .i64 0] 51 (H := w.heap.size + 1) (by simp))
 have HC0 := Lib.hid ((h.ext (ext_alloc (ext_refl w) (.cells (mdC u lo A n c K k kc I m ic be gu) 47))).ext (ext_alloc (ext_refl _) (.cells #[.int .i64 0, .int .i64 0] 51)))
 have HG0 := Lib.hid ((Gr.alloc g w (.cells (mdC u lo A n c K k kc I m ic be gu) 47)).trans (Gr.alloc g _ (.cells #[.int .i64 0, .int .i64 0] 51)))
 clear h
 go_enter Try.func133, Try.ntmps133
 go_wp2_with fail
 refine (one_any g a 40 _ HC0.out (by omega) (by omega) (by omega)).mono ?_
 rintro e w1 ⟨B, a1, rfl, ha1, hc, hg⟩
 have HC1 := Lib.hid hc
 have HG1 := Lib.hid (HG0.out.trans hg)
 have BM1 := Lib.hid (BM0.out.gr hg (by omega))
 have BR1 := Lib.hid (BR0.out.gr hg (by omega))
 clear hc hg HC0 HG0 BM0 BR0
 obtain ⟨bmq0, bmq1, bmq2, bmq3, bmq4, bmq5, bmq6⟩ := BM1.out.q7
 obtain ⟨bmz0, bmz1, bmz2, bmz3, bmz4, bmz5, bmz6⟩ := BM1.out.z7
 have lbm := BM1.out.lt
 obtain ⟨brq0, brq1⟩ := BR1.out.q2
 obtain ⟨brz0, brz1⟩ := BR1.out.z2
 have lbr := BR1.out.lt
 cases B
 · go_wp2_with fail
   refine (pick_any g a1 7 _ HC1.out (by omega) (by omega) (by omega)).mono ?_
   rintro e w2 ⟨z, a2, rfl, z0, z1, ha2, hc, hg⟩
   have HC2 := Lib.hid hc
   have HG2 := Lib.hid (HG1.out.trans hg)
   have BM2 := Lib.hid (BM1.out.gr hg (by omega))
   have BR2 := Lib.hid (BR1.out.gr hg (by omega))
   clear bmq0 bmz0 bmq1 bmz1 bmq2 bmz2 bmq3 bmz3 bmq4 bmz4 bmq5 bmz5 bmq6 bmz6 lbm brq0 brz0 brq1 brz1 lbr
   clear hc hg HC1 HG1 BM1 BR1
   obtain ⟨bmq0, bmq1, bmq2, bmq3, bmq4, bmq5, bmq6⟩ := BM2.out.q7
   obtain ⟨bmz0, bmz1, bmz2, bmz3, bmz4, bmz5, bmz6⟩ := BM2.out.z7
   have lbm := BM2.out.lt
   obtain ⟨brq0, brq1⟩ := BR2.out.q2
   obtain ⟨brz0, brz1⟩ := BR2.out.z2
   have lbr := BR2.out.lt
   rcases (show z = 0 ∨ z = 1 ∨ z = 2 ∨ z = 3 ∨ z = 4 ∨ z = 5 ∨ z = 6 by omega) with rfl | rfl | rfl | rfl | rfl | rfl | rfl
   · go_wp2_with fail
     refine (among_lit g a2 (0) 10 [1, 1, 2, 3, 5, 9, 10, 0] 3 _ HC2.out (by omega) (by decide) (by decide) (by decide) _ rfl (by simp)).mono ?_
     rintro e w3 ⟨v, a3, rfl, v0, v1, ha3, hc, hg⟩
     have HC3 := Lib.hid hc
     have HG3 := Lib.hid (HG2.out.trans hg)
     have BM3 := Lib.hid (BM2.out.gr hg (by omega))
     have BR3 := Lib.hid (BR2.out.gr hg (by omega))
     clear bmq0 bmz0 bmq1 bmz1 bmq2 bmz2 bmq3 bmz3 bmq4 bmz4 bmq5 bmz5 bmq6 bmz6 lbm brq0 brz0 brq1 brz1 lbr
     clear hc hg HC2 HG2 BM2 BR2
     obtain ⟨bmq0, bmq1, bmq2, bmq3, bmq4, bmq5, bmq6⟩ := BM3.out.q7
     obtain ⟨bmz0, bmz1, bmz2, bmz3, bmz4, bmz5, bmz6⟩ := BM3.out.z7
     have lbm := BM3.out.lt
     obtain ⟨brq0, brq1⟩ := BR3.out.q2
     obtain ⟨brz0, brz1⟩ := BR3.out.z2
     have lbr := BR3.out.lt
     go_wp2
     refine bodyPost_ret (v := .agg #[.int .i64 1, .int .i64 v]) (by simp [results, Try.results133, go_sem, *]) rfl ?_
     exact ⟨1, v, a3, rfl, by first | omega | (dsimp only; omega), by first | omega | (dsimp only; omega), by first | omega | (dsimp only; omega), by omega, by omega, (HC3.out.far (p := ⟨w.heap.size + 1, 0, none⟩) (by show g < w.heap.size + 1; omega) _).far (p := ⟨w.heap.size + 1, 1, none⟩) (by show g < w.heap.size + 1; omega) _, (HG3.out.setNew (p := ⟨w.heap.size + 1, 0, none⟩) (by show w.heap.size ≤ w.heap.size + 1; omega) _).setNew (p := ⟨w.heap.size + 1, 1, none⟩) (by show w.heap.size ≤ w.heap.size + 1; omega) _⟩
   · go_wp2_with fail
     refine (among_lit g a2 (0) 10 [1, 1, 2, 3, 5, 9, 10, 0] 3 _ HC2.out (by omega) (by decide) (by decide) (by decide) _ rfl (by simp)).mono ?_
     rintro e w3 ⟨v, a3, rfl, v0, v1, ha3, hc, hg⟩
     have HC3 := Lib.hid hc
     have HG3 := Lib.hid (HG2.out.trans hg)
     have BM3 := Lib.hid (BM2.out.gr hg (by omega))
     have BR3 := Lib.hid (BR2.out.gr hg (by omega))
     clear bmq0 bmz0 bmq1 bmz1 bmq2 bmz2 bmq3 bmz3 bmq4 bmz4 bmq5 bmz5 bmq6 bmz6 lbm brq0 brz0 brq1 brz1 lbr
     clear hc hg HC2 HG2 BM2 BR2
     obtain ⟨bmq0, bmq1, bmq2, bmq3, bmq4, bmq5, bmq6⟩ := BM3.out.q7
     obtain ⟨bmz0, bmz1, bmz2, bmz3, bmz4, bmz5, bmz6⟩ := BM3.out.z7
     have lbm := BM3.out.lt
     obtain ⟨brq0, brq1⟩ := BR3.out.q2
     obtain ⟨brz0, brz1⟩ := BR3.out.z2
     have lbr := BR3.out.lt
     go_wp2
     refine bodyPost_ret (v := .agg #[.int .i64 1, .int .i64 v]) (by simp [results, Try.results133, go_sem, *]) rfl ?_
     exact ⟨1, v, a3, rfl, by first | omega | (dsimp only; omega), by first | omega | (dsimp only; omega), by first | omega | (dsimp only; omega), by omega, by omega, (HC3.out.far (p := ⟨w.heap.size + 1, 0, none⟩) (by show g < w.heap.size + 1; omega) _).far (p := ⟨w.heap.size + 1, 1, none⟩) (by show g < w.heap.size + 1; omega) _, (HG3.out.setNew (p := ⟨w.heap.size + 1, 0, none⟩) (by show w.heap.size ≤ w.heap.size + 1; omega) _).setNew (p := ⟨w.heap.size + 1, 1, none⟩) (by show w.heap.size ≤ w.heap.size + 1; omega) _⟩
   · go_wp2
     refine bodyPost_ret (v := .agg #[.int .i64 2, .int .i64 0]) (by simp [results, Try.results133, go_sem, *]) rfl ?_
     exact ⟨2, 0, a2, rfl, by first | omega | (dsimp only; omega), by first | omega | (dsimp only; omega), by first | omega | (dsimp only; omega), by omega, by omega, (HC2.out.far (p := ⟨w.heap.size + 1, 0, none⟩) (by show g < w.heap.size + 1; omega) _).far (p := ⟨w.heap.size + 1, 1, none⟩) (by show g < w.heap.size + 1; omega) _, (HG2.out.setNew (p := ⟨w.heap.size + 1, 0, none⟩) (by show w.heap.size ≤ w.heap.size + 1; omega) _).setNew (p := ⟨w.heap.size + 1, 1, none⟩) (by show w.heap.size ≤ w.heap.size + 1; omega) _⟩
   · go_wp2_with fail
     refine (pick_any g a2 (k + 1) _ HC2.out (by omega) (by omega) (by omega)).mono ?_
     rintro e w3 ⟨v, a3, rfl, v0, v1, ha3, hc, hg⟩
     have HC3 := Lib.hid hc
     have HG3 := Lib.hid (HG2.out.trans hg)
     have BM3 := Lib.hid (BM2.out.gr hg (by omega))
     have BR3 := Lib.hid (BR2.out.gr hg (by omega))
     clear bmq0 bmz0 bmq1 bmz1 bmq2 bmz2 bmq3 bmz3 bmq4 bmz4 bmq5 bmz5 bmq6 bmz6 lbm brq0 brz0 brq1 brz1 lbr
     clear hc hg HC2 HG2 BM2 BR2
     obtain ⟨bmq0, bmq1, bmq2, bmq3, bmq4, bmq5, bmq6⟩ := BM3.out.q7
     obtain ⟨bmz0, bmz1, bmz2, bmz3, bmz4, bmz5, bmz6⟩ := BM3.out.z7
     have lbm := BM3.out.lt
     obtain ⟨brq0, brq1⟩ := BR3.out.q2
     obtain ⟨brz0, brz1⟩ := BR3.out.z2
     have lbr := BR3.out.lt
     go_wp2_with fail
     refine (pick_any g a3 17 _ HC3.out (by omega) (by omega) (by omega)).mono ?_
     rintro e w4 ⟨x, a4, rfl, x0, x1, ha4, hc, hg⟩
     have HC4 := Lib.hid hc
     have HG4 := Lib.hid (HG3.out.trans hg)
     have BM4 := Lib.hid (BM3.out.gr hg (by omega))
     have BR4 := Lib.hid (BR3.out.gr hg (by omega))
     clear bmq0 bmz0 bmq1 bmz1 bmq2 bmz2 bmq3 bmz3 bmq4 bmz4 bmq5 bmz5 bmq6 bmz6 lbm brq0 brz0 brq1 brz1 lbr
     clear hc hg HC3 HG3 BM3 BR3
     obtain ⟨bmq0, bmq1, bmq2, bmq3, bmq4, bmq5, bmq6⟩ := BM4.out.q7
     obtain ⟨bmz0, bmz1, bmz2, bmz3, bmz4, bmz5, bmz6⟩ := BM4.out.z7
     have lbm := BM4.out.lt
     obtain ⟨brq0, brq1⟩ := BR4.out.q2
     obtain ⟨brz0, brz1⟩ := BR4.out.z2
     have lbr := BR4.out.lt
     have hx16 : 0 ≤ x / 16 ∧ x / 16 ≤ 1 := by omega
     have htd : x.tdiv 16 = x / 16 := Int.tdiv_eq_ediv_of_nonneg x0
     go_wp2
     refine bodyPost_ret (v := .agg #[.int .i64 3, .int .i64 (v - x / 16)]) (by simp [results, Try.results133, go_sem, *]) rfl ?_
     exact ⟨3, (v - x / 16), a4, rfl, by first | omega | (dsimp only; omega), by first | omega | (dsimp only; omega), by first | omega | (dsimp only; omega), by omega, by omega, (HC4.out.far (p := ⟨w.heap.size + 1, 0, none⟩) (by show g < w.heap.size + 1; omega) _).far (p := ⟨w.heap.size + 1, 1, none⟩) (by show g < w.heap.size + 1; omega) _, (HG4.out.setNew (p := ⟨w.heap.size + 1, 0, none⟩) (by show w.heap.size ≤ w.heap.size + 1; omega) _).setNew (p := ⟨w.heap.size + 1, 1, none⟩) (by show w.heap.size ≤ w.heap.size + 1; omega) _⟩
   · go_wp2_with fail
     refine (pick_any g a2 (k + 1) _ HC2.out (by omega) (by omega) (by omega)).mono ?_
     rintro e w3 ⟨v, a3, rfl, v0, v1, ha3, hc, hg⟩
     have HC3 := Lib.hid hc
     have HG3 := Lib.hid (HG2.out.trans hg)
     have BM3 := Lib.hid (BM2.out.gr hg (by omega))
     have BR3 := Lib.hid (BR2.out.gr hg (by omega))
     clear bmq0 bmz0 bmq1 bmz1 bmq2 bmz2 bmq3 bmz3 bmq4 bmz4 bmq5 bmz5 bmq6 bmz6 lbm brq0 brz0 brq1 brz1 lbr
     clear hc hg HC2 HG2 BM2 BR2
     obtain ⟨bmq0, bmq1, bmq2, bmq3, bmq4, bmq5, bmq6⟩ := BM3.out.q7
     obtain ⟨bmz0, bmz1, bmz2, bmz3, bmz4, bmz5, bmz6⟩ := BM3.out.z7
     have lbm := BM3.out.lt
     obtain ⟨brq0, brq1⟩ := BR3.out.q2
     obtain ⟨brz0, brz1⟩ := BR3.out.z2
     have lbr := BR3.out.lt
     go_wp2_with fail
     refine (pick_any g a3 17 _ HC3.out (by omega) (by omega) (by omega)).mono ?_
     rintro e w4 ⟨x, a4, rfl, x0, x1, ha4, hc, hg⟩
     have HC4 := Lib.hid hc
     have HG4 := Lib.hid (HG3.out.trans hg)
     have BM4 := Lib.hid (BM3.out.gr hg (by omega))
     have BR4 := Lib.hid (BR3.out.gr hg (by omega))
     clear bmq0 bmz0 bmq1 bmz1 bmq2 bmz2 bmq3 bmz3 bmq4 bmz4 bmq5 bmz5 bmq6 bmz6 lbm brq0 brz0 brq1 brz1 lbr
     clear hc hg HC3 HG3 BM3 BR3
     obtain ⟨bmq0, bmq1, bmq2, bmq3, bmq4, bmq5, bmq6⟩ := BM4.out.q7
     obtain ⟨bmz0, bmz1, bmz2, bmz3, bmz4, bmz5, bmz6⟩ := BM4.out.z7
     have lbm := BM4.out.lt
     obtain ⟨brq0, brq1⟩ := BR4.out.q2
     obtain ⟨brz0, brz1⟩ := BR4.out.z2
     have lbr := BR4.out.lt
     have hx16 : 0 ≤ x / 16 ∧ x / 16 ≤ 1 := by omega
     have htd : x.tdiv 16 = x / 16 := Int.tdiv_eq_ediv_of_nonneg x0
     go_wp2
     refine bodyPost_ret (v := .agg #[.int .i64 3, .int .i64 (v - x / 16)]) (by simp [results, Try.results133, go_sem, *]) rfl ?_
     exact ⟨3, (v - x / 16), a4, rfl, by first | omega | (dsimp only; omega), by first | omega | (dsimp only; omega), by first | omega | (dsimp only; omega), by omega, by omega, (HC4.out.far (p := ⟨w.heap.size + 1, 0, none⟩) (by show g < w.heap.size + 1; omega) _).far (p := ⟨w.heap.size + 1, 1, none⟩) (by show g < w.heap.size + 1; omega) _, (HG4.out.setNew (p := ⟨w.heap.size + 1, 0, none⟩) (by show w.heap.size ≤ w.heap.size + 1; omega) _).setNew (p := ⟨w.heap.size + 1, 1, none⟩) (by show w.heap.size ≤ w.heap.size + 1; omega) _⟩
   · go_wp2_with fail
     refine (among_lit g a2 (0) 99999999 [1, 5, 9, 36, 108, 99999999, 0] 3 _ HC2.out (by omega) (by decide) (by decide) (by decide) _ rfl (by simp)).mono ?_
     rintro e w3 ⟨v, a3, rfl, v0, v1, ha3, hc, hg⟩
     have HC3 := Lib.hid hc
     have HG3 := Lib.hid (HG2.out.trans hg)
     have BM3 := Lib.hid (BM2.out.gr hg (by omega))
     have BR3 := Lib.hid (BR2.out.gr hg (by omega))
     clear bmq0 bmz0 bmq1 bmz1 bmq2 bmz2 bmq3 bmz3 bmq4 bmz4 bmq5 bmz5 bmq6 bmz6 lbm brq0 brz0 brq1 brz1 lbr
     clear hc hg HC2 HG2 BM2 BR2
     obtain ⟨bmq0, bmq1, bmq2, bmq3, bmq4, bmq5, bmq6⟩ := BM3.out.q7
     obtain ⟨bmz0, bmz1, bmz2, bmz3, bmz4, bmz5, bmz6⟩ := BM3.out.z7
     have lbm := BM3.out.lt
     obtain ⟨brq0, brq1⟩ := BR3.out.q2
     obtain ⟨brz0, brz1⟩ := BR3.out.z2
     have lbr := BR3.out.lt
     go_wp2
     refine bodyPost_ret (v := .agg #[.int .i64 4, .int .i64 v]) (by simp [results, Try.results133, go_sem, *]) rfl ?_
     exact ⟨4, v, a3, rfl, by first | omega | (dsimp only; omega), by first | omega | (dsimp only; omega), by first | omega | (dsimp only; omega), by omega, by omega, (HC3.out.far (p := ⟨w.heap.size + 1, 0, none⟩) (by show g < w.heap.size + 1; omega) _).far (p := ⟨w.heap.size + 1, 1, none⟩) (by show g < w.heap.size + 1; omega) _, (HG3.out.setNew (p := ⟨w.heap.size + 1, 0, none⟩) (by show w.heap.size ≤ w.heap.size + 1; omega) _).setNew (p := ⟨w.heap.size + 1, 1, none⟩) (by show w.heap.size ≤ w.heap.size + 1; omega) _⟩
   · go_wp2_with fail
     refine (pick_any g a2 11 _ HC2.out (by omega) (by omega) (by omega)).mono ?_
     rintro e w3 ⟨v, a3, rfl, v0, v1, ha3, hc, hg⟩
     have HC3 := Lib.hid hc
     have HG3 := Lib.hid (HG2.out.trans hg)
     have BM3 := Lib.hid (BM2.out.gr hg (by omega))
     have BR3 := Lib.hid (BR2.out.gr hg (by omega))
     clear bmq0 bmz0 bmq1 bmz1 bmq2 bmz2 bmq3 bmz3 bmq4 bmz4 bmq5 bmz5 bmq6 bmz6 lbm brq0 brz0 brq1 brz1 lbr
     clear hc hg HC2 HG2 BM2 BR2
     obtain ⟨bmq0, bmq1, bmq2, bmq3, bmq4, bmq5, bmq6⟩ := BM3.out.q7
     obtain ⟨bmz0, bmz1, bmz2, bmz3, bmz4, bmz5, bmz6⟩ := BM3.out.z7
     have lbm := BM3.out.lt
     obtain ⟨brq0, brq1⟩ := BR3.out.q2
     obtain ⟨brz0, brz1⟩ := BR3.out.z2
     have lbr := BR3.out.lt
     go_wp2
     refine bodyPost_ret (v := .agg #[.int .i64 5, .int .i64 v]) (by simp [results, Try.results133, go_sem, *]) rfl ?_
     exact ⟨5, v, a3, rfl, by first | omega | (dsimp only; omega), by first | omega | (dsimp only; omega), by first | omega | (dsimp only; omega), by omega, by omega, (HC3.out.far (p := ⟨w.heap.size + 1, 0, none⟩) (by show g < w.heap.size + 1; omega) _).far (p := ⟨w.heap.size + 1, 1, none⟩) (by show g < w.heap.size + 1; omega) _, (HG3.out.setNew (p := ⟨w.heap.size + 1, 0, none⟩) (by show w.heap.size ≤ w.heap.size + 1; omega) _).setNew (p := ⟨w.heap.size + 1, 1, none⟩) (by show w.heap.size ≤ w.heap.size + 1; omega) _⟩
 · go_wp2_with fail
   refine (among_lit g a1 (0) 6 [0, 6, 2] 3 _ HC1.out (by omega) (by decide) (by decide) (by decide) _ rfl (by simp)).mono ?_
   rintro e w2 ⟨kk, a2, rfl, kk0, kk1, ha2, hc, hg⟩
   have HC2 := Lib.hid hc
   have HG2 := Lib.hid (HG1.out.trans hg)
   have BM2 := Lib.hid (BM1.out.gr hg (by omega))
   have BR2 := Lib.hid (BR1.out.gr hg (by omega))
   clear bmq0 bmz0 bmq1 bmz1 bmq2 bmz2 bmq3 bmz3 bmq4 bmz4 bmq5 bmz5 bmq6 bmz6 lbm brq0 brz0 brq1 brz1 lbr
   clear hc hg HC1 HG1 BM1 BR1
   obtain ⟨bmq0, bmq1, bmq2, bmq3, bmq4, bmq5, bmq6⟩ := BM2.out.q7
   obtain ⟨bmz0, bmz1, bmz2, bmz3, bmz4, bmz5, bmz6⟩ := BM2.out.z7
   have lbm := BM2.out.lt
   obtain ⟨brq0, brq1⟩ := BR2.out.q2
   obtain ⟨brz0, brz1⟩ := BR2.out.z2
   have lbr := BR2.out.lt
   go_wp2_with fail
   refine (among_lit g a2 (-1) 1 [0, 1, -1] 3 _ HC2.out (by omega) (by decide) (by decide) (by decide) _ rfl (by simp)).mono ?_
   rintro e w3 ⟨vv, a3, rfl, vv0, vv1, ha3, hc, hg⟩
   have HC3 := Lib.hid hc
   have HG3 := Lib.hid (HG2.out.trans hg)
   have BM3 := Lib.hid (BM2.out.gr hg (by omega))
   have BR3 := Lib.hid (BR2.out.gr hg (by omega))
   clear bmq0 bmz0 bmq1 bmz1 bmq2 bmz2 bmq3 bmz3 bmq4 bmz4 bmq5 bmz5 bmq6 bmz6 lbm brq0 brz0 brq1 brz1 lbr
   clear hc hg HC2 HG2 BM2 BR2
   obtain ⟨bmq0, bmq1, bmq2, bmq3, bmq4, bmq5, bmq6⟩ := BM3.out.q7
   obtain ⟨bmz0, bmz1, bmz2, bmz3, bmz4, bmz5, bmz6⟩ := BM3.out.z7
   have lbm := BM3.out.lt
   obtain ⟨brq0, brq1⟩ := BR3.out.q2
   obtain ⟨brz0, brz1⟩ := BR3.out.z2
   have lbr := BR3.out.lt
   go_wp2
   refine bodyPost_ret (v := .agg #[.int .i64 kk, .int .i64 vv]) (by simp [results, Try.results133, go_sem, *]) rfl ?_
   exact ⟨kk, vv, a3, rfl, by first | omega | (dsimp only; omega), by first | omega | (dsimp only; omega), by first | omega | (dsimp only; omega), by omega, by omega, (HC3.out.far (p := ⟨w.heap.size + 1, 0, none⟩) (by show g < w.heap.size + 1; omega) _).far (p := ⟨w.heap.size + 1, 1, none⟩) (by show g < w.heap.size + 1; omega) _, (HG3.out.setNew (p := ⟨w.heap.size + 1, 0, none⟩) (by show w.heap.size ≤ w.heap.size + 1; omega) _).setNew (p := ⟨w.heap.size + 1, 1, none⟩) (by show w.heap.size ≤ w.heap.size + 1; omega) _⟩

end Go.Proofs.Ytlkfffohjeoooaa
