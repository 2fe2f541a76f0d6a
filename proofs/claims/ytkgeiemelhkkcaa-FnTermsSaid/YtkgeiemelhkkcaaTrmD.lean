
/- The drawing of reports' rows. -/
import Derived.Deep.AppendLies
import Derived.Test.YtkgeiemelhkkcaaRegI
import Derived.Test.YtkgeiemelhkkcaaCurB
import Derived.Test.YtkgeiemelhkkcaaJoin
namespace Go.Proofs.Ytkgeiemelhkkcaa
open Go.RowKit
set_option linter.unusedVariables false
set_option linter.unusedSimpArgs false
/-- a row is drawn -/
def DrawTR (g a K : Nat) (w : World) (e : Ending) (w' : World) : Prop := ∃ (r : R5) (a' : Nat), e = .returned r.val ∧ a' ≤ a + K ∧ CurAt w' g a' ∧ Gr g w w'
set_option maxRecDepth 100000 in
set_option maxHeartbeats 4000000 in
theorem termRow_any (g a : Nat) (T : Int) (w : World) (h : CurAt w g a) (ha : a ≤ 600000000000) (hT : -1000 ≤ T ∧ T ≤ 1000) :
    Calls Try.prog 77 #[.pointer (some ⟨g, 0, none⟩), .int .i64 T] w (DrawTR g a 20 w) := by
  have hlt := h.lt
  have H := Lib.hid h
  clear h
  go_enter Try.func77, Try.ntmps77
  go_wp2_with fail
  refine (among_lit g a (0) 999 [0, 1, 2, 40, 60, 999] 3 _ (H.out.ext (ext_alloc (ext_refl _) _)) (by omega) (by decide) (by decide) (by decide) _ rfl (by simp)).mono ?_
  rintro e w1 ⟨p, a1, rfl, p0, p1, ha1, hc, hg⟩
  have C1 := Lib.hid hc
  have G1 := Lib.hid ((Gr.of_ext (ext_alloc (ext_refl w) _)).trans hg)
  have BZ1 : Hid (Blk w1 w.heap.size 25 #[.int .i64 0, .int .i64 0, .int .i64 0, .int .i64 0, .int .i64 0]) := Lib.hid ((Blk.new w _ _).gr hg (by omega))
  have zg1 := BZ1.out.lt
  clear hc hg
  go_wp2_with fail
  refine (among_lit g a1 (0) 999 [0, p / 2, p] 3 _ (C1.out.ext (ext_alloc (ext_refl _) _)) (by omega) (by intro z hz; simp at hz; omega) (by simp) (by simp) _ rfl (by simp)).mono ?_
  rintro e w2 ⟨v2, a2, rfl, v20, v21, ha2, hc, hg⟩
  have C2 := Lib.hid hc
  have G2 := Lib.hid ((G1.out.trans (Gr.of_ext (ext_alloc (ext_refl _) _))).trans hg)
  have BR2 : Hid (Blk w2 w1.heap.size 25 #[.int .i64 T, .int .i64 p, .int .i64 0, .int .i64 0, .int .i64 0]) := Lib.hid (Blk.gr (Blk.new w1 #[.int .i64 T, .int .i64 p, .int .i64 0, .int .i64 0, .int .i64 0] 25) hg (by omega))
  have BZ2 := Lib.hid (Blk.gr (BZ1.out.ext (ext_alloc (ext_refl _) _)) hg (by omega))
  clear hc hg
  have sR2 := BR2.out.lt
  obtain ⟨x0, x1, x2, x3, x4⟩ := BR2.out.q5
  obtain ⟨fx0, fx1, fx2, fx3, fx4⟩ := BR2.out.z5
  go_wp2_with fail
  refine (among_lit g a2 (0) 999 [0, v2 / 2, v2] 3 _ (C2.out.far (p := ⟨w1.heap.size, 2, none⟩) (by show g < w1.heap.size; omega) _) (by omega) (by intro z hz; simp at hz; omega) (by simp) (by simp) _ rfl (by simp)).mono ?_
  rintro e w3 ⟨v3, a3, rfl, v30, v31, ha3, hc, hg⟩
  have C3 := Lib.hid hc
  have G3 := Lib.hid ((G2.out.setNew (p := ⟨w1.heap.size, 2, none⟩) (by show w.heap.size ≤ w1.heap.size; omega) _).trans hg)
  have BR3 : Hid (Blk w3 w1.heap.size 25 #[.int .i64 T, .int .i64 p, .int .i64 v2, .int .i64 0, .int .i64 0]) := Lib.hid (Blk.gr (BR2.out.set_ 2 (.int .i64 v2)) hg (by omega))
  have BZ3 := Lib.hid (Blk.gr (BZ2.out.far (p := ⟨w1.heap.size, 2, none⟩) (by show w.heap.size ≠ w1.heap.size; omega) _) hg (by omega))
  clear hc hg
  clear x0 fx0 x1 fx1 x2 fx2 x3 fx3 x4 fx4
  have sR3 := BR3.out.lt
  obtain ⟨x0, x1, x2, x3, x4⟩ := BR3.out.q5
  obtain ⟨fx0, fx1, fx2, fx3, fx4⟩ := BR3.out.z5
  go_wp2_with fail
  refine (among_lit g a3 (0) 999 [0, v3 / 10, v3] 3 _ (C3.out.far (p := ⟨w1.heap.size, 3, none⟩) (by show g < w1.heap.size; omega) _) (by omega) (by intro z hz; simp at hz; omega) (by simp) (by simp) _ rfl (by simp)).mono ?_
  rintro e w4 ⟨v4, a4, rfl, v40, v41, ha4, hc, hg⟩
  have C4 := Lib.hid hc
  have G4 := Lib.hid ((G3.out.setNew (p := ⟨w1.heap.size, 3, none⟩) (by show w.heap.size ≤ w1.heap.size; omega) _).trans hg)
  have BR4 : Hid (Blk w4 w1.heap.size 25 #[.int .i64 T, .int .i64 p, .int .i64 v2, .int .i64 v3, .int .i64 0]) := Lib.hid (Blk.gr (BR3.out.set_ 3 (.int .i64 v3)) hg (by omega))
  have BZ4 := Lib.hid (Blk.gr (BZ3.out.far (p := ⟨w1.heap.size, 3, none⟩) (by show w.heap.size ≠ w1.heap.size; omega) _) hg (by omega))
  clear hc hg
  clear x0 fx0 x1 fx1 x2 fx2 x3 fx3 x4 fx4
  have sR4 := BR4.out.lt
  obtain ⟨x0, x1, x2, x3, x4⟩ := BR4.out.q5
  obtain ⟨fx0, fx1, fx2, fx3, fx4⟩ := BR4.out.z5
  go_wp2_with fail
  refine (pick_any g a4 80 _ (C4.out.far (p := ⟨w1.heap.size, 4, none⟩) (by show g < w1.heap.size; omega) _) (by omega) (by omega) (by omega)).mono ?_
  rintro e w5 ⟨q, a5, rfl, q0, q1, ha5, hc, hg⟩
  have C5 := Lib.hid hc
  have G5 := Lib.hid ((G4.out.setNew (p := ⟨w1.heap.size, 4, none⟩) (by show w.heap.size ≤ w1.heap.size; omega) _).trans hg)
  have BR5 : Hid (Blk w5 w1.heap.size 25 #[.int .i64 T, .int .i64 p, .int .i64 v2, .int .i64 v3, .int .i64 v4]) := Lib.hid (Blk.gr (BR4.out.set_ 4 (.int .i64 v4)) hg (by omega))
  have BZ5 := Lib.hid (Blk.gr (BZ4.out.far (p := ⟨w1.heap.size, 4, none⟩) (by show w.heap.size ≠ w1.heap.size; omega) _) hg (by omega))
  clear hc hg
  clear x0 fx0 x1 fx1 x2 fx2 x3 fx3 x4 fx4
  have sR5 := BR5.out.lt
  obtain ⟨x0, x1, x2, x3, x4⟩ := BR5.out.q5
  obtain ⟨fx0, fx1, fx2, fx3, fx4⟩ := BR5.out.z5
  rcases (show q = 0 ∨ q = 1 ∨ q = 2 ∨ q = 3 ∨ q = 4 ∨ 5 ≤ q by omega) with rfl | rfl | rfl | rfl | rfl | hq
  · go_wp2_with fail
    refine (among_lit g a5 (0) 401 [0, 400, 401] 3 _ C5.out (by omega) (by decide) (by decide) (by decide) _ rfl (by simp)).mono ?_
    rintro e w6 ⟨v6, a6, rfl, v60, v61, ha6, hc, hg⟩
    have C6 := Lib.hid hc
    have G6 := Lib.hid (G5.out.trans hg)
    have BR6 : Hid (Blk w6 w1.heap.size 25 #[.int .i64 T, .int .i64 p, .int .i64 v2, .int .i64 v3, .int .i64 v4]) := Lib.hid (Blk.gr BR5.out hg (by omega))
    have BZ6 := Lib.hid (Blk.gr BZ5.out hg (by omega))
    clear hc hg
    clear x0 fx0 x1 fx1 x2 fx2 x3 fx3 x4 fx4
    have sR6 := BR6.out.lt
    obtain ⟨x0, x1, x2, x3, x4⟩ := BR6.out.q5
    obtain ⟨fx0, fx1, fx2, fx3, fx4⟩ := BR6.out.z5
    have sZ := BZ6.out.lt
    obtain ⟨z0, z1, z2, z3, z4⟩ := BZ6.out.q5
    obtain ⟨fz0, fz1, fz2, fz3, fz4⟩ := BZ6.out.z5
    go_wp2
    refine bodyPost_ret (v := .agg #[.int .i64 v6, .int .i64 p, .int .i64 v2, .int .i64 v3, .int .i64 v4]) (by simp [results, Try.results77, go_sem, *]) rfl ⟨⟨v6, p, v2, v3, v4⟩, a6, rfl, by omega, ?_, ?_⟩
    · exact (CurAt.far (CurAt.far (CurAt.far (CurAt.far (CurAt.far (C6.out.far (p := ⟨w1.heap.size, 0, none⟩) (by show g < w1.heap.size; omega) _) (p := ⟨w.heap.size, 0, none⟩) (by show g < w.heap.size; omega) _) (p := ⟨w.heap.size, 1, none⟩) (by show g < w.heap.size; omega) _) (p := ⟨w.heap.size, 2, none⟩) (by show g < w.heap.size; omega) _) (p := ⟨w.heap.size, 3, none⟩) (by show g < w.heap.size; omega) _) (p := ⟨w.heap.size, 4, none⟩) (by show g < w.heap.size; omega) _)
    · exact (Gr.setNew (Gr.setNew (Gr.setNew (Gr.setNew (Gr.setNew (G6.out.setNew (p := ⟨w1.heap.size, 0, none⟩) (by show w.heap.size ≤ w1.heap.size; omega) _) (p := ⟨w.heap.size, 0, none⟩) (Nat.le_refl _) _) (p := ⟨w.heap.size, 1, none⟩) (Nat.le_refl _) _) (p := ⟨w.heap.size, 2, none⟩) (Nat.le_refl _) _) (p := ⟨w.heap.size, 3, none⟩) (Nat.le_refl _) _) (p := ⟨w.heap.size, 4, none⟩) (Nat.le_refl _) _)
  · go_wp2_with fail
    refine (among_lit g a5 (-1) 1000 [-1, 1000] 3 _ C5.out (by omega) (by decide) (by decide) (by decide) _ rfl (by simp)).mono ?_
    rintro e w6 ⟨v6, a6, rfl, v60, v61, ha6, hc, hg⟩
    have C6 := Lib.hid hc
    have G6 := Lib.hid (G5.out.trans hg)
    have BR6 : Hid (Blk w6 w1.heap.size 25 #[.int .i64 T, .int .i64 p, .int .i64 v2, .int .i64 v3, .int .i64 v4]) := Lib.hid (Blk.gr BR5.out hg (by omega))
    have BZ6 := Lib.hid (Blk.gr BZ5.out hg (by omega))
    clear hc hg
    clear x0 fx0 x1 fx1 x2 fx2 x3 fx3 x4 fx4
    have sR6 := BR6.out.lt
    obtain ⟨x0, x1, x2, x3, x4⟩ := BR6.out.q5
    obtain ⟨fx0, fx1, fx2, fx3, fx4⟩ := BR6.out.z5
    have sZ := BZ6.out.lt
    obtain ⟨z0, z1, z2, z3, z4⟩ := BZ6.out.q5
    obtain ⟨fz0, fz1, fz2, fz3, fz4⟩ := BZ6.out.z5
    go_wp2
    refine bodyPost_ret (v := .agg #[.int .i64 T, .int .i64 v6, .int .i64 v2, .int .i64 v3, .int .i64 v4]) (by simp [results, Try.results77, go_sem, *]) rfl ⟨⟨T, v6, v2, v3, v4⟩, a6, rfl, by omega, ?_, ?_⟩
    · exact (CurAt.far (CurAt.far (CurAt.far (CurAt.far (CurAt.far (C6.out.far (p := ⟨w1.heap.size, 1, none⟩) (by show g < w1.heap.size; omega) _) (p := ⟨w.heap.size, 0, none⟩) (by show g < w.heap.size; omega) _) (p := ⟨w.heap.size, 1, none⟩) (by show g < w.heap.size; omega) _) (p := ⟨w.heap.size, 2, none⟩) (by show g < w.heap.size; omega) _) (p := ⟨w.heap.size, 3, none⟩) (by show g < w.heap.size; omega) _) (p := ⟨w.heap.size, 4, none⟩) (by show g < w.heap.size; omega) _)
    · exact (Gr.setNew (Gr.setNew (Gr.setNew (Gr.setNew (Gr.setNew (G6.out.setNew (p := ⟨w1.heap.size, 1, none⟩) (by show w.heap.size ≤ w1.heap.size; omega) _) (p := ⟨w.heap.size, 0, none⟩) (Nat.le_refl _) _) (p := ⟨w.heap.size, 1, none⟩) (Nat.le_refl _) _) (p := ⟨w.heap.size, 2, none⟩) (Nat.le_refl _) _) (p := ⟨w.heap.size, 3, none⟩) (Nat.le_refl _) _) (p := ⟨w.heap.size, 4, none⟩) (Nat.le_refl _) _)
  · go_wp2_with fail
    refine (among_lit g a5 (-1) 1000 [-1, p + 1] 3 _ C5.out (by omega) (by intro z hz; simp at hz; omega) (by simp) (by simp) _ rfl (by simp)).mono ?_
    rintro e w6 ⟨v6, a6, rfl, v60, v61, ha6, hc, hg⟩
    have C6 := Lib.hid hc
    have G6 := Lib.hid (G5.out.trans hg)
    have BR6 : Hid (Blk w6 w1.heap.size 25 #[.int .i64 T, .int .i64 p, .int .i64 v2, .int .i64 v3, .int .i64 v4]) := Lib.hid (Blk.gr BR5.out hg (by omega))
    have BZ6 := Lib.hid (Blk.gr BZ5.out hg (by omega))
    clear hc hg
    clear x0 fx0 x1 fx1 x2 fx2 x3 fx3 x4 fx4
    have sR6 := BR6.out.lt
    obtain ⟨x0, x1, x2, x3, x4⟩ := BR6.out.q5
    obtain ⟨fx0, fx1, fx2, fx3, fx4⟩ := BR6.out.z5
    have sZ := BZ6.out.lt
    obtain ⟨z0, z1, z2, z3, z4⟩ := BZ6.out.q5
    obtain ⟨fz0, fz1, fz2, fz3, fz4⟩ := BZ6.out.z5
    go_wp2
    refine bodyPost_ret (v := .agg #[.int .i64 T, .int .i64 p, .int .i64 v6, .int .i64 v3, .int .i64 v4]) (by simp [results, Try.results77, go_sem, *]) rfl ⟨⟨T, p, v6, v3, v4⟩, a6, rfl, by omega, ?_, ?_⟩
    · exact (CurAt.far (CurAt.far (CurAt.far (CurAt.far (CurAt.far (C6.out.far (p := ⟨w1.heap.size, 2, none⟩) (by show g < w1.heap.size; omega) _) (p := ⟨w.heap.size, 0, none⟩) (by show g < w.heap.size; omega) _) (p := ⟨w.heap.size, 1, none⟩) (by show g < w.heap.size; omega) _) (p := ⟨w.heap.size, 2, none⟩) (by show g < w.heap.size; omega) _) (p := ⟨w.heap.size, 3, none⟩) (by show g < w.heap.size; omega) _) (p := ⟨w.heap.size, 4, none⟩) (by show g < w.heap.size; omega) _)
    · exact (Gr.setNew (Gr.setNew (Gr.setNew (Gr.setNew (Gr.setNew (G6.out.setNew (p := ⟨w1.heap.size, 2, none⟩) (by show w.heap.size ≤ w1.heap.size; omega) _) (p := ⟨w.heap.size, 0, none⟩) (Nat.le_refl _) _) (p := ⟨w.heap.size, 1, none⟩) (Nat.le_refl _) _) (p := ⟨w.heap.size, 2, none⟩) (Nat.le_refl _) _) (p := ⟨w.heap.size, 3, none⟩) (Nat.le_refl _) _) (p := ⟨w.heap.size, 4, none⟩) (Nat.le_refl _) _)
  · go_wp2_with fail
    refine (among_lit g a5 (-1) 1000 [-1, v2 + 1] 3 _ C5.out (by omega) (by intro z hz; simp at hz; omega) (by simp) (by simp) _ rfl (by simp)).mono ?_
    rintro e w6 ⟨v6, a6, rfl, v60, v61, ha6, hc, hg⟩
    have C6 := Lib.hid hc
    have G6 := Lib.hid (G5.out.trans hg)
    have BR6 : Hid (Blk w6 w1.heap.size 25 #[.int .i64 T, .int .i64 p, .int .i64 v2, .int .i64 v3, .int .i64 v4]) := Lib.hid (Blk.gr BR5.out hg (by omega))
    have BZ6 := Lib.hid (Blk.gr BZ5.out hg (by omega))
    clear hc hg
    clear x0 fx0 x1 fx1 x2 fx2 x3 fx3 x4 fx4
    have sR6 := BR6.out.lt
    obtain ⟨x0, x1, x2, x3, x4⟩ := BR6.out.q5
    obtain ⟨fx0, fx1, fx2, fx3, fx4⟩ := BR6.out.z5
    have sZ := BZ6.out.lt
    obtain ⟨z0, z1, z2, z3, z4⟩ := BZ6.out.q5
    obtain ⟨fz0, fz1, fz2, fz3, fz4⟩ := BZ6.out.z5
    go_wp2
    refine bodyPost_ret (v := .agg #[.int .i64 T, .int .i64 p, .int .i64 v2, .int .i64 v6, .int .i64 v4]) (by simp [results, Try.results77, go_sem, *]) rfl ⟨⟨T, p, v2, v6, v4⟩, a6, rfl, by omega, ?_, ?_⟩
    · exact (CurAt.far (CurAt.far (CurAt.far (CurAt.far (CurAt.far (C6.out.far (p := ⟨w1.heap.size, 3, none⟩) (by show g < w1.heap.size; omega) _) (p := ⟨w.heap.size, 0, none⟩) (by show g < w.heap.size; omega) _) (p := ⟨w.heap.size, 1, none⟩) (by show g < w.heap.size; omega) _) (p := ⟨w.heap.size, 2, none⟩) (by show g < w.heap.size; omega) _) (p := ⟨w.heap.size, 3, none⟩) (by show g < w.heap.size; omega) _) (p := ⟨w.heap.size, 4, none⟩) (by show g < w.heap.size; omega) _)
    · exact (Gr.setNew (Gr.setNew (Gr.setNew (Gr.setNew (Gr.setNew (G6.out.setNew (p := ⟨w1.heap.size, 3, none⟩) (by show w.heap.size ≤ w1.heap.size; omega) _) (p := ⟨w.heap.size, 0, none⟩) (Nat.le_refl _) _) (p := ⟨w.heap.size, 1, none⟩) (Nat.le_refl _) _) (p := ⟨w.heap.size, 2, none⟩) (Nat.le_refl _) _) (p := ⟨w.heap.size, 3, none⟩) (Nat.le_refl _) _) (p := ⟨w.heap.size, 4, none⟩) (Nat.le_refl _) _)
  · go_wp2_with fail
    refine (among_lit g a5 (-1) 1000 [-1, v3 + 1] 3 _ C5.out (by omega) (by intro z hz; simp at hz; omega) (by simp) (by simp) _ rfl (by simp)).mono ?_
    rintro e w6 ⟨v6, a6, rfl, v60, v61, ha6, hc, hg⟩
    have C6 := Lib.hid hc
    have G6 := Lib.hid (G5.out.trans hg)
    have BR6 : Hid (Blk w6 w1.heap.size 25 #[.int .i64 T, .int .i64 p, .int .i64 v2, .int .i64 v3, .int .i64 v4]) := Lib.hid (Blk.gr BR5.out hg (by omega))
    have BZ6 := Lib.hid (Blk.gr BZ5.out hg (by omega))
    clear hc hg
    clear x0 fx0 x1 fx1 x2 fx2 x3 fx3 x4 fx4
    have sR6 := BR6.out.lt
    obtain ⟨x0, x1, x2, x3, x4⟩ := BR6.out.q5
    obtain ⟨fx0, fx1, fx2, fx3, fx4⟩ := BR6.out.z5
    have sZ := BZ6.out.lt
    obtain ⟨z0, z1, z2, z3, z4⟩ := BZ6.out.q5
    obtain ⟨fz0, fz1, fz2, fz3, fz4⟩ := BZ6.out.z5
    go_wp2
    refine bodyPost_ret (v := .agg #[.int .i64 T, .int .i64 p, .int .i64 v2, .int .i64 v3, .int .i64 v6]) (by simp [results, Try.results77, go_sem, *]) rfl ⟨⟨T, p, v2, v3, v6⟩, a6, rfl, by omega, ?_, ?_⟩
    · exact (CurAt.far (CurAt.far (CurAt.far (CurAt.far (CurAt.far (C6.out.far (p := ⟨w1.heap.size, 4, none⟩) (by show g < w1.heap.size; omega) _) (p := ⟨w.heap.size, 0, none⟩) (by show g < w.heap.size; omega) _) (p := ⟨w.heap.size, 1, none⟩) (by show g < w.heap.size; omega) _) (p := ⟨w.heap.size, 2, none⟩) (by show g < w.heap.size; omega) _) (p := ⟨w.heap.size, 3, none⟩) (by show g < w.heap.size; omega) _) (p := ⟨w.heap.size, 4, none⟩) (by show g < w.heap.size; omega) _)
    · exact (Gr.setNew (Gr.setNew (Gr.setNew (Gr.setNew (Gr.setNew (G6.out.setNew (p := ⟨w1.heap.size, 4, none⟩) (by show w.heap.size ≤ w1.heap.size; omega) _) (p := ⟨w.heap.size, 0, none⟩) (Nat.le_refl _) _) (p := ⟨w.heap.size, 1, none⟩) (Nat.le_refl _) _) (p := ⟨w.heap.size, 2, none⟩) (Nat.le_refl _) _) (p := ⟨w.heap.size, 3, none⟩) (Nat.le_refl _) _) (p := ⟨w.heap.size, 4, none⟩) (Nat.le_refl _) _)
  · have q_0 : (q == 0) = false := by simp; omega
    have q_1 : (q == 1) = false := by simp; omega
    have q_2 : (q == 2) = false := by simp; omega
    have q_3 : (q == 3) = false := by simp; omega
    have q_4 : (q == 4) = false := by simp; omega
    have sZ := BZ5.out.lt
    obtain ⟨z0, z1, z2, z3, z4⟩ := BZ5.out.q5
    obtain ⟨fz0, fz1, fz2, fz3, fz4⟩ := BZ5.out.z5
    go_wp2
    refine bodyPost_ret (v := .agg #[.int .i64 T, .int .i64 p, .int .i64 v2, .int .i64 v3, .int .i64 v4]) (by simp [results, Try.results77, go_sem, *]) rfl ⟨⟨T, p, v2, v3, v4⟩, a5, rfl, by omega, ?_, ?_⟩
    · exact (CurAt.far (CurAt.far (CurAt.far (CurAt.far (CurAt.far C5.out (p := ⟨w.heap.size, 0, none⟩) (by show g < w.heap.size; omega) _) (p := ⟨w.heap.size, 1, none⟩) (by show g < w.heap.size; omega) _) (p := ⟨w.heap.size, 2, none⟩) (by show g < w.heap.size; omega) _) (p := ⟨w.heap.size, 3, none⟩) (by show g < w.heap.size; omega) _) (p := ⟨w.heap.size, 4, none⟩) (by show g < w.heap.size; omega) _)
    · exact (Gr.setNew (Gr.setNew (Gr.setNew (Gr.setNew (Gr.setNew G5.out (p := ⟨w.heap.size, 0, none⟩) (Nat.le_refl _) _) (p := ⟨w.heap.size, 1, none⟩) (Nat.le_refl _) _) (p := ⟨w.heap.size, 2, none⟩) (Nat.le_refl _) _) (p := ⟨w.heap.size, 3, none⟩) (Nat.le_refl _) _) (p := ⟨w.heap.size, 4, none⟩) (Nat.le_refl _) _)
end Go.Proofs.Ytkgeiemelhkkcaa
