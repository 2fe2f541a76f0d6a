/- The drawing of a school's steps. -/
import Derived.Test.YtkcbgiegoadkbaaGreatVM1
namespace Go.Proofs.YtkcbgiegoadkbaaGreat
open Go.RowKit
set_option linter.unusedVariables false
set_option linter.unusedSimpArgs false
/-- a step is drawn -/
def DrawStp (g a K : Nat) (w : World) (e : Ending) (w' : World) : Prop := ∃ (k id v : Int) (a' : Nat), e = .returned (.agg #[.int .i64 k, .int .i64 id, .int .i64 v]) ∧ (0 ≤ k ∧ k ≤ 7) ∧ (0 ≤ id ∧ id ≤ 100) ∧ (-1 ≤ v ∧ v ≤ 4001) ∧ a' ≤ a + K ∧ CurAt w' g a' ∧ Gr g w w'
set_option maxHeartbeats 4000000 in
theorem schoolStep_any (g a : Nat) (day pa le : Int) (A : Option Addr) (n c : Nat) (l : List R5) (w : World) (h : CurAt w g a) (ha : a ≤ 600000000000) (hn : n ≤ 60000) (ho : w.ownsRow (g + 1) 111 5 (.slice A n c) n (rowsV l)) (hid : ∀ r ∈ l, 0 ≤ r.a ∧ r.a ≤ 100) :
 Calls Tryz.prog 44 #[.pointer (some ⟨g, 0, none⟩), schV day A n c pa le] w (DrawStp g a 20 w) := by
 have hlt := h.lt
 have hl := rows_len (Reads.of_own ho)
 have HL := Lib.hid hl
 have HID := Lib.hid hid
 have H := Lib.hid h
 have O := Lib.hid ho
 clear h ho hid hl
 go_enter Tryz.func44, Tryz.ntmps44
 go_wp2_with fail
 refine (among_lit g a 1 20 [1, 7, 20] 3 _ ((H.out.ext (ext_alloc (ext_refl _) _)).ext (ext_alloc (ext_refl _) _)) (by omega) (by decide) (by decide) (by decide) _ rfl (by simp)).mono ?_
 rintro e w1 ⟨i0, a1, rfl, i00, i01, ha1, hc1, hg1⟩
 have C1 := Lib.hid hc1
 have G1 : Hid (Gr g w w1) := Lib.hid ((Gr.of_ext (ext_alloc (ext_alloc (ext_refl w) _) _)).trans hg1)
 have O1 := Lib.hid (own_gr (own_ext O.out (ext_alloc (ext_alloc (ext_refl w) _) _)) hg1 (Nat.lt_succ_self _))
 have BX : Hid (Blk w1 w.heap.size 32 #[.int .i64 day, .slice A n c, .int .i64 pa, .int .i64 le]) := Lib.hid (((Blk.new w _ _).ext (ext_alloc (ext_refl _) _)).gr hg1 (by omega))
 have BR : Hid (Blk w1 (w.heap.size + 1) 82 #[.int .i64 0, .int .i64 0, .int .i64 0]) := Lib.hid (by
  have := (Blk.new (w.alloc (.cells #[.int .i64 day, .slice A n c, .int .i64 pa, .int .i64 le] 32)) #[.int .i64 0, .int .i64 0, .int .i64 0] 82).gr hg1 (by simp; omega)
  simpa using this)
 have sX := BX.out.lt
 have sR := BR.out.lt
 obtain ⟨x0, x1, x2, x3⟩ := BX.out.q4
 obtain ⟨fx0, fx1, fx2, fx3⟩ := BX.out.z4
 clear hc1 hg1
 go_upto_if 12 with fail
 go_cut [5] (fun s5 wx => ∃ (id : Int) (a2 : Nat), s5 = .int .i64 id ∧ (0 ≤ id ∧ id ≤ 100) ∧ a2 ≤ a + 4 ∧ Hid (CurAt wx g a2) ∧ Hid (Gr g w wx) ∧ Hid (Blk wx (w.heap.size + 1) 82 #[.int .i64 0, .int .i64 0, .int .i64 0]))
 case first =>
  by_cases hn0 : 0 < n
  · go_wp2_with fail
    go_region_with (first | (go_at_call 17; refine (pick_any g a1 n _ (C1.out.ext (ext_drew (ext_refl _))) (by omega) (by omega) (by omega)).mono ?_; rintro e w2 ⟨z2, a2, rfl, z20, z21, ha2, hc2, hg2⟩; obtain ⟨k, rfl⟩ := Int.eq_ofNat_of_zero_le z20; have hk2 : (k : Int) < n := (by omega); have BX2 := (BX.out.ext (ext_drew (ext_refl _))).gr hg2 (by omega); obtain ⟨r, hr⟩ := list_split (l := l) (k := k) (by rw [HL.out]; omega); obtain ⟨hid0, hid1⟩ := HID.out r (List.mem_of_getElem? hr); obtain ⟨b, o, hA, hb, d0, d1, d2, d3, d4⟩ := rows_at (Reads.of_own (own_gr (World.ownsRow.drew O1.out) hg2 (Nat.lt_succ_self _))) hr; subst hA; obtain ⟨y0, y1, y2, y3⟩ := BX2.q4; clear BX2))
    all_goals (go_wp2_with fail; go_meet)
    all_goals exact ⟨r.a, a2, rfl, ⟨hid0, hid1⟩, by omega, Lib.hid hc2, Lib.hid ((G1.out.trans (Gr.of_ext (ext_drew (ext_refl _)))).trans hg2), Lib.hid ((BR.out.ext (ext_drew (ext_refl _))).gr hg2 (by omega))⟩
  · go_wp2_with fail
    go_meet
    exact ⟨i0, a1, rfl, by omega, by omega, C1, G1, BR⟩
 case rest =>
  obtain ⟨id, a2, rfl, ⟨hid0, hid1⟩, ha2, C2, G2, BR2⟩ := hcut
  clear C1 G1 BR BX O1 sX x0 x1 x2 x3 fx0 fx1 fx2 fx3
  obtain ⟨w2, hw2⟩ : ∃ w2, w2 = wc := ⟨_, rfl⟩
  subst hw2
  go_wp2_with fail
  refine (one_any g a2 40 _ C2.out (by omega) (by omega) (by omega)).mono ?_
  rintro e w3 ⟨b, a3, rfl, ha3, hc, hg⟩
  have C3 := Lib.hid hc
  have G3 := Lib.hid (G2.out.trans hg)
  have BR3 := Lib.hid (BR2.out.gr hg (by omega))
  clear hc hg C2 G2 BR2
  cases b
  · go_wp2_with fail
    refine (pick_any g a3 10 _ C3.out (by omega) (by omega) (by omega)).mono ?_
    rintro e w4 ⟨q, a4, rfl, q0, q1, ha4, hc, hg⟩
    have C4 := Lib.hid hc
    have G4 := Lib.hid (G3.out.trans hg)
    have BR4 := Lib.hid (BR3.out.gr hg (by omega))
    clear hc hg C3 G3 BR3
    rcases (show q = 0 ∨ (q = 1 ∨ q = 2) ∨ (q = 3 ∨ q = 4 ∨ q = 5) ∨ (q = 6 ∨ q = 7) ∨ q = 8 ∨ q = 9 by omega) with rfl | hq | hq | hq | rfl | rfl
    · go_wp2_with fail
      refine (among_lit g a4 (0) 4001 [1, 7, 30, 4001, 0] 3 _ C4.out (by omega) (by decide) (by decide) (by decide) _ rfl (by simp)).mono ?_
      rintro e w5 ⟨v5, a5, rfl, v50, v51, ha5, hc, hg⟩
      have C5 := Lib.hid hc
      have G5 := Lib.hid (G4.out.trans hg)
      have BR5 := Lib.hid (BR4.out.gr hg (by omega))
      clear hc hg
      have sRn := BR5.out.lt
      obtain ⟨r0, r1, r2⟩ := BR5.out.q3
      obtain ⟨fr0, fr1, fr2⟩ := BR5.out.z3
      go_wp2
      refine bodyPost_ret (v := .agg #[.int .i64 1, .int .i64 0, .int .i64 v5]) (by simp [results, Tryz.results44, go_sem, *]) rfl ⟨1, 0, v5, a5, rfl, by omega, by omega, by omega, by omega, ?_, ?_⟩
      · exact ((C5.out.far (by show g < w.heap.size + 1; omega) _).far (by show g < w.heap.size + 1; omega) _).far (by show g < w.heap.size + 1; omega) _
      · exact ((G5.out.setNew (by show w.heap.size ≤ w.heap.size + 1; omega) _).setNew (by show w.heap.size ≤ w.heap.size + 1; omega) _).setNew (by show w.heap.size ≤ w.heap.size + 1; omega) _
    · rcases hq with rfl | rfl
      all_goals
       go_wp2_with fail
       refine (among_lit g a4 (1) 100 [1, 7, 20, 33, 42, 60, 98, 99, 100] 3 _ C4.out (by omega) (by decide) (by decide) (by decide) _ rfl (by simp)).mono ?_
       rintro e w5 ⟨v5, a5, rfl, v50, v51, ha5, hc, hg⟩
       have C5 := Lib.hid hc
       have G5 := Lib.hid (G4.out.trans hg)
       have BR5 := Lib.hid (BR4.out.gr hg (by omega))
       clear hc hg
       go_wp2_with fail
       refine (among_lit g a5 (0) 6 [0, 0, 1, 5, 6] 3 _ C5.out (by omega) (by decide) (by decide) (by decide) _ rfl (by simp)).mono ?_
       rintro e w6 ⟨v6, a6, rfl, v60, v61, ha6, hc, hg⟩
       have C6 := Lib.hid hc
       have G6 := Lib.hid (G5.out.trans hg)
       have BR6 := Lib.hid (BR5.out.gr hg (by omega))
       clear hc hg
       have sRn := BR6.out.lt
       obtain ⟨r0, r1, r2⟩ := BR6.out.q3
       obtain ⟨fr0, fr1, fr2⟩ := BR6.out.z3
       go_wp2
       refine bodyPost_ret (v := .agg #[.int .i64 2, .int .i64 v5, .int .i64 v6]) (by simp [results, Tryz.results44, go_sem, *]) rfl ⟨2, v5, v6, a6, rfl, by omega, by omega, by omega, by omega, ?_, ?_⟩
       · exact ((C6.out.far (by show g < w.heap.size + 1; omega) _).far (by show g < w.heap.size + 1; omega) _).far (by show g < w.heap.size + 1; omega) _
       · exact ((G6.out.setNew (by show w.heap.size ≤ w.heap.size + 1; omega) _).setNew (by show w.heap.size ≤ w.heap.size + 1; omega) _).setNew (by show w.heap.size ≤ w.heap.size + 1; omega) _
    · rcases hq with rfl | rfl | rfl
      all_goals
       go_wp2_with fail
       refine (among_lit g a4 (5) 21 [5, 10, 20, 20, 21] 3 _ C4.out (by omega) (by decide) (by decide) (by decide) _ rfl (by simp)).mono ?_
       rintro e w5 ⟨v5, a5, rfl, v50, v51, ha5, hc, hg⟩
       have C5 := Lib.hid hc
       have G5 := Lib.hid (G4.out.trans hg)
       have BR5 := Lib.hid (BR4.out.gr hg (by omega))
       clear hc hg
       have sRn := BR5.out.lt
       obtain ⟨r0, r1, r2⟩ := BR5.out.q3
       obtain ⟨fr0, fr1, fr2⟩ := BR5.out.z3
       go_wp2
       refine bodyPost_ret (v := .agg #[.int .i64 3, .int .i64 id, .int .i64 v5]) (by simp [results, Tryz.results44, go_sem, *]) rfl ⟨3, id, v5, a5, rfl, by omega, by omega, by omega, by omega, ?_, ?_⟩
       · exact ((C5.out.far (by show g < w.heap.size + 1; omega) _).far (by show g < w.heap.size + 1; omega) _).far (by show g < w.heap.size + 1; omega) _
       · exact ((G5.out.setNew (by show w.heap.size ≤ w.heap.size + 1; omega) _).setNew (by show w.heap.size ≤ w.heap.size + 1; omega) _).setNew (by show w.heap.size ≤ w.heap.size + 1; omega) _
    · rcases hq with rfl | rfl
      all_goals
       go_wp2_with fail
       refine (among_lit g a4 (69) 101 [69, 70, 88, 100, 101] 3 _ C4.out (by omega) (by decide) (by decide) (by decide) _ rfl (by simp)).mono ?_
       rintro e w5 ⟨v5, a5, rfl, v50, v51, ha5, hc, hg⟩
       have C5 := Lib.hid hc
       have G5 := Lib.hid (G4.out.trans hg)
       have BR5 := Lib.hid (BR4.out.gr hg (by omega))
       clear hc hg
       have sRn := BR5.out.lt
       obtain ⟨r0, r1, r2⟩ := BR5.out.q3
       obtain ⟨fr0, fr1, fr2⟩ := BR5.out.z3
       go_wp2
       refine bodyPost_ret (v := .agg #[.int .i64 4, .int .i64 id, .int .i64 v5]) (by simp [results, Tryz.results44, go_sem, *]) rfl ⟨4, id, v5, a5, rfl, by omega, by omega, by omega, by omega, ?_, ?_⟩
       · exact ((C5.out.far (by show g < w.heap.size + 1; omega) _).far (by show g < w.heap.size + 1; omega) _).far (by show g < w.heap.size + 1; omega) _
       · exact ((G5.out.setNew (by show w.heap.size ≤ w.heap.size + 1; omega) _).setNew (by show w.heap.size ≤ w.heap.size + 1; omega) _).setNew (by show w.heap.size ≤ w.heap.size + 1; omega) _
    · go_wp2_with fail
      refine (among_lit g a4 (1) 366 [1, 30, 365, 366] 3 _ C4.out (by omega) (by decide) (by decide) (by decide) _ rfl (by simp)).mono ?_
      rintro e w5 ⟨v5, a5, rfl, v50, v51, ha5, hc, hg⟩
      have C5 := Lib.hid hc
      have G5 := Lib.hid (G4.out.trans hg)
      have BR5 := Lib.hid (BR4.out.gr hg (by omega))
      clear hc hg
      have sRn := BR5.out.lt
      obtain ⟨r0, r1, r2⟩ := BR5.out.q3
      obtain ⟨fr0, fr1, fr2⟩ := BR5.out.z3
      go_wp2
      refine bodyPost_ret (v := .agg #[.int .i64 5, .int .i64 id, .int .i64 v5]) (by simp [results, Tryz.results44, go_sem, *]) rfl ⟨5, id, v5, a5, rfl, by omega, by omega, by omega, by omega, ?_, ?_⟩
      · exact ((C5.out.far (by show g < w.heap.size + 1; omega) _).far (by show g < w.heap.size + 1; omega) _).far (by show g < w.heap.size + 1; omega) _
      · exact ((G5.out.setNew (by show w.heap.size ≤ w.heap.size + 1; omega) _).setNew (by show w.heap.size ≤ w.heap.size + 1; omega) _).setNew (by show w.heap.size ≤ w.heap.size + 1; omega) _
    · have sRn := BR4.out.lt
      obtain ⟨r0, r1, r2⟩ := BR4.out.q3
      obtain ⟨fr0, fr1, fr2⟩ := BR4.out.z3
      go_wp2
      refine bodyPost_ret (v := .agg #[.int .i64 6, .int .i64 id, .int .i64 0]) (by simp [results, Tryz.results44, go_sem, *]) rfl ⟨6, id, 0, a4, rfl, by omega, by omega, by omega, by omega, ?_, ?_⟩
      · exact ((C4.out.far (by show g < w.heap.size + 1; omega) _).far (by show g < w.heap.size + 1; omega) _).far (by show g < w.heap.size + 1; omega) _
      · exact ((G4.out.setNew (by show w.heap.size ≤ w.heap.size + 1; omega) _).setNew (by show w.heap.size ≤ w.heap.size + 1; omega) _).setNew (by show w.heap.size ≤ w.heap.size + 1; omega) _
  · go_wp2_with fail
    refine (among_lit g a3 (0) 7 [0, 7, 6] 3 _ C3.out (by omega) (by decide) (by decide) (by decide) _ rfl (by simp)).mono ?_
    rintro e w4 ⟨v4, a4, rfl, v40, v41, ha4, hc, hg⟩
    have C4 := Lib.hid hc
    have G4 := Lib.hid (G3.out.trans hg)
    have BR4 := Lib.hid (BR3.out.gr hg (by omega))
    clear hc hg
    go_wp2_with fail
    refine (among_lit g a4 (0) 100 [0, id, 100] 3 _ C4.out (by omega) (by intro z hz; simp at hz; omega) (by simp) (by simp) _ rfl (by simp)).mono ?_
    rintro e w5 ⟨v5, a5, rfl, v50, v51, ha5, hc, hg⟩
    have C5 := Lib.hid hc
    have G5 := Lib.hid (G4.out.trans hg)
    have BR5 := Lib.hid (BR4.out.gr hg (by omega))
    clear hc hg
    go_wp2_with fail
    refine (among_lit g a5 (-1) 1 [0, 1, -1] 3 _ C5.out (by omega) (by decide) (by decide) (by decide) _ rfl (by simp)).mono ?_
    rintro e w6 ⟨v6, a6, rfl, v60, v61, ha6, hc, hg⟩
    have C6 := Lib.hid hc
    have G6 := Lib.hid (G5.out.trans hg)
    have BR6 := Lib.hid (BR5.out.gr hg (by omega))
    clear hc hg
    have sRn := BR6.out.lt
    obtain ⟨r0, r1, r2⟩ := BR6.out.q3
    obtain ⟨fr0, fr1, fr2⟩ := BR6.out.z3
    go_wp2
    refine bodyPost_ret (v := .agg #[.int .i64 v4, .int .i64 v5, .int .i64 v6]) (by simp [results, Tryz.results44, go_sem, *]) rfl ⟨v4, v5, v6, a6, rfl, by omega, by omega, by omega, by omega, ?_, ?_⟩
    · exact ((C6.out.far (by show g < w.heap.size + 1; omega) _).far (by show g < w.heap.size + 1; omega) _).far (by show g < w.heap.size + 1; omega) _
    · exact ((G6.out.setNew (by show w.heap.size ≤ w.heap.size + 1; omega) _).setNew (by show w.heap.size ≤ w.heap.size + 1; omega) _).setNew (by show w.heap.size ≤ w.heap.size + 1; omega) _
end Go.Proofs.YtkcbgiegoadkbaaGreat
