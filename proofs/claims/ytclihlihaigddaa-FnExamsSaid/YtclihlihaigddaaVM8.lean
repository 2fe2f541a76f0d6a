/- The drawing of a school out of a code. -/
import Derived.Test.YtclihlihaigddaaVCurQ
namespace Go.Proofs.Ytclihlihaigddaa
open Go.RowKit
set_option linter.unusedVariables false
set_option linter.unusedSimpArgs false
/-- a school is drawn out of a code -/
def DrawnSch (w : World) (e : Ending) (w' : World) : Prop := ∃ (D P Q : Int) (l : List R5) (A : Option Addr) (c : Nat), e = .returned (schV D A l.length c P Q) ∧ l.length ≤ 9 ∧ (∀ r ∈ l, 0 ≤ r.a ∧ r.a ≤ 100) ∧ w'.ownsRow w.heap.size 109 5 (.slice A l.length c) l.length (rowsV l) ∧ Below w.heap.size w w'
theorem drawIs_any (Ac : Option Addr) (nc cc : Nat) (w : World) (h : Code w w.heap.size Ac nc) (hn : nc ≤ 65536) : Calls Try.prog 128 #[.slice Ac nc cc] w (DrawnSch w) := by
 have HC := Lib.hid (h.cur1 (by omega) cc (.cells #[.int .i64 0, .slice none 0 0, .int .i64 0, .int .i64 0] 24))
 clear h
 go_enter Try.func128, Try.ntmps128
 go_wp2_with fail
 refine (school_any _ 0 _ HC.out (by omega)).mono ?_
 rintro e w1 ⟨D, P, Q, l, A, c, a1, rfl, hl9, hid, ho, ha1, hc, hg⟩
 have s01 : w.heap.size + 1 < w1.heap.size := hc.lt
 have X1 : Hid (Below w.heap.size w w1) := Lib.hid (Gr.below (ext_alloc (ext_alloc (ext_refl w) (.cells #[.int .i64 0, .slice none 0 0, .int .i64 0, .int .i64 0] 24)) (.cells #[.slice Ac nc cc, .int .i64 0, .int .u64 0] 123)) hg (by omega))
 have R1 : Hid (Blk w1 w.heap.size 24 #[.int .i64 0, .slice none 0 0, .int .i64 0, .int .i64 0]) := Lib.hid (((Blk.new w _ _).ext (ext_alloc (ext_refl _) _)).gr hg (by omega))
 have O1 := Lib.hid ho
 have HID := Lib.hid hid
 have sR := R1.out.lt
 have hneR := Lib.hid (own_nb O1.out R1.out (by decide))
 obtain ⟨r0, r1, r2, r3⟩ := R1.out.q4
 obtain ⟨fr0, fr1, fr2, fr3⟩ := R1.out.z4
 clear hc hg ho hid HC
 go_wp2
 refine bodyPost_ret (v := schV D A l.length c P Q) (by simp [results, Try.results128, go_sem, *]) rfl ⟨D, P, Q, l, A, c, rfl, hl9, HID.out, ?_, ?_⟩
 · refine own_base (base := (w.heap.size + 1) + 1) ?_ (by omega)
   iterate 4 with_reducible refine own_set_nb ?_ hneR.out _
   exact O1.out
 · exact (by repeat (first | (with_reducible exact X1.out) | (refine ext_set ?_ (Nat.le_refl _) _)))
theorem drawReady_any (Ac : Option Addr) (nc cc : Nat) (w : World) (h : Code w w.heap.size Ac nc) (hn : nc ≤ 65536) : Calls Try.prog 66 #[.slice Ac nc cc] w (DrawnSch w) := by
 have HC := Lib.hid ((h.below (ext_alloc (ext_refl w) (.cells #[.int .i64 0, .slice none 0 0, .int .i64 0, .int .i64 0] 24))).more (B' := (w.alloc (.cells #[.int .i64 0, .slice none 0 0, .int .i64 0, .int .i64 0] 24)).heap.size) (by simp))
 clear h
 go_enter Try.func66, Try.ntmps66
 go_wp2_with fail
 refine (drawIs_any Ac nc cc _ HC.out hn).mono ?_
 rintro e w1 ⟨D, P, Q, l, A, c, rfl, hl9, hid, ho, hb⟩
 have X1 := Lib.hid (ext_trans (ext_alloc (ext_refl w) _) hb)
 have R1 : Hid (Blk w1 w.heap.size 24 #[.int .i64 0, .slice none 0 0, .int .i64 0, .int .i64 0]) := Lib.hid ((Blk.new w _ _).ext hb)
 have O1 := Lib.hid (own_base (base' := w.heap.size) ho (by simp))
 have HID := Lib.hid hid
 have sR := R1.out.lt
 have hneR := Lib.hid (own_nb O1.out R1.out (by decide))
 obtain ⟨r0, r1, r2, r3⟩ := R1.out.q4
 obtain ⟨fr0, fr1, fr2, fr3⟩ := R1.out.z4
 clear hb ho hid HC
 go_wp2
 refine bodyPost_ret (v := schV D A l.length c P Q) (by simp [results, Try.results66, go_sem, *]) rfl ⟨D, P, Q, l, A, c, rfl, hl9, HID.out, ?_, ?_⟩
 · iterate 4 with_reducible refine own_set_nb ?_ hneR.out _
   exact O1.out
 · exact (by repeat (first | (with_reducible exact X1.out) | (refine ext_set ?_ (Nat.le_refl _) _)))
theorem drawGc_any (Ac : Option Addr) (nc cc : Nat) (w : World) (h : Code w w.heap.size Ac nc) (hn : nc ≤ 65536) : Calls Try.prog 73 #[.slice Ac nc cc] w (DrawnSch w) := by
 have HC := Lib.hid ((h.below (ext_alloc (ext_refl w) (.cells #[.int .i64 0, .slice none 0 0, .int .i64 0, .int .i64 0] 24))).more (B' := (w.alloc (.cells #[.int .i64 0, .slice none 0 0, .int .i64 0, .int .i64 0] 24)).heap.size) (by simp))
 clear h
 go_enter Try.func73, Try.ntmps73
 go_wp2_with fail
 refine (drawIs_any Ac nc cc _ HC.out hn).mono ?_
 rintro e w1 ⟨D, P, Q, l, A, c, rfl, hl9, hid, ho, hb⟩
 have X1 := Lib.hid (ext_trans (ext_alloc (ext_refl w) _) hb)
 have R1 : Hid (Blk w1 w.heap.size 24 #[.int .i64 0, .slice none 0 0, .int .i64 0, .int .i64 0]) := Lib.hid ((Blk.new w _ _).ext hb)
 have O1 := Lib.hid (own_base (base' := w.heap.size) ho (by simp))
 have HID := Lib.hid hid
 have sR := R1.out.lt
 have hneR := Lib.hid (own_nb O1.out R1.out (by decide))
 obtain ⟨r0, r1, r2, r3⟩ := R1.out.q4
 obtain ⟨fr0, fr1, fr2, fr3⟩ := R1.out.z4
 clear hb ho hid HC
 go_wp2
 refine bodyPost_ret (v := schV D A l.length c P Q) (by simp [results, Try.results73, go_sem, *]) rfl ⟨D, P, Q, l, A, c, rfl, hl9, HID.out, ?_, ?_⟩
 · iterate 4 with_reducible refine own_set_nb ?_ hneR.out _
   exact O1.out
 · exact (by repeat (first | (with_reducible exact X1.out) | (refine ext_set ?_ (Nat.le_refl _) _)))
end Go.Proofs.Ytclihlihaigddaa
namespace Go.Proofs.Ytclihlihaigddaa
open Go.RowKit
set_option linter.unusedVariables false
set_option linter.unusedSimpArgs false
def DrawnHm (w : World) (e : Ending) (w' : World) : Prop := ∃ (D P Q : Int) (l : List R5) (A : Option Addr) (c : Nat) (id : Int), e = .returned (.tuple #[schV D A l.length c P Q, .int .i64 id]) ∧ l.length ≤ 9 ∧ w'.ownsRow w.heap.size 109 5 (.slice A l.length c) l.length (rowsV l) ∧ Below w.heap.size w w'
set_option maxRecDepth 100000 in
set_option maxHeartbeats 4000000 in
theorem drawHm_any (Ac : Option Addr) (nc cc : Nat) (w : World) (h : Code w w.heap.size Ac nc) (hn : nc ≤ 65536) : Calls Try.prog 77 #[.slice Ac nc cc] w (DrawnHm w) := by
 have HC := Lib.hid (h.cur1 (by omega) cc (.cells #[.int .i64 0, .slice none 0 0, .int .i64 0, .int .i64 0] 24))
 clear h
 go_enter Try.func77, Try.ntmps77
 go_wp2_with fail
 refine (school_any _ 0 _ HC.out (by omega)).mono ?_
 rintro e w1 ⟨D, P, Q, l, A, c, a1, rfl, hl9, hid, ho, ha1, hc, hg⟩
 have s01 : w.heap.size + 1 < w1.heap.size := hc.lt
 have C1 := Lib.hid hc
 have X1 : Hid (Below w.heap.size w w1) := Lib.hid (Gr.below (ext_alloc (ext_alloc (ext_refl w) (.cells #[.int .i64 0, .slice none 0 0, .int .i64 0, .int .i64 0] 24)) (.cells #[.slice Ac nc cc, .int .i64 0, .int .u64 0] 123)) hg (by omega))
 have R1 : Hid (Blk w1 w.heap.size 24 #[.int .i64 0, .slice none 0 0, .int .i64 0, .int .i64 0]) := Lib.hid (((Blk.new w _ _).ext (ext_alloc (ext_refl _) _)).gr hg (by omega))
 have O1 := Lib.hid ho
 clear hc hg ho hid HC
 obtain ⟨w2, hw2⟩ : ∃ w2, w2 = w1.alloc (.cells #[.int .i64 D, .slice A l.length c, .int .i64 P, .int .i64 Q] 24) := ⟨_, rfl⟩
 have e2 : Below w1.heap.size w1 w2 := by rw [hw2]; exact ext_alloc (ext_refl _) _
 have C2 := Lib.hid (C1.out.ext e2)
 have X2 := Lib.hid (ext_trans X1.out e2)
 have R2 := Lib.hid (R1.out.ext e2)
 have S2 : Hid (Blk w2 w1.heap.size 24 #[.int .i64 D, .slice A l.length c, .int .i64 P, .int .i64 Q]) := Lib.hid (by rw [hw2]; exact Blk.new _ _ _)
 have O2 := Lib.hid (own_ext O1.out e2)
 have sS2 := S2.out.lt
 clear e2 C1 X1 R1 O1
 obtain ⟨x0, x1, x2, x3⟩ := S2.out.q4
 obtain ⟨fx0, fx1, fx2, fx3⟩ := S2.out.z4
 go_upto_region 3 with fail
 rw [← hw2]
 clear hw2
 have hcut : ∃ (w3 : World) (a2 : Nat), a2 ≤ 1000 := ⟨w, 0, by omega⟩
 clear hcut
 by_cases h0 : 0 < l.length
 · go_wp2_with fail
   refine (one_any _ a1 6 _ C2.out (by omega) (by omega) (by omega)).mono ?_
   rintro e w3 ⟨b, a2, rfl, ha2, hc, hg⟩
   have C3 := Lib.hid hc
   have X3 := Lib.hid (Gr.below X2.out hg (by omega))
   have R3 := Lib.hid (R2.out.gr hg (by omega))
   have S3 := Lib.hid (S2.out.gr hg (by omega))
   have O3 := Lib.hid (own_gr O2.out hg (Nat.lt_succ_self _))
   clear hc hg
   have zS3 := S3.out.lt
   have zR3 := R3.out.lt
   clear x0 x1 x2 x3 fx0 fx1 fx2 fx3
   obtain ⟨x0, x1, x2, x3⟩ := S3.out.q4
   obtain ⟨fx0, fx1, fx2, fx3⟩ := S3.out.z4
   cases b
   · go_wp2_with fail
     go_region_with (first | (go_at_call 103; refine (pick_any _ a2 l.length _ (C3.out.ext (ext_drew (ext_refl _))) (by omega) (by omega) (by omega)).mono ?_; rintro e w4 ⟨z4, a3, rfl, z40, z41, ha3, hc, hg⟩; obtain ⟨k, rfl⟩ := Int.eq_ofNat_of_zero_le z40; have hk2 : (k : Int) < l.length := (by omega); obtain ⟨r, hr⟩ := list_split (l := l) (k := k) (by omega); have BS4 := (S3.out.ext (ext_drew (ext_refl _))).gr hg (by omega); have BR4 := (R3.out.ext (ext_drew (ext_refl _))).gr hg (by omega); have HO4 := Lib.hid (own_gr (World.ownsRow.drew O3.out) hg (Nat.lt_succ_self _)); have zS4 := BS4.lt; have zR4 := BR4.lt; obtain ⟨q0, q1, q2, q3⟩ := BR4.q4; obtain ⟨fq0, fq1, fq2, fq3⟩ := BR4.z4; have HR4 := Lib.hid BR4; clear BR4; obtain ⟨b, o, hA, hb, d0, d1, d2, d3, d4⟩ := rows_at (Reads.of_own HO4.out) hr; subst hA; have hbB := (HO4.out.lt b rfl).1; have hbn : b ≠ w.heap.size := (by omega); have hbn2 : w.heap.size ≠ b := (by omega); obtain ⟨y0, y1, y2, y3⟩ := BS4.q4; clear BS4 hr))
     all_goals
      have HX4 := Lib.hid (Gr.below (ext_drew X3.out) hg (by omega))
      have hneR := Lib.hid (own_nb HO4.out HR4.out (by decide))
      have HO5 := Lib.hid (own_base (base' := w.heap.size) HO4.out (by omega))
      clear hg hc
      go_wp2
      refine bodyPost_ret (v := .tuple #[schV D (some ⟨b, o, none⟩) l.length c P Q, .int .i64 r.a]) (by simp [results, Try.results77, go_sem, *]) rfl ⟨D, P, Q, l, _, c, r.a, rfl, hl9, ?_, ?_⟩
      · iterate 4 with_reducible refine own_set_nb ?_ hneR.out _
        exact HO5.out
      · exact (by repeat (first | (with_reducible exact HX4.out) | (refine ext_set ?_ (Nat.le_refl _) _)))
   · go_wp2_with fail
     go_region_held3 (fun w' => w'.cell? ⟨w1.heap.size, 0, none⟩ = some (.int .i64 D) ∧ w'.cell? ⟨w1.heap.size, 1, none⟩ = some (.slice A l.length c) ∧ w'.cell? ⟨w1.heap.size, 2, none⟩ = some (.int .i64 P) ∧ w'.cell? ⟨w1.heap.size, 3, none⟩ = some (.int .i64 Q)) (first | (go_split_ands; ((repeat' refine And.intro ?_ ?_) <;> with_reducible (repeat (first | assumption | refine cell_drew ?_ | refine cell_old ?_ _ | refine cell_set_far (by show w.heap.size ≠ w1.heap.size; omega) ?_))))) (first | (go_at_call 126; refine (among_lit _ a2 (0) 7 [0, 1, 7] 3 _ (C3.out.ext (ext_drew (ext_refl _))) (by omega) (by decide) (by decide) (by decide) _ rfl (by simp)).mono ?_; rintro e w4 ⟨z4, a3, rfl, z40, z41, ha3, hc, hg⟩; have BS4 := (S3.out.ext (ext_drew (ext_refl _))).gr hg (by omega); have BR4 := (R3.out.ext (ext_drew (ext_refl _))).gr hg (by omega); have HO4 := Lib.hid (own_gr (World.ownsRow.drew O3.out) hg (Nat.lt_succ_self _)); have zS4 := BS4.lt; have zR4 := BR4.lt; obtain ⟨q0, q1, q2, q3⟩ := BR4.q4; obtain ⟨fq0, fq1, fq2, fq3⟩ := BR4.z4; have HR4 := Lib.hid BR4; clear BR4; obtain ⟨y0, y1, y2, y3⟩ := BS4.q4; clear BS4))
     all_goals
      have HX4 := Lib.hid (Gr.below (ext_drew X3.out) hg (by omega))
      have hneR := Lib.hid (own_nb HO4.out HR4.out (by decide))
      have HO5 := Lib.hid (own_base (base' := w.heap.size) HO4.out (by omega))
      clear hg hc
      go_wp2
      refine bodyPost_ret (v := .tuple #[schV D A l.length c P Q, .int .i64 z4]) (by simp [results, Try.results77, go_sem, *]) rfl ⟨D, P, Q, l, _, c, z4, rfl, hl9, ?_, ?_⟩
      · iterate 4 with_reducible refine own_set_nb ?_ hneR.out _
        exact HO5.out
      · exact (by repeat (first | (with_reducible exact HX4.out) | (refine ext_set ?_ (Nat.le_refl _) _)))
 · have R3 := R2
   have S3 := S2
   have O3 := O2
   have C3 := C2
   have X3 := X2
   go_wp2_with fail
   go_region_held3 (fun w' => w'.cell? ⟨w1.heap.size, 0, none⟩ = some (.int .i64 D) ∧ w'.cell? ⟨w1.heap.size, 1, none⟩ = some (.slice A l.length c) ∧ w'.cell? ⟨w1.heap.size, 2, none⟩ = some (.int .i64 P) ∧ w'.cell? ⟨w1.heap.size, 3, none⟩ = some (.int .i64 Q)) (first | (go_split_ands; ((repeat' refine And.intro ?_ ?_) <;> with_reducible (repeat (first | assumption | refine cell_drew ?_ | refine cell_old ?_ _ | refine cell_set_far (by show w.heap.size ≠ w1.heap.size; omega) ?_))))) (first | (go_at_call 126; refine (among_lit _ a1 (0) 7 [0, 1, 7] 3 _ (C3.out.ext (ext_drew (ext_refl _))) (by omega) (by decide) (by decide) (by decide) _ rfl (by simp)).mono ?_; rintro e w4 ⟨z4, a3, rfl, z40, z41, ha3, hc, hg⟩; have BS4 := (S3.out.ext (ext_drew (ext_refl _))).gr hg (by omega); have BR4 := (R3.out.ext (ext_drew (ext_refl _))).gr hg (by omega); have HO4 := Lib.hid (own_gr (World.ownsRow.drew O3.out) hg (Nat.lt_succ_self _)); have zS4 := BS4.lt; have zR4 := BR4.lt; obtain ⟨q0, q1, q2, q3⟩ := BR4.q4; obtain ⟨fq0, fq1, fq2, fq3⟩ := BR4.z4; have HR4 := Lib.hid BR4; clear BR4; obtain ⟨y0, y1, y2, y3⟩ := BS4.q4; clear BS4))
   all_goals
    have HX4 := Lib.hid (Gr.below (ext_drew X3.out) hg (by omega))
    have hneR := Lib.hid (own_nb HO4.out HR4.out (by decide))
    have HO5 := Lib.hid (own_base (base' := w.heap.size) HO4.out (by omega))
    clear hg hc
    go_wp2
    refine bodyPost_ret (v := .tuple #[schV D A l.length c P Q, .int .i64 z4]) (by simp [results, Try.results77, go_sem, *]) rfl ⟨D, P, Q, l, _, c, z4, rfl, hl9, ?_, ?_⟩
    · iterate 4 with_reducible refine own_set_nb ?_ hneR.out _
      exact HO5.out
    · exact (by repeat (first | (with_reducible exact HX4.out) | (refine ext_set ?_ (Nat.le_refl _) _)))
theorem drawSt_any (Ac : Option Addr) (nc cc : Nat) (w : World) (h : Code w w.heap.size Ac nc) (hn : nc ≤ 65536) : Calls Try.prog 79 #[.slice Ac nc cc] w (DrawnHm w) := by
 have HC := Lib.hid ((h.below (ext_alloc (ext_refl w) (.cells #[.int .i64 0, .slice none 0 0, .int .i64 0, .int .i64 0] 24))).more (B' := (w.alloc (.cells #[.int .i64 0, .slice none 0 0, .int .i64 0, .int .i64 0] 24)).heap.size) (by simp))
 clear h
 go_enter Try.func79, Try.ntmps79
 go_wp2_with fail
 refine (drawHm_any Ac nc cc _ HC.out hn).mono ?_
 rintro e w1 ⟨D, P, Q, l, A, c, id, rfl, hl9, ho, hb⟩
 have X1 := Lib.hid (ext_trans (ext_alloc (ext_refl w) _) hb)
 have R1 : Hid (Blk w1 w.heap.size 24 #[.int .i64 0, .slice none 0 0, .int .i64 0, .int .i64 0]) := Lib.hid ((Blk.new w _ _).ext hb)
 have O1 := Lib.hid (own_base (base' := w.heap.size) ho (by simp))
 have sR := R1.out.lt
 have hneR := Lib.hid (own_nb O1.out R1.out (by decide))
 obtain ⟨r0, r1, r2, r3⟩ := R1.out.q4
 obtain ⟨fr0, fr1, fr2, fr3⟩ := R1.out.z4
 clear hb ho HC
 go_wp2
 refine bodyPost_ret (v := .tuple #[schV D A l.length c P Q, .int .i64 id]) (by simp [results, Try.results79, go_sem, *]) rfl ⟨D, P, Q, l, A, c, id, rfl, hl9, ?_, ?_⟩
 · iterate 4 with_reducible refine own_set_nb ?_ hneR.out _
   exact O1.out
 · exact (by repeat (first | (with_reducible exact X1.out) | (refine ext_set ?_ (Nat.le_refl _) _)))
end Go.Proofs.Ytclihlihaigddaa
