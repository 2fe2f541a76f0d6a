/- ReadyForExam and NotPaid: program and reference, walked. -/
import Derived.Test.YtkcbgiegoadkbaaGreatVHmW
import Derived.Test.YtkcbgiegoadkbaaGreatVM1
namespace Go.Proofs.YtkcbgiegoadkbaaGreat
open Go.RowKit
set_option linter.unusedVariables false
set_option linter.unusedSimpArgs false
theorem info_int : (Tryz.prog.info? 3).map (fun i => (i.zero, i.size, i.bytes)) = some (some (.int .i64 0), 1, 8) := by kernel_rfl
def readyR (day : Int) (r : R5) : Bool := decide (day ≤ r.d) && decide (r.b < 10) && decide (10 + 5 * r.b ≤ r.c)
def unpR (day : Int) (r : R5) : Bool := decide (r.d < day)
def selB (p : R5 → Bool) (day pa le : Int) (l : List R5) : List Int := if schB day l pa le = true then (l.filter p).map R5.a else []
theorem sel_len (p : R5 → Bool) (l : List R5) (k : Nat) : (((l.take k).filter p).map R5.a).length ≤ k := by
 have h1 := List.length_filter_le p (l.take k)
 have h2 := List.length_take_le k l
 simp; omega
theorem sel_yes {p : R5 → Bool} {l : List R5} {k : Nat} {r : R5} (hr : l[k]? = some r) (h : p r = true) : ((l.take (k + 1)).filter p).map R5.a = ((l.take k).filter p).map R5.a ++ [r.a] := by
 rw [List.take_add_one, hr]; simp [h]
theorem sel_no {p : R5 → Bool} {l : List R5} {k : Nat} {r : R5} (hr : l[k]? = some r) (h : p r = false) : ((l.take (k + 1)).filter p).map R5.a = ((l.take k).filter p).map R5.a := by
 rw [List.take_add_one, hr]; simp [h]
set_option maxRecDepth 100000 in
set_option maxHeartbeats 4000000 in
theorem implUnp_any (day pa le : Int) (A : Option Addr) (n c : Nat) (l : List R5) (w : World) (hn : n ≤ 1048576) (h : Reads w w.heap.size 5 A n (rowsV l)) :
 Calls Tryz.prog 66 #[schV day A n c pa le] w (RetSliceB w 3 1 (selB (unpR day) day pa le l).length (intsV (selB (unpR day) day pa le l)) (schB day l pa le)) := by
 have hl := rows_len h
 have H := Lib.hid h
 have HL := Lib.hid hl
 have hI := Lib.hid (fun w h => isSchool_any day pa le A n c l w hn h)
 obtain ⟨i0, hi, hz0, hz1, hz2⟩ := info_parts info_int
 clear h hl
 rcases hs : schB day l pa le with _ | _
 · rw [hs] at hI
   have hE : selB (unpR day) day pa le l = [] := by unfold selB; rw [if_neg (by simp [hs])]
   rw [hE]
   clear hs hE
   go_enter Tryz.func66, Tryz.ntmps66
   go_wp2_with fail
   refine (hI.out _ ((H.out.ext (ext_alloc (ext_refl _) _) (Nat.le_refl _)).more (by simp <;> omega))).mono ?_
   rintro e w1 ⟨rfl, hb1⟩
   have s1 : w.heap.size < w1.heap.size := by have := hb1.size; simp at this; omega
   have hw1 := Lib.hid (ext_trans (ext_alloc (ext_refl _) _) hb1)
   have BX : Hid (Blk w1 w.heap.size 32 #[.int .i64 day, .slice A n c, .int .i64 pa, .int .i64 le]) := Lib.hid ((Blk.new w _ _).ext hb1)
   clear hb1
   go_wp2
   go_ret2
   exact ⟨none, 0, rfl, World.ownsRow_nil _ _ _ _, hw1.out⟩
 rw [hs] at hI
 have h8 := schB_len hs
 rw [HL.out] at h8
 have HST := Lib.hid (fun (k : Nat) (r : R5) (h : l[k]? = some r) => stu_bounds (sch_stu hs h))
 have hE : selB (unpR day) day pa le l = ((l.take n).filter (unpR day)).map R5.a := by unfold selB; rw [if_pos hs, ← HL.out, List.take_length]
 have HE := Lib.hid hE
 clear hs hE
 go_enter Tryz.func66, Tryz.ntmps66
 go_wp2_with fail
 refine (hI.out _ ((H.out.ext (ext_alloc (ext_refl _) _) (Nat.le_refl _)).more (by simp <;> omega))).mono ?_
 rintro e w1 ⟨rfl, hb1⟩
 have s1 : w.heap.size < w1.heap.size := by have := hb1.size; simp at this; omega
 have hw1 := Lib.hid (ext_trans (ext_alloc (ext_refl _) _) hb1)
 have BX : Hid (Blk w1 w.heap.size 32 #[.int .i64 day, .slice A n c, .int .i64 pa, .int .i64 le]) := Lib.hid ((Blk.new w _ _).ext hb1)
 clear hb1
 have ho1 := World.ownsRow_nil w1 w.heap.size 3 1
 obtain ⟨x0, x1⟩ := BX.out.q2
 go_wp2_with fail
 go_loopw [4, 13] (fun v i wr => ∃ k : Nat, k ≤ n ∧ i = .int .i64 k ∧ Hid (wr.ownsRow w.heap.size 3 1 v (((l.take k).filter (unpR day)).map R5.a).length (intsV (((l.take k).filter (unpR day)).map R5.a))) ∧ Hid (Blk wr w.heap.size 32 #[.int .i64 day, .slice A n c, .int .i64 pa, .int .i64 le]) ∧ Hid (Below w.heap.size w wr)) (fun _ i _ => n - (intOf i).toNat)
 case atStart => exact ⟨0, Nat.zero_le _, rfl, Lib.hid (by simpa [intsV] using ho1), BX, hw1⟩
 case round =>
  clear x0 x1
  obtain ⟨k, hk, rfl, hown, HX, HB⟩ := hrel
  obtain ⟨x0, x1⟩ := HX.out.q2
  have sX := HX.out.lt
  by_cases hlt : k < n
  · obtain ⟨r, hr⟩ := list_split (l := l) (k := k) (by rw [HL.out]; exact hlt)
    obtain ⟨_, h2, h3, h4, _⟩ := HST.out k r hr
    obtain ⟨b, o, rfl, hbb, c0, c1, c2, c3, c4⟩ := rows_at (H.out.ext HB.out (Nat.le_refl _)) hr
    have hbw : b < wr.heap.size := Nat.lt_of_lt_of_le hbb HB.out.size
    have hlt' : (k : Int) < (n : Int) := by omega
    have hlen := sel_len (unpR day) l k
    have m1 : (((l.take k).filter (unpR day)).map R5.a).length + 1 ≤ maxLen := by unfold maxLen; omega
    have m2 : ((((l.take k).filter (unpR day)).map R5.a).length + 1) * 8 ≤ 140737488355328 := by omega
    have hne0 := Lib.hid (own_nb hown.out HX.out (by decide))
    have HR := Lib.hid hr
    clear hr
    by_cases q1 : r.d < day
    · have dq1 : decide (r.d < day) = true := decide_eq_true q1
      have hnew := Lib.hid (sel_yes (p := unpR day) HR.out (by simp [unpR, *]))

      have HB5 : Hid (Below wr.heap.size wr (wr.alloc (.cells #[.int .i64 r.a, .int .i64 r.b, .int .i64 r.c, .int .i64 r.d, .int .i64 r.e] 111))) := Lib.hid (ext_alloc (ext_refl _) _)
      have BS5 : Blk (wr.alloc (.cells #[.int .i64 r.a, .int .i64 r.b, .int .i64 r.c, .int .i64 r.d, .int .i64 r.e] 111)) wr.heap.size 111 #[.int .i64 r.a, .int .i64 r.b, .int .i64 r.c, .int .i64 r.d, .int .i64 r.e] := Blk.new wr _ _
      have hown5 := Lib.hid (own_ext hown.out HB5.out)
      have HX5 := Lib.hid (HX.out.ext HB5.out)
      have HBB := Lib.hid (ext_trans HB.out HB5.out)
      have sS : wr.heap.size ≤ (wr.alloc (.cells #[.int .i64 r.a, .int .i64 r.b, .int .i64 r.c, .int .i64 r.d, .int .i64 r.e] 111)).heap.size := HB5.out.size
      obtain ⟨x50, x51⟩ := HX5.out.q2
      have y50 := BS5.c0
      go_wp2_with (at_builtin; refine wpList_append_own _ rfl (.tmp 22) (.tmp 25) 53 rfl w.heap.size 3 i0 _ 1 8 Tryz.underlying53 hi hz0 hz1 hz2 rfl (by decide) _ _ _ rfl (hown5.out.alloc _) _ 1 1 [.int .i64 r.a] rfl rfl (cell_one_at _ _ _ (by simp)) (by simp [Value.oneCell']) m1 m2 (by have := HBB.out.size; (try simp at this); simp; omega) ?_; intro v' w2 hown2 hgrow _)
      go_roundw
      case rel =>
       refine ⟨k + 1, by omega, by go_num, ?_, ?_, ?_⟩
       · refine Lib.hid ?_
         rw [hnew.out]
         simpa [intsV] using hown2
       · exact Lib.hid ((HX5.out.ext (ext_alloc (ext_refl _) _)).grown hgrow (by first | exact hne0.out))
       · exact Lib.hid (below_grown hown5.out (ext_alloc HBB.out _) hgrow)
      case measure => simp [intOf]; omega
    · have dq1 : decide (r.d < day) = false := decide_eq_false q1
      have hnew := Lib.hid (sel_no (p := unpR day) HR.out (by simp [unpR, *]))

      have HB5 : Hid (Below wr.heap.size wr (wr.alloc (.cells #[.int .i64 r.a, .int .i64 r.b, .int .i64 r.c, .int .i64 r.d, .int .i64 r.e] 111))) := Lib.hid (ext_alloc (ext_refl _) _)
      have BS5 : Blk (wr.alloc (.cells #[.int .i64 r.a, .int .i64 r.b, .int .i64 r.c, .int .i64 r.d, .int .i64 r.e] 111)) wr.heap.size 111 #[.int .i64 r.a, .int .i64 r.b, .int .i64 r.c, .int .i64 r.d, .int .i64 r.e] := Blk.new wr _ _
      have hown5 := Lib.hid (own_ext hown.out HB5.out)
      have HX5 := Lib.hid (HX.out.ext HB5.out)
      have HBB := Lib.hid (ext_trans HB.out HB5.out)
      go_wp2
      go_roundw
      case rel =>
       refine ⟨k + 1, by omega, by go_num, ?_, HX5, HBB⟩
       rw [hnew.out]
       exact hown5
      case measure => simp [intOf]; omega
  · obtain rfl : k = n := by omega
    have hown1 := hown.out
    obtain ⟨A', c', rfl⟩ := own_shape hown1
    clear hown1
    go_wp2
    go_ret2
    refine ⟨A', c', ?_, ?_, HB.out⟩
    · rw [HE.out]; rfl
    · rw [HE.out]; exact hown.out
set_option maxRecDepth 100000 in
set_option maxHeartbeats 4000000 in
theorem specUnp_any (day pa le : Int) (A : Option Addr) (n c : Nat) (l : List R5) (w : World) (hn : n ≤ 1048576) (h : Reads w w.heap.size 5 A n (rowsV l)) :
 Calls Tryz.prog 94 #[schV day A n c pa le] w (RetSliceB w 3 1 (selB (unpR day) day pa le l).length (intsV (selB (unpR day) day pa le l)) (schB day l pa le)) := by
 have hl := rows_len h
 have H := Lib.hid h
 have HL := Lib.hid hl
 have hI := Lib.hid (fun w h => l25Good_any day pa le A n c l w hn h)
 obtain ⟨i0, hi, hz0, hz1, hz2⟩ := info_parts info_int
 clear h hl
 rcases hs : schB day l pa le with _ | _
 · rw [hs] at hI
   have hE : selB (unpR day) day pa le l = [] := by unfold selB; rw [if_neg (by simp [hs])]
   rw [hE]
   clear hs hE
   go_enter Tryz.func94, Tryz.ntmps94
   go_wp2_with fail
   refine (hI.out _ ((H.out.ext (ext_alloc (ext_alloc (ext_refl _) _) _) (Nat.le_refl _)).more (by simp <;> omega))).mono ?_
   rintro e w1 ⟨rfl, hb1⟩
   have s1 : w.heap.size < w1.heap.size := by have := hb1.size; simp at this; omega
   have hw1 := Lib.hid (ext_trans (ext_alloc (ext_alloc (ext_refl _) _) _) hb1)
   have BX : Hid (Blk w1 w.heap.size 32 #[.int .i64 day, .slice A n c, .int .i64 pa, .int .i64 le]) := Lib.hid (((Blk.new w _ _).ext (ext_alloc (ext_refl _) _)).ext hb1)
   have ho1 : w1.ownsRow w.heap.size 3 1 (.slice (some ⟨w.heap.size + 1, 0, none⟩) 0 0) 0 [] := own_base (own_ext (by simpa using own_lit0 (w.alloc (.cells #[.int .i64 day, .slice A n c, .int .i64 pa, .int .i64 le] 32)) 3 1) hb1) (Nat.le_succ _)
   clear hb1
   go_wp2
   go_ret2
   exact ⟨_, 0, rfl, ho1, hw1.out⟩
 rw [hs] at hI
 have h8 := schB_len hs
 rw [HL.out] at h8
 have HST := Lib.hid (fun (k : Nat) (r : R5) (h : l[k]? = some r) => stu_bounds (sch_stu hs h))
 have hE : selB (unpR day) day pa le l = ((l.take n).filter (unpR day)).map R5.a := by unfold selB; rw [if_pos hs, ← HL.out, List.take_length]
 have HE := Lib.hid hE
 clear hs hE
 go_enter Tryz.func94, Tryz.ntmps94
 go_wp2_with fail
 refine (hI.out _ ((H.out.ext (ext_alloc (ext_alloc (ext_refl _) _) _) (Nat.le_refl _)).more (by simp <;> omega))).mono ?_
 rintro e w1 ⟨rfl, hb1⟩
 have s1 : w.heap.size < w1.heap.size := by have := hb1.size; simp at this; omega
 have hw1 := Lib.hid (ext_trans (ext_alloc (ext_alloc (ext_refl _) _) _) hb1)
 have BX : Hid (Blk w1 w.heap.size 32 #[.int .i64 day, .slice A n c, .int .i64 pa, .int .i64 le]) := Lib.hid (((Blk.new w _ _).ext (ext_alloc (ext_refl _) _)).ext hb1)
 have ho1 : w1.ownsRow w.heap.size 3 1 (.slice (some ⟨w.heap.size + 1, 0, none⟩) 0 0) 0 [] := own_base (own_ext (by simpa using own_lit0 (w.alloc (.cells #[.int .i64 day, .slice A n c, .int .i64 pa, .int .i64 le] 32)) 3 1) hb1) (Nat.le_succ _)
 clear hb1
 obtain ⟨x0, x1⟩ := BX.out.q2
 go_wp2_with fail
 go_loopw [4, 5] (fun v i wr => ∃ k : Nat, k ≤ n ∧ i = .int .i64 k ∧ Hid (wr.ownsRow w.heap.size 3 1 v (((l.take k).filter (unpR day)).map R5.a).length (intsV (((l.take k).filter (unpR day)).map R5.a))) ∧ Hid (Blk wr w.heap.size 32 #[.int .i64 day, .slice A n c, .int .i64 pa, .int .i64 le]) ∧ Hid (Below w.heap.size w wr)) (fun _ i _ => n - (intOf i).toNat)
 case atStart => exact ⟨0, Nat.zero_le _, rfl, Lib.hid (by simpa [intsV] using ho1), BX, hw1⟩
 case round =>
  clear x0 x1
  obtain ⟨k, hk, rfl, hown, HX, HB⟩ := hrel
  obtain ⟨x0, x1⟩ := HX.out.q2
  have sX := HX.out.lt
  by_cases hlt : k < n
  · obtain ⟨r, hr⟩ := list_split (l := l) (k := k) (by rw [HL.out]; exact hlt)
    obtain ⟨_, h2, h3, h4, _⟩ := HST.out k r hr
    obtain ⟨b, o, rfl, hbb, c0, c1, c2, c3, c4⟩ := rows_at (H.out.ext HB.out (Nat.le_refl _)) hr
    have hbw : b < wr.heap.size := Nat.lt_of_lt_of_le hbb HB.out.size
    have hlt' : (k : Int) < (n : Int) := by omega
    have hlen := sel_len (unpR day) l k
    have m1 : (((l.take k).filter (unpR day)).map R5.a).length + 1 ≤ maxLen := by unfold maxLen; omega
    have m2 : ((((l.take k).filter (unpR day)).map R5.a).length + 1) * 8 ≤ 140737488355328 := by omega
    have hne0 := Lib.hid (own_nb hown.out HX.out (by decide))
    have HR := Lib.hid hr
    clear hr
    by_cases q1 : r.d < day
    · have dq1 : decide (r.d < day) = true := decide_eq_true q1
      have hnew := Lib.hid (sel_yes (p := unpR day) HR.out (by simp [unpR, *]))
      go_wp2_with fail
      (refine wp_region_later (by kernel_rfl) (by kernel_rfl) ?_; (repeat (go_big_quiet_step (fail))); refine wpQuiet_nil ?_; intro w5 hw1; obtain ⟨⟨wl, hb⟩, hw1'⟩ := hw1; simp only at hw1'; subst hw1')
      have HB5 : Hid (Below wr.heap.size wr w5) := Lib.hid hb
      clear hb
      have hown5 := Lib.hid (own_ext hown.out HB5.out)
      have HX5 := Lib.hid (HX.out.ext HB5.out)
      have HBB := Lib.hid (ext_trans HB.out HB5.out)
      have sS : wr.heap.size ≤ w5.heap.size := HB5.out.size
      obtain ⟨x50, x51⟩ := HX5.out.q2
      have y50 := ext_cell HB5.out c0
      clear x0 x1 c0 c1 c2 c3 c4
      go_wp2_with (at_builtin; refine wpList_append_own _ rfl (.tmp 27) (.tmp 34) 53 rfl w.heap.size 3 i0 _ 1 8 Tryz.underlying53 hi hz0 hz1 hz2 rfl (by decide) _ _ _ rfl (hown5.out.alloc _) _ 1 1 [.int .i64 r.a] rfl rfl (cell_one_at _ _ _ (by simp)) (by simp [Value.oneCell']) m1 m2 (by have := HBB.out.size; (try simp at this); simp; omega) ?_; intro v' w2 hown2 hgrow _)
      go_roundw
      case rel =>
       refine ⟨k + 1, by omega, by go_num, ?_, ?_, ?_⟩
       · refine Lib.hid ?_
         rw [hnew.out]
         simpa [intsV] using hown2
       · exact Lib.hid ((HX5.out.ext (ext_alloc (ext_refl _) _)).grown hgrow (by first | exact hne0.out))
       · exact Lib.hid (below_grown hown5.out (ext_alloc HBB.out _) hgrow)
      case measure => simp [intOf]; omega
    · have dq1 : decide (r.d < day) = false := decide_eq_false q1
      have hnew := Lib.hid (sel_no (p := unpR day) HR.out (by simp [unpR, *]))
      go_wp2_with fail
      (refine wp_region_later (by kernel_rfl) (by kernel_rfl) ?_; (repeat (go_big_quiet_step (fail))); refine wpQuiet_nil ?_; intro w5 hw1; obtain ⟨⟨wl, hb⟩, hw1'⟩ := hw1; simp only at hw1'; subst hw1')
      have HB5 : Hid (Below wr.heap.size wr w5) := Lib.hid hb
      clear hb
      have hown5 := Lib.hid (own_ext hown.out HB5.out)
      have HX5 := Lib.hid (HX.out.ext HB5.out)
      have HBB := Lib.hid (ext_trans HB.out HB5.out)
      clear x0 x1 c0 c1 c2 c3 c4
      go_wp2
      go_roundw
      case rel =>
       refine ⟨k + 1, by omega, by go_num, ?_, HX5, HBB⟩
       rw [hnew.out]
       exact hown5
      case measure => simp [intOf]; omega
  · obtain rfl : k = n := by omega
    have hown1 := hown.out
    obtain ⟨A', c', rfl⟩ := own_shape hown1
    clear hown1
    go_wp2
    go_ret2
    refine ⟨A', c', ?_, ?_, HB.out⟩
    · rw [HE.out]; rfl
    · rw [HE.out]; exact hown.out
set_option maxRecDepth 100000 in
set_option maxHeartbeats 4000000 in
theorem implReady_any (day pa le : Int) (A : Option Addr) (n c : Nat) (l : List R5) (w : World) (hn : n ≤ 1048576) (h : Reads w w.heap.size 5 A n (rowsV l)) :
 Calls Tryz.prog 65 #[schV day A n c pa le] w (RetSliceB w 3 1 (selB (readyR day) day pa le l).length (intsV (selB (readyR day) day pa le l)) (schB day l pa le)) := by
 have hl := rows_len h
 have H := Lib.hid h
 have HL := Lib.hid hl
 have hI := Lib.hid (fun w h => isSchool_any day pa le A n c l w hn h)
 obtain ⟨i0, hi, hz0, hz1, hz2⟩ := info_parts info_int
 clear h hl
 rcases hs : schB day l pa le with _ | _
 · rw [hs] at hI
   have hE : selB (readyR day) day pa le l = [] := by unfold selB; rw [if_neg (by simp [hs])]
   rw [hE]
   clear hs hE
   go_enter Tryz.func65, Tryz.ntmps65
   go_wp2_with fail
   refine (hI.out _ ((H.out.ext (ext_alloc (ext_refl _) _) (Nat.le_refl _)).more (by simp <;> omega))).mono ?_
   rintro e w1 ⟨rfl, hb1⟩
   have s1 : w.heap.size < w1.heap.size := by have := hb1.size; simp at this; omega
   have hw1 := Lib.hid (ext_trans (ext_alloc (ext_refl _) _) hb1)
   have BX : Hid (Blk w1 w.heap.size 32 #[.int .i64 day, .slice A n c, .int .i64 pa, .int .i64 le]) := Lib.hid ((Blk.new w _ _).ext hb1)
   clear hb1
   go_wp2
   go_ret2
   exact ⟨none, 0, rfl, World.ownsRow_nil _ _ _ _, hw1.out⟩
 rw [hs] at hI
 have h8 := schB_len hs
 rw [HL.out] at h8
 have HST := Lib.hid (fun (k : Nat) (r : R5) (h : l[k]? = some r) => stu_bounds (sch_stu hs h))
 have hE : selB (readyR day) day pa le l = ((l.take n).filter (readyR day)).map R5.a := by unfold selB; rw [if_pos hs, ← HL.out, List.take_length]
 have HE := Lib.hid hE
 clear hs hE
 go_enter Tryz.func65, Tryz.ntmps65
 go_wp2_with fail
 refine (hI.out _ ((H.out.ext (ext_alloc (ext_refl _) _) (Nat.le_refl _)).more (by simp <;> omega))).mono ?_
 rintro e w1 ⟨rfl, hb1⟩
 have s1 : w.heap.size < w1.heap.size := by have := hb1.size; simp at this; omega
 have hw1 := Lib.hid (ext_trans (ext_alloc (ext_refl _) _) hb1)
 have BX : Hid (Blk w1 w.heap.size 32 #[.int .i64 day, .slice A n c, .int .i64 pa, .int .i64 le]) := Lib.hid ((Blk.new w _ _).ext hb1)
 clear hb1
 have ho1 := World.ownsRow_nil w1 w.heap.size 3 1
 obtain ⟨x0, x1⟩ := BX.out.q2
 go_wp2_with fail
 go_loopw [4, 13] (fun v i wr => ∃ k : Nat, k ≤ n ∧ i = .int .i64 k ∧ Hid (wr.ownsRow w.heap.size 3 1 v (((l.take k).filter (readyR day)).map R5.a).length (intsV (((l.take k).filter (readyR day)).map R5.a))) ∧ Hid (Blk wr w.heap.size 32 #[.int .i64 day, .slice A n c, .int .i64 pa, .int .i64 le]) ∧ Hid (Below w.heap.size w wr)) (fun _ i _ => n - (intOf i).toNat)
 case atStart => exact ⟨0, Nat.zero_le _, rfl, Lib.hid (by simpa [intsV] using ho1), BX, hw1⟩
 case round =>
  clear x0 x1
  obtain ⟨k, hk, rfl, hown, HX, HB⟩ := hrel
  obtain ⟨x0, x1⟩ := HX.out.q2
  have sX := HX.out.lt
  by_cases hlt : k < n
  · obtain ⟨r, hr⟩ := list_split (l := l) (k := k) (by rw [HL.out]; exact hlt)
    obtain ⟨_, h2, h3, h4, _⟩ := HST.out k r hr
    obtain ⟨b, o, rfl, hbb, c0, c1, c2, c3, c4⟩ := rows_at (H.out.ext HB.out (Nat.le_refl _)) hr
    have hbw : b < wr.heap.size := Nat.lt_of_lt_of_le hbb HB.out.size
    have hlt' : (k : Int) < (n : Int) := by omega
    have hlen := sel_len (readyR day) l k
    have m1 : (((l.take k).filter (readyR day)).map R5.a).length + 1 ≤ maxLen := by unfold maxLen; omega
    have m2 : ((((l.take k).filter (readyR day)).map R5.a).length + 1) * 8 ≤ 140737488355328 := by omega
    have hne0 := Lib.hid (own_nb hown.out HX.out (by decide))
    have HR := Lib.hid hr
    clear hr
    by_cases q1 : day ≤ r.d
    · have dq1 : decide (day ≤ r.d) = true := decide_eq_true q1
      by_cases q2 : r.b < 10
      · have dq2 : decide (r.b < 10) = true := decide_eq_true q2
        by_cases q3 : 10 + 5 * r.b ≤ r.c
        · have dq3 : decide (10 + 5 * r.b ≤ r.c) = true := decide_eq_true q3
          have hnew := Lib.hid (sel_yes (p := readyR day) HR.out (by simp [readyR, *]))
          go_wp2_with fail
          (refine wp_region_later (by kernel_rfl) (by kernel_rfl) ?_; (repeat (go_big_quiet_step (first | (go_at_call 89; exact Calls.later_same (wanted_any _ _ (by omega) (by omega)))))); refine wpQuiet_nil ?_; intro w5 hw1; obtain ⟨⟨wl, hb⟩, hw1'⟩ := hw1; simp only at hw1'; subst hw1')
          have HB5 : Hid (Below wr.heap.size wr w5) := Lib.hid (ext_trans (ext_alloc (ext_refl wr) _) hb)
          have BS5 : Blk w5 wr.heap.size 111 #[.int .i64 r.a, .int .i64 r.b, .int .i64 r.c, .int .i64 r.d, .int .i64 r.e] := (Blk.new wr _ _).ext hb
          clear hb
          have hown5 := Lib.hid (own_ext hown.out HB5.out)
          have HX5 := Lib.hid (HX.out.ext HB5.out)
          have HBB := Lib.hid (ext_trans HB.out HB5.out)
          have sS : wr.heap.size ≤ w5.heap.size := HB5.out.size
          obtain ⟨x50, x51⟩ := HX5.out.q2
          have y50 := BS5.c0
          clear x0 x1 c0 c1 c2 c3 c4 BS5
          go_wp2_with (at_builtin; refine wpList_append_own _ rfl (.tmp 35) (.tmp 38) 53 rfl w.heap.size 3 i0 _ 1 8 Tryz.underlying53 hi hz0 hz1 hz2 rfl (by decide) _ _ _ rfl (hown5.out.alloc _) _ 1 1 [.int .i64 r.a] rfl rfl (cell_one_at _ _ _ (by simp)) (by simp [Value.oneCell']) m1 m2 (by have := HBB.out.size; (try simp at this); simp; omega) ?_; intro v' w2 hown2 hgrow _)
          go_roundw
          case rel =>
           refine ⟨k + 1, by omega, by go_num, ?_, ?_, ?_⟩
           · refine Lib.hid ?_
             rw [hnew.out]
             simpa [intsV] using hown2
           · exact Lib.hid ((HX5.out.ext (ext_alloc (ext_refl _) _)).grown hgrow (by first | exact hne0.out))
           · exact Lib.hid (below_grown hown5.out (ext_alloc HBB.out _) hgrow)
          case measure => simp [intOf]; omega
        · have dq3 : decide (10 + 5 * r.b ≤ r.c) = false := decide_eq_false q3
          have hnew := Lib.hid (sel_no (p := readyR day) HR.out (by simp [readyR, *]))
          go_wp2_with fail
          (refine wp_region_later (by kernel_rfl) (by kernel_rfl) ?_; (repeat (go_big_quiet_step (first | (go_at_call 89; exact Calls.later_same (wanted_any _ _ (by omega) (by omega)))))); refine wpQuiet_nil ?_; intro w5 hw1; obtain ⟨⟨wl, hb⟩, hw1'⟩ := hw1; simp only at hw1'; subst hw1')
          have HB5 : Hid (Below wr.heap.size wr w5) := Lib.hid (ext_trans (ext_alloc (ext_refl wr) _) hb)
          have BS5 : Blk w5 wr.heap.size 111 #[.int .i64 r.a, .int .i64 r.b, .int .i64 r.c, .int .i64 r.d, .int .i64 r.e] := (Blk.new wr _ _).ext hb
          clear hb
          have hown5 := Lib.hid (own_ext hown.out HB5.out)
          have HX5 := Lib.hid (HX.out.ext HB5.out)
          have HBB := Lib.hid (ext_trans HB.out HB5.out)
          clear x0 x1 c0 c1 c2 c3 c4 BS5
          go_wp2
          go_roundw
          case rel =>
           refine ⟨k + 1, by omega, by go_num, ?_, HX5, HBB⟩
           rw [hnew.out]
           exact hown5
          case measure => simp [intOf]; omega
      · have dq2 : decide (r.b < 10) = false := decide_eq_false q2
        have hnew := Lib.hid (sel_no (p := readyR day) HR.out (by simp [readyR, *]))
        go_wp2_with fail
        (refine wp_region_later (by kernel_rfl) (by kernel_rfl) ?_; (repeat (go_big_quiet_step (first | (go_at_call 89; exact Calls.later_same (wanted_any _ _ (by omega) (by omega)))))); refine wpQuiet_nil ?_; intro w5 hw1; obtain ⟨⟨wl, hb⟩, hw1'⟩ := hw1; simp only at hw1'; subst hw1')
        have HB5 : Hid (Below wr.heap.size wr w5) := Lib.hid (ext_trans (ext_alloc (ext_refl wr) _) hb)
        have BS5 : Blk w5 wr.heap.size 111 #[.int .i64 r.a, .int .i64 r.b, .int .i64 r.c, .int .i64 r.d, .int .i64 r.e] := (Blk.new wr _ _).ext hb
        clear hb
        have hown5 := Lib.hid (own_ext hown.out HB5.out)
        have HX5 := Lib.hid (HX.out.ext HB5.out)
        have HBB := Lib.hid (ext_trans HB.out HB5.out)
        clear x0 x1 c0 c1 c2 c3 c4 BS5
        go_wp2
        go_roundw
        case rel =>
         refine ⟨k + 1, by omega, by go_num, ?_, HX5, HBB⟩
         rw [hnew.out]
         exact hown5
        case measure => simp [intOf]; omega
    · have dq1 : decide (day ≤ r.d) = false := decide_eq_false q1
      have hnew := Lib.hid (sel_no (p := readyR day) HR.out (by simp [readyR, *]))
      go_wp2_with fail
      (refine wp_region_later (by kernel_rfl) (by kernel_rfl) ?_; (repeat (go_big_quiet_step (first | (go_at_call 89; exact Calls.later_same (wanted_any _ _ (by omega) (by omega)))))); refine wpQuiet_nil ?_; intro w5 hw1; obtain ⟨⟨wl, hb⟩, hw1'⟩ := hw1; simp only at hw1'; subst hw1')
      have HB5 : Hid (Below wr.heap.size wr w5) := Lib.hid (ext_trans (ext_alloc (ext_refl wr) _) hb)
      have BS5 : Blk w5 wr.heap.size 111 #[.int .i64 r.a, .int .i64 r.b, .int .i64 r.c, .int .i64 r.d, .int .i64 r.e] := (Blk.new wr _ _).ext hb
      clear hb
      have hown5 := Lib.hid (own_ext hown.out HB5.out)
      have HX5 := Lib.hid (HX.out.ext HB5.out)
      have HBB := Lib.hid (ext_trans HB.out HB5.out)
      clear x0 x1 c0 c1 c2 c3 c4 BS5
      go_wp2
      go_roundw
      case rel =>
       refine ⟨k + 1, by omega, by go_num, ?_, HX5, HBB⟩
       rw [hnew.out]
       exact hown5
      case measure => simp [intOf]; omega
  · obtain rfl : k = n := by omega
    have hown1 := hown.out
    obtain ⟨A', c', rfl⟩ := own_shape hown1
    clear hown1
    go_wp2
    go_ret2
    refine ⟨A', c', ?_, ?_, HB.out⟩
    · rw [HE.out]; rfl
    · rw [HE.out]; exact hown.out
set_option maxRecDepth 100000 in
set_option maxHeartbeats 4000000 in
theorem specReady_any (day pa le : Int) (A : Option Addr) (n c : Nat) (l : List R5) (w : World) (hn : n ≤ 1048576) (h : Reads w w.heap.size 5 A n (rowsV l)) :
 Calls Tryz.prog 92 #[schV day A n c pa le] w (RetSliceB w 3 1 (selB (readyR day) day pa le l).length (intsV (selB (readyR day) day pa le l)) (schB day l pa le)) := by
 have hl := rows_len h
 have H := Lib.hid h
 have HL := Lib.hid hl
 have hI := Lib.hid (fun w h => l25Good_any day pa le A n c l w hn h)
 obtain ⟨i0, hi, hz0, hz1, hz2⟩ := info_parts info_int
 clear h hl
 rcases hs : schB day l pa le with _ | _
 · rw [hs] at hI
   have hE : selB (readyR day) day pa le l = [] := by unfold selB; rw [if_neg (by simp [hs])]
   rw [hE]
   clear hs hE
   go_enter Tryz.func92, Tryz.ntmps92
   go_wp2_with fail
   refine (hI.out _ ((H.out.ext (ext_alloc (ext_alloc (ext_refl _) _) _) (Nat.le_refl _)).more (by simp <;> omega))).mono ?_
   rintro e w1 ⟨rfl, hb1⟩
   have s1 : w.heap.size < w1.heap.size := by have := hb1.size; simp at this; omega
   have hw1 := Lib.hid (ext_trans (ext_alloc (ext_alloc (ext_refl _) _) _) hb1)
   have BX : Hid (Blk w1 w.heap.size 32 #[.int .i64 day, .slice A n c, .int .i64 pa, .int .i64 le]) := Lib.hid (((Blk.new w _ _).ext (ext_alloc (ext_refl _) _)).ext hb1)
   have ho1 : w1.ownsRow w.heap.size 3 1 (.slice (some ⟨w.heap.size + 1, 0, none⟩) 0 0) 0 [] := own_base (own_ext (by simpa using own_lit0 (w.alloc (.cells #[.int .i64 day, .slice A n c, .int .i64 pa, .int .i64 le] 32)) 3 1) hb1) (Nat.le_succ _)
   clear hb1
   go_wp2
   go_ret2
   exact ⟨_, 0, rfl, ho1, hw1.out⟩
 rw [hs] at hI
 have h8 := schB_len hs
 rw [HL.out] at h8
 have HST := Lib.hid (fun (k : Nat) (r : R5) (h : l[k]? = some r) => stu_bounds (sch_stu hs h))
 have hE : selB (readyR day) day pa le l = ((l.take n).filter (readyR day)).map R5.a := by unfold selB; rw [if_pos hs, ← HL.out, List.take_length]
 have HE := Lib.hid hE
 clear hs hE
 go_enter Tryz.func92, Tryz.ntmps92
 go_wp2_with fail
 refine (hI.out _ ((H.out.ext (ext_alloc (ext_alloc (ext_refl _) _) _) (Nat.le_refl _)).more (by simp <;> omega))).mono ?_
 rintro e w1 ⟨rfl, hb1⟩
 have s1 : w.heap.size < w1.heap.size := by have := hb1.size; simp at this; omega
 have hw1 := Lib.hid (ext_trans (ext_alloc (ext_alloc (ext_refl _) _) _) hb1)
 have BX : Hid (Blk w1 w.heap.size 32 #[.int .i64 day, .slice A n c, .int .i64 pa, .int .i64 le]) := Lib.hid (((Blk.new w _ _).ext (ext_alloc (ext_refl _) _)).ext hb1)
 have ho1 : w1.ownsRow w.heap.size 3 1 (.slice (some ⟨w.heap.size + 1, 0, none⟩) 0 0) 0 [] := own_base (own_ext (by simpa using own_lit0 (w.alloc (.cells #[.int .i64 day, .slice A n c, .int .i64 pa, .int .i64 le] 32)) 3 1) hb1) (Nat.le_succ _)
 clear hb1
 obtain ⟨x0, x1⟩ := BX.out.q2
 go_wp2_with fail
 go_loopw [4, 5] (fun v i wr => ∃ k : Nat, k ≤ n ∧ i = .int .i64 k ∧ Hid (wr.ownsRow w.heap.size 3 1 v (((l.take k).filter (readyR day)).map R5.a).length (intsV (((l.take k).filter (readyR day)).map R5.a))) ∧ Hid (Blk wr w.heap.size 32 #[.int .i64 day, .slice A n c, .int .i64 pa, .int .i64 le]) ∧ Hid (Below w.heap.size w wr)) (fun _ i _ => n - (intOf i).toNat)
 case atStart => exact ⟨0, Nat.zero_le _, rfl, Lib.hid (by simpa [intsV] using ho1), BX, hw1⟩
 case round =>
  clear x0 x1
  obtain ⟨k, hk, rfl, hown, HX, HB⟩ := hrel
  obtain ⟨x0, x1⟩ := HX.out.q2
  have sX := HX.out.lt
  by_cases hlt : k < n
  · obtain ⟨r, hr⟩ := list_split (l := l) (k := k) (by rw [HL.out]; exact hlt)
    obtain ⟨_, h2, h3, h4, _⟩ := HST.out k r hr
    obtain ⟨b, o, rfl, hbb, c0, c1, c2, c3, c4⟩ := rows_at (H.out.ext HB.out (Nat.le_refl _)) hr
    have hbw : b < wr.heap.size := Nat.lt_of_lt_of_le hbb HB.out.size
    have hlt' : (k : Int) < (n : Int) := by omega
    have hlen := sel_len (readyR day) l k
    have m1 : (((l.take k).filter (readyR day)).map R5.a).length + 1 ≤ maxLen := by unfold maxLen; omega
    have m2 : ((((l.take k).filter (readyR day)).map R5.a).length + 1) * 8 ≤ 140737488355328 := by omega
    have hne0 := Lib.hid (own_nb hown.out HX.out (by decide))
    have HR := Lib.hid hr
    clear hr
    by_cases q1 : day ≤ r.d
    · have dq1 : decide (day ≤ r.d) = true := decide_eq_true q1
      by_cases q2 : r.b < 10
      · have dq2 : decide (r.b < 10) = true := decide_eq_true q2
        by_cases q3 : 10 + 5 * r.b ≤ r.c
        · have dq3 : decide (10 + 5 * r.b ≤ r.c) = true := decide_eq_true q3
          have HP := Lib.hid (fun (w : World) => l25Passes_any r 70 w (by omega) (by omega))
          rw [show passB r 70 = true from by simp [passB, q3]] at HP
          have hnew := Lib.hid (sel_yes (p := readyR day) HR.out (by simp [readyR, *]))
          go_wp2_with fail
          refine (HP.out _).mono ?_
          rintro e w5 ⟨rfl, hb⟩
          have HB5 : Hid (Below wr.heap.size wr w5) := Lib.hid (ext_trans (ext_alloc (ext_refl wr) _) hb)
          have BS5 : Blk w5 wr.heap.size 111 #[.int .i64 r.a, .int .i64 r.b, .int .i64 r.c, .int .i64 r.d, .int .i64 r.e] := (Blk.new wr _ _).ext hb
          clear hb
          have hown5 := Lib.hid (own_ext hown.out HB5.out)
          have HX5 := Lib.hid (HX.out.ext HB5.out)
          have HBB := Lib.hid (ext_trans HB.out HB5.out)
          have sS : wr.heap.size ≤ w5.heap.size := HB5.out.size
          obtain ⟨x50, x51⟩ := HX5.out.q2
          have y50 := BS5.c0
          clear x0 x1 c0 c1 c2 c3 c4 BS5
          go_wp2_with (at_builtin; refine wpList_append_own _ rfl (.tmp 38) (.tmp 41) 53 rfl w.heap.size 3 i0 _ 1 8 Tryz.underlying53 hi hz0 hz1 hz2 rfl (by decide) _ _ _ rfl (hown5.out.alloc _) _ 1 1 [.int .i64 r.a] rfl rfl (cell_one_at _ _ _ (by simp)) (by simp [Value.oneCell']) m1 m2 (by have := HBB.out.size; (try simp at this); simp; omega) ?_; intro v' w2 hown2 hgrow _)
          go_roundw
          case rel =>
           refine ⟨k + 1, by omega, by go_num, ?_, ?_, ?_⟩
           · refine Lib.hid ?_
             rw [hnew.out]
             simpa [intsV] using hown2
           · exact Lib.hid ((HX5.out.ext (ext_alloc (ext_refl _) _)).grown hgrow (by first | exact hne0.out))
           · exact Lib.hid (below_grown hown5.out (ext_alloc HBB.out _) hgrow)
          case measure => simp [intOf]; omega
        · have dq3 : decide (10 + 5 * r.b ≤ r.c) = false := decide_eq_false q3
          have HP := Lib.hid (fun (w : World) => l25Passes_any r 70 w (by omega) (by omega))
          rw [show passB r 70 = false from by simp [passB, q3]] at HP
          have hnew := Lib.hid (sel_no (p := readyR day) HR.out (by simp [readyR, *]))
          go_wp2_with fail
          refine (HP.out _).mono ?_
          rintro e w5 ⟨rfl, hb⟩
          have HB5 : Hid (Below wr.heap.size wr w5) := Lib.hid (ext_trans (ext_alloc (ext_refl wr) _) hb)
          have BS5 : Blk w5 wr.heap.size 111 #[.int .i64 r.a, .int .i64 r.b, .int .i64 r.c, .int .i64 r.d, .int .i64 r.e] := (Blk.new wr _ _).ext hb
          clear hb
          have hown5 := Lib.hid (own_ext hown.out HB5.out)
          have HX5 := Lib.hid (HX.out.ext HB5.out)
          have HBB := Lib.hid (ext_trans HB.out HB5.out)
          clear x0 x1 c0 c1 c2 c3 c4 BS5
          go_wp2
          go_roundw
          case rel =>
           refine ⟨k + 1, by omega, by go_num, ?_, HX5, HBB⟩
           rw [hnew.out]
           exact hown5
          case measure => simp [intOf]; omega
      · have dq2 : decide (r.b < 10) = false := decide_eq_false q2
        have hnew := Lib.hid (sel_no (p := readyR day) HR.out (by simp [readyR, *]))

        have HB5 : Hid (Below wr.heap.size wr (wr.alloc (.cells #[.int .i64 r.a, .int .i64 r.b, .int .i64 r.c, .int .i64 r.d, .int .i64 r.e] 111))) := Lib.hid (ext_alloc (ext_refl _) _)
        have BS5 : Blk (wr.alloc (.cells #[.int .i64 r.a, .int .i64 r.b, .int .i64 r.c, .int .i64 r.d, .int .i64 r.e] 111)) wr.heap.size 111 #[.int .i64 r.a, .int .i64 r.b, .int .i64 r.c, .int .i64 r.d, .int .i64 r.e] := Blk.new wr _ _
        have hown5 := Lib.hid (own_ext hown.out HB5.out)
        have HX5 := Lib.hid (HX.out.ext HB5.out)
        have HBB := Lib.hid (ext_trans HB.out HB5.out)
        go_wp2
        go_roundw
        case rel =>
         refine ⟨k + 1, by omega, by go_num, ?_, HX5, HBB⟩
         rw [hnew.out]
         exact hown5
        case measure => simp [intOf]; omega
    · have dq1 : decide (day ≤ r.d) = false := decide_eq_false q1
      have hnew := Lib.hid (sel_no (p := readyR day) HR.out (by simp [readyR, *]))

      have HB5 : Hid (Below wr.heap.size wr (wr.alloc (.cells #[.int .i64 r.a, .int .i64 r.b, .int .i64 r.c, .int .i64 r.d, .int .i64 r.e] 111))) := Lib.hid (ext_alloc (ext_refl _) _)
      have BS5 : Blk (wr.alloc (.cells #[.int .i64 r.a, .int .i64 r.b, .int .i64 r.c, .int .i64 r.d, .int .i64 r.e] 111)) wr.heap.size 111 #[.int .i64 r.a, .int .i64 r.b, .int .i64 r.c, .int .i64 r.d, .int .i64 r.e] := Blk.new wr _ _
      have hown5 := Lib.hid (own_ext hown.out HB5.out)
      have HX5 := Lib.hid (HX.out.ext HB5.out)
      have HBB := Lib.hid (ext_trans HB.out HB5.out)
      go_wp2
      go_roundw
      case rel =>
       refine ⟨k + 1, by omega, by go_num, ?_, HX5, HBB⟩
       rw [hnew.out]
       exact hown5
      case measure => simp [intOf]; omega
  · obtain rfl : k = n := by omega
    have hown1 := hown.out
    obtain ⟨A', c', rfl⟩ := own_shape hown1
    clear hown1
    go_wp2
    go_ret2
    refine ⟨A', c', ?_, ?_, HB.out⟩
    · rw [HE.out]; rfl
    · rw [HE.out]; exact hown.out
end Go.Proofs.YtkcbgiegoadkbaaGreat
