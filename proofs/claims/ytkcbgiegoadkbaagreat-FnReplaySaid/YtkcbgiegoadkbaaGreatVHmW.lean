/- HoursMissing: program and reference, walked. -/
import Derived.IntWalk
import Derived.Test.YtkcbgiegoadkbaaGreatVParW
import Derived.Test.YtkcbgiegoadkbaaGreatVScTa
import Derived.Test.YtkcbgiegoadkbaaGreatVM5
import Derived.Test.YtkcbgiegoadkbaaGreatVM1
namespace Go.Proofs.YtkcbgiegoadkbaaGreat
open Go.RowKit
set_option linter.unusedVariables false
set_option linter.unusedSimpArgs false
theorem ret_ib {a b : Int} {x : Bool} (h : a = b) : Ending.returned (.tuple #[.int .i64 a, .bool x]) = .returned (.tuple #[.int .i64 b, .bool x]) := by rw [h]
def hmO (day pa le : Int) (l : List R5) (id : Int) : Option Int :=
 if schB day l pa le = true then (if findI l id < 0 then none else match l[(findI l id).toNat]? with | none => none | some r => if r.b = 10 then none else some (if 0 < 10 + 5 * r.b - r.c then 10 + 5 * r.b - r.c else 0)) else none
theorem hm_bad {day pa le : Int} {l : List R5} {id : Int} (h : schB day l pa le = false) : hmO day pa le l id = none := by unfold hmO; rw [if_neg (by simp [h])]
theorem hm_miss {day pa le : Int} {l : List R5} {id : Int} (h : findI l id = -1) : hmO day pa le l id = none := by
 unfold hmO; rw [if_pos (c := findI l id < 0) (by omega)]; split <;> rfl
theorem hm_hit {day pa le : Int} {l : List R5} {id : Int} {k : Nat} {r : R5} (hs : schB day l pa le = true) (h : findI l id = k) (hr : l[k]? = some r) : hmO day pa le l id = if r.b = 10 then none else some (if 0 < 10 + 5 * r.b - r.c then 10 + 5 * r.b - r.c else 0) := by
 unfold hmO; rw [if_pos hs, if_neg (by omega), h]; simp [hr]
set_option maxRecDepth 100000 in
set_option maxHeartbeats 2000000 in
theorem implHours_any (day pa le id : Int) (A : Option Addr) (n c : Nat) (l : List R5) (w : World) (hn : n ≤ 1048576) (h : Reads w w.heap.size 5 A n (rowsV l)) :
 Calls Tryz.prog 64 #[schV day A n c pa le, .int .i64 id] w (ParRet (hmO day pa le l id) w) := by
 have hA := Lib.hid (fun w h => at_any day pa le id A n c l w hn h)
 have hI := Lib.hid (fun w h => isSchool_any day pa le A n c l w hn h)
 have H := Lib.hid h
 rcases hs : schB day l pa le with _ | _
 · rw [hs] at hI
   rw [hm_bad hs]
   obtain ⟨z, hz⟩ : ∃ z, findI l id = z := ⟨_, rfl⟩
   rw [hz] at hA
   clear h hs hz
   go_enter Tryz.func64, Tryz.ntmps64
   go_wp2_with fail
   refine (hA.out _ ((H.out.ext (ext_alloc (ext_refl _) _) (Nat.le_refl _)).more (by simp))).mono ?_
   rintro e w1 ⟨rfl, hb1⟩
   obtain ⟨hc1, hf1⟩ := bcell hb1
   have s1 : w.heap.size < w1.heap.size := by have := hb1.size; simp at this; omega
   have hw1 := Lib.hid (ext_trans (ext_alloc (ext_refl w) _) hb1)
   clear hb1
   go_wp2_with fail
   refine (hI.out _ ((H.out.ext hw1.out (Nat.le_refl _)).more (Nat.le_of_lt s1))).mono ?_
   rintro e w2 ⟨rfl, hb2⟩
   obtain ⟨hc2, hf2⟩ := bcell hb2
   have s2 : w.heap.size < w2.heap.size := by have := hb2.size; omega
   have hw2 := Lib.hid (ext_trans hw1.out hb2)
   clear hb2
   go_wp2
   go_ret2
   exact ⟨rfl, hw2.out⟩
 rw [hs] at hI
 rcases findI_cases l id with ⟨hf, _⟩ | ⟨k, r, hf, hr, _, _⟩
 · rw [hf] at hA
   rw [hm_miss hf]
   clear h hs hf
   go_enter Tryz.func64, Tryz.ntmps64
   go_wp2_with fail
   refine (hA.out _ ((H.out.ext (ext_alloc (ext_refl _) _) (Nat.le_refl _)).more (by simp))).mono ?_
   rintro e w1 ⟨rfl, hb1⟩
   obtain ⟨hc1, hf1⟩ := bcell hb1
   have s1 : w.heap.size < w1.heap.size := by have := hb1.size; simp at this; omega
   have hw1 := Lib.hid (ext_trans (ext_alloc (ext_refl w) _) hb1)
   clear hb1
   go_wp2_with fail
   refine (hI.out _ ((H.out.ext hw1.out (Nat.le_refl _)).more (Nat.le_of_lt s1))).mono ?_
   rintro e w2 ⟨rfl, hb2⟩
   obtain ⟨hc2, hf2⟩ := bcell hb2
   have s2 : w.heap.size < w2.heap.size := by have := hb2.size; omega
   have hw2 := Lib.hid (ext_trans hw1.out hb2)
   clear hb2
   go_wp2
   go_ret2
   exact ⟨rfl, hw2.out⟩
 rw [hf] at hA
 obtain ⟨_, h2, h3, _, _⟩ := stu_bounds (sch_stu hs hr)
 rw [hm_hit hs hf hr]
 obtain ⟨b, o, hAd, hb, c0, c1, c2, c3, c4⟩ := rows_at h hr
 subst hAd
 have hne : b ≠ w.heap.size := by omega
 have hkn : (k : Int) < n := by have := (List.getElem?_eq_some_iff.1 hr).1; have := rows_len h; omega
 by_cases h10 : r.b = 10
 · have h10' : (r.b == 10) = true := beq_iff_eq.2 h10
   rw [if_pos h10]
   clear h hs hf hr h10
   go_enter Tryz.func64, Tryz.ntmps64
   go_wp2_with fail
   refine (hA.out _ ((H.out.ext (ext_alloc (ext_refl _) _) (Nat.le_refl _)).more (by simp))).mono ?_
   rintro e w1 ⟨rfl, hb1⟩
   obtain ⟨hc1, hf1⟩ := bcell hb1
   have s1 : w.heap.size < w1.heap.size := by have := hb1.size; simp at this; omega
   have hw1 := Lib.hid (ext_trans (ext_alloc (ext_refl w) _) hb1)
   clear hb1
   go_wp2_with fail
   refine (hI.out _ ((H.out.ext hw1.out (Nat.le_refl _)).more (Nat.le_of_lt s1))).mono ?_
   rintro e w2 ⟨rfl, hb2⟩
   obtain ⟨hc2, hf2⟩ := bcell hb2
   have s2 : w.heap.size < w2.heap.size := by have := hb2.size; omega
   have hw2 := Lib.hid (ext_trans hw1.out hb2)
   clear hb2
   have s3 : b < w1.heap.size := by omega
   have s4 : b < w2.heap.size := by omega
   go_wp2
   go_ret2
   exact ⟨rfl, hw2.out⟩
 · have h10' : (r.b == 10) = false := beq_eq_false_iff_ne.2 h10
   obtain ⟨M, hM⟩ : ∃ M, (if 0 < 10 + 5 * r.b - r.c then 10 + 5 * r.b - r.c else 0) = M := ⟨_, rfl⟩
   have HM := Lib.hid hM
   have e1 : IntKind.i64.wrap (10 + 5 * r.b - r.c) = 10 + 5 * r.b - r.c := IntWalk.i64_in _ (by omega)
   have E1 := Lib.hid e1
   rw [if_neg h10, hM]
   clear h hs hf hr h10 e1 hM
   go_enter Tryz.func64, Tryz.ntmps64
   go_wp2_with fail
   refine (hA.out _ ((H.out.ext (ext_alloc (ext_refl _) _) (Nat.le_refl _)).more (by simp))).mono ?_
   rintro e w1 ⟨rfl, hb1⟩
   obtain ⟨hc1, hf1⟩ := bcell hb1
   have s1 : w.heap.size < w1.heap.size := by have := hb1.size; simp at this; omega
   have hw1 := Lib.hid (ext_trans (ext_alloc (ext_refl w) _) hb1)
   clear hb1
   go_wp2_with fail
   refine (hI.out _ ((H.out.ext hw1.out (Nat.le_refl _)).more (Nat.le_of_lt s1))).mono ?_
   rintro e w2 ⟨rfl, hb2⟩
   obtain ⟨hc2, hf2⟩ := bcell hb2
   have s2 : w.heap.size < w2.heap.size := by have := hb2.size; omega
   have hw2 := Lib.hid (ext_trans hw1.out hb2)
   clear hb2
   have s3 : b < w1.heap.size := by omega
   have s4 : b < w2.heap.size := by omega
   go_wp2
   have e1 := E1.out
   (refine wp_region_later (by kernel_rfl) (by kernel_rfl) ?_; (repeat (go_big_quiet_step ((go_at_call 89; exact Calls.later_same (wanted_any _ _ (by omega) (by omega)))))); refine wpQuiet_nil ?_; intro w1 hw1; obtain ⟨⟨wl, hbL⟩, hw1'⟩ := hw1; simp only at hw1'; subst hw1'; obtain ⟨hcL, hfL⟩ := bcell hbL)
   clear e1
   have hw3 := Lib.hid (ext_trans hw2.out hbL)
   go_wp2
   all_goals go_ret2
   all_goals exact ⟨ret_ib (by show _ = M; rw [← HM.out]; first | (rw [if_pos (by omega)]; done) | (rw [if_neg (by omega)]; done) | (split <;> omega)), hw3.out⟩

set_option maxRecDepth 100000 in
set_option maxHeartbeats 2000000 in
theorem specHours_any (day pa le id : Int) (A : Option Addr) (n c : Nat) (l : List R5) (w : World) (hn : n ≤ 1048576) (h : Reads w w.heap.size 5 A n (rowsV l)) :
 Calls Tryz.prog 96 #[schV day A n c pa le, .int .i64 id] w (ParRet (hmO day pa le l id) w) := by
 have hA := Lib.hid (fun w h => l25Find_any day pa le id A n c l w hn h)
 have hI := Lib.hid (fun w h => l25Good_any day pa le A n c l w hn h)
 have H := Lib.hid h
 rcases hs : schB day l pa le with _ | _
 · rw [hs] at hI
   rw [hm_bad hs]
   obtain ⟨z, hz⟩ : ∃ z, findI l id = z := ⟨_, rfl⟩
   rw [hz] at hA
   clear h hs hz
   go_enter Tryz.func96, Tryz.ntmps96
   go_wp2_with fail
   refine (hA.out _ ((H.out.ext (ext_alloc (ext_refl _) _) (Nat.le_refl _)).more (by simp))).mono ?_
   rintro e w1 ⟨rfl, hb1⟩
   obtain ⟨hc1, hf1⟩ := bcell hb1
   have s1 : w.heap.size < w1.heap.size := by have := hb1.size; simp at this; omega
   have hw1 := Lib.hid (ext_trans (ext_alloc (ext_refl w) _) hb1)
   clear hb1
   go_wp2_with fail
   refine (hI.out _ ((H.out.ext hw1.out (Nat.le_refl _)).more (Nat.le_of_lt s1))).mono ?_
   rintro e w2 ⟨rfl, hb2⟩
   obtain ⟨hc2, hf2⟩ := bcell hb2
   have s2 : w.heap.size < w2.heap.size := by have := hb2.size; omega
   have hw2 := Lib.hid (ext_trans hw1.out hb2)
   clear hb2
   go_wp2
   go_ret2
   exact ⟨rfl, hw2.out⟩
 rw [hs] at hI
 rcases findI_cases l id with ⟨hf, _⟩ | ⟨k, r, hf, hr, _, _⟩
 · rw [hf] at hA
   rw [hm_miss hf]
   clear h hs hf
   go_enter Tryz.func96, Tryz.ntmps96
   go_wp2_with fail
   refine (hA.out _ ((H.out.ext (ext_alloc (ext_refl _) _) (Nat.le_refl _)).more (by simp))).mono ?_
   rintro e w1 ⟨rfl, hb1⟩
   obtain ⟨hc1, hf1⟩ := bcell hb1
   have s1 : w.heap.size < w1.heap.size := by have := hb1.size; simp at this; omega
   have hw1 := Lib.hid (ext_trans (ext_alloc (ext_refl w) _) hb1)
   clear hb1
   go_wp2_with fail
   refine (hI.out _ ((H.out.ext hw1.out (Nat.le_refl _)).more (Nat.le_of_lt s1))).mono ?_
   rintro e w2 ⟨rfl, hb2⟩
   obtain ⟨hc2, hf2⟩ := bcell hb2
   have s2 : w.heap.size < w2.heap.size := by have := hb2.size; omega
   have hw2 := Lib.hid (ext_trans hw1.out hb2)
   clear hb2
   go_wp2
   go_ret2
   exact ⟨rfl, hw2.out⟩
 rw [hf] at hA
 obtain ⟨_, h2, h3, _, _⟩ := stu_bounds (sch_stu hs hr)
 rw [hm_hit hs hf hr]
 obtain ⟨b, o, hAd, hb, c0, c1, c2, c3, c4⟩ := rows_at h hr
 subst hAd
 have hne : b ≠ w.heap.size := by omega
 have hkn : (k : Int) < n := by have := (List.getElem?_eq_some_iff.1 hr).1; have := rows_len h; omega
 by_cases h10 : r.b = 10
 · have h10' : (r.b == 10) = true := beq_iff_eq.2 h10
   rw [if_pos h10]
   clear h hs hf hr h10
   go_enter Tryz.func96, Tryz.ntmps96
   go_wp2_with fail
   refine (hA.out _ ((H.out.ext (ext_alloc (ext_refl _) _) (Nat.le_refl _)).more (by simp))).mono ?_
   rintro e w1 ⟨rfl, hb1⟩
   obtain ⟨hc1, hf1⟩ := bcell hb1
   have s1 : w.heap.size < w1.heap.size := by have := hb1.size; simp at this; omega
   have hw1 := Lib.hid (ext_trans (ext_alloc (ext_refl w) _) hb1)
   clear hb1
   go_wp2_with fail
   refine (hI.out _ ((H.out.ext hw1.out (Nat.le_refl _)).more (Nat.le_of_lt s1))).mono ?_
   rintro e w2 ⟨rfl, hb2⟩
   obtain ⟨hc2, hf2⟩ := bcell hb2
   have s2 : w.heap.size < w2.heap.size := by have := hb2.size; omega
   have hw2 := Lib.hid (ext_trans hw1.out hb2)
   clear hb2
   have s3 : b < w1.heap.size := by omega
   have s4 : b < w2.heap.size := by omega
   go_wp2
   go_ret2
   exact ⟨rfl, hw2.out⟩
 · have h10' : (r.b == 10) = false := beq_eq_false_iff_ne.2 h10
   obtain ⟨M, hM⟩ : ∃ M, (if 0 < 10 + 5 * r.b - r.c then 10 + 5 * r.b - r.c else 0) = M := ⟨_, rfl⟩
   have HM := Lib.hid hM
   have e1 : IntKind.i64.wrap (10 + 5 * r.b - r.c) = 10 + 5 * r.b - r.c := IntWalk.i64_in _ (by omega)
   have E1 := Lib.hid e1
   rw [if_neg h10, hM]
   clear h hs hf hr h10 e1 hM
   go_enter Tryz.func96, Tryz.ntmps96
   go_wp2_with fail
   refine (hA.out _ ((H.out.ext (ext_alloc (ext_refl _) _) (Nat.le_refl _)).more (by simp))).mono ?_
   rintro e w1 ⟨rfl, hb1⟩
   obtain ⟨hc1, hf1⟩ := bcell hb1
   have s1 : w.heap.size < w1.heap.size := by have := hb1.size; simp at this; omega
   have hw1 := Lib.hid (ext_trans (ext_alloc (ext_refl w) _) hb1)
   clear hb1
   go_wp2_with fail
   refine (hI.out _ ((H.out.ext hw1.out (Nat.le_refl _)).more (Nat.le_of_lt s1))).mono ?_
   rintro e w2 ⟨rfl, hb2⟩
   obtain ⟨hc2, hf2⟩ := bcell hb2
   have s2 : w.heap.size < w2.heap.size := by have := hb2.size; omega
   have hw2 := Lib.hid (ext_trans hw1.out hb2)
   clear hb2
   have s3 : b < w1.heap.size := by omega
   have s4 : b < w2.heap.size := by omega
   go_wp2
   have e1 := E1.out
   (refine wp_region_later (by kernel_rfl) (by kernel_rfl) ?_; (repeat (go_big_quiet_step (first | (go_at_call 105; exact Calls.later_same (l25Wanted_any _ _ (by omega) (by omega))) | (go_at_call 46; exact Calls.later_same (most_any _ _ _))))); refine wpQuiet_nil ?_; intro w1 hw1; obtain ⟨⟨wl, hbL⟩, hw1'⟩ := hw1; simp only at hw1'; subst hw1'; obtain ⟨hcL, hfL⟩ := bcell hbL)
   clear e1
   have hw3 := Lib.hid (ext_trans hw2.out hbL)
   go_wp2
   all_goals go_ret2
   all_goals exact ⟨ret_ib (by show _ = M; rw [← HM.out]; first | (rw [if_pos (by omega)]; done) | (rw [if_neg (by omega)]; done) | (split <;> omega)), hw3.out⟩

end Go.Proofs.YtkcbgiegoadkbaaGreat
