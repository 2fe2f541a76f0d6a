/- A step: the program's, whole. -/
import Derived.Test.YtkcbgiegoadkbaaVScSc
import Derived.Test.YtkcbgiegoadkbaaVScSd
import Derived.Test.YtkcbgiegoadkbaaVScSe
import Derived.Test.YtkcbgiegoadkbaaVM4
import Derived.IntWalk
import Derived.Test.YtkcbgiegoadkbaaVM2
import Derived.Test.YtkcbgiegoadkbaaVScTa
import Derived.Test.YtkcbgiegoadkbaaVM1
namespace Go.Proofs.Ytkcbgiegoadkbaa
open Go.RowKit
set_option linter.unusedVariables false
set_option linter.unusedSimpArgs false
theorem stepS_enr {day pa le : Int} {l : List R5} {id v : Int} : stepS day pa le l 2 id v = ((enr day l id v).map fun L => (day, L, pa, le)).filter fun q => schB q.1 q.2.1 q.2.2.1 q.2.2.2 := by
 unfold stepS tryS enr
 rw [if_neg (by omega), if_pos rfl]
 split <;> rfl
theorem stepped_any (day pa le k id v : Int) (A : Option Addr) (n c : Nat) (l : List R5) (w : World) (hA : SlOk A n c) (h : Reads w w.heap.size 5 A n (rowsV l)) (hs : schB day l pa le = true) (hv2 : v ≤ 9223372036854775807) :
 Calls Try.prog 20 #[schV day A n c pa le, .agg #[.int .i64 k, .int .i64 id, .int .i64 v]] w (RetSch (stepS day pa le l k id v) w) := by
 have hn : n ≤ 8 := by have := schB_len hs; have := rows_len h; omega
 by_cases h1 : k = 1
 · subst h1
   by_cases hb : id ≠ 0 ∨ v < 1
   · have : stepS day pa le l 1 id v = none := by unfold stepS tryS; rw [if_pos rfl, if_pos hb]; rfl
     rw [this]
     exact stepped_wait_no day pa le id v A n c l w hn hA h hb
   · have hid : id = 0 := by omega
     have hv : 1 ≤ v := by omega
     rw [stepS_1 (by simp [stepOk]; omega)]
     exact stepped_wait day pa le id v A n c l w hn hA h hid hv hv2 hs
 by_cases h2 : k = 2
 · subst h2
   rw [stepS_enr]
   exact stepped_enrol day pa le id v A n c l w hn hA h hs
 by_cases h3 : k = 3 ∨ k = 4 ∨ k = 5 ∨ k = 6
 · rcases findI_cases l id with ⟨hf, _⟩ | ⟨i, r, hf, hr, _, _⟩
   · rw [find_none h3 hf]
     rcases h3 with rfl | rfl | rfl | rfl
     · exact stepped_find_no_3 day pa le id v A n c l w hn hA h hf
     · exact stepped_find_no_4 day pa le id v A n c l w hn hA h hf
     · exact stepped_find_no_5 day pa le id v A n c l w hn hA h hf
     · exact stepped_find_no_6 day pa le id v A n c l w hn hA h hf
   · rw [stepS_t h3 hf hr]
     rcases h3 with rfl | rfl | rfl | rfl
     · exact stepped_3 day pa le id v A n c l w hn hA h i r hf hr hs
     · exact stepped_4 day pa le id v A n c l w hn hA h i r hf hr hs
     · exact stepped_5 day pa le id v A n c l w hn hA h i r hf hr hs
     · exact stepped_6 day pa le id v A n c l w hn hA h i r hf hr hs
 · have : stepS day pa le l k id v = none := by unfold stepS tryS; rw [if_neg h1, if_neg h2, if_neg h3]; rfl
   rw [this]
   exact stepped_else day pa le k id v A n c l w hn hA h (by omega)
/-- what StepSchool answers -/
def stpB (day pa le : Int) (l : List R5) (k id v : Int) : Option Sch4 := if schB day l pa le = true then stepS day pa le l k id v else none
theorem RetSch.left {o : Option Sch4} {w w1 : World} (hb : Below w.heap.size w w1) {e : Ending} {w' : World} (h : RetSch o w1 e w') : RetSch o w e w' := by
 rcases o with _ | ⟨d, l, p, q⟩
 · exact ⟨h.1, ext_trans hb h.2⟩
 · obtain ⟨A, c, h1, h2, h3⟩ := h
   exact ⟨A, c, h1, own_base h2 hb.size, ext_trans hb h3⟩
end Go.Proofs.Ytkcbgiegoadkbaa
namespace Go.Proofs.Ytkcbgiegoadkbaa
open Go.RowKit
set_option linter.unusedVariables false
set_option linter.unusedSimpArgs false
theorem most_any (a b : Int) (w : World) : Calls Try.prog 44 #[.int .i64 a, .int .i64 b] w fun e w' => e = .returned (.int .i64 (if b < a then a else b)) ∧ w = w' := by
 by_cases h : b < a
 · rw [if_pos h]
   go_enter Try.func44, Try.ntmps44
   go_wp2
   go_ret
   exact ⟨rfl, rfl⟩
 · rw [if_neg h]
   go_enter Try.func44, Try.ntmps44
   go_wp2
   go_ret
   exact ⟨rfl, rfl⟩
theorem l25Wanted_any (z : Int) (w : World) (h0 : 0 ≤ z) (h1 : z ≤ 1000) : Calls Try.prog 45 #[.int .i64 z] w fun e w' => e = .returned (.int .i64 (10 + 5 * z)) ∧ w = w' := by
 go_enter Try.func45, Try.ntmps45
 go_wp2
 go_ret
 exact ⟨rfl, rfl⟩
def passB (r : R5) (v : Int) : Bool := decide (70 ≤ v) && decide (10 + 5 * r.b ≤ r.c)
theorem l25Passes_any (r : R5) (v : Int) (w : World) (h0 : 0 ≤ r.b) (h1 : r.b ≤ 10) : Calls Try.prog 42 #[r.val, .int .i64 v] w fun e w' => e = .returned (.bool (passB r v)) ∧ Below w.heap.size w w' := by
 by_cases h70 : 70 ≤ v
 · have h70' : decide (70 ≤ v) = true := by simpa using h70
   rw [show passB r v = decide (10 + 5 * r.b ≤ r.c) from by simp [passB, h70]]
   go_enter Try.func42, Try.ntmps42
   go_wp2
   (refine wp_region_later (by kernel_rfl) (by kernel_rfl) ?_; (repeat (go_big_quiet_step ((go_at_call 45; exact Calls.later_same (l25Wanted_any _ _ (by omega) (by omega)))))); refine wpQuiet_nil ?_; intro w1 hw1; obtain ⟨⟨wl, hbL⟩, hw1'⟩ := hw1; simp only at hw1'; subst hw1'; obtain ⟨hcL, hfL⟩ := bcell hbL)
   go_wp2
   go_ret
   exact ⟨rfl, ext_trans (ext_alloc (ext_refl _) _) hbL⟩
 · have h70' : decide (70 ≤ v) = false := by simpa using h70
   rw [show passB r v = false from by simp [passB, h70]]
   go_enter Try.func42, Try.ntmps42
   go_wp2
   (refine wp_region_later (by kernel_rfl) (by kernel_rfl) ?_; (repeat (go_big_quiet_step (fail))); refine wpQuiet_nil ?_; intro w1 hw1; obtain ⟨⟨wl, hbL⟩, hw1'⟩ := hw1; simp only at hw1'; subst hw1'; obtain ⟨hcL, hfL⟩ := bcell hbL)
   go_wp2
   go_ret
   exact ⟨rfl, ext_trans (ext_alloc (ext_refl _) _) hbL⟩
/-- a student's change, and whether it is possible -/
def chgR (r : R5) (k v day : Int) : R5 :=
 if k = 5 then ⟨r.a, r.b, r.c, (if day < r.d then r.d else day) + v, r.e⟩ else if k = 3 then ⟨r.a, r.b, r.c + v, r.d, r.e⟩ else if passB r v = true then ⟨r.a, r.b + 1, 0, r.d, 0⟩ else ⟨r.a, r.b, r.c, r.d, r.e + 1⟩
def chgB (r : R5) (k day : Int) : Bool := if k = 5 then true else if k = 3 then decide (day ≤ r.d) else decide (day ≤ r.d) && decide (r.b < 10)
set_option maxHeartbeats 1000000 in
theorem l25Change_5 (r : R5) (id v day : Int) (w : World) (hs : stuB r = true) (hd : 0 ≤ day ∧ day ≤ 4000) (hv : 1 ≤ v ∧ v ≤ 365) :
 Calls Try.prog 41 #[r.val, .agg #[.int .i64 5, .int .i64 id, .int .i64 v], .int .i64 day] w fun e w' => e = .returned (.tuple #[(chgR r 5 v day).val, .bool (chgB r 5 day)]) ∧ Below w.heap.size w w' := by
 obtain ⟨q1, q2, q3, q4, q5⟩ := stu_bounds hs
 obtain ⟨M, hM⟩ : ∃ M, M = (if day < r.d then r.d else day) := ⟨_, rfl⟩
 have hM0 : 0 ≤ M ∧ M ≤ 4365 := by rw [hM]; split <;> omega
 have HM := Lib.hid (most_any r.d day)
 rw [← hM] at HM
 rw [show chgR r 5 v day = ⟨r.a, r.b, r.c, M + v, r.e⟩ from by simp [chgR, hM], show chgB r 5 day = true from by simp [chgB]]
 clear hM
 go_enter Try.func41, Try.ntmps41
 go_wp2
 (refine wp_region_later_tail 8 (by kernel_rfl) (by kernel_rfl) ?_; simp only [List.take_succ_cons, List.take_zero, List.drop_succ_cons, List.drop_zero]; (repeat (go_big_quiet_step (first | (go_at_call 44; exact Calls.later_same (HM.out _))))); refine wpQuiet_nil ?_; intro w1 hw1; obtain ⟨⟨wl, hbL⟩, hw1'⟩ := hw1; simp only at hw1'; subst hw1'; obtain ⟨hcL, hfL⟩ := bcell hbL)
 have z0 : w.heap.size + 1 + 1 + 1 < w1.heap.size := by (have := hbL.size; simp at this; omega)
 have z1 : w.heap.size + 1 + 1 < w1.heap.size := by omega
 go_wp2
 refine bodyPost_ret (v := .tuple #[.agg #[.int .i64 r.a, .int .i64 r.b, .int .i64 r.c, .int .i64 (M + v), .int .i64 r.e], .bool true]) (by simp [results, Try.results41, go_sem, *]) rfl ⟨rfl, ?_⟩
 repeat (first | (with_reducible refine ext_set ?_ (by simp <;> omega) _) | exact ext_trans (ext_alloc (ext_alloc (ext_alloc (ext_alloc (ext_refl _) _) _) _) _) hbL)
set_option maxHeartbeats 2000000 in
theorem l25Change_3 (r : R5) (id v day : Int) (w : World) (hs : stuB r = true) (hd : 0 ≤ day ∧ day ≤ 4000) (hv : 0 ≤ v ∧ v ≤ 365) :
 Calls Try.prog 41 #[r.val, .agg #[.int .i64 3, .int .i64 id, .int .i64 v], .int .i64 day] w fun e w' => e = .returned (.tuple #[(chgR r 3 v day).val, .bool (chgB r 3 day)]) ∧ Below w.heap.size w w' := by
 obtain ⟨q1, q2, q3, q4, q5⟩ := stu_bounds hs
 rw [show chgR r 3 v day = ⟨r.a, r.b, r.c + v, r.d, r.e⟩ from by simp [chgR], show chgB r 3 day = decide (day ≤ r.d) from by simp [chgB]]
 go_enter Try.func41, Try.ntmps41
 go_wp2
 go_region
 go_wp2
 refine bodyPost_ret (v := .tuple #[.agg #[.int .i64 r.a, .int .i64 r.b, .int .i64 (r.c + v), .int .i64 r.d, .int .i64 r.e], .bool (decide (day ≤ r.d))]) (by simp [results, Try.results41, go_sem, *]) rfl ⟨rfl, ?_⟩
 repeat (first | (with_reducible refine ext_set ?_ (by simp <;> omega) _) | (with_reducible refine ext_drew ?_) | exact ext_alloc (ext_alloc (ext_alloc (ext_alloc (ext_refl _) _) _) _) _)
set_option maxHeartbeats 2000000 in
theorem l25Change_4 (r : R5) (id v day : Int) (w : World) (hs : stuB r = true) (hd : 0 ≤ day ∧ day ≤ 4000) (hv : 0 ≤ v ∧ v ≤ 365) :
 Calls Try.prog 41 #[r.val, .agg #[.int .i64 4, .int .i64 id, .int .i64 v], .int .i64 day] w fun e w' => e = .returned (.tuple #[(chgR r 4 v day).val, .bool (chgB r 4 day)]) ∧ Below w.heap.size w w' := by
 obtain ⟨q1, q2, q3, q4, q5⟩ := stu_bounds hs
 have HP := Lib.hid (fun w => l25Passes_any r v w (by omega) (by omega))
 obtain ⟨R, hR⟩ : ∃ R, R = chgR r 4 v day := ⟨_, rfl⟩
 have hpb : (passB r v = true ∧ R = ⟨r.a, r.b + 1, 0, r.d, 0⟩) ∨ (passB r v = false ∧ R = ⟨r.a, r.b, r.c, r.d, r.e + 1⟩) := by
  rw [hR]
  rcases h : passB r v with _ | _
  · right; simp [chgR, h]
  · left; simp [chgR, h]
 rw [← hR]
 clear hR
 by_cases hdr : day ≤ r.d
 · have hdr' : decide (day ≤ r.d) = true := by simpa using hdr
   rw [show chgB r 4 day = decide (r.b < 10) from by simp [chgB, hdr]]
   rcases hpb with ⟨h1, rfl⟩ | ⟨h1, rfl⟩
   all_goals
    rw [h1] at HP
    clear h1
    go_enter Try.func41, Try.ntmps41
    go_wp2_with fail
    refine (HP.out _).mono ?_
    rintro e w2 ⟨rfl, hb2⟩
    obtain ⟨hc2, hf2⟩ := bcell hb2
    have y0 : w.heap.size + 1 + 1 + 1 < w2.heap.size := by (have := hb2.size; simp at this; omega)
    have y1 : w.heap.size + 1 + 1 < w2.heap.size := by omega
    have y2 : w.heap.size + 1 < w2.heap.size := by omega
    have y3 : w.heap.size < w2.heap.size := by omega
    have b2 := Lib.hid (ext_trans (ext_alloc (ext_alloc (ext_alloc (ext_alloc (ext_refl w) _) _) _) _) hb2)
    clear hb2
    go_wp2
    go_region
    go_wp2
   · refine bodyPost_ret (v := .tuple #[.agg #[.int .i64 r.a, .int .i64 (r.b + 1), .int .i64 0, .int .i64 r.d, .int .i64 0], .bool (decide (r.b < 10))]) (by simp [results, Try.results41, go_sem, *]) rfl ⟨rfl, ?_⟩
     repeat (first | (with_reducible refine ext_set ?_ (by simp <;> omega) _) | (with_reducible refine ext_drew ?_) | (with_reducible exact b2.out))
   · refine bodyPost_ret (v := .tuple #[.agg #[.int .i64 r.a, .int .i64 r.b, .int .i64 r.c, .int .i64 r.d, .int .i64 (r.e + 1)], .bool (decide (r.b < 10))]) (by simp [results, Try.results41, go_sem, *]) rfl ⟨rfl, ?_⟩
     repeat (first | (with_reducible refine ext_set ?_ (by simp <;> omega) _) | (with_reducible refine ext_drew ?_) | (with_reducible exact b2.out))
 · have hdr' : decide (day ≤ r.d) = false := by simpa using hdr
   rw [show chgB r 4 day = false from by simp [chgB, hdr]]
   rcases hpb with ⟨h1, rfl⟩ | ⟨h1, rfl⟩
   all_goals
    rw [h1] at HP
    clear h1
    go_enter Try.func41, Try.ntmps41
    go_wp2_with fail
    refine (HP.out _).mono ?_
    rintro e w2 ⟨rfl, hb2⟩
    obtain ⟨hc2, hf2⟩ := bcell hb2
    have y0 : w.heap.size + 1 + 1 + 1 < w2.heap.size := by (have := hb2.size; simp at this; omega)
    have y1 : w.heap.size + 1 + 1 < w2.heap.size := by omega
    have y2 : w.heap.size + 1 < w2.heap.size := by omega
    have y3 : w.heap.size < w2.heap.size := by omega
    have b2 := Lib.hid (ext_trans (ext_alloc (ext_alloc (ext_alloc (ext_alloc (ext_refl w) _) _) _) _) hb2)
    clear hb2
    go_wp2
    go_region
    go_wp2
   · refine bodyPost_ret (v := .tuple #[.agg #[.int .i64 r.a, .int .i64 (r.b + 1), .int .i64 0, .int .i64 r.d, .int .i64 0], .bool (false)]) (by simp [results, Try.results41, go_sem, *]) rfl ⟨rfl, ?_⟩
     repeat (first | (with_reducible refine ext_set ?_ (by simp <;> omega) _) | (with_reducible refine ext_drew ?_) | (with_reducible exact b2.out))
   · refine bodyPost_ret (v := .tuple #[.agg #[.int .i64 r.a, .int .i64 r.b, .int .i64 r.c, .int .i64 r.d, .int .i64 (r.e + 1)], .bool (false)]) (by simp [results, Try.results41, go_sem, *]) rfl ⟨rfl, ?_⟩
     repeat (first | (with_reducible refine ext_set ?_ (by simp <;> omega) _) | (with_reducible refine ext_drew ?_) | (with_reducible exact b2.out))
end Go.Proofs.Ytkcbgiegoadkbaa
namespace Go.Proofs.Ytkcbgiegoadkbaa
open Go.RowKit
set_option linter.unusedVariables false
set_option linter.unusedSimpArgs false
theorem ret_ib {a b : Int} {x : Bool} (h : a = b) : Ending.returned (.tuple #[.int .i64 a, .bool x]) = .returned (.tuple #[.int .i64 b, .bool x]) := by rw [h]
def hmO (day pa le : Int) (l : List R5) (id : Int) : Option Int :=
 if schB day l pa le = true then (if findI l id < 0 then none else match l[(findI l id).toNat]? with | none => none | some r => if r.b = 10 then none else some (if 0 < 10 + 5 * r.b - r.c then 10 + 5 * r.b - r.c else 0)) else none
theorem hm_bad {day pa le : Int} {l : List R5} {id : Int} (h : schB day l pa le = false) : hmO day pa le l id = none := by unfold hmO; rw [if_neg (by simp [h])]
theorem hm_miss {day pa le : Int} {l : List R5} {id : Int} (h : findI l id = -1) : hmO day pa le l id = none := by
 unfold hmO; rw [if_pos (c := findI l id < 0) (by omega)]; split <;> rfl
theorem hm_hit {day pa le : Int} {l : List R5} {id : Int} {k : Nat} {r : R5} (hs : schB day l pa le = true) (h : findI l id = k) (hr : l[k]? = some r) : hmO day pa le l id = if r.b = 10 then none else some (if 0 < 10 + 5 * r.b - r.c then 10 + 5 * r.b - r.c else 0) := by
 unfold hmO; rw [if_pos hs, if_neg (by omega), h]; simp [hr]
set_option maxRecDepth 100000 in
set_option maxHeartbeats 2000000 in
theorem implHours_any (day pa le id : Int) (A : Option Addr) (n c : Nat) (l : List R5) (w : World) (hn : n ≤ 1048576) (h : Reads w w.heap.size 5 A n (rowsV l)) :
 Calls Try.prog 11 #[schV day A n c pa le, .int .i64 id] w (ParRet (hmO day pa le l id) w) := by
 have hA := Lib.hid (fun w h => at_any day pa le id A n c l w hn h)
 have hI := Lib.hid (fun w h => isSchool_any day pa le A n c l w hn h)
 have H := Lib.hid h
 rcases hs : schB day l pa le with _ | _
 · rw [hs] at hI
   rw [hm_bad hs]
   obtain ⟨z, hz⟩ : ∃ z, findI l id = z := ⟨_, rfl⟩
   rw [hz] at hA
   clear h hs hz
   go_enter Try.func11, Try.ntmps11
   go_wp2_with fail
   refine (hA.out _ ((H.out.ext (ext_alloc (ext_refl _) _) (Nat.le_refl _)).more (by simp))).mono ?_
   rintro e w1 ⟨rfl, hb1⟩
   obtain ⟨hc1, hf1⟩ := bcell hb1
   have s1 : w.heap.size < w1.heap.size := by have := hb1.size; simp at this; omega
   have hw1 := Lib.hid (ext_trans (ext_alloc (ext_refl w) _) hb1)
   clear hb1
   go_wp2_with fail
   refine (hI.out _ ((H.out.ext hw1.out (Nat.le_refl _)).more (Nat.le_of_lt s1))).mono ?_
   rintro e w2 ⟨rfl, hb2⟩
   obtain ⟨hc2, hf2⟩ := bcell hb2
   have s2 : w.heap.size < w2.heap.size := by have := hb2.size; omega
   have hw2 := Lib.hid (ext_trans hw1.out hb2)
   clear hb2
   go_wp2
   go_ret2
   exact ⟨rfl, hw2.out⟩
 rw [hs] at hI
 rcases findI_cases l id with ⟨hf, _⟩ | ⟨k, r, hf, hr, _, _⟩
 · rw [hf] at hA
   rw [hm_miss hf]
   clear h hs hf
   go_enter Try.func11, Try.ntmps11
   go_wp2_with fail
   refine (hA.out _ ((H.out.ext (ext_alloc (ext_refl _) _) (Nat.le_refl _)).more (by simp))).mono ?_
   rintro e w1 ⟨rfl, hb1⟩
   obtain ⟨hc1, hf1⟩ := bcell hb1
   have s1 : w.heap.size < w1.heap.size := by have := hb1.size; simp at this; omega
   have hw1 := Lib.hid (ext_trans (ext_alloc (ext_refl w) _) hb1)
   clear hb1
   go_wp2_with fail
   refine (hI.out _ ((H.out.ext hw1.out (Nat.le_refl _)).more (Nat.le_of_lt s1))).mono ?_
   rintro e w2 ⟨rfl, hb2⟩
   obtain ⟨hc2, hf2⟩ := bcell hb2
   have s2 : w.heap.size < w2.heap.size := by have := hb2.size; omega
   have hw2 := Lib.hid (ext_trans hw1.out hb2)
   clear hb2
   go_wp2
   go_ret2
   exact ⟨rfl, hw2.out⟩
 rw [hf] at hA
 obtain ⟨_, h2, h3, _, _⟩ := stu_bounds (sch_stu hs hr)
 rw [hm_hit hs hf hr]
 obtain ⟨b, o, hAd, hb, c0, c1, c2, c3, c4⟩ := rows_at h hr
 subst hAd
 have hne : b ≠ w.heap.size := by omega
 have hkn : (k : Int) < n := by have := (List.getElem?_eq_some_iff.1 hr).1; have := rows_len h; omega
 by_cases h10 : r.b = 10
 · have h10' : (r.b == 10) = true := beq_iff_eq.2 h10
   rw [if_pos h10]
   clear h hs hf hr h10
   go_enter Try.func11, Try.ntmps11
   go_wp2_with fail
   refine (hA.out _ ((H.out.ext (ext_alloc (ext_refl _) _) (Nat.le_refl _)).more (by simp))).mono ?_
   rintro e w1 ⟨rfl, hb1⟩
   obtain ⟨hc1, hf1⟩ := bcell hb1
   have s1 : w.heap.size < w1.heap.size := by have := hb1.size; simp at this; omega
   have hw1 := Lib.hid (ext_trans (ext_alloc (ext_refl w) _) hb1)
   clear hb1
   go_wp2_with fail
   refine (hI.out _ ((H.out.ext hw1.out (Nat.le_refl _)).more (Nat.le_of_lt s1))).mono ?_
   rintro e w2 ⟨rfl, hb2⟩
   obtain ⟨hc2, hf2⟩ := bcell hb2
   have s2 : w.heap.size < w2.heap.size := by have := hb2.size; omega
   have hw2 := Lib.hid (ext_trans hw1.out hb2)
   clear hb2
   have s3 : b < w1.heap.size := by omega
   have s4 : b < w2.heap.size := by omega
   go_wp2
   go_ret2
   exact ⟨rfl, hw2.out⟩
 · have h10' : (r.b == 10) = false := beq_eq_false_iff_ne.2 h10
   obtain ⟨M, hM⟩ : ∃ M, (if 0 < 10 + 5 * r.b - r.c then 10 + 5 * r.b - r.c else 0) = M := ⟨_, rfl⟩
   have HM := Lib.hid hM
   have e1 : IntKind.i64.wrap (10 + 5 * r.b - r.c) = 10 + 5 * r.b - r.c := IntWalk.i64_in _ (by omega)
   have E1 := Lib.hid e1
   rw [if_neg h10, hM]
   clear h hs hf hr h10 e1 hM
   go_enter Try.func11, Try.ntmps11
   go_wp2_with fail
   refine (hA.out _ ((H.out.ext (ext_alloc (ext_refl _) _) (Nat.le_refl _)).more (by simp))).mono ?_
   rintro e w1 ⟨rfl, hb1⟩
   obtain ⟨hc1, hf1⟩ := bcell hb1
   have s1 : w.heap.size < w1.heap.size := by have := hb1.size; simp at this; omega
   have hw1 := Lib.hid (ext_trans (ext_alloc (ext_refl w) _) hb1)
   clear hb1
   go_wp2_with fail
   refine (hI.out _ ((H.out.ext hw1.out (Nat.le_refl _)).more (Nat.le_of_lt s1))).mono ?_
   rintro e w2 ⟨rfl, hb2⟩
   obtain ⟨hc2, hf2⟩ := bcell hb2
   have s2 : w.heap.size < w2.heap.size := by have := hb2.size; omega
   have hw2 := Lib.hid (ext_trans hw1.out hb2)
   clear hb2
   have s3 : b < w1.heap.size := by omega
   have s4 : b < w2.heap.size := by omega
   go_wp2
   have e1 := E1.out
   (refine wp_region_later (by kernel_rfl) (by kernel_rfl) ?_; (repeat (go_big_quiet_step ((go_at_call 29; exact Calls.later_same (wanted_any _ _ (by omega) (by omega)))))); refine wpQuiet_nil ?_; intro w1 hw1; obtain ⟨⟨wl, hbL⟩, hw1'⟩ := hw1; simp only at hw1'; subst hw1'; obtain ⟨hcL, hfL⟩ := bcell hbL)
   clear e1
   have hw3 := Lib.hid (ext_trans hw2.out hbL)
   go_wp2
   all_goals go_ret2
   all_goals exact ⟨ret_ib (by show _ = M; rw [← HM.out]; first | (rw [if_pos (by omega)]; done) | (rw [if_neg (by omega)]; done) | (split <;> omega)), hw3.out⟩

end Go.Proofs.Ytkcbgiegoadkbaa
namespace Go.Proofs.Ytkcbgiegoadkbaa
open Go.RowKit
set_option linter.unusedVariables false
set_option linter.unusedSimpArgs false
theorem info_int : (Try.prog.info? 3).map (fun i => (i.zero, i.size, i.bytes)) = some (some (.int .i64 0), 1, 8) := by kernel_rfl
def readyR (day : Int) (r : R5) : Bool := decide (day ≤ r.d) && decide (r.b < 10) && decide (10 + 5 * r.b ≤ r.c)
def unpR (day : Int) (r : R5) : Bool := decide (r.d < day)
def selB (p : R5 → Bool) (day pa le : Int) (l : List R5) : List Int := if schB day l pa le = true then (l.filter p).map R5.a else []
theorem sel_len (p : R5 → Bool) (l : List R5) (k : Nat) : (((l.take k).filter p).map R5.a).length ≤ k := by
 have h1 := List.length_filter_le p (l.take k)
 have h2 := List.length_take_le k l
 simp; omega
theorem sel_yes {p : R5 → Bool} {l : List R5} {k : Nat} {r : R5} (hr : l[k]? = some r) (h : p r = true) : ((l.take (k + 1)).filter p).map R5.a = ((l.take k).filter p).map R5.a ++ [r.a] := by
 rw [List.take_add_one, hr]; simp [h]
theorem sel_no {p : R5 → Bool} {l : List R5} {k : Nat} {r : R5} (hr : l[k]? = some r) (h : p r = false) : ((l.take (k + 1)).filter p).map R5.a = ((l.take k).filter p).map R5.a := by
 rw [List.take_add_one, hr]; simp [h]
end Go.Proofs.Ytkcbgiegoadkbaa
namespace Go.Proofs.Ytkcbgiegoadkbaa
open Go.RowKit
set_option linter.unusedVariables false
set_option linter.unusedSimpArgs false
theorem wp_append_none {P : Program} {w : World} {o : Oper} {a : Act} {K : Act → World → Prop} {Q : Exit → Act → World → Prop} (s x : Operand) (t : TypeId)
 (ho : o.op = .call { callee := .builtin .append, args := #[s, x], argTypes := #[t, t] }) (base : Nat) (e : TypeId) (i : TypeInfo) (size : Nat) (ht : P.underlying t = some (.slice e)) (hi : P.info? e = some i)
 (v : Value) (n : Nat) (xs : List Value) (hs : a.eval s = v) (hown : w.ownsRow base e size v n xs) (hx : a.eval x = .slice none 0 0) (h : K (a.put o.dst v) w) : o.wp P a w K Q := by
 have hr := run_append_owned_none (P := P) w base t o.type e i size ht hi v n xs hown
 unfold Oper.wp execOp
 simp only [ho, resolve, invoke, builtin, Sem.run_bind, Sem.run_pure, Result.andThen_ok, List.map_toArray, List.map_cons, List.map_nil, hs, hx, hr]
 exact h
theorem step_app {P : Program} {w : World} {ops : Array Oper} {o : Oper} {a : Act} {K : Act → World → Prop} {Q : Exit → Act → World → Prop} {E : Prop} (hgd : o.guard = none) (s x : Operand) (t : TypeId)
 (ho : o.op = .call { callee := .builtin .append, args := #[s, x], argTypes := #[t, t] })
 (e : TypeId) (i : TypeInfo) (z : Value) (size bytes : Nat) (ht : P.underlying t = some (.slice e)) (hi : P.info? e = some i) (hz : i.zero = some z)
 (hsize : i.size = size) (hby : i.bytes = bytes) (hzs : z.cells.size = size) (hsz : 0 < size)
 (wr : World) (hbl : Below wr.heap.size wr w) (v : Value) (n : Nat) (xs : List Value) (hs : a.eval s = v) (hown : w.ownsRow wr.heap.size e size v n xs)
 (ao : Option Addr) (m c : Nat) (news : List Value) (hx : a.eval x = .slice ao m c) (hl : news.length = m * size) (hnone : ao = none → m = 0 ∧ c = 0) (hnews : ∀ ad, ao = some ad → ∀ j u, news[j]? = some u → w.cell? (ad.add j) = some u) (h1 : ∀ u ∈ news, u.oneCell' = true)
 (h63 : n + m ≤ maxLen) (hbytes : (n + m) * bytes ≤ 140737488355328)
 (h : ∀ v' w', w'.ownsRow wr.heap.size e size v' (n + m) (xs ++ news) → Below wr.heap.size wr w' → w.grownBy w' v.ownBlock → K (a.put o.dst v') w') :
 if Region.wanted o (yielded ops a.tmps) = true then Oper.wp P o a w K Q else E := by
 rw [if_pos (by simp [Region.wanted, hgd])]
 cases ao with
 | some ad =>
   exact wp_append_own w s x t ho wr.heap.size e i z size bytes ht hi hz hsize hby hzs hsz v n xs hs hown ad m c news hx hl (hnews ad rfl) h1 h63 hbytes hbl.size (fun v' w' a b _ => h v' w' a (below_grown' hown (Nat.le_refl _) hbl b) b)
 | none =>
   obtain ⟨rfl, rfl⟩ := hnone rfl
   obtain rfl : news = [] := List.eq_nil_of_length_eq_zero (by rw [hl]; simp)
   exact wp_append_none s x t ho wr.heap.size e i size ht hi v n xs hs hown hx (h v w (by simpa using hown) hbl (World.grownBy.refl _ _))
theorem own_fresh {w wr : World} (hb : wr.heap.size ≤ w.heap.size) (E size : Nat) : (w.alloc (.cells #[] E)).ownsRow wr.heap.size E size (.slice (some ⟨w.heap.size, 0, none⟩) 0 0) 0 [] := own_base (own_lit0 w E size) hb
/-- the cells of a slice that is cut out of another, behind a place -/
theorem cut_cells {w wr : World} {A : Option Addr} {n : Nat} {l : List R5} (h : Reads wr wr.heap.size 5 A n (rowsV l)) (hb : Below wr.heap.size wr w) {i : Nat} (hi : i ≤ n) (ad : Addr) (had : i < n → ∀ b o, A = some ⟨b, o, none⟩ → ad = ⟨b, o + i * 5, none⟩) :
 ∀ j u, (rowsV (l.drop i))[j]? = some u → w.cell? (ad.add j) = some u := by
 intro j u hj
 have hl := rows_len h
 have hlt := (List.getElem?_eq_some_iff.1 hj).1
 rw [rowsV_len, List.length_drop, hl] at hlt
 have hin : i < n := by omega
 obtain ⟨b, o, hA, hbb, hc⟩ := h.2 (by omega)
 rw [had hin b o hA, add_flat]
 have e1 : rowsV l = rowsV (l.take i) ++ rowsV (l.drop i) := by rw [← rowsV_app, List.take_append_drop]
 have hlen : (rowsV (l.take i)).length = i * 5 := by rw [rowsV_len, List.length_take, hl, Nat.min_eq_left hi]
 refine (hb.cell (p := ⟨b, o + i * 5 + j, none⟩) hbb).trans ?_
 rw [show o + i * 5 + j = o + (i * 5 + j) from by omega]
 refine hc _ _ ?_
 rw [e1, List.getElem?_append_right (by omega), hlen, show i * 5 + j - i * 5 = j from by omega, hj]
/-- the cells of a slice's head -/
theorem head_cells {w wr : World} {A : Option Addr} {n : Nat} {l : List R5} (h : Reads wr wr.heap.size 5 A n (rowsV l)) (hb : Below wr.heap.size wr w) {i : Nat} (hi : i ≤ n) (ad : Addr) (had : A = some ad) :
 ∀ j u, (rowsV (l.take i))[j]? = some u → w.cell? (ad.add j) = some u := by
 intro j u hj
 have hl := rows_len h
 have hlt := (List.getElem?_eq_some_iff.1 hj).1
 have hlen : (rowsV (l.take i)).length = i * 5 := by rw [rowsV_len, List.length_take, hl, Nat.min_eq_left hi]
 obtain ⟨b, o, hA, hbb, hc⟩ := h.2 (by omega)
 rw [hA] at had
 injection had with had
 subst had
 rw [add_flat]
 have e1 : rowsV l = rowsV (l.take i) ++ rowsV (l.drop i) := by rw [← rowsV_app, List.take_append_drop]
 refine (hb.cell (p := ⟨b, o + j, none⟩) hbb).trans (hc _ _ ?_)
 rw [e1, List.getElem?_append_left hlt, hj]
theorem ite_map_none {P : Prop} [Decidable P] {A : Option Addr} {f : Addr → Addr} (e : (if P then A else Option.map f A) = none) : A = none := by
 split at e
 · exact e
 · simpa using e
end Go.Proofs.Ytkcbgiegoadkbaa
namespace Go.Proofs.Ytkcbgiegoadkbaa
open Go.RowKit
set_option linter.unusedVariables false
set_option linter.unusedSimpArgs false
def runStep (q : Sch4 × Nat) (x : R3) : Sch4 × Nat := match stepS q.1.1 q.1.2.2.1 q.1.2.2.2 q.1.2.1 x.a x.b x.c with | none => q | some s => (s, q.2 + 1)
def runTo (q0 : Sch4) (xs : List R3) (k : Nat) : Sch4 × Nat := (xs.take k).foldl runStep (q0, 0)
theorem runTo_zero (q0 : Sch4) (xs : List R3) : runTo q0 xs 0 = (q0, 0) := by simp [runTo]
theorem runTo_succ {q0 : Sch4} {xs : List R3} {k : Nat} {x : R3} (h : xs[k]? = some x) : runTo q0 xs (k + 1) = runStep (runTo q0 xs k) x := by
 unfold runTo
 rw [List.take_add_one, h, List.foldl_append]
 rfl
def schQ (q : Sch4) : Bool := schB q.1 q.2.1 q.2.2.1 q.2.2.2
theorem stepS_ok {day pa le : Int} {l : List R5} {k id v : Int} {s : Sch4} (h : stepS day pa le l k id v = some s) : schQ s = true := by
 unfold stepS at h
 rcases ht : tryS day pa le l k id v with _ | q
 · rw [ht] at h; cases h
 · rw [ht, Option.filter_some] at h
   split at h
   · rename_i hs; injection h with h; rw [← h]; exact hs
   · cases h
theorem runStep_ok {q : Sch4 × Nat} (h : schQ q.1 = true) (x : R3) : schQ (runStep q x).1 = true := by
 unfold runStep
 rcases hs : stepS q.1.1 q.1.2.2.1 q.1.2.2.2 q.1.2.1 x.a x.b x.c with _ | s
 · exact h
 · exact stepS_ok hs
theorem runTo_ok {q0 : Sch4} (h : schQ q0 = true) (xs : List R3) : ∀ k, k ≤ xs.length → schQ (runTo q0 xs k).1 = true ∧ (runTo q0 xs k).2 ≤ k := by
 intro k
 induction k with
 | zero => intro _; rw [runTo_zero]; exact ⟨h, Nat.le_refl _⟩
 | succ k ih =>
   intro hk
   obtain ⟨x, hx⟩ := list_split (l := xs) (k := k) (by omega)
   obtain ⟨h1, h2⟩ := ih (by omega)
   rw [runTo_succ hx]
   refine ⟨runStep_ok h1 x, ?_⟩
   unfold runStep
   split
   · omega
   · simp only []; omega
theorem run_no {q0 : Sch4} {xs : List R3} {k m : Nat} {x : R3} {d p q : Int} {L : List R5} (h : runTo q0 xs k = ((d, L, p, q), m)) (hx : xs[k]? = some x) (hs : stepS d p q L x.a x.b x.c = none) : runTo q0 xs (k + 1) = ((d, L, p, q), m) := by
 rw [runTo_succ hx, h]
 simp only [runStep, hs]
theorem run_yes {q0 : Sch4} {xs : List R3} {k m : Nat} {x : R3} {d p q : Int} {L : List R5} {s : Sch4} (h : runTo q0 xs k = ((d, L, p, q), m)) (hx : xs[k]? = some x) (hs : stepS d p q L x.a x.b x.c = some s) : runTo q0 xs (k + 1) = (s, m + 1) := by
 rw [runTo_succ hx, h]
 simp only [runStep, hs]
theorem run_ok {q0 : Sch4} {xs : List R3} {k m : Nat} {d p q : Int} {L : List R5} (h : runTo q0 xs k = ((d, L, p, q), m)) (h0 : schQ q0 = true) (hk : k ≤ xs.length) : schB d L p q = true ∧ m ≤ k := by
 have := runTo_ok h0 xs k hk
 rw [h] at this
 exact this
/-- what RunSchool answers -/
def runB (q0 : Sch4) (xs : List R3) : Option (Sch4 × Nat) := if schQ q0 = true ∧ xs.length ≤ 40 then some (runTo q0 xs xs.length) else none
/-- a school of the call's own, a number and a bool come back, whatever the answer -/
def rD (o : Option (Sch4 × Nat)) : Int := match o with | none => 0 | some ((d, _, _, _), _) => d
def rL (o : Option (Sch4 × Nat)) : List R5 := match o with | none => [] | some ((_, l, _, _), _) => l
def rP (o : Option (Sch4 × Nat)) : Int := match o with | none => 0 | some ((_, _, p, _), _) => p
def rQ (o : Option (Sch4 × Nat)) : Int := match o with | none => 0 | some ((_, _, _, q), _) => q
def rM (o : Option (Sch4 × Nat)) : Int := match o with | none => 0 | some (_, m) => m
def RetRun (D P Q M : Int) (N : Nat) (L : List R5) (ok : Bool) (w : World) (e : Ending) (w' : World) : Prop :=
 ∃ A c, e = .returned (.tuple #[schV D A N c P Q, .int .i64 M, .bool ok]) ∧ w'.ownsRow w.heap.size 55 5 (.slice A N c) N (rowsV L) ∧ Below w.heap.size w w'
theorem rL_len (q0 : Sch4) (xs : List R3) : (rL (runB q0 xs)).length ≤ 8 := by
 unfold runB
 split
 · rename_i h
   obtain ⟨h1, _⟩ := runTo_ok h.1 xs xs.length (Nat.le_refl _)
   exact schB_len h1
 · simp [rL]
end Go.Proofs.Ytkcbgiegoadkbaa
namespace Go.Proofs.Ytkcbgiegoadkbaa
open Go.RowKit
set_option linter.unusedVariables false
set_option linter.unusedSimpArgs false
theorem own_some_ne {w w' : World} {E size n g : Nat} {v : Value} {xs : List Value} (h : w'.ownsRow w.heap.size E size v n xs) (hg : g < w.heap.size) : v.ownBlock ≠ some g := fun e => by have := (h.lt g e).1; omega
set_option maxRecDepth 100000 in
set_option maxHeartbeats 4000000 in
theorem implRun_any (day pa le : Int) (A : Option Addr) (n c : Nat) (l : List R5) (B : Option Addr) (m cb : Nat) (xs : List R3) (w : World) (hn : n ≤ 1048576) (hm : m ≤ 1048576) (hA : SlOk A n c) (h : Reads w w.heap.size 5 A n (rowsV l)) (hx : Reads w w.heap.size 3 B m (rowsV3 xs)) (hv : ∀ x ∈ xs, x.c ≤ 9223372036854775807) :
 Calls Try.prog 13 #[schV day A n c pa le, .slice B m cb] w fun e w' => ∃ o, runB (day, l, pa, le) xs = o ∧ RetRun (rD o) (rP o) (rQ o) (rM o) (rL o).length (rL o) o.isSome w e w' := by
 have HI := Lib.hid (fun (w : World) h => isSchool_any day pa le A n c l w hn h)
 have HO := Lib.hid (fun (w : World) h => own_any day pa le A n c l w hn hA h)
 have hxl := rows_len3 hx
 have hll := rows_len h
 have H := Lib.hid h
 have HX := Lib.hid hx
 have HXL := Lib.hid hxl
 clear h hx
 rcases hs : schB day l pa le with _ | _
 · rw [hs] at HI
   have hB : runB (day, l, pa, le) xs = none := by unfold runB; rw [if_neg (by simp [schQ, hs])]
   have HB := Lib.hid hB
   clear hs hB hxl hll
   go_enter Try.func13, Try.ntmps13
   go_wp2_with fail
   refine (HI.out _ ((H.out.ext (ext_alloc (ext_alloc (ext_refl _) _) _) (Nat.le_refl _)).more (by simp; omega))).mono ?_
   rintro e w1 ⟨rfl, hb1⟩
   obtain ⟨hc1, hf1⟩ := bcell hb1
   have z0 : w.heap.size + 1 < w1.heap.size := by (have := hb1.size; simp at this; omega)
   have b1 := Lib.hid (ext_trans (ext_alloc (ext_alloc (ext_refl w) _) _) hb1)
   clear hb1
   go_wp2
   refine bodyPost_ret (v := .tuple #[schV 0 none 0 0 0 0, .int .i64 0, .bool false]) (by simp [results, Try.results13, go_sem, *]) rfl ?_
   refine ⟨_, HB.out, none, 0, rfl, World.ownsRow_nil _ _ _ _, ?_⟩
   repeat (first | (with_reducible exact b1.out) | (with_reducible refine ext_set ?_ (by simp <;> omega) _))
 rw [hs] at HI
 by_cases hm40 : 40 < m
 · have hB : runB (day, l, pa, le) xs = none := by unfold runB; rw [if_neg (by omega)]
   have HB := Lib.hid hB
   have hm1 : (40 : Int) < (m : Int) := by omega
   clear hs hB hxl hll
   go_enter Try.func13, Try.ntmps13
   go_wp2_with fail
   refine (HI.out _ ((H.out.ext (ext_alloc (ext_alloc (ext_refl _) _) _) (Nat.le_refl _)).more (by simp; omega))).mono ?_
   rintro e w1 ⟨rfl, hb1⟩
   obtain ⟨hc1, hf1⟩ := bcell hb1
   have z0 : w.heap.size + 1 < w1.heap.size := by (have := hb1.size; simp at this; omega)
   have b1 := Lib.hid (ext_trans (ext_alloc (ext_alloc (ext_refl w) _) _) hb1)
   clear hb1
   go_wp2
   refine bodyPost_ret (v := .tuple #[schV 0 none 0 0 0 0, .int .i64 0, .bool false]) (by simp [results, Try.results13, go_sem, *]) rfl ?_
   refine ⟨_, HB.out, none, 0, rfl, World.ownsRow_nil _ _ _ _, ?_⟩
   repeat (first | (with_reducible exact b1.out) | (with_reducible refine ext_set ?_ (by simp <;> omega) _))
 have hm2 : ¬ (40 : Int) < (m : Int) := by omega
 have hq0 : schQ (day, l, pa, le) = true := hs
 have HB := Lib.hid (show runB (day, l, pa, le) xs = some (runTo (day, l, pa, le) xs m) by unfold runB; rw [if_pos ⟨hq0, by omega⟩, hxl])
 have HQ0 := Lib.hid hq0
 clear hs hxl hll hq0
 go_enter Try.func13, Try.ntmps13
 go_wp2_with fail
 refine (HI.out _ ((H.out.ext (ext_alloc (ext_alloc (ext_refl _) _) _) (Nat.le_refl _)).more (by simp; omega))).mono ?_
 rintro e w1 ⟨rfl, hb1⟩
 obtain ⟨hc1, hf1⟩ := bcell hb1
 have z0 : w.heap.size + 1 < w1.heap.size := by (have := hb1.size; simp at this; omega)
 have z1 : w.heap.size < w1.heap.size := by omega
 have b1 := Lib.hid (ext_trans (ext_alloc (ext_alloc (ext_refl w) _) _) hb1)
 have BR := Lib.hid (((Blk.new (w.alloc (.cells #[.int .i64 day, .slice A n c, .int .i64 pa, .int .i64 le] 26)) #[.int .i64 0, .slice none 0 0, .int .i64 0, .int .i64 0] 26).ext hb1))
 clear hb1
 go_wp2_with fail
 refine (HO.out _ ((H.out.ext b1.out (Nat.le_refl _)).more (by omega))).mono ?_
 rintro e w2 ⟨A2, c2, rfl, ho2, hb2⟩
 have z2 : w1.heap.size ≤ w2.heap.size := hb2.size
 have BR2 : Blk w2 (w.heap.size + 1) 26 #[.int .i64 0, .slice none 0 0, .int .i64 0, .int .i64 0] := by simpa using BR.out.ext hb2
 have BR2 := Lib.hid BR2
 have HLL : l.length = n := rows_len H.out
 subst HLL
 have b2 := Lib.hid (ext_trans b1.out hb2)
 have O2 := Lib.hid ho2
 clear hb2 ho2 hc1 hf1
 go_wp2_with fail
 go_loopw [8, 26] (fun cnt i wr => ∃ (k : Nat) (A' : Option Addr) (c' M : Nat) (d p q : Int) (L : List R5), k ≤ m ∧ i = .int .i64 k ∧ cnt = .int .i64 M ∧ Hid (runTo (day, l, pa, le) xs k = ((d, L, p, q), M)) ∧ Hid (Blk wr w2.heap.size 26 #[.int .i64 d, .slice A' L.length c', .int .i64 p, .int .i64 q]) ∧ Hid (Blk wr (w.heap.size + 1) 26 #[.int .i64 0, .slice none 0 0, .int .i64 0, .int .i64 0]) ∧ Hid (wr.ownsRow w1.heap.size 55 5 (.slice A' L.length c') L.length (rowsV L)) ∧ Hid (Below w.heap.size w wr)) (fun _ i _ => m - (intOf i).toNat)
 case atStart => exact ⟨0, A2, c2, 0, day, pa, le, l, Nat.zero_le _, rfl, rfl, Lib.hid (runTo_zero _ _), Lib.hid (Blk.new _ _ _), Lib.hid (BR2.out.ext (ext_alloc (ext_refl _) _)), Lib.hid (O2.out.alloc _), Lib.hid (ext_alloc b2.out _)⟩
 case round =>
  obtain ⟨k, A', c', M, d, p, q, L, hk, rfl, rfl, HR, HG, HZ, HO', HBB⟩ := hrel
  obtain ⟨hsch, hMk⟩ := run_ok HR.out HQ0.out (by rw [HXL.out]; exact hk)
  have hL8 := schB_len hsch
  have sG := HG.out.lt
  have sB := HBB.out.size
  by_cases hlt : k < m
  · obtain ⟨x, hx⟩ := list_split (l := xs) (k := k) (by rw [HXL.out]; exact hlt)
    obtain ⟨b, o, rfl, hb, e0, e1, e2⟩ := rows_at3 (HX.out.ext HBB.out (Nat.le_refl _)) hx
    have HS1 := Lib.hid (fun (w : World) h => stepped_any d p q x.a x.b x.c A' L.length c' L w (slOk_own HO'.out) h hsch (hv x (List.mem_of_getElem? hx)))
    obtain ⟨O, hO⟩ : ∃ O, stepS d p q L x.a x.b x.c = O := ⟨_, rfl⟩
    rw [hO] at HS1
    have HOO := Lib.hid hO
    have HXK := Lib.hid hx
    clear hO hx hsch
    obtain ⟨g0, g1, g2, g3⟩ := HG.out.q4
    go_wp2_with fail
    refine (HS1.out _ (Reads.of_own (HO'.out.alloc _))).mono ?_
    clear HS1
    rcases O with _ | ⟨D, L2, P, Q⟩
    · rintro e w3 ⟨rfl, hb3⟩
      have hb4 := Lib.hid (ext_trans (ext_alloc (ext_refl wr) _) hb3)
      have hnx := Lib.hid (run_no HR.out HXK.out HOO.out)
      clear hb3 g0 g1 g2 g3 e0 e1 e2 HR
      go_wp2
      go_roundw
      case rel => exact ⟨k + 1, A', c', M, d, p, q, L, by omega, by go_num, rfl, hnx, Lib.hid (HG.out.ext (ext_alloc hb4.out _)), Lib.hid (HZ.out.ext (ext_alloc hb4.out _)), Lib.hid (own_ext HO'.out (ext_alloc hb4.out _)), Lib.hid (ext_trans HBB.out (ext_alloc hb4.out _))⟩
      case measure => simp [intOf]; omega
    · rintro e w3 ⟨A3, c3, rfl, ho3, hb3⟩
      have hb4 := Lib.hid (ext_trans (ext_alloc (ext_refl wr) _) hb3)
      have z3 : wr.heap.size < w3.heap.size := by (have := hb3.size; simp at this; omega)
      have ho4 := Lib.hid (own_base (base' := w1.heap.size) ho3 (by simp; omega))
      have hne : Value.ownBlock (.slice A3 L2.length c3) ≠ some w2.heap.size := own_far_lt (B := wr.heap.size + 1) (by simpa using ho3) (by omega)
      have HNE := Lib.hid hne
      have hnx := Lib.hid (run_yes HR.out HXK.out HOO.out)
      clear hb3 ho3 hne g0 g1 g2 g3 e0 e1 e2 HR
      have G4 := Lib.hid (HG.out.ext hb4.out)
      have Z4 := Lib.hid (HZ.out.ext hb4.out)
      have B4 := Lib.hid (ext_trans HBB.out hb4.out)
      obtain ⟨g0, g1, g2, g3⟩ := G4.out.q4
      obtain ⟨f0, f1, f2, f3⟩ := G4.out.z4
      have s3 : w2.heap.size < w3.heap.size := by omega
      have GS : Hid (Blk ((((w3.setCell ⟨w2.heap.size, 0, none⟩ (.int .i64 D)).setCell ⟨w2.heap.size, 1, none⟩ (.slice A3 L2.length c3)).setCell ⟨w2.heap.size, 2, none⟩ (.int .i64 P)).setCell ⟨w2.heap.size, 3, none⟩ (.int .i64 Q)) w2.heap.size 26 #[.int .i64 D, .slice A3 L2.length c3, .int .i64 P, .int .i64 Q]) := Lib.hid (by
       have := (((G4.out.set_ 0 (.int .i64 D)).set_ 1 (.slice A3 L2.length c3)).set_ 2 (.int .i64 P)).set_ 3 (.int .i64 Q)
       simpa using this)
      have ZS : Hid (Blk ((((w3.setCell ⟨w2.heap.size, 0, none⟩ (.int .i64 D)).setCell ⟨w2.heap.size, 1, none⟩ (.slice A3 L2.length c3)).setCell ⟨w2.heap.size, 2, none⟩ (.int .i64 P)).setCell ⟨w2.heap.size, 3, none⟩ (.int .i64 Q)) (w.heap.size + 1) 26 #[.int .i64 0, .slice none 0 0, .int .i64 0, .int .i64 0]) := Lib.hid (by
       iterate 4 refine Blk.set_far ?_ (by show w2.heap.size ≠ w.heap.size + 1; omega) _
       exact Z4.out)
      have OS : Hid (((((w3.setCell ⟨w2.heap.size, 0, none⟩ (.int .i64 D)).setCell ⟨w2.heap.size, 1, none⟩ (.slice A3 L2.length c3)).setCell ⟨w2.heap.size, 2, none⟩ (.int .i64 P)).setCell ⟨w2.heap.size, 3, none⟩ (.int .i64 Q)).ownsRow w1.heap.size 55 5 (.slice A3 L2.length c3) L2.length (rowsV L2)) := Lib.hid (by
       iterate 4 refine own_set_nb ?_ HNE.out _
       exact ho4.out)
      have BS : Hid (Below w.heap.size w ((((w3.setCell ⟨w2.heap.size, 0, none⟩ (.int .i64 D)).setCell ⟨w2.heap.size, 1, none⟩ (.slice A3 L2.length c3)).setCell ⟨w2.heap.size, 2, none⟩ (.int .i64 P)).setCell ⟨w2.heap.size, 3, none⟩ (.int .i64 Q))) := Lib.hid (by
       iterate 4 refine ext_set ?_ (by show w.heap.size ≤ w2.heap.size; omega) _
       exact B4.out)
      go_wp2
      go_roundw
      case rel =>
       refine ⟨k + 1, A3, c3, M + 1, D, P, Q, L2, by omega, by go_num, by go_num, hnx, ?_, ?_, ?_, ?_⟩
       · exact Lib.hid (GS.out.ext (ext_alloc (ext_refl _) _))
       · exact Lib.hid (ZS.out.ext (ext_alloc (ext_refl _) _))
       · exact Lib.hid (OS.out.alloc _)
       · exact Lib.hid (ext_alloc BS.out _)
      case measure => simp [intOf]; omega
  · obtain rfl : k = m := by omega
    have hne := own_nb HO'.out HZ.out (by decide)
    obtain ⟨g0, g1, g2, g3⟩ := HG.out.q4
    obtain ⟨y0, y1, y2, y3⟩ := HZ.out.q4
    obtain ⟨f0, f1, f2, f3⟩ := HZ.out.z4
    have sZ := HZ.out.lt
    have hB2 := Lib.hid (show runB (day, l, pa, le) xs = some ((d, L, p, q), M) by rw [HB.out, HR.out])
    have HNE := Lib.hid hne
    clear hsch hne
    go_wp2
    refine bodyPost_ret (v := .tuple #[schV d A' L.length c' p q, .int .i64 (M : Int), .bool true]) (by simp [results, Try.results13, go_sem, *]) rfl ?_
    refine ⟨_, hB2.out, A', c', rfl, ?_, ?_⟩
    · iterate 4 refine own_set_nb ?_ HNE.out _
      exact own_base HO'.out (by omega)
    · iterate 4 refine ext_set ?_ (by show w.heap.size ≤ w.heap.size + 1; omega) _
      exact HBB.out
end Go.Proofs.Ytkcbgiegoadkbaa
