
/- The reference's parts of a step: passes, change. -/
import Derived.Test.YtclihlihaigddaaScSg
namespace Go.Proofs.Ytclihlihaigddaa
open Go.RowKit
set_option linter.unusedVariables false
set_option linter.unusedSimpArgs false
theorem most_any (a b : Int) (w : World) : Calls Try.prog 131 #[.int .i64 a, .int .i64 b] w fun e w' => e = .returned (.int .i64 (if b < a then a else b)) ∧ w = w' := by
  by_cases h : b < a
  · rw [if_pos h]
    go_enter Try.func131, Try.ntmps131
    go_wp2
    go_ret
    exact ⟨rfl, rfl⟩
  · rw [if_neg h]
    go_enter Try.func131, Try.ntmps131
    go_wp2
    go_ret
    exact ⟨rfl, rfl⟩
theorem l25Wanted_any (z : Int) (w : World) (h0 : 0 ≤ z) (h1 : z ≤ 1000) : Calls Try.prog 132 #[.int .i64 z] w fun e w' => e = .returned (.int .i64 (10 + 5 * z)) ∧ w = w' := by
  go_enter Try.func132, Try.ntmps132
  go_wp2
  go_ret
  exact ⟨rfl, rfl⟩
def passB (r : R5) (v : Int) : Bool := decide (70 ≤ v) && decide (10 + 5 * r.b ≤ r.c)
theorem l25Passes_any (r : R5) (v : Int) (w : World) (h0 : 0 ≤ r.b) (h1 : r.b ≤ 10) : Calls Try.prog 129 #[r.val, .int .i64 v] w fun e w' => e = .returned (.bool (passB r v)) ∧ Below w.heap.size w w' := by
  by_cases h70 : 70 ≤ v
  · have h70' : decide (70 ≤ v) = true := by simpa using h70
    rw [show passB r v = decide (10 + 5 * r.b ≤ r.c) from by simp [passB, h70]]
    go_enter Try.func129, Try.ntmps129
    go_wp2
    (refine wp_region_later (by kernel_rfl) (by kernel_rfl) ?_; (repeat (go_big_quiet_step ((go_at_call 132; exact Calls.later_same (l25Wanted_any _ _ (by omega) (by omega)))))); refine wpQuiet_nil ?_; intro w1 hw1; obtain ⟨⟨wl, hbL⟩, hw1'⟩ := hw1; simp only at hw1'; subst hw1'; obtain ⟨hcL, hfL⟩ := bcell hbL)
    go_wp2
    go_ret
    exact ⟨rfl, ext_trans (ext_alloc (ext_refl _) _) hbL⟩
  · have h70' : decide (70 ≤ v) = false := by simpa using h70
    rw [show passB r v = false from by simp [passB, h70]]
    go_enter Try.func129, Try.ntmps129
    go_wp2
    (refine wp_region_later (by kernel_rfl) (by kernel_rfl) ?_; (repeat (go_big_quiet_step (fail))); refine wpQuiet_nil ?_; intro w1 hw1; obtain ⟨⟨wl, hbL⟩, hw1'⟩ := hw1; simp only at hw1'; subst hw1'; obtain ⟨hcL, hfL⟩ := bcell hbL)
    go_wp2
    go_ret
    exact ⟨rfl, ext_trans (ext_alloc (ext_refl _) _) hbL⟩
/-- a student's change, and whether it is possible -/
def chgR (r : R5) (k v day : Int) : R5 :=
  if k = 5 then ⟨r.a, r.b, r.c, (if day < r.d then r.d else day) + v, r.e⟩ else if k = 3 then ⟨r.a, r.b, r.c + v, r.d, r.e⟩ else if passB r v = true then ⟨r.a, r.b + 1, 0, r.d, 0⟩ else ⟨r.a, r.b, r.c, r.d, r.e + 1⟩
def chgB (r : R5) (k day : Int) : Bool := if k = 5 then true else if k = 3 then decide (day ≤ r.d) else decide (day ≤ r.d) && decide (r.b < 10)
set_option maxHeartbeats 1000000 in
theorem l25Change_5 (r : R5) (id v day : Int) (w : World) (hs : stuB r = true) (hd : 0 ≤ day ∧ day ≤ 4000) (hv : 1 ≤ v ∧ v ≤ 365) :
    Calls Try.prog 152 #[r.val, .agg #[.int .i64 5, .int .i64 id, .int .i64 v], .int .i64 day] w fun e w' => e = .returned (.tuple #[(chgR r 5 v day).val, .bool (chgB r 5 day)]) ∧ Below w.heap.size w w' := by
  obtain ⟨q1, q2, q3, q4, q5⟩ := stu_bounds hs
  obtain ⟨M, hM⟩ : ∃ M, M = (if day < r.d then r.d else day) := ⟨_, rfl⟩
  have hM0 : 0 ≤ M ∧ M ≤ 4365 := by rw [hM]; split <;> omega
  have HM := Lib.hid (most_any r.d day)
  rw [← hM] at HM
  rw [show chgR r 5 v day = ⟨r.a, r.b, r.c, M + v, r.e⟩ from by simp [chgR, hM], show chgB r 5 day = true from by simp [chgB]]
  clear hM
  go_enter Try.func152, Try.ntmps152
  go_wp2
  (refine wp_region_later_tail 8 (by kernel_rfl) (by kernel_rfl) ?_; simp only [List.take_succ_cons, List.take_zero, List.drop_succ_cons, List.drop_zero]; (repeat (go_big_quiet_step (first | (go_at_call 131; exact Calls.later_same (HM.out _))))); refine wpQuiet_nil ?_; intro w1 hw1; obtain ⟨⟨wl, hbL⟩, hw1'⟩ := hw1; simp only at hw1'; subst hw1'; obtain ⟨hcL, hfL⟩ := bcell hbL)
  have z0 : w.heap.size + 1 + 1 + 1 < w1.heap.size := by (have := hbL.size; simp at this; omega)
  have z1 : w.heap.size + 1 + 1 < w1.heap.size := by omega
  go_wp2
  refine bodyPost_ret (v := .tuple #[.agg #[.int .i64 r.a, .int .i64 r.b, .int .i64 r.c, .int .i64 (M + v), .int .i64 r.e], .bool true]) (by simp [results, Try.results152, go_sem, *]) rfl ⟨rfl, ?_⟩
  repeat (first | (with_reducible refine ext_set ?_ (by simp <;> omega) _) | exact ext_trans (ext_alloc (ext_alloc (ext_alloc (ext_alloc (ext_refl _) _) _) _) _) hbL)
set_option maxHeartbeats 2000000 in
theorem l25Change_3 (r : R5) (id v day : Int) (w : World) (hs : stuB r = true) (hd : 0 ≤ day ∧ day ≤ 4000) (hv : 0 ≤ v ∧ v ≤ 365) :
    Calls Try.prog 152 #[r.val, .agg #[.int .i64 3, .int .i64 id, .int .i64 v], .int .i64 day] w fun e w' => e = .returned (.tuple #[(chgR r 3 v day).val, .bool (chgB r 3 day)]) ∧ Below w.heap.size w w' := by
  obtain ⟨q1, q2, q3, q4, q5⟩ := stu_bounds hs
  rw [show chgR r 3 v day = ⟨r.a, r.b, r.c + v, r.d, r.e⟩ from by simp [chgR], show chgB r 3 day = decide (day ≤ r.d) from by simp [chgB]]
  go_enter Try.func152, Try.ntmps152
  go_wp2
  go_region
  go_wp2
  refine bodyPost_ret (v := .tuple #[.agg #[.int .i64 r.a, .int .i64 r.b, .int .i64 (r.c + v), .int .i64 r.d, .int .i64 r.e], .bool (decide (day ≤ r.d))]) (by simp [results, Try.results152, go_sem, *]) rfl ⟨rfl, ?_⟩
  repeat (first | (with_reducible refine ext_set ?_ (by simp <;> omega) _) | (with_reducible refine ext_drew ?_) | exact ext_alloc (ext_alloc (ext_alloc (ext_alloc (ext_refl _) _) _) _) _)
set_option maxHeartbeats 2000000 in
theorem l25Change_4 (r : R5) (id v day : Int) (w : World) (hs : stuB r = true) (hd : 0 ≤ day ∧ day ≤ 4000) (hv : 0 ≤ v ∧ v ≤ 365) :
    Calls Try.prog 152 #[r.val, .agg #[.int .i64 4, .int .i64 id, .int .i64 v], .int .i64 day] w fun e w' => e = .returned (.tuple #[(chgR r 4 v day).val, .bool (chgB r 4 day)]) ∧ Below w.heap.size w w' := by
  obtain ⟨q1, q2, q3, q4, q5⟩ := stu_bounds hs
  have HP := Lib.hid (fun w => l25Passes_any r v w (by omega) (by omega))
  obtain ⟨R, hR⟩ : ∃ R, R = chgR r 4 v day := ⟨_, rfl⟩
  have hpb : (passB r v = true ∧ R = ⟨r.a, r.b + 1, 0, r.d, 0⟩) ∨ (passB r v = false ∧ R = ⟨r.a, r.b, r.c, r.d, r.e + 1⟩) := by
    rw [hR]
    rcases h : passB r v with _ | _
    · right; simp [chgR, h]
    · left; simp [chgR, h]
  rw [← hR]
  clear hR
  by_cases hdr : day ≤ r.d
  · have hdr' : decide (day ≤ r.d) = true := by simpa using hdr
    rw [show chgB r 4 day = decide (r.b < 10) from by simp [chgB, hdr]]
    rcases hpb with ⟨h1, rfl⟩ | ⟨h1, rfl⟩
    all_goals
      rw [h1] at HP
      clear h1
      go_enter Try.func152, Try.ntmps152
      go_wp2_with fail
      refine (HP.out _).mono ?_
      rintro e w2 ⟨rfl, hb2⟩
      obtain ⟨hc2, hf2⟩ := bcell hb2
      have y0 : w.heap.size + 1 + 1 + 1 < w2.heap.size := by (have := hb2.size; simp at this; omega)
      have y1 : w.heap.size + 1 + 1 < w2.heap.size := by omega
      have y2 : w.heap.size + 1 < w2.heap.size := by omega
      have y3 : w.heap.size < w2.heap.size := by omega
      have b2 := Lib.hid (ext_trans (ext_alloc (ext_alloc (ext_alloc (ext_alloc (ext_refl w) _) _) _) _) hb2)
      clear hb2
      go_wp2
      go_region
      go_wp2
    · refine bodyPost_ret (v := .tuple #[.agg #[.int .i64 r.a, .int .i64 (r.b + 1), .int .i64 0, .int .i64 r.d, .int .i64 0], .bool (decide (r.b < 10))]) (by simp [results, Try.results152, go_sem, *]) rfl ⟨rfl, ?_⟩
      repeat (first | (with_reducible refine ext_set ?_ (by simp <;> omega) _) | (with_reducible refine ext_drew ?_) | (with_reducible exact b2.out))
    · refine bodyPost_ret (v := .tuple #[.agg #[.int .i64 r.a, .int .i64 r.b, .int .i64 r.c, .int .i64 r.d, .int .i64 (r.e + 1)], .bool (decide (r.b < 10))]) (by simp [results, Try.results152, go_sem, *]) rfl ⟨rfl, ?_⟩
      repeat (first | (with_reducible refine ext_set ?_ (by simp <;> omega) _) | (with_reducible refine ext_drew ?_) | (with_reducible exact b2.out))
  · have hdr' : decide (day ≤ r.d) = false := by simpa using hdr
    rw [show chgB r 4 day = false from by simp [chgB, hdr]]
    rcases hpb with ⟨h1, rfl⟩ | ⟨h1, rfl⟩
    all_goals
      rw [h1] at HP
      clear h1
      go_enter Try.func152, Try.ntmps152
      go_wp2_with fail
      refine (HP.out _).mono ?_
      rintro e w2 ⟨rfl, hb2⟩
      obtain ⟨hc2, hf2⟩ := bcell hb2
      have y0 : w.heap.size + 1 + 1 + 1 < w2.heap.size := by (have := hb2.size; simp at this; omega)
      have y1 : w.heap.size + 1 + 1 < w2.heap.size := by omega
      have y2 : w.heap.size + 1 < w2.heap.size := by omega
      have y3 : w.heap.size < w2.heap.size := by omega
      have b2 := Lib.hid (ext_trans (ext_alloc (ext_alloc (ext_alloc (ext_alloc (ext_refl w) _) _) _) _) hb2)
      clear hb2
      go_wp2
      go_region
      go_wp2
    · refine bodyPost_ret (v := .tuple #[.agg #[.int .i64 r.a, .int .i64 (r.b + 1), .int .i64 0, .int .i64 r.d, .int .i64 0], .bool (false)]) (by simp [results, Try.results152, go_sem, *]) rfl ⟨rfl, ?_⟩
      repeat (first | (with_reducible refine ext_set ?_ (by simp <;> omega) _) | (with_reducible refine ext_drew ?_) | (with_reducible exact b2.out))
    · refine bodyPost_ret (v := .tuple #[.agg #[.int .i64 r.a, .int .i64 r.b, .int .i64 r.c, .int .i64 r.d, .int .i64 (r.e + 1)], .bool (false)]) (by simp [results, Try.results152, go_sem, *]) rfl ⟨rfl, ?_⟩
      repeat (first | (with_reducible refine ext_set ?_ (by simp <;> omega) _) | (with_reducible refine ext_drew ?_) | (with_reducible exact b2.out))
end Go.Proofs.Ytclihlihaigddaa
