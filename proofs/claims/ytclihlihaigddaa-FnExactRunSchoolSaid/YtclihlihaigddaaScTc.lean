
/- taught: paying, leaving. -/
import Derived.Test.YtclihlihaigddaaScTa
namespace Go.Proofs.Ytclihlihaigddaa
open Go.RowKit
set_option linter.unusedVariables false
set_option linter.unusedSimpArgs false
set_option maxHeartbeats 2000000 in
theorem taught_5 (day pa le id v : Int) (g n c base i : Nat) (l : List R5) (r : R5) (w : World) (h : w.ownsRow base 109 5 (.slice (some ⟨g, 0, none⟩) n c) n (rowsV l)) (hr : l[i]? = some r) (hs : stuB r = true) (hday : 0 ≤ day ∧ day ≤ 4000) (hpa : 0 ≤ pa ∧ pa ≤ 9999) (hlf : 0 ≤ le ∧ le ≤ 9999) (hg : g < w.heap.size) (hn : n ≤ 8) :
    Calls Try.prog 155 #[schV day (some ⟨g, 0, none⟩) n c pa le, .agg #[.int .i64 5, .int .i64 id, .int .i64 v], .int .i64 i] w (RetT (teach day pa le l i r 5 v) day base (some ⟨g, 0, none⟩) n c w) := by
  obtain ⟨c0, c1, c2, c3, c4⟩ := own_cells h hr
  obtain ⟨q1, q2, q3, q4, q5⟩ := stu_bounds hs
  have hi : i < n := by have := rows_len (Reads.of_own h); have := (List.getElem?_eq_some_iff.1 hr).1; omega
  have f1 := frozen_alloc3 hg (h.frozenAt (i * 5 + 1))
  have f2 := frozen_alloc3 hg (h.frozenAt (i * 5 + 2))
  have f3 := frozen_alloc3 hg (h.frozenAt (i * 5 + 3))
  have f4 := frozen_alloc3 hg (h.frozenAt (i * 5 + 4))
  have c0 := cell_alloc3 c0
  have c1 := cell_alloc3 c1
  have c2 := cell_alloc3 c2
  have c3 := cell_alloc3 c3
  have c4 := cell_alloc3 c4
  have H := Lib.hid h
  have HR := Lib.hid hr
  clear h hr
  have hin : (i : Int) < n := by omega
  have hg3 : g < w.heap.size + 1 + 1 + 1 := by omega
  have hn0 : g ≠ w.heap.size := by omega
  have hle : g ≤ w.heap.size + 1 + 1 := by omega
  have hn1 : g ≠ w.heap.size + 1 := by omega
  have hn2 : g ≠ w.heap.size + 1 + 1 := by omega
  have q4a := q4.1
  rcases hv : inB v 1 365 with _ | _
  · rw [show teach day pa le l i r 5 v = none from by simp [teach, hv]]
    have HC := Lib.hid (inB_within v 1 365)
    rw [hv] at HC
    clear hv
    go_enter Try.func155, Try.ntmps155
    go_wp2_with (go_at_call 123; refine (HC.out _).mono ?_; rintro e w' ⟨rfl, rfl⟩)
    go_wp2
    refine bodyPost_ret (v := .tuple #[schV 0 none 0 0 0 0, .bool false]) (by simp [results, Try.results155, go_sem, *]) rfl ⟨rfl, (by repeat (first | exact ext_refl _ | exact HB.out | assumption | refine ext_alloc ?_ _ | refine ext_set ?_ (by simp <;> omega) _ | refine ext_trans ?_ (by assumption)))⟩
  have HC := Lib.hid (inB_within v 1 365)
  rw [hv] at HC
  obtain ⟨hv0, hv1⟩ := inB_iff.1 hv
  have hx : ∀ M : Int, M = (if day < r.d then r.d else day) → teach day pa le l i r 5 v = some (l.set i ⟨r.a, r.b, r.c, M + v, r.e⟩, pa, le) := fun M hM => by simp [teach, hv, hM]
  by_cases hmx : day ≤ r.d
  · rw [hx r.d (by split <;> omega)]
    clear hv hx
    go_enter Try.func155, Try.ntmps155
    go_wp2_with (go_at_call 123; refine (HC.out _).mono ?_; rintro e w' ⟨rfl, rfl⟩)
    (refine wp_region_later_tail 13 (by kernel_rfl) (by kernel_rfl) ?_; simp only [List.take_succ_cons, List.take_zero, List.drop_succ_cons, List.drop_zero]; (repeat (go_big_quiet_step (fail))); refine wpQuiet_nil ?_; intro w1 hw1; obtain ⟨⟨wl, hbL⟩, hw1'⟩ := hw1; simp only at hw1'; subst hw1'; obtain ⟨hcL, hfL⟩ := bcell hbL)
    go_wp2
    have hL : (l.set i ⟨r.a, r.b, r.c, r.d + v, r.e⟩).length = n := by rw [List.length_set]; exact rows_len (Reads.of_own H.out)
    refine bodyPost_ret (v := .tuple #[schV day (some ⟨g, 0, none⟩) n c pa le, .bool true]) (by simp [results, Try.results155, go_sem, *]) rfl ?_
    unfold RetT
    dsimp only
    rw [hL]
    refine ⟨rfl, ?_, ?_⟩
    · rw [rows_setd HR.out]
      iterate 4 refine own_set_ne ?_ (by show _ ≠ g; simp <;> omega) _
      exact ((own_ext H.out (ext_trans (ext_alloc (ext_alloc (ext_alloc (ext_refl w) _) _) _) hbL)).stored _ _).1
    · repeat refine only_setCell ?_ (by first | exact .inl rfl | (right; simp <;> omega)) _
      exact Gr.of_ext (ext_trans (ext_alloc (ext_alloc (ext_alloc (ext_refl w) _) _) _) hbL)
  · rw [hx day (by split <;> omega)]
    clear hv hx
    go_enter Try.func155, Try.ntmps155
    go_wp2_with (go_at_call 123; refine (HC.out _).mono ?_; rintro e w' ⟨rfl, rfl⟩)
    (refine wp_region_later_tail 13 (by kernel_rfl) (by kernel_rfl) ?_; simp only [List.take_succ_cons, List.take_zero, List.drop_succ_cons, List.drop_zero]; (repeat (go_big_quiet_step (fail))); refine wpQuiet_nil ?_; intro w1 hw1; obtain ⟨⟨wl, hbL⟩, hw1'⟩ := hw1; simp only at hw1'; subst hw1'; obtain ⟨hcL, hfL⟩ := bcell hbL)
    go_wp2
    have hL : (l.set i ⟨r.a, r.b, r.c, day + v, r.e⟩).length = n := by rw [List.length_set]; exact rows_len (Reads.of_own H.out)
    refine bodyPost_ret (v := .tuple #[schV day (some ⟨g, 0, none⟩) n c pa le, .bool true]) (by simp [results, Try.results155, go_sem, *]) rfl ?_
    unfold RetT
    dsimp only
    rw [hL]
    refine ⟨rfl, ?_, ?_⟩
    · rw [rows_setd HR.out]
      iterate 4 refine own_set_ne ?_ (by show _ ≠ g; simp <;> omega) _
      exact ((own_ext H.out (ext_trans (ext_alloc (ext_alloc (ext_alloc (ext_refl w) _) _) _) hbL)).stored _ _).1
    · repeat refine only_setCell ?_ (by first | exact .inl rfl | (right; simp <;> omega)) _
      exact Gr.of_ext (ext_trans (ext_alloc (ext_alloc (ext_alloc (ext_refl w) _) _) _) hbL)
end Go.Proofs.Ytclihlihaigddaa
