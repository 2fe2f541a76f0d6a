
/- taught: an exam. -/
import Derived.Test.YtclihlihaigddaaScTa
namespace Go.Proofs.Ytclihlihaigddaa
open Go.RowKit
set_option linter.unusedVariables false
set_option linter.unusedSimpArgs false
set_option maxHeartbeats 2000000 in
theorem taught_4 (day pa le id v : Int) (g n c base i : Nat) (l : List R5) (r : R5) (w : World) (h : w.ownsRow base 109 5 (.slice (some ⟨g, 0, none⟩) n c) n (rowsV l)) (hr : l[i]? = some r) (hs : stuB r = true) (hday : 0 ≤ day ∧ day ≤ 4000) (hpa : 0 ≤ pa ∧ pa ≤ 9999) (hlf : 0 ≤ le ∧ le ≤ 9999) (hg : g < w.heap.size) (hn : n ≤ 8) :
    Calls Try.prog 155 #[schV day (some ⟨g, 0, none⟩) n c pa le, .agg #[.int .i64 4, .int .i64 id, .int .i64 v], .int .i64 i] w (RetT (teach day pa le l i r 4 v) day base (some ⟨g, 0, none⟩) n c w) := by
  obtain ⟨c0, c1, c2, c3, c4⟩ := own_cells h hr
  obtain ⟨q1, q2, q3, q4, q5⟩ := stu_bounds hs
  have hi : i < n := by have := rows_len (Reads.of_own h); have := (List.getElem?_eq_some_iff.1 hr).1; omega
  have f1 := frozen_alloc3 hg (h.frozenAt (i * 5 + 1))
  have f2 := frozen_alloc3 hg (h.frozenAt (i * 5 + 2))
  have f3 := frozen_alloc3 hg (h.frozenAt (i * 5 + 3))
  have f4 := frozen_alloc3 hg (h.frozenAt (i * 5 + 4))
  have c0 := cell_alloc3 c0
  have c1 := cell_alloc3 c1
  have c2 := cell_alloc3 c2
  have c3 := cell_alloc3 c3
  have c4 := cell_alloc3 c4
  have H := Lib.hid h
  have HR := Lib.hid hr
  clear h hr
  have hin : (i : Int) < n := by omega
  have hg3 : g < w.heap.size + 1 + 1 + 1 := by omega
  have hn0 : g ≠ w.heap.size := by omega
  have hle : g ≤ w.heap.size + 1 + 1 := by omega
  have hn1 : g ≠ w.heap.size + 1 := by omega
  have hn2 : g ≠ w.heap.size + 1 + 1 := by omega
  by_cases hd : r.d < day
  · have hd' : decide (r.d < day) = true := by simpa using hd
    rw [show teach day pa le l i r 4 v = none from by simp [teach, hd]]
    go_enter Try.func155, Try.ntmps155
    go_wp2
    (refine wp_region_later (by kernel_rfl) (by kernel_rfl) ?_; (repeat (go_big_quiet_step (fail))); refine wpQuiet_nil ?_; intro w1 hw1; obtain ⟨⟨wl, hbL⟩, hw1'⟩ := hw1; simp only at hw1'; subst hw1'; obtain ⟨hcL, hfL⟩ := bcell hbL)
    have z0 : w.heap.size + 1 + 1 < w1.heap.size := by (have := hbL.size; simp at this; omega)
    have z1 : w.heap.size + 1 < w1.heap.size := by omega
    have z2 : w.heap.size < w1.heap.size := by omega
    have zg : g < w1.heap.size := by omega
    have HB := Lib.hid (ext_trans (ext_alloc (ext_alloc (ext_alloc (ext_refl w) _) _) _) hbL)
    have HBL := Lib.hid hbL
    clear hbL
    go_wp2
    refine bodyPost_ret (v := .tuple #[schV 0 none 0 0 0 0, .bool false]) (by simp [results, Try.results155, go_sem, *]) rfl ⟨rfl, (by repeat (first | exact ext_refl _ | exact HB.out | assumption | refine ext_alloc ?_ _ | refine ext_set ?_ (by simp <;> omega) _ | refine ext_trans ?_ (by assumption)))⟩
  have hd' : decide (r.d < day) = false := by simpa using hd
  by_cases hb : r.b = 10
  · have hb' : (r.b == 10) = true := by simpa using hb
    rw [show teach day pa le l i r 4 v = none from by simp [teach, hb]]
    clear hb
    go_enter Try.func155, Try.ntmps155
    go_wp2
    (refine wp_region_later (by kernel_rfl) (by kernel_rfl) ?_; (repeat (go_big_quiet_step (fail))); refine wpQuiet_nil ?_; intro w1 hw1; obtain ⟨⟨wl, hbL⟩, hw1'⟩ := hw1; simp only at hw1'; subst hw1'; obtain ⟨hcL, hfL⟩ := bcell hbL)
    have z0 : w.heap.size + 1 + 1 < w1.heap.size := by (have := hbL.size; simp at this; omega)
    have z1 : w.heap.size + 1 < w1.heap.size := by omega
    have z2 : w.heap.size < w1.heap.size := by omega
    have zg : g < w1.heap.size := by omega
    have HB := Lib.hid (ext_trans (ext_alloc (ext_alloc (ext_alloc (ext_refl w) _) _) _) hbL)
    have HBL := Lib.hid hbL
    clear hbL
    go_wp2
    refine bodyPost_ret (v := .tuple #[schV 0 none 0 0 0 0, .bool false]) (by simp [results, Try.results155, go_sem, *]) rfl ⟨rfl, (by repeat (first | exact ext_refl _ | exact HB.out | assumption | refine ext_alloc ?_ _ | refine ext_set ?_ (by simp <;> omega) _ | refine ext_trans ?_ (by assumption)))⟩
  have hb' : (r.b == 10) = false := by simpa using hb
  rcases hv : inB v 0 100 with _ | _
  · rw [show teach day pa le l i r 4 v = none from by simp [teach, hv]]
    have HC := Lib.hid (inB_within v 0 100)
    rw [hv] at HC
    clear hv hb
    go_enter Try.func155, Try.ntmps155
    go_wp2
    (refine wp_region_later (by kernel_rfl) (by kernel_rfl) ?_; (repeat (go_big_quiet_step ((go_at_call 123; exact Calls.later_same (HC.out _))))); refine wpQuiet_nil ?_; intro w1 hw1; obtain ⟨⟨wl, hbL⟩, hw1'⟩ := hw1; simp only at hw1'; subst hw1'; obtain ⟨hcL, hfL⟩ := bcell hbL)
    have z0 : w.heap.size + 1 + 1 < w1.heap.size := by (have := hbL.size; simp at this; omega)
    have z1 : w.heap.size + 1 < w1.heap.size := by omega
    have z2 : w.heap.size < w1.heap.size := by omega
    have zg : g < w1.heap.size := by omega
    have HB := Lib.hid (ext_trans (ext_alloc (ext_alloc (ext_alloc (ext_refl w) _) _) _) hbL)
    have HBL := Lib.hid hbL
    clear hbL
    go_wp2
    refine bodyPost_ret (v := .tuple #[schV 0 none 0 0 0 0, .bool false]) (by simp [results, Try.results155, go_sem, *]) rfl ⟨rfl, (by repeat (first | exact ext_refl _ | exact HB.out | assumption | refine ext_alloc ?_ _ | refine ext_set ?_ (by simp <;> omega) _ | refine ext_trans ?_ (by assumption)))⟩
  have HC := Lib.hid (inB_within v 0 100)
  rw [hv] at HC
  obtain ⟨hv0, hv1⟩ := inB_iff.1 hv
  by_cases h70 : 70 ≤ v
  · have h70' : decide (70 ≤ v) = true := by simpa using h70
    by_cases hw : 10 + 5 * r.b ≤ r.c
    · rw [show teach day pa le l i r 4 v = some (l.set i ⟨r.a, r.b + 1, 0, r.d, 0⟩, pa + 1, le) from by simp [teach, hd, hb, hv, h70, hw]]
      clear hb hv
      go_enter Try.func155, Try.ntmps155
      go_wp2
      (refine wp_region_later (by kernel_rfl) (by kernel_rfl) ?_; (repeat (go_big_quiet_step ((go_at_call 123; exact Calls.later_same (HC.out _))))); refine wpQuiet_nil ?_; intro w1 hw1; obtain ⟨⟨wl, hbL⟩, hw1'⟩ := hw1; simp only at hw1'; subst hw1'; obtain ⟨hcL, hfL⟩ := bcell hbL)
      have z0 : w.heap.size + 1 + 1 < w1.heap.size := by (have := hbL.size; simp at this; omega)
      have z1 : w.heap.size + 1 < w1.heap.size := by omega
      have z2 : w.heap.size < w1.heap.size := by omega
      have zg : g < w1.heap.size := by omega
      have HB := Lib.hid (ext_trans (ext_alloc (ext_alloc (ext_alloc (ext_refl w) _) _) _) hbL)
      have HBL := Lib.hid hbL
      clear hbL
      go_wp2
      (refine wp_region_later (by kernel_rfl) (by kernel_rfl) ?_; (repeat (go_big_quiet_step ((go_at_call 125; exact Calls.later_same (wanted_any _ _ (by omega) (by omega)))))); refine wpQuiet_nil ?_; intro w1 hw1; obtain ⟨⟨wl, hbL⟩, hw1'⟩ := hw1; simp only at hw1'; subst hw1'; obtain ⟨hcL, hfL⟩ := bcell hbL)
      have BX : Blk w1 w.heap.size 24 #[.int .i64 day, .slice (some ⟨g, 0, none⟩) n c, .int .i64 pa, .int .i64 le] := (((Blk.new w _ _).ext (ext_alloc (ext_alloc (ext_refl _) _) _)).ext HBL.out).ext hbL
      have x0 : w1.cell? ⟨w.heap.size, 0, none⟩ = some (.int .i64 day) := BX.cell 0
      have fx0 := BX.frozen 0
      have x1 : w1.cell? ⟨w.heap.size, 1, none⟩ = some (.slice (some ⟨g, 0, none⟩) n c) := BX.cell 1
      have fx1 := BX.frozen 1
      have x2 : w1.cell? ⟨w.heap.size, 2, none⟩ = some (.int .i64 pa) := BX.cell 2
      have fx2 := BX.frozen 2
      have x3 : w1.cell? ⟨w.heap.size, 3, none⟩ = some (.int .i64 le) := BX.cell 3
      have fx3 := BX.frozen 3
      clear BX
      have hx2 : ∀ u1 u2 u3 : Value, (((w1.setCell ⟨g, i * 5 + 1, none⟩ u1).setCell ⟨g, i * 5 + 2, none⟩ u2).setCell ⟨g, i * 5 + 4, none⟩ u3).cell? ⟨w.heap.size, 2, none⟩ = some (.int .i64 pa) := fun u1 u2 u3 => cell_set_far hn0 (cell_set_far hn0 (cell_set_far hn0 x2))
      go_wp2
      have hL : (l.set i ⟨r.a, r.b + 1, 0, r.d, 0⟩).length = n := by rw [List.length_set]; exact rows_len (Reads.of_own H.out)
      refine bodyPost_ret (v := .tuple #[schV day (some ⟨g, 0, none⟩) n c (pa + 1) le, .bool true]) (by simp [results, Try.results155, go_sem, *]) rfl ?_
      unfold RetT
      dsimp only
      rw [hL]
      refine ⟨rfl, ?_, ?_⟩
      · rw [rows_setbce HR.out]
        iterate 5 refine own_set_ne ?_ (by show _ ≠ g; simp <;> omega) _
        exact ((((own_ext (own_ext H.out HB.out) hbL).stored _ _).1.stored _ _).1.stored _ _).1
      · repeat refine only_setCell ?_ (by first | exact .inl rfl | (right; simp <;> omega)) _
        exact Gr.of_ext (ext_trans HB.out hbL)
    · rw [show teach day pa le l i r 4 v = some (l.set i ⟨r.a, r.b, r.c, r.d, r.e + 1⟩, pa, le) from by simp [teach, hd, hb, hv, hw]]
      clear hb hv
      go_enter Try.func155, Try.ntmps155
      go_wp2
      (refine wp_region_later (by kernel_rfl) (by kernel_rfl) ?_; (repeat (go_big_quiet_step ((go_at_call 123; exact Calls.later_same (HC.out _))))); refine wpQuiet_nil ?_; intro w1 hw1; obtain ⟨⟨wl, hbL⟩, hw1'⟩ := hw1; simp only at hw1'; subst hw1'; obtain ⟨hcL, hfL⟩ := bcell hbL)
      have z0 : w.heap.size + 1 + 1 < w1.heap.size := by (have := hbL.size; simp at this; omega)
      have z1 : w.heap.size + 1 < w1.heap.size := by omega
      have z2 : w.heap.size < w1.heap.size := by omega
      have zg : g < w1.heap.size := by omega
      have HB := Lib.hid (ext_trans (ext_alloc (ext_alloc (ext_alloc (ext_refl w) _) _) _) hbL)
      have HBL := Lib.hid hbL
      clear hbL
      go_wp2
      (refine wp_region_later (by kernel_rfl) (by kernel_rfl) ?_; (repeat (go_big_quiet_step ((go_at_call 125; exact Calls.later_same (wanted_any _ _ (by omega) (by omega)))))); refine wpQuiet_nil ?_; intro w1 hw1; obtain ⟨⟨wl, hbL⟩, hw1'⟩ := hw1; simp only at hw1'; subst hw1'; obtain ⟨hcL, hfL⟩ := bcell hbL)
      go_wp2
      have hL : (l.set i ⟨r.a, r.b, r.c, r.d, r.e + 1⟩).length = n := by rw [List.length_set]; exact rows_len (Reads.of_own H.out)
      refine bodyPost_ret (v := .tuple #[schV day (some ⟨g, 0, none⟩) n c pa le, .bool true]) (by simp [results, Try.results155, go_sem, *]) rfl ?_
      unfold RetT
      dsimp only
      rw [hL]
      refine ⟨rfl, ?_, ?_⟩
      · rw [rows_sete HR.out]
        iterate 4 refine own_set_ne ?_ (by show _ ≠ g; simp <;> omega) _
        exact ((own_ext (own_ext H.out HB.out) hbL).stored _ _).1
      · repeat refine only_setCell ?_ (by first | exact .inl rfl | (right; simp <;> omega)) _
        exact Gr.of_ext (ext_trans HB.out hbL)
  · have h70' : decide (70 ≤ v) = false := by simpa using h70
    rw [show teach day pa le l i r 4 v = some (l.set i ⟨r.a, r.b, r.c, r.d, r.e + 1⟩, pa, le) from by simp [teach, hd, hb, hv, h70]]
    clear hb hv
    go_enter Try.func155, Try.ntmps155
    go_wp2
    (refine wp_region_later (by kernel_rfl) (by kernel_rfl) ?_; (repeat (go_big_quiet_step ((go_at_call 123; exact Calls.later_same (HC.out _))))); refine wpQuiet_nil ?_; intro w1 hw1; obtain ⟨⟨wl, hbL⟩, hw1'⟩ := hw1; simp only at hw1'; subst hw1'; obtain ⟨hcL, hfL⟩ := bcell hbL)
    have z0 : w.heap.size + 1 + 1 < w1.heap.size := by (have := hbL.size; simp at this; omega)
    have z1 : w.heap.size + 1 < w1.heap.size := by omega
    have z2 : w.heap.size < w1.heap.size := by omega
    have zg : g < w1.heap.size := by omega
    have HB := Lib.hid (ext_trans (ext_alloc (ext_alloc (ext_alloc (ext_refl w) _) _) _) hbL)
    have HBL := Lib.hid hbL
    clear hbL
    go_wp2
    (refine wp_region_later (by kernel_rfl) (by kernel_rfl) ?_; (repeat (go_big_quiet_step (fail))); refine wpQuiet_nil ?_; intro w1 hw1; obtain ⟨⟨wl, hbL⟩, hw1'⟩ := hw1; simp only at hw1'; subst hw1'; obtain ⟨hcL, hfL⟩ := bcell hbL)
    go_wp2
    have hL : (l.set i ⟨r.a, r.b, r.c, r.d, r.e + 1⟩).length = n := by rw [List.length_set]; exact rows_len (Reads.of_own H.out)
    refine bodyPost_ret (v := .tuple #[schV day (some ⟨g, 0, none⟩) n c pa le, .bool true]) (by simp [results, Try.results155, go_sem, *]) rfl ?_
    unfold RetT
    dsimp only
    rw [hL]
    refine ⟨rfl, ?_, ?_⟩
    · rw [rows_sete HR.out]
      iterate 4 refine own_set_ne ?_ (by show _ ≠ g; simp <;> omega) _
      exact ((own_ext (own_ext H.out HB.out) hbL).stored _ _).1
    · repeat refine only_setCell ?_ (by first | exact .inl rfl | (right; simp <;> omega)) _
      exact Gr.of_ext (ext_trans HB.out hbL)
end Go.Proofs.Ytclihlihaigddaa
