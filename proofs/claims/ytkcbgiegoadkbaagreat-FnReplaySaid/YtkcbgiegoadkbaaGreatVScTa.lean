/- taught: a step about a student who is there, walked kind by kind. -/
import Derived.Test.YtkcbgiegoadkbaaGreatVM1
namespace Go.Proofs.YtkcbgiegoadkbaaGreat
open Go.RowKit
set_option linter.unusedVariables false
set_option linter.unusedSimpArgs false
/-- a step about a student of a school of the call's own -/
def RetT (o : Option (List R5 × Int × Int)) (day : Int) (base : Nat) (A : Option Addr) (n c : Nat) (w : World) (e : Ending) (w' : World) : Prop :=
 match o with
 | none => e = .returned (.tuple #[schV 0 none 0 0 0 0, .bool false]) ∧ Below w.heap.size w w'
 | some (l', p, q) => e = .returned (.tuple #[schV day A l'.length c p q, .bool true]) ∧ w'.ownsRow base 111 5 (.slice A l'.length c) l'.length (rowsV l') ∧ w.grownBy w' (Value.ownBlock (.slice A n c))
theorem own_cells {w : World} {base n c g : Nat} {l : List R5} (h : w.ownsRow base 111 5 (.slice (some ⟨g, 0, none⟩) n c) n (rowsV l)) {i : Nat} {r : R5} (hr : l[i]? = some r) :
 w.cell? ⟨g, i * 5, none⟩ = some (.int .i64 r.a) ∧ w.cell? ⟨g, i * 5 + 1, none⟩ = some (.int .i64 r.b) ∧ w.cell? ⟨g, i * 5 + 2, none⟩ = some (.int .i64 r.c) ∧ w.cell? ⟨g, i * 5 + 3, none⟩ = some (.int .i64 r.d) ∧ w.cell? ⟨g, i * 5 + 4, none⟩ = some (.int .i64 r.e) := by
 have hi : i < l.length := (List.getElem?_eq_some_iff.1 hr).1
 have hn : l.length * 5 = n * 5 := by rw [← rowsV_len]; exact h.1
 obtain ⟨h0, h1, h2, h3, h4⟩ := rowsV_get hr
 exact ⟨(h.cellAt (i * 5) (by omega)).trans h0, (h.cellAt (i * 5 + 1) (by omega)).trans h1, (h.cellAt (i * 5 + 2) (by omega)).trans h2, (h.cellAt (i * 5 + 3) (by omega)).trans h3, (h.cellAt (i * 5 + 4) (by omega)).trans h4⟩
theorem cell_alloc3 {w : World} {p : Addr} {v : Value} (h : w.cell? p = some v) (o1 o2 o3 : Obj) : (((w.alloc o1).alloc o2).alloc o3).cell? p = some v := cell_old (cell_old (cell_old h _) _) _
theorem frozen_old {w : World} {p : Addr} (hp : p.block < w.heap.size) (h : w.frozen? p = false) (o : Obj) : (w.alloc o).frozen? p = false := ((ext_alloc (ext_refl w) o).frozen hp).trans h
theorem frozen_alloc3 {w : World} {p : Addr} (hp : p.block < w.heap.size) (h : w.frozen? p = false) (o1 o2 o3 : Obj) : (((w.alloc o1).alloc o2).alloc o3).frozen? p = false :=
 frozen_old (by simp; omega) (frozen_old (by simp; omega) (frozen_old hp h _) _) _
theorem set_same {α : Type} {xs : List α} {j : Nat} {v : α} (h : xs[j]? = some v) : xs.set j v = xs := by
 apply List.ext_getElem?
 intro k
 rw [List.getElem?_set]
 split
 · rename_i e; subst e
   rw [h]
   simp
   exact (List.getElem?_eq_some_iff.1 h).1
 · rfl
theorem rowsV_set5 : ∀ (l : List R5) (i : Nat) (r : R5), i < l.length → rowsV (l.set i r) = (((((rowsV l).set (i * 5) (.int .i64 r.a)).set (i * 5 + 1) (.int .i64 r.b)).set (i * 5 + 2) (.int .i64 r.c)).set (i * 5 + 3) (.int .i64 r.d)).set (i * 5 + 4) (.int .i64 r.e) := by
 intro l
 induction l with
 | nil => intro i r h; simp at h
 | cons x l ih =>
   intro i r h
   rcases i with _ | i
   · simp [rowsV, R5.cells]
   · have := ih i r (by simpa using h)
     have e : ∀ y : R5, ∀ m : List R5, rowsV (y :: m) = R5.cells y ++ rowsV m := fun y m => by simp [rowsV]
     rw [List.set_cons_succ, e, e, this]
     have hl : (R5.cells x).length = 5 := rfl
     rw [List.set_append_right _ _ (by rw [hl]; omega), List.set_append_right _ _ (by rw [hl]; omega), List.set_append_right _ _ (by rw [hl]; omega), List.set_append_right _ _ (by rw [hl]; omega), List.set_append_right _ _ (by rw [hl]; omega), hl]
     rw [show (i + 1) * 5 - 5 = i * 5 from by omega, show (i + 1) * 5 + 1 - 5 = i * 5 + 1 from by omega, show (i + 1) * 5 + 2 - 5 = i * 5 + 2 from by omega, show (i + 1) * 5 + 3 - 5 = i * 5 + 3 from by omega, show (i + 1) * 5 + 4 - 5 = i * 5 + 4 from by omega]
theorem rows_setc {l : List R5} {i : Nat} {r : R5} (hr : l[i]? = some r) (z : Int) : rowsV (l.set i ⟨r.a, r.b, z, r.d, r.e⟩) = (rowsV l).set (i * 5 + 2) (.int .i64 z) := by
 obtain ⟨h0, h1, h2, h3, h4⟩ := rowsV_get hr
 rw [rowsV_set5 _ _ _ (List.getElem?_eq_some_iff.1 hr).1]
 simp only []
 rw [set_same (xs := rowsV l) (j := i * 5) (by  exact h0)]
 rw [set_same (xs := rowsV l) (j := i * 5 + 1) (by  exact h1)]
 rw [set_same (xs := (rowsV l).set (i * 5 + 2) (.int .i64 z)) (j := i * 5 + 3) (by rw [List.getElem?_set_ne (by omega)]; exact h3)]
 rw [set_same (xs := (rowsV l).set (i * 5 + 2) (.int .i64 z)) (j := i * 5 + 4) (by rw [List.getElem?_set_ne (by omega)]; exact h4)]
theorem rows_setd {l : List R5} {i : Nat} {r : R5} (hr : l[i]? = some r) (z : Int) : rowsV (l.set i ⟨r.a, r.b, r.c, z, r.e⟩) = (rowsV l).set (i * 5 + 3) (.int .i64 z) := by
 obtain ⟨h0, h1, h2, h3, h4⟩ := rowsV_get hr
 rw [rowsV_set5 _ _ _ (List.getElem?_eq_some_iff.1 hr).1]
 simp only []
 rw [set_same (xs := rowsV l) (j := i * 5) (by  exact h0)]
 rw [set_same (xs := rowsV l) (j := i * 5 + 1) (by  exact h1)]
 rw [set_same (xs := rowsV l) (j := i * 5 + 2) (by  exact h2)]
 rw [set_same (xs := (rowsV l).set (i * 5 + 3) (.int .i64 z)) (j := i * 5 + 4) (by rw [List.getElem?_set_ne (by omega)]; exact h4)]
theorem rows_sete {l : List R5} {i : Nat} {r : R5} (hr : l[i]? = some r) (z : Int) : rowsV (l.set i ⟨r.a, r.b, r.c, r.d, z⟩) = (rowsV l).set (i * 5 + 4) (.int .i64 z) := by
 obtain ⟨h0, h1, h2, h3, h4⟩ := rowsV_get hr
 rw [rowsV_set5 _ _ _ (List.getElem?_eq_some_iff.1 hr).1]
 simp only []
 rw [set_same (xs := rowsV l) (j := i * 5) (by  exact h0)]
 rw [set_same (xs := rowsV l) (j := i * 5 + 1) (by  exact h1)]
 rw [set_same (xs := rowsV l) (j := i * 5 + 2) (by  exact h2)]
 rw [set_same (xs := rowsV l) (j := i * 5 + 3) (by  exact h3)]
theorem rows_setbce {l : List R5} {i : Nat} {r : R5} (hr : l[i]? = some r) (y z u : Int) : rowsV (l.set i ⟨r.a, y, z, r.d, u⟩) = (((rowsV l).set (i * 5 + 1) (.int .i64 y)).set (i * 5 + 2) (.int .i64 z)).set (i * 5 + 4) (.int .i64 u) := by
 obtain ⟨h0, h1, h2, h3, h4⟩ := rowsV_get hr
 rw [rowsV_set5 _ _ _ (List.getElem?_eq_some_iff.1 hr).1]
 simp only []
 rw [set_same (xs := rowsV l) (j := i * 5) (by  exact h0)]
 rw [set_same (xs := ((rowsV l).set (i * 5 + 1) (.int .i64 y)).set (i * 5 + 2) (.int .i64 z)) (j := i * 5 + 3) (by rw [List.getElem?_set_ne (by omega)]; rw [List.getElem?_set_ne (by omega)]; exact h3)]
/-- a store elsewhere -/
theorem own_set_ne {w : World} {B E size n c g : Nat} {xs : List Value} (h : w.ownsRow B E size (.slice (some ⟨g, 0, none⟩) n c) n xs) {p : Addr} (hp : p.block ≠ g) (u : Value) : (w.setCell p u).ownsRow B E size (.slice (some ⟨g, 0, none⟩) n c) n xs :=
 h.kept (row := some p.block) (only_setCell (World.grownBy.refl _ _) (.inl rfl) u) (.inr (by intro e; rw [show (Value.slice (some ⟨g, 0, none⟩) n c).ownBlock = some g from rfl] at e; injection e with e; exact hp e.symm))
theorem wanted_any (z : Int) (w : World) (h0 : 0 ≤ z) (h1 : z ≤ 1000) : Calls Tryz.prog 89 #[.int .i64 z] w fun e w' => e = .returned (.int .i64 (10 + 5 * z)) ∧ w = w' := by
 go_enter Tryz.func89, Tryz.ntmps89
 go_wp2
 go_ret
 exact ⟨rfl, rfl⟩
set_option maxHeartbeats 2000000 in
theorem taught_3 (day pa le id v : Int) (g n c base i : Nat) (l : List R5) (r : R5) (w : World) (h : w.ownsRow base 111 5 (.slice (some ⟨g, 0, none⟩) n c) n (rowsV l)) (hr : l[i]? = some r) (hs : stuB r = true) (hday : 0 ≤ day ∧ day ≤ 4000) (hpa : 0 ≤ pa ∧ pa ≤ 9999) (hlf : 0 ≤ le ∧ le ≤ 9999) (hg : g < w.heap.size) (hn : n ≤ 8) :
 Calls Tryz.prog 87 #[schV day (some ⟨g, 0, none⟩) n c pa le, .agg #[.int .i64 3, .int .i64 id, .int .i64 v], .int .i64 i] w (RetT (teach day pa le l i r 3 v) day base (some ⟨g, 0, none⟩) n c w) := by
 obtain ⟨c0, c1, c2, c3, c4⟩ := own_cells h hr
 obtain ⟨q1, q2, q3, q4, q5⟩ := stu_bounds hs
 have hi : i < n := by have := rows_len (Reads.of_own h); have := (List.getElem?_eq_some_iff.1 hr).1; omega
 have f1 := frozen_alloc3 hg (h.frozenAt (i * 5 + 1))
 have f2 := frozen_alloc3 hg (h.frozenAt (i * 5 + 2))
 have f3 := frozen_alloc3 hg (h.frozenAt (i * 5 + 3))
 have f4 := frozen_alloc3 hg (h.frozenAt (i * 5 + 4))
 have c0 := cell_alloc3 c0
 have c1 := cell_alloc3 c1
 have c2 := cell_alloc3 c2
 have c3 := cell_alloc3 c3
 have c4 := cell_alloc3 c4
 have H := Lib.hid h
 have HR := Lib.hid hr
 clear h hr
 have hin : (i : Int) < n := by omega
 have hg3 : g < w.heap.size + 1 + 1 + 1 := by omega
 have hn0 : g ≠ w.heap.size := by omega
 have hle : g ≤ w.heap.size + 1 + 1 := by omega
 have hn1 : g ≠ w.heap.size + 1 := by omega
 have hn2 : g ≠ w.heap.size + 1 + 1 := by omega
 by_cases hd : r.d < day
 · have hd' : decide (r.d < day) = true := by simpa using hd
   rw [show teach day pa le l i r 3 v = none from by simp [teach, hd]]
   go_enter Tryz.func87, Tryz.ntmps87
   go_wp2
   (refine wp_region_later (by kernel_rfl) (by kernel_rfl) ?_; (repeat (go_big_quiet_step (fail))); refine wpQuiet_nil ?_; intro w1 hw1; obtain ⟨⟨wl, hbL⟩, hw1'⟩ := hw1; simp only at hw1'; subst hw1'; obtain ⟨hcL, hfL⟩ := bcell hbL)
   have z0 : w.heap.size + 1 + 1 < w1.heap.size := by (have := hbL.size; simp at this; omega)
   have z1 : w.heap.size + 1 < w1.heap.size := by omega
   have z2 : w.heap.size < w1.heap.size := by omega
   have zg : g < w1.heap.size := by omega
   have HB := Lib.hid (ext_trans (ext_alloc (ext_alloc (ext_alloc (ext_refl w) _) _) _) hbL)
   have HBL := Lib.hid hbL
   clear hbL
   go_wp2
   refine bodyPost_ret (v := .tuple #[schV 0 none 0 0 0 0, .bool false]) (by simp [results, Tryz.results87, go_sem, *]) rfl ⟨rfl, (by repeat (first | exact ext_refl _ | exact HB.out | assumption | refine ext_alloc ?_ _ | refine ext_set ?_ (by simp <;> omega) _ | refine ext_trans ?_ (by assumption)))⟩
 have hd' : decide (r.d < day) = false := by simpa using hd
 rcases hv : inB v 1 20 with _ | _
 · rw [show teach day pa le l i r 3 v = none from by simp [teach, hv]]
   have HC := Lib.hid (inB_within v 1 20)
   rw [hv] at HC
   clear hv
   go_enter Tryz.func87, Tryz.ntmps87
   go_wp2
   (refine wp_region_later (by kernel_rfl) (by kernel_rfl) ?_; (repeat (go_big_quiet_step ((go_at_call 37; exact Calls.later_same (HC.out _))))); refine wpQuiet_nil ?_; intro w1 hw1; obtain ⟨⟨wl, hbL⟩, hw1'⟩ := hw1; simp only at hw1'; subst hw1'; obtain ⟨hcL, hfL⟩ := bcell hbL)
   have z0 : w.heap.size + 1 + 1 < w1.heap.size := by (have := hbL.size; simp at this; omega)
   have z1 : w.heap.size + 1 < w1.heap.size := by omega
   have z2 : w.heap.size < w1.heap.size := by omega
   have zg : g < w1.heap.size := by omega
   have HB := Lib.hid (ext_trans (ext_alloc (ext_alloc (ext_alloc (ext_refl w) _) _) _) hbL)
   have HBL := Lib.hid hbL
   clear hbL
   go_wp2
   refine bodyPost_ret (v := .tuple #[schV 0 none 0 0 0 0, .bool false]) (by simp [results, Tryz.results87, go_sem, *]) rfl ⟨rfl, (by repeat (first | exact ext_refl _ | exact HB.out | assumption | refine ext_alloc ?_ _ | refine ext_set ?_ (by simp <;> omega) _ | refine ext_trans ?_ (by assumption)))⟩
 · rw [show teach day pa le l i r 3 v = some (l.set i ⟨r.a, r.b, r.c + v, r.d, r.e⟩, pa, le) from by simp [teach, hd, hv]]
   have HC := Lib.hid (inB_within v 1 20)
   rw [hv] at HC
   have hv := inB_iff.1 hv
   obtain ⟨hv0, hv1⟩ := hv
   go_enter Tryz.func87, Tryz.ntmps87
   go_wp2
   (refine wp_region_later (by kernel_rfl) (by kernel_rfl) ?_; (repeat (go_big_quiet_step ((go_at_call 37; exact Calls.later_same (HC.out _))))); refine wpQuiet_nil ?_; intro w1 hw1; obtain ⟨⟨wl, hbL⟩, hw1'⟩ := hw1; simp only at hw1'; subst hw1'; obtain ⟨hcL, hfL⟩ := bcell hbL)
   go_wp2
   have z0 : w.heap.size + 1 + 1 < w1.heap.size := by (have := hbL.size; simp at this; omega)
   have z1 : w.heap.size + 1 < w1.heap.size := by omega
   have z2 : w.heap.size < w1.heap.size := by omega
   have zg : g < w1.heap.size := by omega
   have HB := Lib.hid (ext_trans (ext_alloc (ext_alloc (ext_alloc (ext_refl w) _) _) _) hbL)
   have HBL := Lib.hid hbL
   clear hbL
   (refine wp_region_later_tail 9 (by kernel_rfl) (by kernel_rfl) ?_; simp only [List.take_succ_cons, List.take_zero, List.drop_succ_cons, List.drop_zero]; (repeat (go_big_quiet_step (fail))); refine wpQuiet_nil ?_; intro w1 hw1; obtain ⟨⟨wl, hbL⟩, hw1'⟩ := hw1; simp only at hw1'; subst hw1'; obtain ⟨hcL, hfL⟩ := bcell hbL)
   go_wp2
   have hL : (l.set i ⟨r.a, r.b, r.c + v, r.d, r.e⟩).length = n := by rw [List.length_set]; exact rows_len (Reads.of_own H.out)
   refine bodyPost_ret (v := .tuple #[schV day (some ⟨g, 0, none⟩) n c pa le, .bool true]) (by simp [results, Tryz.results87, go_sem, *]) rfl ?_
   unfold RetT
   dsimp only
   rw [hL]
   refine ⟨rfl, ?_, ?_⟩
   · rw [rows_setc HR.out]
     iterate 4 refine own_set_ne ?_ (by show _ ≠ g; simp <;> omega) _
     exact ((own_ext (own_ext H.out HB.out) hbL).stored _ _).1
   · repeat refine only_setCell ?_ (by first | exact .inl rfl | (right; simp <;> omega)) _
     exact Gr.of_ext (ext_trans HB.out hbL)
end Go.Proofs.YtkcbgiegoadkbaaGreat
