
/- stepped: no kind of step, or a wait that is none. -/
import Derived.Test.YtclihlihaigddaaScEc
import Derived.Test.YtclihlihaigddaaScTb
import Derived.Test.YtclihlihaigddaaScTc
import Derived.Test.YtclihlihaigddaaScTd
import Derived.Test.YtclihlihaigddaaScW
namespace Go.Proofs.Ytclihlihaigddaa
open Go.RowKit
set_option linter.unusedVariables false
set_option linter.unusedSimpArgs false
set_option maxRecDepth 100000 in
set_option maxHeartbeats 4000000 in
theorem stepped_else (day pa le k id v : Int) (A : Option Addr) (n c : Nat) (l : List R5) (w : World) (hn : n ≤ 8) (hA : SlOk A n c) (h : Reads w w.heap.size 5 A n (rowsV l)) (hk : ¬ (k = 1 ∨ k = 2 ∨ k = 3 ∨ k = 4 ∨ k = 5 ∨ k = 6)) :
    Calls Try.prog 112 #[schV day A n c pa le, .agg #[.int .i64 k, .int .i64 id, .int .i64 v]] w (RetSch none w) := by
  have hk1 : (k == 1) = false := by rw [beq_eq_false_iff_ne]; omega
  have hk2 : (k == 2) = false := by rw [beq_eq_false_iff_ne]; omega
  have hk3 : (k == 3) = false := by rw [beq_eq_false_iff_ne]; omega
  have hk4 : (k == 4) = false := by rw [beq_eq_false_iff_ne]; omega
  have hk5 : (k == 5) = false := by rw [beq_eq_false_iff_ne]; omega
  have hk6 : (k == 6) = false := by rw [beq_eq_false_iff_ne]; omega
  have H := Lib.hid h
  have HL := Lib.hid (rows_len h)
  have HA := Lib.hid (fun w h => own_any day pa le A n c l w (by omega) hA h)
  clear h
  go_enter Try.func112, Try.ntmps112
  go_wp2_with fail
  refine (HA.out _ ((H.out.ext (ext_alloc (ext_alloc (ext_alloc (ext_refl _) _) _) _) (Nat.le_refl _)).more (by simp; omega))).mono ?_
  rintro e w1 ⟨A1, c1, rfl, hown, hb1⟩
  have z0 : w.heap.size + 1 + 1 < w1.heap.size := by (have := hb1.size; simp at this; omega)
  have z1 : w.heap.size + 1 < w1.heap.size := by omega
  have z2 : w.heap.size < w1.heap.size := by omega
  have BX : Hid (Blk w1 w.heap.size 24 #[.int .i64 day, .slice A n c, .int .i64 pa, .int .i64 le]) := Lib.hid (((Blk.new w _ _).ext (ext_alloc (ext_alloc (ext_refl _) _) _)).ext hb1)
  have BY : Hid (Blk w1 (w.heap.size + 1) 74 #[.int .i64 k, .int .i64 id, .int .i64 v]) := Lib.hid (by
    have := ((Blk.new (w.alloc (.cells #[.int .i64 day, .slice A n c, .int .i64 pa, .int .i64 le] 24)) #[.int .i64 k, .int .i64 id, .int .i64 v] 74).ext (ext_alloc (ext_refl _) (.cells #[.int .i64 0, .slice none 0 0, .int .i64 0, .int .i64 0] 24))).ext hb1
    simpa using this)
  have BR : Hid (Blk w1 (w.heap.size + 1 + 1) 24 #[.int .i64 0, .slice none 0 0, .int .i64 0, .int .i64 0]) := Lib.hid (by
    have := (Blk.new ((w.alloc (.cells #[.int .i64 day, .slice A n c, .int .i64 pa, .int .i64 le] 24)).alloc (.cells #[.int .i64 k, .int .i64 id, .int .i64 v] 74)) #[.int .i64 0, .slice none 0 0, .int .i64 0, .int .i64 0] 24).ext hb1
    simpa using this)
  have hbw := Lib.hid (ext_trans (ext_alloc (ext_alloc (ext_alloc (ext_refl w) _) _) _) hb1)
  have HO : Hid (w1.ownsRow w.heap.size 109 5 (.slice A1 n c1) n (rowsV l)) := Lib.hid (own_base hown (by simp; omega))
  clear hb1 hown
  have x0 : w1.cell? ⟨w.heap.size, 0, none⟩ = some (.int .i64 day) := BX.out.cell 0
  have fx0 := BX.out.frozen 0
  have x1 : w1.cell? ⟨w.heap.size, 1, none⟩ = some (.slice A n c) := BX.out.cell 1
  have fx1 := BX.out.frozen 1
  have x2 : w1.cell? ⟨w.heap.size, 2, none⟩ = some (.int .i64 pa) := BX.out.cell 2
  have fx2 := BX.out.frozen 2
  have x3 : w1.cell? ⟨w.heap.size, 3, none⟩ = some (.int .i64 le) := BX.out.cell 3
  have fx3 := BX.out.frozen 3
  have y0 : w1.cell? ⟨w.heap.size + 1, 0, none⟩ = some (.int .i64 k) := BY.out.cell 0
  have fy0 := BY.out.frozen 0
  have y1 : w1.cell? ⟨w.heap.size + 1, 1, none⟩ = some (.int .i64 id) := BY.out.cell 1
  have fy1 := BY.out.frozen 1
  have y2 : w1.cell? ⟨w.heap.size + 1, 2, none⟩ = some (.int .i64 v) := BY.out.cell 2
  have fy2 := BY.out.frozen 2
  have r0 : w1.cell? ⟨w.heap.size + 1 + 1, 0, none⟩ = some (.int .i64 0) := BR.out.cell 0
  have fr0 := BR.out.frozen 0
  have r1 : w1.cell? ⟨w.heap.size + 1 + 1, 1, none⟩ = some (.slice none 0 0) := BR.out.cell 1
  have fr1 := BR.out.frozen 1
  have r2 : w1.cell? ⟨w.heap.size + 1 + 1, 2, none⟩ = some (.int .i64 0) := BR.out.cell 2
  have fr2 := BR.out.frozen 2
  have r3 : w1.cell? ⟨w.heap.size + 1 + 1, 3, none⟩ = some (.int .i64 0) := BR.out.cell 3
  have fr3 := BR.out.frozen 3
  go_wp2
  refine bodyPost_ret (v := .tuple #[schV 0 none 0 0 0 0, .bool false]) (by simp [results, Try.results112, go_sem, *]) rfl ⟨rfl, (by repeat (first | exact ext_refl _ | exact hbw.out | exact (hbw).out | refine ext_alloc ?_ _ | refine ext_set ?_ (by simp <;> omega) _))⟩
set_option maxRecDepth 100000 in
set_option maxHeartbeats 4000000 in
theorem stepped_wait_no (day pa le id v : Int) (A : Option Addr) (n c : Nat) (l : List R5) (w : World) (hn : n ≤ 8) (hA : SlOk A n c) (h : Reads w w.heap.size 5 A n (rowsV l)) (hk : id ≠ 0 ∨ v < 1) :
    Calls Try.prog 112 #[schV day A n c pa le, .agg #[.int .i64 1, .int .i64 id, .int .i64 v]] w (RetSch none w) := by
  rcases Classical.em (id = 0) with hi | hi
  · have hv : v < 1 := by rcases hk with h | h; exact absurd hi h; exact h
    have hv' : decide (v < 1) = true := by simpa using hv
    subst hi
    clear hk
    have H := Lib.hid h
    have HL := Lib.hid (rows_len h)
    have HA := Lib.hid (fun w h => own_any day pa le A n c l w (by omega) hA h)
    clear h
    go_enter Try.func112, Try.ntmps112
    go_wp2_with fail
    refine (HA.out _ ((H.out.ext (ext_alloc (ext_alloc (ext_alloc (ext_refl _) _) _) _) (Nat.le_refl _)).more (by simp; omega))).mono ?_
    rintro e w1 ⟨A1, c1, rfl, hown, hb1⟩
    have z0 : w.heap.size + 1 + 1 < w1.heap.size := by (have := hb1.size; simp at this; omega)
    have z1 : w.heap.size + 1 < w1.heap.size := by omega
    have z2 : w.heap.size < w1.heap.size := by omega
    have BX : Hid (Blk w1 w.heap.size 24 #[.int .i64 day, .slice A n c, .int .i64 pa, .int .i64 le]) := Lib.hid (((Blk.new w _ _).ext (ext_alloc (ext_alloc (ext_refl _) _) _)).ext hb1)
    have BY : Hid (Blk w1 (w.heap.size + 1) 74 #[.int .i64 1, .int .i64 0, .int .i64 v]) := Lib.hid (by
      have := ((Blk.new (w.alloc (.cells #[.int .i64 day, .slice A n c, .int .i64 pa, .int .i64 le] 24)) #[.int .i64 1, .int .i64 0, .int .i64 v] 74).ext (ext_alloc (ext_refl _) (.cells #[.int .i64 0, .slice none 0 0, .int .i64 0, .int .i64 0] 24))).ext hb1
      simpa using this)
    have BR : Hid (Blk w1 (w.heap.size + 1 + 1) 24 #[.int .i64 0, .slice none 0 0, .int .i64 0, .int .i64 0]) := Lib.hid (by
      have := (Blk.new ((w.alloc (.cells #[.int .i64 day, .slice A n c, .int .i64 pa, .int .i64 le] 24)).alloc (.cells #[.int .i64 1, .int .i64 0, .int .i64 v] 74)) #[.int .i64 0, .slice none 0 0, .int .i64 0, .int .i64 0] 24).ext hb1
      simpa using this)
    have hbw := Lib.hid (ext_trans (ext_alloc (ext_alloc (ext_alloc (ext_refl w) _) _) _) hb1)
    have HO : Hid (w1.ownsRow w.heap.size 109 5 (.slice A1 n c1) n (rowsV l)) := Lib.hid (own_base hown (by simp; omega))
    clear hb1 hown
    have x0 : w1.cell? ⟨w.heap.size, 0, none⟩ = some (.int .i64 day) := BX.out.cell 0
    have fx0 := BX.out.frozen 0
    have x1 : w1.cell? ⟨w.heap.size, 1, none⟩ = some (.slice A n c) := BX.out.cell 1
    have fx1 := BX.out.frozen 1
    have x2 : w1.cell? ⟨w.heap.size, 2, none⟩ = some (.int .i64 pa) := BX.out.cell 2
    have fx2 := BX.out.frozen 2
    have x3 : w1.cell? ⟨w.heap.size, 3, none⟩ = some (.int .i64 le) := BX.out.cell 3
    have fx3 := BX.out.frozen 3
    have y0 : w1.cell? ⟨w.heap.size + 1, 0, none⟩ = some (.int .i64 1) := BY.out.cell 0
    have fy0 := BY.out.frozen 0
    have y1 : w1.cell? ⟨w.heap.size + 1, 1, none⟩ = some (.int .i64 0) := BY.out.cell 1
    have fy1 := BY.out.frozen 1
    have y2 : w1.cell? ⟨w.heap.size + 1, 2, none⟩ = some (.int .i64 v) := BY.out.cell 2
    have fy2 := BY.out.frozen 2
    have r0 : w1.cell? ⟨w.heap.size + 1 + 1, 0, none⟩ = some (.int .i64 0) := BR.out.cell 0
    have fr0 := BR.out.frozen 0
    have r1 : w1.cell? ⟨w.heap.size + 1 + 1, 1, none⟩ = some (.slice none 0 0) := BR.out.cell 1
    have fr1 := BR.out.frozen 1
    have r2 : w1.cell? ⟨w.heap.size + 1 + 1, 2, none⟩ = some (.int .i64 0) := BR.out.cell 2
    have fr2 := BR.out.frozen 2
    have r3 : w1.cell? ⟨w.heap.size + 1 + 1, 3, none⟩ = some (.int .i64 0) := BR.out.cell 3
    have fr3 := BR.out.frozen 3
    go_wp2
    refine bodyPost_ret (v := .tuple #[schV 0 none 0 0 0 0, .bool false]) (by simp [results, Try.results112, go_sem, *]) rfl ⟨rfl, (by repeat (first | exact ext_refl _ | exact hbw.out | exact (hbw).out | refine ext_alloc ?_ _ | refine ext_set ?_ (by simp <;> omega) _))⟩
  · have hi' : (id != 0) = true := by simpa using hi
    clear hk hi
    have H := Lib.hid h
    have HL := Lib.hid (rows_len h)
    have HA := Lib.hid (fun w h => own_any day pa le A n c l w (by omega) hA h)
    clear h
    go_enter Try.func112, Try.ntmps112
    go_wp2_with fail
    refine (HA.out _ ((H.out.ext (ext_alloc (ext_alloc (ext_alloc (ext_refl _) _) _) _) (Nat.le_refl _)).more (by simp; omega))).mono ?_
    rintro e w1 ⟨A1, c1, rfl, hown, hb1⟩
    have z0 : w.heap.size + 1 + 1 < w1.heap.size := by (have := hb1.size; simp at this; omega)
    have z1 : w.heap.size + 1 < w1.heap.size := by omega
    have z2 : w.heap.size < w1.heap.size := by omega
    have BX : Hid (Blk w1 w.heap.size 24 #[.int .i64 day, .slice A n c, .int .i64 pa, .int .i64 le]) := Lib.hid (((Blk.new w _ _).ext (ext_alloc (ext_alloc (ext_refl _) _) _)).ext hb1)
    have BY : Hid (Blk w1 (w.heap.size + 1) 74 #[.int .i64 1, .int .i64 id, .int .i64 v]) := Lib.hid (by
      have := ((Blk.new (w.alloc (.cells #[.int .i64 day, .slice A n c, .int .i64 pa, .int .i64 le] 24)) #[.int .i64 1, .int .i64 id, .int .i64 v] 74).ext (ext_alloc (ext_refl _) (.cells #[.int .i64 0, .slice none 0 0, .int .i64 0, .int .i64 0] 24))).ext hb1
      simpa using this)
    have BR : Hid (Blk w1 (w.heap.size + 1 + 1) 24 #[.int .i64 0, .slice none 0 0, .int .i64 0, .int .i64 0]) := Lib.hid (by
      have := (Blk.new ((w.alloc (.cells #[.int .i64 day, .slice A n c, .int .i64 pa, .int .i64 le] 24)).alloc (.cells #[.int .i64 1, .int .i64 id, .int .i64 v] 74)) #[.int .i64 0, .slice none 0 0, .int .i64 0, .int .i64 0] 24).ext hb1
      simpa using this)
    have hbw := Lib.hid (ext_trans (ext_alloc (ext_alloc (ext_alloc (ext_refl w) _) _) _) hb1)
    have HO : Hid (w1.ownsRow w.heap.size 109 5 (.slice A1 n c1) n (rowsV l)) := Lib.hid (own_base hown (by simp; omega))
    clear hb1 hown
    have x0 : w1.cell? ⟨w.heap.size, 0, none⟩ = some (.int .i64 day) := BX.out.cell 0
    have fx0 := BX.out.frozen 0
    have x1 : w1.cell? ⟨w.heap.size, 1, none⟩ = some (.slice A n c) := BX.out.cell 1
    have fx1 := BX.out.frozen 1
    have x2 : w1.cell? ⟨w.heap.size, 2, none⟩ = some (.int .i64 pa) := BX.out.cell 2
    have fx2 := BX.out.frozen 2
    have x3 : w1.cell? ⟨w.heap.size, 3, none⟩ = some (.int .i64 le) := BX.out.cell 3
    have fx3 := BX.out.frozen 3
    have y0 : w1.cell? ⟨w.heap.size + 1, 0, none⟩ = some (.int .i64 1) := BY.out.cell 0
    have fy0 := BY.out.frozen 0
    have y1 : w1.cell? ⟨w.heap.size + 1, 1, none⟩ = some (.int .i64 id) := BY.out.cell 1
    have fy1 := BY.out.frozen 1
    have y2 : w1.cell? ⟨w.heap.size + 1, 2, none⟩ = some (.int .i64 v) := BY.out.cell 2
    have fy2 := BY.out.frozen 2
    have r0 : w1.cell? ⟨w.heap.size + 1 + 1, 0, none⟩ = some (.int .i64 0) := BR.out.cell 0
    have fr0 := BR.out.frozen 0
    have r1 : w1.cell? ⟨w.heap.size + 1 + 1, 1, none⟩ = some (.slice none 0 0) := BR.out.cell 1
    have fr1 := BR.out.frozen 1
    have r2 : w1.cell? ⟨w.heap.size + 1 + 1, 2, none⟩ = some (.int .i64 0) := BR.out.cell 2
    have fr2 := BR.out.frozen 2
    have r3 : w1.cell? ⟨w.heap.size + 1 + 1, 3, none⟩ = some (.int .i64 0) := BR.out.cell 3
    have fr3 := BR.out.frozen 3
    go_wp2
    refine bodyPost_ret (v := .tuple #[schV 0 none 0 0 0 0, .bool false]) (by simp [results, Try.results112, go_sem, *]) rfl ⟨rfl, (by repeat (first | exact ext_refl _ | exact hbw.out | exact (hbw).out | refine ext_alloc ?_ _ | refine ext_set ?_ (by simp <;> omega) _))⟩
end Go.Proofs.Ytclihlihaigddaa
