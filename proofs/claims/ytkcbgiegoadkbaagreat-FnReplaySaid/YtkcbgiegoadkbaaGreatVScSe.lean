/- stepped: a student who is not there; waiting. -/
import Derived.Test.YtkcbgiegoadkbaaGreatVScSb
namespace Go.Proofs.YtkcbgiegoadkbaaGreat
open Go.RowKit
set_option linter.unusedVariables false
set_option linter.unusedSimpArgs false
set_option maxRecDepth 100000 in
set_option maxHeartbeats 4000000 in
theorem stepped_find_no_5 (day pa le id v : Int) (A : Option Addr) (n c : Nat) (l : List R5) (w : World) (hn : n ≤ 8) (hA : SlOk A n c) (h : Reads w w.heap.size 5 A n (rowsV l)) (hf : findI l id = -1) :
 Calls Tryz.prog 60 #[schV day A n c pa le, .agg #[.int .i64 5, .int .i64 id, .int .i64 v]] w (RetSch none w) := by
 have HF := Lib.hid (fun (w : World) A n c h => at_any day pa le id A n c l w h)
 rw [hf] at HF
 clear hf
 have H := Lib.hid h
 have HL := Lib.hid (rows_len h)
 have HA := Lib.hid (fun w h => own_any day pa le A n c l w (by omega) hA h)
 clear h
 go_enter Tryz.func60, Tryz.ntmps60
 go_wp2_with fail
 refine (HA.out _ ((H.out.ext (ext_alloc (ext_alloc (ext_alloc (ext_refl _) _) _) _) (Nat.le_refl _)).more (by simp; omega))).mono ?_
 rintro e w1 ⟨A1, c1, rfl, hown, hb1⟩
 have z0 : w.heap.size + 1 + 1 < w1.heap.size := by (have := hb1.size; simp at this; omega)
 have z1 : w.heap.size + 1 < w1.heap.size := by omega
 have z2 : w.heap.size < w1.heap.size := by omega
 have BX : Hid (Blk w1 w.heap.size 32 #[.int .i64 day, .slice A n c, .int .i64 pa, .int .i64 le]) := Lib.hid (((Blk.new w _ _).ext (ext_alloc (ext_alloc (ext_refl _) _) _)).ext hb1)
 have BY : Hid (Blk w1 (w.heap.size + 1) 82 #[.int .i64 5, .int .i64 id, .int .i64 v]) := Lib.hid (by
  have := ((Blk.new (w.alloc (.cells #[.int .i64 day, .slice A n c, .int .i64 pa, .int .i64 le] 32)) #[.int .i64 5, .int .i64 id, .int .i64 v] 82).ext (ext_alloc (ext_refl _) (.cells #[.int .i64 0, .slice none 0 0, .int .i64 0, .int .i64 0] 32))).ext hb1
  simpa using this)
 have BR : Hid (Blk w1 (w.heap.size + 1 + 1) 32 #[.int .i64 0, .slice none 0 0, .int .i64 0, .int .i64 0]) := Lib.hid (by
  have := (Blk.new ((w.alloc (.cells #[.int .i64 day, .slice A n c, .int .i64 pa, .int .i64 le] 32)).alloc (.cells #[.int .i64 5, .int .i64 id, .int .i64 v] 82)) #[.int .i64 0, .slice none 0 0, .int .i64 0, .int .i64 0] 32).ext hb1
  simpa using this)
 have hbw := Lib.hid (ext_trans (ext_alloc (ext_alloc (ext_alloc (ext_refl w) _) _) _) hb1)
 have HO : Hid (w1.ownsRow w.heap.size 111 5 (.slice A1 n c1) n (rowsV l)) := Lib.hid (own_base hown (by simp; omega))
 clear hb1 hown
 obtain ⟨x0, x1, x2, x3⟩ := BX.out.q4
 obtain ⟨fx0, fx1, fx2, fx3⟩ := BX.out.z4
 obtain ⟨y0, y1, y2⟩ := BY.out.q3
 obtain ⟨fy0, fy1, fy2⟩ := BY.out.z3
 obtain ⟨r0, r1, r2, r3⟩ := BR.out.q4
 obtain ⟨fr0, fr1, fr2, fr3⟩ := BR.out.z4
 go_wp2_with fail
 refine (HF.out _ A1 n c1 (by omega) (((Reads.of_own HO.out).ext (ext_alloc (ext_refl _) _) (Nat.le_refl _)).more (by simp))).mono ?_
 rintro e w3 ⟨rfl, hb3⟩
 have z3 : w1.heap.size < w3.heap.size := by (have := hb3.size; simp at this; omega)
 have z30 : w.heap.size + 1 + 1 < w3.heap.size := by omega
 have z31 : w.heap.size < w3.heap.size := by omega
 have b3 := Lib.hid (ext_trans hbw.out (ext_trans (ext_alloc (ext_refl _) _) hb3))
 obtain ⟨s0, s1, s2, s3⟩ := (BR.out.ext (ext_trans (ext_alloc (ext_refl _) _) hb3)).q4
 obtain ⟨fs0, fs1, fs2, fs3⟩ := (BR.out.ext (ext_trans (ext_alloc (ext_refl _) _) hb3)).z4
 clear hb3
 go_wp2
 refine bodyPost_ret (v := .tuple #[schV 0 none 0 0 0 0, .bool false]) (by simp [results, Tryz.results60, go_sem, *]) rfl ⟨rfl, (by repeat (first | exact ext_refl _ | exact hbw.out | exact (b3).out | refine ext_alloc ?_ _ | refine ext_set ?_ (by simp <;> omega) _))⟩
set_option maxRecDepth 100000 in
set_option maxHeartbeats 4000000 in
theorem stepped_find_no_6 (day pa le id v : Int) (A : Option Addr) (n c : Nat) (l : List R5) (w : World) (hn : n ≤ 8) (hA : SlOk A n c) (h : Reads w w.heap.size 5 A n (rowsV l)) (hf : findI l id = -1) :
 Calls Tryz.prog 60 #[schV day A n c pa le, .agg #[.int .i64 6, .int .i64 id, .int .i64 v]] w (RetSch none w) := by
 have HF := Lib.hid (fun (w : World) A n c h => at_any day pa le id A n c l w h)
 rw [hf] at HF
 clear hf
 have H := Lib.hid h
 have HL := Lib.hid (rows_len h)
 have HA := Lib.hid (fun w h => own_any day pa le A n c l w (by omega) hA h)
 clear h
 go_enter Tryz.func60, Tryz.ntmps60
 go_wp2_with fail
 refine (HA.out _ ((H.out.ext (ext_alloc (ext_alloc (ext_alloc (ext_refl _) _) _) _) (Nat.le_refl _)).more (by simp; omega))).mono ?_
 rintro e w1 ⟨A1, c1, rfl, hown, hb1⟩
 have z0 : w.heap.size + 1 + 1 < w1.heap.size := by (have := hb1.size; simp at this; omega)
 have z1 : w.heap.size + 1 < w1.heap.size := by omega
 have z2 : w.heap.size < w1.heap.size := by omega
 have BX : Hid (Blk w1 w.heap.size 32 #[.int .i64 day, .slice A n c, .int .i64 pa, .int .i64 le]) := Lib.hid (((Blk.new w _ _).ext (ext_alloc (ext_alloc (ext_refl _) _) _)).ext hb1)
 have BY : Hid (Blk w1 (w.heap.size + 1) 82 #[.int .i64 6, .int .i64 id, .int .i64 v]) := Lib.hid (by
  have := ((Blk.new (w.alloc (.cells #[.int .i64 day, .slice A n c, .int .i64 pa, .int .i64 le] 32)) #[.int .i64 6, .int .i64 id, .int .i64 v] 82).ext (ext_alloc (ext_refl _) (.cells #[.int .i64 0, .slice none 0 0, .int .i64 0, .int .i64 0] 32))).ext hb1
  simpa using this)
 have BR : Hid (Blk w1 (w.heap.size + 1 + 1) 32 #[.int .i64 0, .slice none 0 0, .int .i64 0, .int .i64 0]) := Lib.hid (by
  have := (Blk.new ((w.alloc (.cells #[.int .i64 day, .slice A n c, .int .i64 pa, .int .i64 le] 32)).alloc (.cells #[.int .i64 6, .int .i64 id, .int .i64 v] 82)) #[.int .i64 0, .slice none 0 0, .int .i64 0, .int .i64 0] 32).ext hb1
  simpa using this)
 have hbw := Lib.hid (ext_trans (ext_alloc (ext_alloc (ext_alloc (ext_refl w) _) _) _) hb1)
 have HO : Hid (w1.ownsRow w.heap.size 111 5 (.slice A1 n c1) n (rowsV l)) := Lib.hid (own_base hown (by simp; omega))
 clear hb1 hown
 obtain ⟨x0, x1, x2, x3⟩ := BX.out.q4
 obtain ⟨fx0, fx1, fx2, fx3⟩ := BX.out.z4
 obtain ⟨y0, y1, y2⟩ := BY.out.q3
 obtain ⟨fy0, fy1, fy2⟩ := BY.out.z3
 obtain ⟨r0, r1, r2, r3⟩ := BR.out.q4
 obtain ⟨fr0, fr1, fr2, fr3⟩ := BR.out.z4
 go_wp2_with fail
 refine (HF.out _ A1 n c1 (by omega) (((Reads.of_own HO.out).ext (ext_alloc (ext_refl _) _) (Nat.le_refl _)).more (by simp))).mono ?_
 rintro e w3 ⟨rfl, hb3⟩
 have z3 : w1.heap.size < w3.heap.size := by (have := hb3.size; simp at this; omega)
 have z30 : w.heap.size + 1 + 1 < w3.heap.size := by omega
 have z31 : w.heap.size < w3.heap.size := by omega
 have b3 := Lib.hid (ext_trans hbw.out (ext_trans (ext_alloc (ext_refl _) _) hb3))
 obtain ⟨s0, s1, s2, s3⟩ := (BR.out.ext (ext_trans (ext_alloc (ext_refl _) _) hb3)).q4
 obtain ⟨fs0, fs1, fs2, fs3⟩ := (BR.out.ext (ext_trans (ext_alloc (ext_refl _) _) hb3)).z4
 clear hb3
 go_wp2
 refine bodyPost_ret (v := .tuple #[schV 0 none 0 0 0 0, .bool false]) (by simp [results, Tryz.results60, go_sem, *]) rfl ⟨rfl, (by repeat (first | exact ext_refl _ | exact hbw.out | exact (b3).out | refine ext_alloc ?_ _ | refine ext_set ?_ (by simp <;> omega) _))⟩
set_option maxRecDepth 100000 in
set_option maxHeartbeats 4000000 in
theorem stepped_wait (day pa le id v : Int) (A : Option Addr) (n c : Nat) (l : List R5) (w : World) (hn : n ≤ 8) (hA : SlOk A n c) (h : Reads w w.heap.size 5 A n (rowsV l)) (hid : id = 0) (hv : 1 ≤ v) (hv2 : v ≤ 9223372036854775807) (hs : schB day l pa le = true) :
 Calls Tryz.prog 60 #[schV day A n c pa le, .agg #[.int .i64 1, .int .i64 id, .int .i64 v]] w (RetSch (if schB (day + v) l pa le = true then some (day + v, l, pa, le) else none) w) := by
 subst hid
 have hday := schB_day hs
 have hidd : ((0 : Int) != 0) = false := rfl
 have hvv : decide (v < 1) = false := by simpa using hv
 clear hs
 by_cases hsm : v ≤ 10000
 · skip
   obtain ⟨O, hO⟩ : ∃ O, O = (if schB (day + v) l pa le = true then some (day + v, l, pa, le) else none) := ⟨_, rfl⟩
   rw [← hO]
   have HOO := Lib.hid hO
   clear hO
   have H := Lib.hid h
   have HL := Lib.hid (rows_len h)
   have HA := Lib.hid (fun w h => own_any day pa le A n c l w (by omega) hA h)
   clear h
   go_enter Tryz.func60, Tryz.ntmps60
   go_wp2_with fail
   refine (HA.out _ ((H.out.ext (ext_alloc (ext_alloc (ext_alloc (ext_refl _) _) _) _) (Nat.le_refl _)).more (by simp; omega))).mono ?_
   rintro e w1 ⟨A1, c1, rfl, hown, hb1⟩
   have z0 : w.heap.size + 1 + 1 < w1.heap.size := by (have := hb1.size; simp at this; omega)
   have z1 : w.heap.size + 1 < w1.heap.size := by omega
   have z2 : w.heap.size < w1.heap.size := by omega
   have BX : Hid (Blk w1 w.heap.size 32 #[.int .i64 day, .slice A n c, .int .i64 pa, .int .i64 le]) := Lib.hid (((Blk.new w _ _).ext (ext_alloc (ext_alloc (ext_refl _) _) _)).ext hb1)
   have BY : Hid (Blk w1 (w.heap.size + 1) 82 #[.int .i64 1, .int .i64 0, .int .i64 v]) := Lib.hid (by
    have := ((Blk.new (w.alloc (.cells #[.int .i64 day, .slice A n c, .int .i64 pa, .int .i64 le] 32)) #[.int .i64 1, .int .i64 0, .int .i64 v] 82).ext (ext_alloc (ext_refl _) (.cells #[.int .i64 0, .slice none 0 0, .int .i64 0, .int .i64 0] 32))).ext hb1
    simpa using this)
   have BR : Hid (Blk w1 (w.heap.size + 1 + 1) 32 #[.int .i64 0, .slice none 0 0, .int .i64 0, .int .i64 0]) := Lib.hid (by
    have := (Blk.new ((w.alloc (.cells #[.int .i64 day, .slice A n c, .int .i64 pa, .int .i64 le] 32)).alloc (.cells #[.int .i64 1, .int .i64 0, .int .i64 v] 82)) #[.int .i64 0, .slice none 0 0, .int .i64 0, .int .i64 0] 32).ext hb1
    simpa using this)
   have hbw := Lib.hid (ext_trans (ext_alloc (ext_alloc (ext_alloc (ext_refl w) _) _) _) hb1)
   have HO : Hid (w1.ownsRow w.heap.size 111 5 (.slice A1 n c1) n (rowsV l)) := Lib.hid (own_base hown (by simp; omega))
   clear hb1 hown
   obtain ⟨x0, x1, x2, x3⟩ := BX.out.q4
   obtain ⟨fx0, fx1, fx2, fx3⟩ := BX.out.z4
   obtain ⟨y0, y1, y2⟩ := BY.out.q3
   obtain ⟨fy0, fy1, fy2⟩ := BY.out.z3
   obtain ⟨r0, r1, r2, r3⟩ := BR.out.q4
   obtain ⟨fr0, fr1, fr2, fr3⟩ := BR.out.z4
   obtain ⟨w5, hw5⟩ : ∃ w5, w5 = w1.alloc (.cells #[.int .i64 (day + v), .slice A1 n c1, .int .i64 pa, .int .i64 le] 32) := ⟨_, rfl⟩
   have b5 : Hid (Below w.heap.size w w5) := Lib.hid (by rw [hw5]; exact ext_alloc hbw.out _)
   have O5 : Hid (w5.ownsRow w.heap.size 111 5 (.slice A1 n c1) n (rowsV l)) := Lib.hid (by rw [hw5]; exact own_ext HO.out (ext_alloc (ext_refl _) _))
   have GR5 : Hid (Blk w5 (w.heap.size + 1 + 1) 32 #[.int .i64 0, .slice none 0 0, .int .i64 0, .int .i64 0]) := Lib.hid (by rw [hw5]; exact BR.out.ext (ext_alloc (ext_refl _) _))
   have GT5 : Hid (Blk w5 w1.heap.size 32 #[.int .i64 (day + v), .slice A1 n c1, .int .i64 pa, .int .i64 le]) := Lib.hid (by rw [hw5]; exact Blk.new _ _ _)
   have z5 : w1.heap.size + 1 = w5.heap.size := by rw [hw5]; simp
   go_wp2_with fail
   rw [← hw5]
   clear hw5 x0 x1 x2 x3 fx0 fx1 fx2 fx3 y0 y1 y2 fy0 fy1 fy2 r0 r1 r2 r3 fr0 fr1 fr2 fr3
   obtain ⟨q0, q1, q2, q3⟩ := GT5.out.q4
   obtain ⟨fq0, fq1, fq2, fq3⟩ := GT5.out.z4
   have HI := Lib.hid (fun w A n c h hn => isSchool_any ((day + v)) (pa) (le) A n c (l) w hn h)
   rcases hS : schB ((day + v)) (l) (pa) (le) with _ | _
   · rw [hS] at HI
     have HS := Lib.hid hS
     clear hS
     refine (HI.out _ A1 _ c1 (Reads.of_own O5.out) (by omega)).mono ?_
     rintro e w8 ⟨rfl, hb8⟩
     have z8 := hb8.size
     have z81 : w1.heap.size < w8.heap.size := by omega
     have z80 : w.heap.size + 1 + 1 < w8.heap.size := by omega
     have z82 : w.heap.size + 1 < w8.heap.size := by omega
     have z83 : w.heap.size < w8.heap.size := by omega
     have b8 := Lib.hid (ext_trans b5.out hb8)
     have O8 := Lib.hid (own_ext O5.out hb8)
     have GT8 := Lib.hid (GT5.out.ext hb8)
     have GR8 := Lib.hid (GR5.out.ext hb8)
     obtain ⟨a0, a1, a2, a3⟩ := GT8.out.q4
     obtain ⟨fa0, fa1, fa2, fa3⟩ := GT8.out.z4
     obtain ⟨d0, d1, d2, d3⟩ := GR8.out.q4
     obtain ⟨fd0, fd1, fd2, fd3⟩ := GR8.out.z4
     clear hb8 q0 fq0 q1 fq1 q2 fq2 q3 fq3
     go_wp2
     refine bodyPost_ret (v := .tuple #[schV 0 none 0 0 0 0, .bool false]) (by simp [results, Tryz.results60, go_sem, *]) rfl ?_
     rw [HOO.out]
     rw [if_neg (by rw [HS.out]; simp)]
     refine ⟨rfl, ?_⟩
     repeat (first | (with_reducible exact b8.out) | (with_reducible refine ext_set ?_ (by simp <;> omega) _))
   · rw [hS] at HI
     have HS := Lib.hid hS
     clear hS
     refine (HI.out _ A1 _ c1 (Reads.of_own O5.out) (by omega)).mono ?_
     rintro e w8 ⟨rfl, hb8⟩
     have z8 := hb8.size
     have z81 : w1.heap.size < w8.heap.size := by omega
     have z80 : w.heap.size + 1 + 1 < w8.heap.size := by omega
     have z82 : w.heap.size + 1 < w8.heap.size := by omega
     have z83 : w.heap.size < w8.heap.size := by omega
     have b8 := Lib.hid (ext_trans b5.out hb8)
     have O8 := Lib.hid (own_ext O5.out hb8)
     have GT8 := Lib.hid (GT5.out.ext hb8)
     have GR8 := Lib.hid (GR5.out.ext hb8)
     obtain ⟨a0, a1, a2, a3⟩ := GT8.out.q4
     obtain ⟨fa0, fa1, fa2, fa3⟩ := GT8.out.z4
     obtain ⟨d0, d1, d2, d3⟩ := GR8.out.q4
     obtain ⟨fd0, fd1, fd2, fd3⟩ := GR8.out.z4
     clear hb8 q0 fq0 q1 fq1 q2 fq2 q3 fq3
     go_wp2
     refine bodyPost_ret (v := .tuple #[schV ((day + v)) A1 (n) c1 (pa) (le), .bool true]) (by simp [results, Tryz.results60, go_sem, *]) rfl ?_
     rw [HOO.out]
     rw [if_pos HS.out]
     unfold RetSch
     dsimp only
     rw [HL.out]
     refine ⟨_, _, rfl, ?_, ?_⟩
     · have hne := own_nb O8.out GR8.out (by decide)
       iterate 4 refine own_set_nb ?_ hne _
       exact O8.out
     · iterate 4 refine ext_set ?_ (by show w.heap.size ≤ w.heap.size + 1 + 1; omega) _
       exact b8.out
 · have hno : schB (day + v) l pa le = false := by
    rw [Bool.eq_false_iff]; intro h; have := schB_day h; omega
   have hno2 : schB (wrap64 (day + v)) l pa le = false := by
    rw [Bool.eq_false_iff]; intro h; have := schB_day h; unfold wrap64 at this; omega
   rw [if_neg (by rw [hno]; simp)]
   clear hno
   have H := Lib.hid h
   have HL := Lib.hid (rows_len h)
   have HA := Lib.hid (fun w h => own_any day pa le A n c l w (by omega) hA h)
   clear h
   go_enter Tryz.func60, Tryz.ntmps60
   go_wp2_with fail
   refine (HA.out _ ((H.out.ext (ext_alloc (ext_alloc (ext_alloc (ext_refl _) _) _) _) (Nat.le_refl _)).more (by simp; omega))).mono ?_
   rintro e w1 ⟨A1, c1, rfl, hown, hb1⟩
   have z0 : w.heap.size + 1 + 1 < w1.heap.size := by (have := hb1.size; simp at this; omega)
   have z1 : w.heap.size + 1 < w1.heap.size := by omega
   have z2 : w.heap.size < w1.heap.size := by omega
   have BX : Hid (Blk w1 w.heap.size 32 #[.int .i64 day, .slice A n c, .int .i64 pa, .int .i64 le]) := Lib.hid (((Blk.new w _ _).ext (ext_alloc (ext_alloc (ext_refl _) _) _)).ext hb1)
   have BY : Hid (Blk w1 (w.heap.size + 1) 82 #[.int .i64 1, .int .i64 0, .int .i64 v]) := Lib.hid (by
    have := ((Blk.new (w.alloc (.cells #[.int .i64 day, .slice A n c, .int .i64 pa, .int .i64 le] 32)) #[.int .i64 1, .int .i64 0, .int .i64 v] 82).ext (ext_alloc (ext_refl _) (.cells #[.int .i64 0, .slice none 0 0, .int .i64 0, .int .i64 0] 32))).ext hb1
    simpa using this)
   have BR : Hid (Blk w1 (w.heap.size + 1 + 1) 32 #[.int .i64 0, .slice none 0 0, .int .i64 0, .int .i64 0]) := Lib.hid (by
    have := (Blk.new ((w.alloc (.cells #[.int .i64 day, .slice A n c, .int .i64 pa, .int .i64 le] 32)).alloc (.cells #[.int .i64 1, .int .i64 0, .int .i64 v] 82)) #[.int .i64 0, .slice none 0 0, .int .i64 0, .int .i64 0] 32).ext hb1
    simpa using this)
   have hbw := Lib.hid (ext_trans (ext_alloc (ext_alloc (ext_alloc (ext_refl w) _) _) _) hb1)
   have HO : Hid (w1.ownsRow w.heap.size 111 5 (.slice A1 n c1) n (rowsV l)) := Lib.hid (own_base hown (by simp; omega))
   clear hb1 hown
   obtain ⟨x0, x1, x2, x3⟩ := BX.out.q4
   obtain ⟨fx0, fx1, fx2, fx3⟩ := BX.out.z4
   obtain ⟨y0, y1, y2⟩ := BY.out.q3
   obtain ⟨fy0, fy1, fy2⟩ := BY.out.z3
   obtain ⟨r0, r1, r2, r3⟩ := BR.out.q4
   obtain ⟨fr0, fr1, fr2, fr3⟩ := BR.out.z4
   obtain ⟨w5, hw5⟩ : ∃ w5, w5 = w1.alloc (.cells #[.int .i64 (wrap64 (day + v)), .slice A1 n c1, .int .i64 pa, .int .i64 le] 32) := ⟨_, rfl⟩
   have b5 : Hid (Below w.heap.size w w5) := Lib.hid (by rw [hw5]; exact ext_alloc hbw.out _)
   have O5 : Hid (w5.ownsRow w.heap.size 111 5 (.slice A1 n c1) n (rowsV l)) := Lib.hid (by rw [hw5]; exact own_ext HO.out (ext_alloc (ext_refl _) _))
   have GR5 : Hid (Blk w5 (w.heap.size + 1 + 1) 32 #[.int .i64 0, .slice none 0 0, .int .i64 0, .int .i64 0]) := Lib.hid (by rw [hw5]; exact BR.out.ext (ext_alloc (ext_refl _) _))
   have GT5 : Hid (Blk w5 w1.heap.size 32 #[.int .i64 (wrap64 (day + v)), .slice A1 n c1, .int .i64 pa, .int .i64 le]) := Lib.hid (by rw [hw5]; exact Blk.new _ _ _)
   have z5 : w1.heap.size + 1 = w5.heap.size := by rw [hw5]; simp
   go_wp2_with fail
   rw [← hw5]
   clear hw5 x0 x1 x2 x3 fx0 fx1 fx2 fx3 y0 y1 y2 fy0 fy1 fy2 r0 r1 r2 r3 fr0 fr1 fr2 fr3
   obtain ⟨q0, q1, q2, q3⟩ := GT5.out.q4
   obtain ⟨fq0, fq1, fq2, fq3⟩ := GT5.out.z4
   have HI := Lib.hid (fun w A n c h hn => isSchool_any ((wrap64 (day + v))) (pa) (le) A n c (l) w hn h)
   rw [hno2] at HI
   clear hno2
   refine (HI.out _ A1 _ c1 (Reads.of_own O5.out) (by omega)).mono ?_
   rintro e w8 ⟨rfl, hb8⟩
   have z8 := hb8.size
   have z81 : w1.heap.size < w8.heap.size := by omega
   have z80 : w.heap.size + 1 + 1 < w8.heap.size := by omega
   have z82 : w.heap.size + 1 < w8.heap.size := by omega
   have z83 : w.heap.size < w8.heap.size := by omega
   have b8 := Lib.hid (ext_trans b5.out hb8)
   have O8 := Lib.hid (own_ext O5.out hb8)
   have GT8 := Lib.hid (GT5.out.ext hb8)
   have GR8 := Lib.hid (GR5.out.ext hb8)
   obtain ⟨a0, a1, a2, a3⟩ := GT8.out.q4
   obtain ⟨fa0, fa1, fa2, fa3⟩ := GT8.out.z4
   obtain ⟨d0, d1, d2, d3⟩ := GR8.out.q4
   obtain ⟨fd0, fd1, fd2, fd3⟩ := GR8.out.z4
   clear hb8 q0 fq0 q1 fq1 q2 fq2 q3 fq3
   go_wp2
   refine bodyPost_ret (v := .tuple #[schV 0 none 0 0 0 0, .bool false]) (by simp [results, Tryz.results60, go_sem, *]) rfl ?_
   refine ⟨rfl, ?_⟩
   repeat (first | (with_reducible exact b8.out) | (with_reducible refine ext_set ?_ (by simp <;> omega) _))
end Go.Proofs.YtkcbgiegoadkbaaGreat
