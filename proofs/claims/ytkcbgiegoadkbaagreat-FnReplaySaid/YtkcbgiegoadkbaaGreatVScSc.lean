/- stepped: an exam, paying. -/
import Derived.Test.YtkcbgiegoadkbaaGreatVScSb
namespace Go.Proofs.YtkcbgiegoadkbaaGreat
open Go.RowKit
set_option linter.unusedVariables false
set_option linter.unusedSimpArgs false
set_option maxRecDepth 100000 in
set_option maxHeartbeats 4000000 in
theorem stepped_4 (day pa le id v : Int) (A : Option Addr) (n c : Nat) (l : List R5) (w : World) (hn : n ≤ 8) (hA : SlOk A n c) (h : Reads w w.heap.size 5 A n (rowsV l)) (i : Nat) (r : R5) (hf : findI l id = i) (hr : l[i]? = some r) (hs : schB day l pa le = true) :
 Calls Tryz.prog 60 #[schV day A n c pa le, .agg #[.int .i64 4, .int .i64 id, .int .i64 v]] w (RetSch (((teach day pa le l i r 4 v).map fun q => (day, q.1, q.2.1, q.2.2)).filter fun q => schB q.1 q.2.1 q.2.2.1 q.2.2.2) w) := by
 have hst := schB_mem hs (List.mem_of_getElem? hr)
 have hday := schB_day hs
 have hpl := schB_pa hs
 have hin : i < n := by have := (List.getElem?_eq_some_iff.1 hr).1; have := rows_len h; omega
 have HF := Lib.hid (fun (w : World) A n c h => at_any day pa le id A n c l w h)
 rw [hf] at HF
 have HRR := Lib.hid hr
 clear hf hs hr
 have H := Lib.hid h
 have HL := Lib.hid (rows_len h)
 have HA := Lib.hid (fun w h => own_any day pa le A n c l w (by omega) hA h)
 clear h
 go_enter Tryz.func60, Tryz.ntmps60
 go_wp2_with fail
 refine (HA.out _ ((H.out.ext (ext_alloc (ext_alloc (ext_alloc (ext_refl _) _) _) _) (Nat.le_refl _)).more (by simp; omega))).mono ?_
 rintro e w1 ⟨A1, c1, rfl, hown, hb1⟩
 have z0 : w.heap.size + 1 + 1 < w1.heap.size := by (have := hb1.size; simp at this; omega)
 have z1 : w.heap.size + 1 < w1.heap.size := by omega
 have z2 : w.heap.size < w1.heap.size := by omega
 have BX : Hid (Blk w1 w.heap.size 32 #[.int .i64 day, .slice A n c, .int .i64 pa, .int .i64 le]) := Lib.hid (((Blk.new w _ _).ext (ext_alloc (ext_alloc (ext_refl _) _) _)).ext hb1)
 have BY : Hid (Blk w1 (w.heap.size + 1) 82 #[.int .i64 4, .int .i64 id, .int .i64 v]) := Lib.hid (by
  have := ((Blk.new (w.alloc (.cells #[.int .i64 day, .slice A n c, .int .i64 pa, .int .i64 le] 32)) #[.int .i64 4, .int .i64 id, .int .i64 v] 82).ext (ext_alloc (ext_refl _) (.cells #[.int .i64 0, .slice none 0 0, .int .i64 0, .int .i64 0] 32))).ext hb1
  simpa using this)
 have BR : Hid (Blk w1 (w.heap.size + 1 + 1) 32 #[.int .i64 0, .slice none 0 0, .int .i64 0, .int .i64 0]) := Lib.hid (by
  have := (Blk.new ((w.alloc (.cells #[.int .i64 day, .slice A n c, .int .i64 pa, .int .i64 le] 32)).alloc (.cells #[.int .i64 4, .int .i64 id, .int .i64 v] 82)) #[.int .i64 0, .slice none 0 0, .int .i64 0, .int .i64 0] 32).ext hb1
  simpa using this)
 have hbw := Lib.hid (ext_trans (ext_alloc (ext_alloc (ext_alloc (ext_refl w) _) _) _) hb1)
 have HO : Hid (w1.ownsRow w.heap.size 111 5 (.slice A1 n c1) n (rowsV l)) := Lib.hid (own_base hown (by simp; omega))
 clear hb1 hown
 obtain ⟨x0, x1, x2, x3⟩ := BX.out.q4
 obtain ⟨fx0, fx1, fx2, fx3⟩ := BX.out.z4
 obtain ⟨y0, y1, y2⟩ := BY.out.q3
 obtain ⟨fy0, fy1, fy2⟩ := BY.out.z3
 obtain ⟨r0, r1, r2, r3⟩ := BR.out.q4
 obtain ⟨fr0, fr1, fr2, fr3⟩ := BR.out.z4
 obtain ⟨g, cap, hv1, hgb, hglt⟩ := HO.out.form (by omega)
 injection hv1 with hv1 _ hc1
 subst hv1
 clear hc1
 go_wp2_with fail
 refine (HF.out _ _ n c1 (by omega) (((Reads.of_own HO.out).ext (ext_alloc (ext_refl _) _) (Nat.le_refl _)).more (by simp))).mono ?_
 rintro e w3 ⟨rfl, hb3⟩
 have z3 : w1.heap.size < w3.heap.size := by (have := hb3.size; simp at this; omega)
 have z30 : w.heap.size + 1 + 1 < w3.heap.size := by omega
 have z32 : w.heap.size + 1 < w3.heap.size := by omega
 have z31 : w.heap.size < w3.heap.size := by omega
 have b3 := Lib.hid (ext_trans hbw.out (ext_trans (ext_alloc (ext_refl _) _) hb3))
 have O3 := Lib.hid (own_ext HO.out (ext_trans (ext_alloc (ext_refl _) _) hb3))
 have GR3 := Lib.hid (BR.out.ext (ext_trans (ext_alloc (ext_refl _) _) hb3))
 have GY3 := Lib.hid (BY.out.ext (ext_trans (ext_alloc (ext_refl _) _) hb3))
 have GT3 : Hid (Blk w3 w1.heap.size 32 #[.int .i64 day, .slice (some ⟨g, 0, none⟩) n c1, .int .i64 pa, .int .i64 le]) := Lib.hid ((Blk.new w1 _ _).ext hb3)
 have n0 : g ≠ w.heap.size + 1 + 1 := own_ne_blk O3.out GR3.out (by decide)
 have n1 : g ≠ w1.heap.size := by omega
 have n2 : g ≠ w.heap.size + 1 := own_ne_blk O3.out GY3.out (by decide)
 obtain ⟨s0, s1, s2, s3⟩ := GR3.out.q4
 obtain ⟨fs0, fs1, fs2, fs3⟩ := GR3.out.z4
 obtain ⟨m0, m1, m2⟩ := GY3.out.q3
 obtain ⟨fm0, fm1, fm2⟩ := GY3.out.z3
 obtain ⟨t0, t1, t2, t3⟩ := GT3.out.q4
 obtain ⟨ft0, ft1, ft2, ft3⟩ := GT3.out.z4
 clear hb3 x0 x1 x2 x3 fx0 fx1 fx2 fx3 y0 y1 y2 fy0 fy1 fy2 r0 r1 r2 r3 fr0 fr1 fr2 fr3
 have hg3 : g < w3.heap.size := by omega
 go_wp2_with fail
 refine (taught_4 day pa le id v g n c1 w.heap.size i l r _ O3.out HRR.out hst hday hpl.1 hpl.2 hg3 hn).mono ?_
 rcases ht : teach day pa le l i r 4 v with _ | ⟨L, p, q⟩
 · rintro e w4 ⟨rfl, hb4⟩
   have z4 := hb4.size
   have z43 : w1.heap.size < w4.heap.size := by omega
   have z40 : w.heap.size + 1 + 1 < w4.heap.size := by omega
   have b4 := Lib.hid (ext_trans b3.out hb4)
   have GR4 := Lib.hid (GR3.out.ext hb4)
   have GT4 := Lib.hid (GT3.out.ext hb4)
   have HT := Lib.hid ht
   clear hb4 ht s0 s1 s2 s3 t0 t1 t2 t3 fs0 fs1 fs2 fs3 ft0 ft1 ft2 ft3
   obtain ⟨s0, s1, s2, s3⟩ := GR4.out.q4
   obtain ⟨fs0, fs1, fs2, fs3⟩ := GR4.out.z4
   obtain ⟨t0, t1, t2, t3⟩ := GT4.out.q4
   obtain ⟨ft0, ft1, ft2, ft3⟩ := GT4.out.z4
   go_wp2
   refine bodyPost_ret (v := .tuple #[schV 0 none 0 0 0 0, .bool false]) (by simp [results, Tryz.results60, go_sem, *]) rfl ?_
   rw [HT.out]
   refine ⟨rfl, ?_⟩
   repeat (first | (with_reducible exact (b4).out) | (with_reducible refine ext_set ?_ (by simp <;> omega) _))
 · rintro e w4 ⟨rfl, hown4, hg4⟩
   have hg4 : w3.grownBy w4 (some g) := hg4
   have z4 := hg4.size
   have z43 : w1.heap.size < w4.heap.size := by omega
   have z40 : w.heap.size + 1 + 1 < w4.heap.size := by omega
   have GR4 := Lib.hid (GR3.out.grown hg4 (by intro e; injection e with e; omega))
   have GT4 := Lib.hid (GT3.out.grown hg4 (by intro e; injection e with e; omega))
   have b4 : Hid (Below w.heap.size w w4) := Lib.hid (below_grown' O3.out (Nat.le_refl _) b3.out hg4)
   have O4 := Lib.hid hown4
   have n4 : w1.heap.size ≠ g := by omega
   have HT := Lib.hid ht
   clear hg4 hown4 ht s0 s1 s2 s3 t0 t1 t2 t3 fs0 fs1 fs2 fs3 ft0 ft1 ft2 ft3
   have hLn : L.length ≤ 1048576 := by have := teach_len HT.out; rw [HL.out] at this; omega
   obtain ⟨s0, s1, s2, s3⟩ := GR4.out.q4
   obtain ⟨fs0, fs1, fs2, fs3⟩ := GR4.out.z4
   obtain ⟨t0, t1, t2, t3⟩ := GT4.out.q4
   obtain ⟨ft0, ft1, ft2, ft3⟩ := GT4.out.z4
   obtain ⟨w5, hw5⟩ : ∃ w5, w5 = ((((w4.setCell ⟨w1.heap.size, 0, none⟩ (.int .i64 day)).setCell ⟨w1.heap.size, 1, none⟩ (.slice (some ⟨g, 0, none⟩) (L.length) c1)).setCell ⟨w1.heap.size, 2, none⟩ (.int .i64 p)).setCell ⟨w1.heap.size, 3, none⟩ (.int .i64 q)) := ⟨_, rfl⟩
   have b5 : Hid (Below w.heap.size w w5) := Lib.hid (by rw [hw5]; (iterate 4 refine ext_set ?_ (by show w.heap.size ≤ w1.heap.size; omega) _); exact b4.out)
   have O5 : Hid (w5.ownsRow w.heap.size 111 5 (.slice (some ⟨g, 0, none⟩) L.length c1) L.length (rowsV L)) := Lib.hid (by rw [hw5]; (iterate 4 refine own_set_ne ?_ n4 _); exact O4.out)
   have GR5 := Lib.hid (show Blk w5 (w.heap.size + 1 + 1) 32 #[.int .i64 0, .slice none 0 0, .int .i64 0, .int .i64 0] from by rw [hw5]; (iterate 4 refine Blk.set_far ?_ (by show w1.heap.size ≠ _; omega) _); exact GR4.out)
   have GT5 := Lib.hid (show Blk w5 w1.heap.size 32 #[.int .i64 day, .slice (some ⟨g, 0, none⟩) L.length c1, .int .i64 p, .int .i64 q] from by rw [hw5]; have := (((GT4.out.set_ 0 (.int .i64 day)).set_ 1 (.slice (some ⟨g, 0, none⟩) L.length c1)).set_ 2 (.int .i64 p)).set_ 3 (.int .i64 q); simpa using this)
   have z5 : w4.heap.size = w5.heap.size := by rw [hw5]; simp [World.setCell]
   go_wp2_with fail
   rw [← hw5]
   clear hw5 t0 t1 t2 t3 ft0 ft1 ft2 ft3 s0 s1 s2 s3 fs0 fs1 fs2 fs3
   obtain ⟨q0, q1, q2, q3⟩ := GT5.out.q4
   obtain ⟨fq0, fq1, fq2, fq3⟩ := GT5.out.z4
   have HI := Lib.hid (fun w A n c h hn => isSchool_any (day) (p) (q) A n c (L) w hn h)
   rcases hS : schB (day) (L) (p) (q) with _ | _
   · rw [hS] at HI
     have HS := Lib.hid hS
     clear hS
     refine (HI.out _ (some ⟨g, 0, none⟩) _ c1 (Reads.of_own O5.out) (by omega)).mono ?_
     rintro e w8 ⟨rfl, hb8⟩
     have z8 := hb8.size
     have z81 : w1.heap.size < w8.heap.size := by omega
     have z80 : w.heap.size + 1 + 1 < w8.heap.size := by omega
     have z82 : w.heap.size + 1 < w8.heap.size := by omega
     have z83 : w.heap.size < w8.heap.size := by omega
     have b8 := Lib.hid (ext_trans b5.out hb8)
     have O8 := Lib.hid (own_ext O5.out hb8)
     have GT8 := Lib.hid (GT5.out.ext hb8)
     have GR8 := Lib.hid (GR5.out.ext hb8)
     obtain ⟨a0, a1, a2, a3⟩ := GT8.out.q4
     obtain ⟨fa0, fa1, fa2, fa3⟩ := GT8.out.z4
     obtain ⟨d0, d1, d2, d3⟩ := GR8.out.q4
     obtain ⟨fd0, fd1, fd2, fd3⟩ := GR8.out.z4
     clear hb8 q0 fq0 q1 fq1 q2 fq2 q3 fq3
     go_wp2
     refine bodyPost_ret (v := .tuple #[schV 0 none 0 0 0 0, .bool false]) (by simp [results, Tryz.results60, go_sem, *]) rfl ?_
     rw [HT.out]
     change RetSch ((some (day, L, p, q)).filter fun q => schB q.1 q.2.1 q.2.2.1 q.2.2.2) w _ _
     rw [Option.filter_some]
     rw [if_neg (by rw [HS.out]; simp)]
     refine ⟨rfl, ?_⟩
     repeat (first | (with_reducible exact b8.out) | (with_reducible refine ext_set ?_ (by simp <;> omega) _))
   · rw [hS] at HI
     have HS := Lib.hid hS
     clear hS
     refine (HI.out _ (some ⟨g, 0, none⟩) _ c1 (Reads.of_own O5.out) (by omega)).mono ?_
     rintro e w8 ⟨rfl, hb8⟩
     have z8 := hb8.size
     have z81 : w1.heap.size < w8.heap.size := by omega
     have z80 : w.heap.size + 1 + 1 < w8.heap.size := by omega
     have z82 : w.heap.size + 1 < w8.heap.size := by omega
     have z83 : w.heap.size < w8.heap.size := by omega
     have b8 := Lib.hid (ext_trans b5.out hb8)
     have O8 := Lib.hid (own_ext O5.out hb8)
     have GT8 := Lib.hid (GT5.out.ext hb8)
     have GR8 := Lib.hid (GR5.out.ext hb8)
     obtain ⟨a0, a1, a2, a3⟩ := GT8.out.q4
     obtain ⟨fa0, fa1, fa2, fa3⟩ := GT8.out.z4
     obtain ⟨d0, d1, d2, d3⟩ := GR8.out.q4
     obtain ⟨fd0, fd1, fd2, fd3⟩ := GR8.out.z4
     clear hb8 q0 fq0 q1 fq1 q2 fq2 q3 fq3
     go_wp2
     refine bodyPost_ret (v := .tuple #[schV (day) (some ⟨g, 0, none⟩) (L.length) c1 (p) (q), .bool true]) (by simp [results, Tryz.results60, go_sem, *]) rfl ?_
     rw [HT.out]
     change RetSch ((some (day, L, p, q)).filter fun q => schB q.1 q.2.1 q.2.2.1 q.2.2.2) w _ _
     rw [Option.filter_some]
     rw [if_pos HS.out]
     unfold RetSch
     dsimp only
     skip
     refine ⟨_, _, rfl, ?_, ?_⟩
     · have hne := own_nb O8.out GR8.out (by decide)
       iterate 4 refine own_set_nb ?_ hne _
       exact O8.out
     · iterate 4 refine ext_set ?_ (by show w.heap.size ≤ w.heap.size + 1 + 1; omega) _
       exact b8.out

set_option maxRecDepth 100000 in
set_option maxHeartbeats 4000000 in
theorem stepped_5 (day pa le id v : Int) (A : Option Addr) (n c : Nat) (l : List R5) (w : World) (hn : n ≤ 8) (hA : SlOk A n c) (h : Reads w w.heap.size 5 A n (rowsV l)) (i : Nat) (r : R5) (hf : findI l id = i) (hr : l[i]? = some r) (hs : schB day l pa le = true) :
 Calls Tryz.prog 60 #[schV day A n c pa le, .agg #[.int .i64 5, .int .i64 id, .int .i64 v]] w (RetSch (((teach day pa le l i r 5 v).map fun q => (day, q.1, q.2.1, q.2.2)).filter fun q => schB q.1 q.2.1 q.2.2.1 q.2.2.2) w) := by
 have hst := schB_mem hs (List.mem_of_getElem? hr)
 have hday := schB_day hs
 have hpl := schB_pa hs
 have hin : i < n := by have := (List.getElem?_eq_some_iff.1 hr).1; have := rows_len h; omega
 have HF := Lib.hid (fun (w : World) A n c h => at_any day pa le id A n c l w h)
 rw [hf] at HF
 have HRR := Lib.hid hr
 clear hf hs hr
 have H := Lib.hid h
 have HL := Lib.hid (rows_len h)
 have HA := Lib.hid (fun w h => own_any day pa le A n c l w (by omega) hA h)
 clear h
 go_enter Tryz.func60, Tryz.ntmps60
 go_wp2_with fail
 refine (HA.out _ ((H.out.ext (ext_alloc (ext_alloc (ext_alloc (ext_refl _) _) _) _) (Nat.le_refl _)).more (by simp; omega))).mono ?_
 rintro e w1 ⟨A1, c1, rfl, hown, hb1⟩
 have z0 : w.heap.size + 1 + 1 < w1.heap.size := by (have := hb1.size; simp at this; omega)
 have z1 : w.heap.size + 1 < w1.heap.size := by omega
 have z2 : w.heap.size < w1.heap.size := by omega
 have BX : Hid (Blk w1 w.heap.size 32 #[.int .i64 day, .slice A n c, .int .i64 pa, .int .i64 le]) := Lib.hid (((Blk.new w _ _).ext (ext_alloc (ext_alloc (ext_refl _) _) _)).ext hb1)
 have BY : Hid (Blk w1 (w.heap.size + 1) 82 #[.int .i64 5, .int .i64 id, .int .i64 v]) := Lib.hid (by
  have := ((Blk.new (w.alloc (.cells #[.int .i64 day, .slice A n c, .int .i64 pa, .int .i64 le] 32)) #[.int .i64 5, .int .i64 id, .int .i64 v] 82).ext (ext_alloc (ext_refl _) (.cells #[.int .i64 0, .slice none 0 0, .int .i64 0, .int .i64 0] 32))).ext hb1
  simpa using this)
 have BR : Hid (Blk w1 (w.heap.size + 1 + 1) 32 #[.int .i64 0, .slice none 0 0, .int .i64 0, .int .i64 0]) := Lib.hid (by
  have := (Blk.new ((w.alloc (.cells #[.int .i64 day, .slice A n c, .int .i64 pa, .int .i64 le] 32)).alloc (.cells #[.int .i64 5, .int .i64 id, .int .i64 v] 82)) #[.int .i64 0, .slice none 0 0, .int .i64 0, .int .i64 0] 32).ext hb1
  simpa using this)
 have hbw := Lib.hid (ext_trans (ext_alloc (ext_alloc (ext_alloc (ext_refl w) _) _) _) hb1)
 have HO : Hid (w1.ownsRow w.heap.size 111 5 (.slice A1 n c1) n (rowsV l)) := Lib.hid (own_base hown (by simp; omega))
 clear hb1 hown
 obtain ⟨x0, x1, x2, x3⟩ := BX.out.q4
 obtain ⟨fx0, fx1, fx2, fx3⟩ := BX.out.z4
 obtain ⟨y0, y1, y2⟩ := BY.out.q3
 obtain ⟨fy0, fy1, fy2⟩ := BY.out.z3
 obtain ⟨r0, r1, r2, r3⟩ := BR.out.q4
 obtain ⟨fr0, fr1, fr2, fr3⟩ := BR.out.z4
 obtain ⟨g, cap, hv1, hgb, hglt⟩ := HO.out.form (by omega)
 injection hv1 with hv1 _ hc1
 subst hv1
 clear hc1
 go_wp2_with fail
 refine (HF.out _ _ n c1 (by omega) (((Reads.of_own HO.out).ext (ext_alloc (ext_refl _) _) (Nat.le_refl _)).more (by simp))).mono ?_
 rintro e w3 ⟨rfl, hb3⟩
 have z3 : w1.heap.size < w3.heap.size := by (have := hb3.size; simp at this; omega)
 have z30 : w.heap.size + 1 + 1 < w3.heap.size := by omega
 have z32 : w.heap.size + 1 < w3.heap.size := by omega
 have z31 : w.heap.size < w3.heap.size := by omega
 have b3 := Lib.hid (ext_trans hbw.out (ext_trans (ext_alloc (ext_refl _) _) hb3))
 have O3 := Lib.hid (own_ext HO.out (ext_trans (ext_alloc (ext_refl _) _) hb3))
 have GR3 := Lib.hid (BR.out.ext (ext_trans (ext_alloc (ext_refl _) _) hb3))
 have GY3 := Lib.hid (BY.out.ext (ext_trans (ext_alloc (ext_refl _) _) hb3))
 have GT3 : Hid (Blk w3 w1.heap.size 32 #[.int .i64 day, .slice (some ⟨g, 0, none⟩) n c1, .int .i64 pa, .int .i64 le]) := Lib.hid ((Blk.new w1 _ _).ext hb3)
 have n0 : g ≠ w.heap.size + 1 + 1 := own_ne_blk O3.out GR3.out (by decide)
 have n1 : g ≠ w1.heap.size := by omega
 have n2 : g ≠ w.heap.size + 1 := own_ne_blk O3.out GY3.out (by decide)
 obtain ⟨s0, s1, s2, s3⟩ := GR3.out.q4
 obtain ⟨fs0, fs1, fs2, fs3⟩ := GR3.out.z4
 obtain ⟨m0, m1, m2⟩ := GY3.out.q3
 obtain ⟨fm0, fm1, fm2⟩ := GY3.out.z3
 obtain ⟨t0, t1, t2, t3⟩ := GT3.out.q4
 obtain ⟨ft0, ft1, ft2, ft3⟩ := GT3.out.z4
 clear hb3 x0 x1 x2 x3 fx0 fx1 fx2 fx3 y0 y1 y2 fy0 fy1 fy2 r0 r1 r2 r3 fr0 fr1 fr2 fr3
 have hg3 : g < w3.heap.size := by omega
 go_wp2_with fail
 refine (taught_5 day pa le id v g n c1 w.heap.size i l r _ O3.out HRR.out hst hday hpl.1 hpl.2 hg3 hn).mono ?_
 rcases ht : teach day pa le l i r 5 v with _ | ⟨L, p, q⟩
 · rintro e w4 ⟨rfl, hb4⟩
   have z4 := hb4.size
   have z43 : w1.heap.size < w4.heap.size := by omega
   have z40 : w.heap.size + 1 + 1 < w4.heap.size := by omega
   have b4 := Lib.hid (ext_trans b3.out hb4)
   have GR4 := Lib.hid (GR3.out.ext hb4)
   have GT4 := Lib.hid (GT3.out.ext hb4)
   have HT := Lib.hid ht
   clear hb4 ht s0 s1 s2 s3 t0 t1 t2 t3 fs0 fs1 fs2 fs3 ft0 ft1 ft2 ft3
   obtain ⟨s0, s1, s2, s3⟩ := GR4.out.q4
   obtain ⟨fs0, fs1, fs2, fs3⟩ := GR4.out.z4
   obtain ⟨t0, t1, t2, t3⟩ := GT4.out.q4
   obtain ⟨ft0, ft1, ft2, ft3⟩ := GT4.out.z4
   go_wp2
   refine bodyPost_ret (v := .tuple #[schV 0 none 0 0 0 0, .bool false]) (by simp [results, Tryz.results60, go_sem, *]) rfl ?_
   rw [HT.out]
   refine ⟨rfl, ?_⟩
   repeat (first | (with_reducible exact (b4).out) | (with_reducible refine ext_set ?_ (by simp <;> omega) _))
 · rintro e w4 ⟨rfl, hown4, hg4⟩
   have hg4 : w3.grownBy w4 (some g) := hg4
   have z4 := hg4.size
   have z43 : w1.heap.size < w4.heap.size := by omega
   have z40 : w.heap.size + 1 + 1 < w4.heap.size := by omega
   have GR4 := Lib.hid (GR3.out.grown hg4 (by intro e; injection e with e; omega))
   have GT4 := Lib.hid (GT3.out.grown hg4 (by intro e; injection e with e; omega))
   have b4 : Hid (Below w.heap.size w w4) := Lib.hid (below_grown' O3.out (Nat.le_refl _) b3.out hg4)
   have O4 := Lib.hid hown4
   have n4 : w1.heap.size ≠ g := by omega
   have HT := Lib.hid ht
   clear hg4 hown4 ht s0 s1 s2 s3 t0 t1 t2 t3 fs0 fs1 fs2 fs3 ft0 ft1 ft2 ft3
   have hLn : L.length ≤ 1048576 := by have := teach_len HT.out; rw [HL.out] at this; omega
   obtain ⟨s0, s1, s2, s3⟩ := GR4.out.q4
   obtain ⟨fs0, fs1, fs2, fs3⟩ := GR4.out.z4
   obtain ⟨t0, t1, t2, t3⟩ := GT4.out.q4
   obtain ⟨ft0, ft1, ft2, ft3⟩ := GT4.out.z4
   obtain ⟨w5, hw5⟩ : ∃ w5, w5 = ((((w4.setCell ⟨w1.heap.size, 0, none⟩ (.int .i64 day)).setCell ⟨w1.heap.size, 1, none⟩ (.slice (some ⟨g, 0, none⟩) (L.length) c1)).setCell ⟨w1.heap.size, 2, none⟩ (.int .i64 p)).setCell ⟨w1.heap.size, 3, none⟩ (.int .i64 q)) := ⟨_, rfl⟩
   have b5 : Hid (Below w.heap.size w w5) := Lib.hid (by rw [hw5]; (iterate 4 refine ext_set ?_ (by show w.heap.size ≤ w1.heap.size; omega) _); exact b4.out)
   have O5 : Hid (w5.ownsRow w.heap.size 111 5 (.slice (some ⟨g, 0, none⟩) L.length c1) L.length (rowsV L)) := Lib.hid (by rw [hw5]; (iterate 4 refine own_set_ne ?_ n4 _); exact O4.out)
   have GR5 := Lib.hid (show Blk w5 (w.heap.size + 1 + 1) 32 #[.int .i64 0, .slice none 0 0, .int .i64 0, .int .i64 0] from by rw [hw5]; (iterate 4 refine Blk.set_far ?_ (by show w1.heap.size ≠ _; omega) _); exact GR4.out)
   have GT5 := Lib.hid (show Blk w5 w1.heap.size 32 #[.int .i64 day, .slice (some ⟨g, 0, none⟩) L.length c1, .int .i64 p, .int .i64 q] from by rw [hw5]; have := (((GT4.out.set_ 0 (.int .i64 day)).set_ 1 (.slice (some ⟨g, 0, none⟩) L.length c1)).set_ 2 (.int .i64 p)).set_ 3 (.int .i64 q); simpa using this)
   have z5 : w4.heap.size = w5.heap.size := by rw [hw5]; simp [World.setCell]
   go_wp2_with fail
   rw [← hw5]
   clear hw5 t0 t1 t2 t3 ft0 ft1 ft2 ft3 s0 s1 s2 s3 fs0 fs1 fs2 fs3
   obtain ⟨q0, q1, q2, q3⟩ := GT5.out.q4
   obtain ⟨fq0, fq1, fq2, fq3⟩ := GT5.out.z4
   have HI := Lib.hid (fun w A n c h hn => isSchool_any (day) (p) (q) A n c (L) w hn h)
   rcases hS : schB (day) (L) (p) (q) with _ | _
   · rw [hS] at HI
     have HS := Lib.hid hS
     clear hS
     refine (HI.out _ (some ⟨g, 0, none⟩) _ c1 (Reads.of_own O5.out) (by omega)).mono ?_
     rintro e w8 ⟨rfl, hb8⟩
     have z8 := hb8.size
     have z81 : w1.heap.size < w8.heap.size := by omega
     have z80 : w.heap.size + 1 + 1 < w8.heap.size := by omega
     have z82 : w.heap.size + 1 < w8.heap.size := by omega
     have z83 : w.heap.size < w8.heap.size := by omega
     have b8 := Lib.hid (ext_trans b5.out hb8)
     have O8 := Lib.hid (own_ext O5.out hb8)
     have GT8 := Lib.hid (GT5.out.ext hb8)
     have GR8 := Lib.hid (GR5.out.ext hb8)
     obtain ⟨a0, a1, a2, a3⟩ := GT8.out.q4
     obtain ⟨fa0, fa1, fa2, fa3⟩ := GT8.out.z4
     obtain ⟨d0, d1, d2, d3⟩ := GR8.out.q4
     obtain ⟨fd0, fd1, fd2, fd3⟩ := GR8.out.z4
     clear hb8 q0 fq0 q1 fq1 q2 fq2 q3 fq3
     go_wp2
     refine bodyPost_ret (v := .tuple #[schV 0 none 0 0 0 0, .bool false]) (by simp [results, Tryz.results60, go_sem, *]) rfl ?_
     rw [HT.out]
     change RetSch ((some (day, L, p, q)).filter fun q => schB q.1 q.2.1 q.2.2.1 q.2.2.2) w _ _
     rw [Option.filter_some]
     rw [if_neg (by rw [HS.out]; simp)]
     refine ⟨rfl, ?_⟩
     repeat (first | (with_reducible exact b8.out) | (with_reducible refine ext_set ?_ (by simp <;> omega) _))
   · rw [hS] at HI
     have HS := Lib.hid hS
     clear hS
     refine (HI.out _ (some ⟨g, 0, none⟩) _ c1 (Reads.of_own O5.out) (by omega)).mono ?_
     rintro e w8 ⟨rfl, hb8⟩
     have z8 := hb8.size
     have z81 : w1.heap.size < w8.heap.size := by omega
     have z80 : w.heap.size + 1 + 1 < w8.heap.size := by omega
     have z82 : w.heap.size + 1 < w8.heap.size := by omega
     have z83 : w.heap.size < w8.heap.size := by omega
     have b8 := Lib.hid (ext_trans b5.out hb8)
     have O8 := Lib.hid (own_ext O5.out hb8)
     have GT8 := Lib.hid (GT5.out.ext hb8)
     have GR8 := Lib.hid (GR5.out.ext hb8)
     obtain ⟨a0, a1, a2, a3⟩ := GT8.out.q4
     obtain ⟨fa0, fa1, fa2, fa3⟩ := GT8.out.z4
     obtain ⟨d0, d1, d2, d3⟩ := GR8.out.q4
     obtain ⟨fd0, fd1, fd2, fd3⟩ := GR8.out.z4
     clear hb8 q0 fq0 q1 fq1 q2 fq2 q3 fq3
     go_wp2
     refine bodyPost_ret (v := .tuple #[schV (day) (some ⟨g, 0, none⟩) (L.length) c1 (p) (q), .bool true]) (by simp [results, Tryz.results60, go_sem, *]) rfl ?_
     rw [HT.out]
     change RetSch ((some (day, L, p, q)).filter fun q => schB q.1 q.2.1 q.2.2.1 q.2.2.2) w _ _
     rw [Option.filter_some]
     rw [if_pos HS.out]
     unfold RetSch
     dsimp only
     skip
     refine ⟨_, _, rfl, ?_, ?_⟩
     · have hne := own_nb O8.out GR8.out (by decide)
       iterate 4 refine own_set_nb ?_ hne _
       exact O8.out
     · iterate 4 refine ext_set ?_ (by show w.heap.size ≤ w.heap.size + 1 + 1; omega) _
       exact b8.out

end Go.Proofs.YtkcbgiegoadkbaaGreat
