/- The reference makes a step: waiting. -/
import Derived.Test.YtkcbgiegoadkbaaGreatVScVc
import Derived.Test.YtkcbgiegoadkbaaGreatVM1
import Derived.Test.YtkcbgiegoadkbaaGreatVHmW
namespace Go.Proofs.YtkcbgiegoadkbaaGreat
open Go.RowKit
set_option linter.unusedVariables false
set_option linter.unusedSimpArgs false
set_option maxRecDepth 100000 in
set_option maxHeartbeats 4000000 in
theorem l25Make_wait (day pa le id v : Int) (A : Option Addr) (n c : Nat) (l : List R5) (w : World) (hn : n ≤ 8) (hnc : n ≤ c) (hA : SlOk A n c) (h : Reads w w.heap.size 5 A n (rowsV l)) (hv : 1 ≤ v) (hday : 0 ≤ day ∧ day ≤ 4000) (hv2 : v ≤ 4000 - day) :
 Calls Tryz.prog 100 #[schV day A n c pa le, .agg #[.int .i64 1, .int .i64 id, .int .i64 v]] w (RetMake (if schB (day + v) l pa le = true then some (day + v, l, pa, le) else none) w) := by
 obtain ⟨O, hO⟩ : ∃ O, O = (if schB (day + v) l pa le = true then some (day + v, l, pa, le) else none) := ⟨_, rfl⟩
 rw [← hO]
 have HOO := Lib.hid hO
 clear hO
 have hgt : decide (4000 - day < v) = false := by simpa using hv2
 have H := Lib.hid h
 have HL := Lib.hid (rows_len h)
 have HA := Lib.hid (fun w h => l25Own_any day pa le A n c l w (by omega) hA h)
 have HF := Lib.hid (fun (w : World) h => l25Find_any day pa le id A n c l w (by omega) h)
 obtain ⟨zf, hzf⟩ : ∃ zf, findI l id = zf := ⟨_, rfl⟩
 rw [hzf] at HF
 clear hzf
 clear h
 go_enter Tryz.func100, Tryz.ntmps100
 go_wp2_with fail
 refine (HA.out _ ((H.out.ext (ext_alloc (ext_alloc (ext_alloc (ext_refl _) _) _) _) (Nat.le_refl _)).more (by simp; omega))).mono ?_
 rintro e w1 ⟨A1, c1, rfl, hown, hb1⟩
 have z0 : w.heap.size + 1 + 1 < w1.heap.size := by (have := hb1.size; simp at this; omega)
 have z1 : w.heap.size + 1 < w1.heap.size := by omega
 have z2 : w.heap.size < w1.heap.size := by omega
 have BX : Hid (Blk w1 w.heap.size 32 #[.int .i64 day, .slice A n c, .int .i64 pa, .int .i64 le]) := Lib.hid (((Blk.new w _ _).ext (ext_alloc (ext_alloc (ext_refl _) _) _)).ext hb1)
 have BY : Hid (Blk w1 (w.heap.size + 1) 82 #[.int .i64 1, .int .i64 id, .int .i64 v]) := Lib.hid (by
  have := ((Blk.new (w.alloc (.cells #[.int .i64 day, .slice A n c, .int .i64 pa, .int .i64 le] 32)) #[.int .i64 1, .int .i64 id, .int .i64 v] 82).ext (ext_alloc (ext_refl _) (.cells #[.int .i64 0, .slice none 0 0, .int .i64 0, .int .i64 0] 32))).ext hb1
  simpa using this)
 have BR : Hid (Blk w1 (w.heap.size + 1 + 1) 32 #[.int .i64 0, .slice none 0 0, .int .i64 0, .int .i64 0]) := Lib.hid (by
  have := (Blk.new ((w.alloc (.cells #[.int .i64 day, .slice A n c, .int .i64 pa, .int .i64 le] 32)).alloc (.cells #[.int .i64 1, .int .i64 id, .int .i64 v] 82)) #[.int .i64 0, .slice none 0 0, .int .i64 0, .int .i64 0] 32).ext hb1
  simpa using this)
 have hbw := Lib.hid (ext_trans (ext_alloc (ext_alloc (ext_alloc (ext_refl w) _) _) _) hb1)
 have HO : Hid (w1.ownsRow w.heap.size 111 5 (.slice A1 n c1) n (rowsV l)) := Lib.hid (own_base hown (by simp; omega))
 clear hb1 hown
 obtain ⟨x0, x1, x2, x3⟩ := BX.out.q4
 obtain ⟨fx0, fx1, fx2, fx3⟩ := BX.out.z4
 obtain ⟨y0, y1, y2⟩ := BY.out.q3
 obtain ⟨fy0, fy1, fy2⟩ := BY.out.z3
 obtain ⟨r0, r1, r2, r3⟩ := BR.out.q4
 obtain ⟨fr0, fr1, fr2, fr3⟩ := BR.out.z4
 go_wp2_with fail
 refine (HF.out _ (((H.out.ext hbw.out (Nat.le_refl _)).ext (ext_alloc (ext_refl _) _) (by omega)).more (by simp; omega))).mono ?_
 rintro e w5 ⟨rfl, hb5⟩
 have z5 : w1.heap.size < w5.heap.size := by (have := hb5.size; simp at this; omega)
 have z50 : w.heap.size + 1 + 1 < w5.heap.size := by omega
 have z51 : w.heap.size + 1 < w5.heap.size := by omega
 have z52 : w.heap.size < w5.heap.size := by omega
 have b5 := Lib.hid (ext_trans hbw.out (ext_trans (ext_alloc (ext_refl _) _) hb5))
 have O5 := Lib.hid (own_ext HO.out (ext_trans (ext_alloc (ext_refl _) _) hb5))
 have GX5 := Lib.hid (BX.out.ext (ext_trans (ext_alloc (ext_refl _) _) hb5))
 have GY5 := Lib.hid (BY.out.ext (ext_trans (ext_alloc (ext_refl _) _) hb5))
 have GR5 := Lib.hid (BR.out.ext (ext_trans (ext_alloc (ext_refl _) _) hb5))
 have GT5 : Hid (Blk w5 w1.heap.size 32 #[.int .i64 day, .slice A1 n c1, .int .i64 pa, .int .i64 le]) := Lib.hid ((Blk.new w1 _ _).ext hb5)
 clear hb5 x0 x1 x2 x3 fx0 fx1 fx2 fx3 y0 y1 y2 fy0 fy1 fy2 r0 r1 r2 r3 fr0 fr1 fr2 fr3
 obtain ⟨p0, p1, p2, p3⟩ := GX5.out.q4
 obtain ⟨fp0, fp1, fp2, fp3⟩ := GX5.out.z4
 obtain ⟨m0, m1, m2⟩ := GY5.out.q3
 obtain ⟨fm0, fm1, fm2⟩ := GY5.out.z3
 obtain ⟨s0, s1, s2, s3⟩ := GR5.out.q4
 obtain ⟨fs0, fs1, fs2, fs3⟩ := GR5.out.z4
 obtain ⟨t0, t1, t2, t3⟩ := GT5.out.q4
 obtain ⟨ft0, ft1, ft2, ft3⟩ := GT5.out.z4
 obtain ⟨w6, hw6⟩ : ∃ w6, w6 = w5.setCell ⟨w1.heap.size, 0, none⟩ (.int .i64 (day + v)) := ⟨_, rfl⟩
 have b6 : Hid (Below w.heap.size w w6) := Lib.hid (by rw [hw6]; exact ext_set b5.out (by show w.heap.size ≤ w1.heap.size; omega) _)
 have hne5 := own_nb O5.out GT5.out (by decide)
 have O6 : Hid (w6.ownsRow w.heap.size 111 5 (.slice A1 n c1) n (rowsV l)) := Lib.hid (by rw [hw6]; exact own_set_nb O5.out hne5 _)
 have GR6 : Hid (Blk w6 (w.heap.size + 1 + 1) 32 #[.int .i64 0, .slice none 0 0, .int .i64 0, .int .i64 0]) := Lib.hid (by rw [hw6]; exact GR5.out.set_far (by show w1.heap.size ≠ _; omega) _)
 have GT6 : Hid (Blk w6 w1.heap.size 32 #[.int .i64 (day + v), .slice A1 n c1, .int .i64 pa, .int .i64 le]) := Lib.hid (by rw [hw6]; have := GT5.out.set_ 0 (.int .i64 (day + v)); simpa using this)
 go_wp2
 rw [← hw6]
 clear hw6 hne5 p0 p1 p2 p3 fp0 fp1 fp2 fp3 m0 m1 m2 fm0 fm1 fm2 s0 s1 s2 s3 fs0 fs1 fs2 fs3 t0 t1 t2 t3 ft0 ft1 ft2 ft3
 have HG := Lib.hid (fun (w : World) h hn => l25Good_any ((day + v)) (pa) (le) A1 (n) c1 (l) w hn h)
 obtain ⟨sb, hsb⟩ : ∃ sb, schB ((day + v)) (l) (pa) (le) = sb := ⟨_, rfl⟩
 rw [hsb] at HG
 have HSB := Lib.hid hsb
 have hneR := Lib.hid (own_nb O6.out GR6.out (by decide))
 clear hsb
 obtain ⟨a0, a1, a2, a3⟩ := GT6.out.q4
 obtain ⟨fa0, fa1, fa2, fa3⟩ := GT6.out.z4
 obtain ⟨d0, d1, d2, d3⟩ := GR6.out.q4
 obtain ⟨fd0, fd1, fd2, fd3⟩ := GR6.out.z4
 have z6 := GR6.out.lt
 have z61 := GT6.out.lt
 go_region_held3 (fun w' => w'.cell? ⟨w1.heap.size, 0, none⟩ = some (.int .i64 (day + v)) ∧ w'.cell? ⟨w1.heap.size, 1, none⟩ = some (.slice A1 (n) c1) ∧ w'.cell? ⟨w1.heap.size, 2, none⟩ = some (.int .i64 pa) ∧ w'.cell? ⟨w1.heap.size, 3, none⟩ = some (.int .i64 le)) (first | (go_split_ands; refine ⟨?_, ?_, ?_, ?_⟩ <;> with_reducible (repeat (first | assumption | refine cell_drew ?_ | refine ext_cell hb9 ?_ | refine cell_set_far (by show w.heap.size + 1 + 1 ≠ w1.heap.size; omega) ?_)))) (first | (go_at_call 70; refine (HG.out _ (Reads.of_own (base := w.heap.size) (e := 111) (c := c1) (by (repeat (first | (with_reducible exact O6.out) | (with_reducible refine World.ownsRow.drew ?_) | (with_reducible refine own_set_nb ?_ hneR.out _))))) (by omega)).mono ?_; rintro e w9 ⟨rfl, hb9⟩; have HB9 := Lib.hid hb9; obtain ⟨hc9, hf9⟩ := bcell hb9; have z9 := hb9.size; have z91 : w1.heap.size < w9.heap.size := (by simp at z9; omega); have z90 : w.heap.size + 1 + 1 < w9.heap.size := (by omega); (try (have GR9 := GR6.out.ext (ext_trans (ext_drew (ext_refl _)) hb9); obtain ⟨g0, g1, g2, g3⟩ := GR9.q4; obtain ⟨fg0, fg1, fg2, fg3⟩ := GR9.z4; clear GR9))))
 all_goals go_wp2
 all_goals
  refine bodyPost_ret (v := .tuple #[schV ((day + v)) A1 (n) c1 (pa) (le), .bool sb]) (by simp [results, Tryz.results100, go_sem, *]) rfl ?_
  refine ⟨A1, c1, (day + v), pa, le, l, ?_, ?_, ?_, ?_⟩
  · rw [HOO.out, HSB.out]
    rw [HL.out]
    rcases sb with _ | _ <;> rfl
  · rw [HL.out]
    exact (by (repeat (first | (with_reducible exact O6.out) | (with_reducible refine World.ownsRow.drew ?_) | (with_reducible refine own_set_nb ?_ hneR.out _) | refine own_ext ?_ HB9.out)))
  · intro x hx
    rw [HOO.out] at hx
    split at hx
    · injection hx with hx; exact hx.symm
    · cases hx
  · exact (by repeat (first | (with_reducible exact b6.out) | (with_reducible refine ext_drew ?_) | (with_reducible refine ext_set ?_ (by show w.heap.size ≤ w.heap.size + 1 + 1; omega) _) | refine ext_trans ?_ HB9.out))
end Go.Proofs.YtkcbgiegoadkbaaGreat
namespace Go.Proofs.YtkcbgiegoadkbaaGreat
open Go.RowKit
set_option linter.unusedVariables false
set_option linter.unusedSimpArgs false
set_option maxRecDepth 100000 in
set_option maxHeartbeats 4000000 in
theorem l25Make_enrol (day pa le id v : Int) (A : Option Addr) (n c : Nat) (l : List R5) (w : World) (hn : n ≤ 8) (hnc : n ≤ c) (hA : SlOk A n c) (h : Reads w w.heap.size 5 A n (rowsV l)) :
 Calls Tryz.prog 100 #[schV day A n c pa le, .agg #[.int .i64 2, .int .i64 id, .int .i64 v]] w (RetMake (if schB day (insS l id v day) pa le = true then some (day, insS l id v day, pa, le) else none) w) := by
 obtain ⟨O, hO⟩ : ∃ O, O = (if schB day (insS l id v day) pa le = true then some (day, insS l id v day, pa, le) else none) := ⟨_, rfl⟩
 rw [← hO]
 have HOO := Lib.hid hO
 clear hO
 have H := Lib.hid h
 have HL := Lib.hid (rows_len h)
 have HA := Lib.hid (fun w h => l25Own_any day pa le A n c l w (by omega) hA h)
 have HF := Lib.hid (fun (w : World) h => l25Find_any day pa le id A n c l w (by omega) h)
 obtain ⟨zf, hzf⟩ : ∃ zf, findI l id = zf := ⟨_, rfl⟩
 rw [hzf] at HF
 clear hzf
 clear h
 go_enter Tryz.func100, Tryz.ntmps100
 go_wp2_with fail
 refine (HA.out _ ((H.out.ext (ext_alloc (ext_alloc (ext_alloc (ext_refl _) _) _) _) (Nat.le_refl _)).more (by simp; omega))).mono ?_
 rintro e w1 ⟨A1, c1, rfl, hown, hb1⟩
 have z0 : w.heap.size + 1 + 1 < w1.heap.size := by (have := hb1.size; simp at this; omega)
 have z1 : w.heap.size + 1 < w1.heap.size := by omega
 have z2 : w.heap.size < w1.heap.size := by omega
 have BX : Hid (Blk w1 w.heap.size 32 #[.int .i64 day, .slice A n c, .int .i64 pa, .int .i64 le]) := Lib.hid (((Blk.new w _ _).ext (ext_alloc (ext_alloc (ext_refl _) _) _)).ext hb1)
 have BY : Hid (Blk w1 (w.heap.size + 1) 82 #[.int .i64 2, .int .i64 id, .int .i64 v]) := Lib.hid (by
  have := ((Blk.new (w.alloc (.cells #[.int .i64 day, .slice A n c, .int .i64 pa, .int .i64 le] 32)) #[.int .i64 2, .int .i64 id, .int .i64 v] 82).ext (ext_alloc (ext_refl _) (.cells #[.int .i64 0, .slice none 0 0, .int .i64 0, .int .i64 0] 32))).ext hb1
  simpa using this)
 have BR : Hid (Blk w1 (w.heap.size + 1 + 1) 32 #[.int .i64 0, .slice none 0 0, .int .i64 0, .int .i64 0]) := Lib.hid (by
  have := (Blk.new ((w.alloc (.cells #[.int .i64 day, .slice A n c, .int .i64 pa, .int .i64 le] 32)).alloc (.cells #[.int .i64 2, .int .i64 id, .int .i64 v] 82)) #[.int .i64 0, .slice none 0 0, .int .i64 0, .int .i64 0] 32).ext hb1
  simpa using this)
 have hbw := Lib.hid (ext_trans (ext_alloc (ext_alloc (ext_alloc (ext_refl w) _) _) _) hb1)
 have HO : Hid (w1.ownsRow w.heap.size 111 5 (.slice A1 n c1) n (rowsV l)) := Lib.hid (own_base hown (by simp; omega))
 clear hb1 hown
 obtain ⟨x0, x1, x2, x3⟩ := BX.out.q4
 obtain ⟨fx0, fx1, fx2, fx3⟩ := BX.out.z4
 obtain ⟨y0, y1, y2⟩ := BY.out.q3
 obtain ⟨fy0, fy1, fy2⟩ := BY.out.z3
 obtain ⟨r0, r1, r2, r3⟩ := BR.out.q4
 obtain ⟨fr0, fr1, fr2, fr3⟩ := BR.out.z4
 go_wp2_with fail
 refine (HF.out _ (((H.out.ext hbw.out (Nat.le_refl _)).ext (ext_alloc (ext_refl _) _) (by omega)).more (by simp; omega))).mono ?_
 rintro e w5 ⟨rfl, hb5⟩
 have z5 : w1.heap.size < w5.heap.size := by (have := hb5.size; simp at this; omega)
 have z50 : w.heap.size + 1 + 1 < w5.heap.size := by omega
 have z51 : w.heap.size + 1 < w5.heap.size := by omega
 have z52 : w.heap.size < w5.heap.size := by omega
 have b5 := Lib.hid (ext_trans hbw.out (ext_trans (ext_alloc (ext_refl _) _) hb5))
 have O5 := Lib.hid (own_ext HO.out (ext_trans (ext_alloc (ext_refl _) _) hb5))
 have GX5 := Lib.hid (BX.out.ext (ext_trans (ext_alloc (ext_refl _) _) hb5))
 have GY5 := Lib.hid (BY.out.ext (ext_trans (ext_alloc (ext_refl _) _) hb5))
 have GR5 := Lib.hid (BR.out.ext (ext_trans (ext_alloc (ext_refl _) _) hb5))
 have GT5 : Hid (Blk w5 w1.heap.size 32 #[.int .i64 day, .slice A1 n c1, .int .i64 pa, .int .i64 le]) := Lib.hid ((Blk.new w1 _ _).ext hb5)
 clear hb5 x0 x1 x2 x3 fx0 fx1 fx2 fx3 y0 y1 y2 fy0 fy1 fy2 r0 r1 r2 r3 fr0 fr1 fr2 fr3
 obtain ⟨p0, p1, p2, p3⟩ := GX5.out.q4
 obtain ⟨fp0, fp1, fp2, fp3⟩ := GX5.out.z4
 obtain ⟨m0, m1, m2⟩ := GY5.out.q3
 obtain ⟨fm0, fm1, fm2⟩ := GY5.out.z3
 obtain ⟨s0, s1, s2, s3⟩ := GR5.out.q4
 obtain ⟨fs0, fs1, fs2, fs3⟩ := GR5.out.z4
 obtain ⟨t0, t1, t2, t3⟩ := GT5.out.q4
 obtain ⟨ft0, ft1, ft2, ft3⟩ := GT5.out.z4
 go_wp2_with fail
 refine (l25Enrol_any day pa le id v A n c l _ hn hnc hA ((H.out.ext b5.out (Nat.le_refl _)).more (by omega))).mono ?_
 rintro e w7 ⟨A7, c7, rfl, hown7, hb7⟩
 have y7 := hb7.size
 have y71 : w1.heap.size < w7.heap.size := by omega
 have y70 : w.heap.size + 1 + 1 < w7.heap.size := by omega
 have b7 := Lib.hid (ext_trans b5.out hb7)
 have O7 : Hid (w7.ownsRow w.heap.size 111 5 (.slice A7 (n + 1) c7) (n + 1) (rowsV (insS l id v day))) := Lib.hid (own_base hown7 (by omega))
 have GR7 := Lib.hid (GR5.out.ext hb7)
 have GT7 := Lib.hid (GT5.out.ext hb7)
 clear hb7 hown7
 clear p0 p1 p2 p3 fp0 fp1 fp2 fp3 m0 m1 m2 fm0 fm1 fm2 s0 s1 s2 s3 fs0 fs1 fs2 fs3 t0 t1 t2 t3 ft0 ft1 ft2 ft3
 obtain ⟨s0, s1, s2, s3⟩ := GR7.out.q4
 obtain ⟨fs0, fs1, fs2, fs3⟩ := GR7.out.z4
 obtain ⟨t0, t1, t2, t3⟩ := GT7.out.q4
 obtain ⟨ft0, ft1, ft2, ft3⟩ := GT7.out.z4
 have hne7 := own_nb O7.out GT7.out (by decide)
 obtain ⟨w6, hw6⟩ : ∃ w6, w6 = ((((w7.setCell ⟨w1.heap.size, 0, none⟩ (.int .i64 day)).setCell ⟨w1.heap.size, 1, none⟩ (.slice A7 (n + 1) c7)).setCell ⟨w1.heap.size, 2, none⟩ (.int .i64 pa)).setCell ⟨w1.heap.size, 3, none⟩ (.int .i64 le)) := ⟨_, rfl⟩
 have b6 : Hid (Below w.heap.size w w6) := Lib.hid (by rw [hw6]; (iterate 4 refine ext_set ?_ (by show w.heap.size ≤ w1.heap.size; omega) _); exact b7.out)
 have O6 : Hid (w6.ownsRow w.heap.size 111 5 (.slice A7 (n + 1) c7) (n + 1) (rowsV (insS l id v day))) := Lib.hid (by rw [hw6]; (iterate 4 refine own_set_nb ?_ hne7 _); exact O7.out)
 have GR6 := Lib.hid (show Blk w6 (w.heap.size + 1 + 1) 32 #[.int .i64 0, .slice none 0 0, .int .i64 0, .int .i64 0] from by rw [hw6]; (iterate 4 refine Blk.set_far ?_ (by show w1.heap.size ≠ _; omega) _); exact GR7.out)
 have GT6 := Lib.hid (show Blk w6 w1.heap.size 32 #[.int .i64 day, .slice A7 (n + 1) c7, .int .i64 pa, .int .i64 le] from by rw [hw6]; have := (((GT7.out.set_ 0 (.int .i64 day)).set_ 1 (.slice A7 (n + 1) c7)).set_ 2 (.int .i64 pa)).set_ 3 (.int .i64 le); simpa using this)
 go_wp2
 rw [← hw6]
 clear hw6 hne7 s0 s1 s2 s3 fs0 fs1 fs2 fs3 t0 t1 t2 t3 ft0 ft1 ft2 ft3
 have HG := Lib.hid (fun (w : World) h hn => l25Good_any (day) (pa) (le) A7 (n + 1) c7 ((insS l id v day)) w hn h)
 obtain ⟨sb, hsb⟩ : ∃ sb, schB (day) ((insS l id v day)) (pa) (le) = sb := ⟨_, rfl⟩
 rw [hsb] at HG
 have HSB := Lib.hid hsb
 have hneR := Lib.hid (own_nb O6.out GR6.out (by decide))
 clear hsb
 obtain ⟨a0, a1, a2, a3⟩ := GT6.out.q4
 obtain ⟨fa0, fa1, fa2, fa3⟩ := GT6.out.z4
 obtain ⟨d0, d1, d2, d3⟩ := GR6.out.q4
 obtain ⟨fd0, fd1, fd2, fd3⟩ := GR6.out.z4
 have z6 := GR6.out.lt
 have z61 := GT6.out.lt
 go_region_held3 (fun w' => w'.cell? ⟨w1.heap.size, 0, none⟩ = some (.int .i64 day) ∧ w'.cell? ⟨w1.heap.size, 1, none⟩ = some (.slice A7 (n + 1) c7) ∧ w'.cell? ⟨w1.heap.size, 2, none⟩ = some (.int .i64 pa) ∧ w'.cell? ⟨w1.heap.size, 3, none⟩ = some (.int .i64 le)) (first | (go_split_ands; refine ⟨?_, ?_, ?_, ?_⟩ <;> with_reducible (repeat (first | assumption | refine cell_drew ?_ | refine ext_cell hb9 ?_ | refine cell_set_far (by show w.heap.size + 1 + 1 ≠ w1.heap.size; omega) ?_)))) (first | (go_at_call 70; refine (HG.out _ (Reads.of_own (base := w.heap.size) (e := 111) (c := c7) (by (repeat (first | (with_reducible exact O6.out) | (with_reducible refine World.ownsRow.drew ?_) | (with_reducible refine own_set_nb ?_ hneR.out _))))) (by omega)).mono ?_; rintro e w9 ⟨rfl, hb9⟩; have HB9 := Lib.hid hb9; obtain ⟨hc9, hf9⟩ := bcell hb9; have z9 := hb9.size; have z91 : w1.heap.size < w9.heap.size := (by simp at z9; omega); have z90 : w.heap.size + 1 + 1 < w9.heap.size := (by omega); (try (have GR9 := GR6.out.ext (ext_trans (ext_drew (ext_refl _)) hb9); obtain ⟨g0, g1, g2, g3⟩ := GR9.q4; obtain ⟨fg0, fg1, fg2, fg3⟩ := GR9.z4; clear GR9))))
 all_goals go_wp2
 all_goals
  refine bodyPost_ret (v := .tuple #[schV (day) A7 (n + 1) c7 (pa) (le), .bool sb]) (by simp [results, Tryz.results100, go_sem, *]) rfl ?_
  refine ⟨A7, c7, day, pa, le, (insS l id v day), ?_, ?_, ?_, ?_⟩
  · rw [HOO.out, HSB.out]
    rw [insS_len, HL.out]
    rcases sb with _ | _ <;> rfl
  · rw [insS_len, HL.out]
    exact (by (repeat (first | (with_reducible exact O6.out) | (with_reducible refine World.ownsRow.drew ?_) | (with_reducible refine own_set_nb ?_ hneR.out _) | refine own_ext ?_ HB9.out)))
  · intro x hx
    rw [HOO.out] at hx
    split at hx
    · injection hx with hx; exact hx.symm
    · cases hx
  · exact (by repeat (first | (with_reducible exact b6.out) | (with_reducible refine ext_drew ?_) | (with_reducible refine ext_set ?_ (by show w.heap.size ≤ w.heap.size + 1 + 1; omega) _) | refine ext_trans ?_ HB9.out))
end Go.Proofs.YtkcbgiegoadkbaaGreat
namespace Go.Proofs.YtkcbgiegoadkbaaGreat
open Go.RowKit
set_option linter.unusedVariables false
set_option linter.unusedSimpArgs false
def stuO (day pa le : Int) (l : List R5) (id : Int) : Option ByteArray :=
 if schB day l pa le = true then (if findI l id < 0 then none else match l[(findI l id).toNat]? with | none => none | some r => some (stuT r)) else none
theorem stuO_bad {day pa le : Int} {l : List R5} {id : Int} (h : schB day l pa le = false) : stuO day pa le l id = none := by unfold stuO; rw [if_neg (by simp [h])]
theorem stuO_miss {day pa le : Int} {l : List R5} {id : Int} (h : findI l id = -1) : stuO day pa le l id = none := by
 unfold stuO; rw [if_pos (c := findI l id < 0) (by omega)]; split <;> rfl
theorem stuO_hit {day pa le : Int} {l : List R5} {id : Int} {k : Nat} {r : R5} (hs : schB day l pa le = true) (h : findI l id = k) (hr : l[k]? = some r) : stuO day pa le l id = some (stuT r) := by
 unfold stuO; rw [if_pos hs, if_neg (by omega), h]; simp [hr]
def TxtRet (o : Option ByteArray) (w : World) (e : Ending) (w' : World) : Prop := e = .returned (.tuple #[.string (o.getD ⟨#[]⟩), .bool o.isSome]) ∧ Below w.heap.size w w'
set_option maxRecDepth 100000 in
set_option maxHeartbeats 2000000 in
theorem implStudentText_any (day pa le id : Int) (A : Option Addr) (n c : Nat) (l : List R5) (w : World) (hn : n ≤ 1048576) (h : Reads w w.heap.size 5 A n (rowsV l)) :
 Calls Tryz.prog 61 #[schV day A n c pa le, .int .i64 id] w (TxtRet (stuO day pa le l id) w) := by
 have hA := Lib.hid (fun w h => at_any day pa le id A n c l w hn h)
 have hI := Lib.hid (fun w h => isSchool_any day pa le A n c l w hn h)
 have H := Lib.hid h
 rcases hs : schB day l pa le with _ | _
 · rw [hs] at hI
   rw [stuO_bad hs]
   obtain ⟨z, hz⟩ : ∃ z, findI l id = z := ⟨_, rfl⟩
   rw [hz] at hA
   clear h hs hz
   go_enter Tryz.func61, Tryz.ntmps61
   go_wp2_with fail
   refine (hA.out _ ((H.out.ext (ext_alloc (ext_refl _) _) (Nat.le_refl _)).more (by simp))).mono ?_
   rintro e w1 ⟨rfl, hb1⟩
   obtain ⟨hc1, hf1⟩ := bcell hb1
   have s1 : w.heap.size < w1.heap.size := by have := hb1.size; simp at this; omega
   have hw1 := Lib.hid (ext_trans (ext_alloc (ext_refl w) _) hb1)
   clear hb1
   go_wp2_with fail
   refine (hI.out _ ((H.out.ext hw1.out (Nat.le_refl _)).more (Nat.le_of_lt s1))).mono ?_
   rintro e w2 ⟨rfl, hb2⟩
   obtain ⟨hc2, hf2⟩ := bcell hb2
   have s2 : w.heap.size < w2.heap.size := by have := hb2.size; omega
   have hw2 := Lib.hid (ext_trans hw1.out hb2)
   clear hb2
   go_wp2
   go_ret2
   exact ⟨rfl, hw2.out⟩
 rw [hs] at hI
 rcases findI_cases l id with ⟨hf, _⟩ | ⟨k, r, hf, hr, hxa, hxb⟩
 · rw [hf] at hA
   rw [stuO_miss hf]
   clear h hs hf
   go_enter Tryz.func61, Tryz.ntmps61
   go_wp2_with fail
   refine (hA.out _ ((H.out.ext (ext_alloc (ext_refl _) _) (Nat.le_refl _)).more (by simp))).mono ?_
   rintro e w1 ⟨rfl, hb1⟩
   obtain ⟨hc1, hf1⟩ := bcell hb1
   have s1 : w.heap.size < w1.heap.size := by have := hb1.size; simp at this; omega
   have hw1 := Lib.hid (ext_trans (ext_alloc (ext_refl w) _) hb1)
   clear hb1
   go_wp2_with fail
   refine (hI.out _ ((H.out.ext hw1.out (Nat.le_refl _)).more (Nat.le_of_lt s1))).mono ?_
   rintro e w2 ⟨rfl, hb2⟩
   obtain ⟨hc2, hf2⟩ := bcell hb2
   have s2 : w.heap.size < w2.heap.size := by have := hb2.size; omega
   have hw2 := Lib.hid (ext_trans hw1.out hb2)
   clear hb2
   go_wp2
   go_ret2
   exact ⟨rfl, hw2.out⟩
 clear hxa hxb
 rw [stuO_hit hs hf hr]
 exact studentText_yes day pa le id A n c l w hn h hs k r hf hr
set_option maxRecDepth 100000 in
set_option maxHeartbeats 2000000 in
theorem specStudentText_any (day pa le id : Int) (A : Option Addr) (n c : Nat) (l : List R5) (w : World) (hn : n ≤ 1048576) (h : Reads w w.heap.size 5 A n (rowsV l)) :
 Calls Tryz.prog 106 #[schV day A n c pa le, .int .i64 id] w (TxtRet (stuO day pa le l id) w) := by
 have hA := Lib.hid (fun w h => l25Find_any day pa le id A n c l w hn h)
 have hI := Lib.hid (fun w h => l25Good_any day pa le A n c l w hn h)
 have H := Lib.hid h
 rcases hs : schB day l pa le with _ | _
 · rw [hs] at hI
   rw [stuO_bad hs]
   obtain ⟨z, hz⟩ : ∃ z, findI l id = z := ⟨_, rfl⟩
   rw [hz] at hA
   clear h hs hz
   go_enter Tryz.func106, Tryz.ntmps106
   go_wp2_with fail
   refine (hA.out _ ((H.out.ext (ext_alloc (ext_refl _) _) (Nat.le_refl _)).more (by simp))).mono ?_
   rintro e w1 ⟨rfl, hb1⟩
   obtain ⟨hc1, hf1⟩ := bcell hb1
   have s1 : w.heap.size < w1.heap.size := by have := hb1.size; simp at this; omega
   have hw1 := Lib.hid (ext_trans (ext_alloc (ext_refl w) _) hb1)
   clear hb1
   go_wp2_with fail
   refine (hI.out _ ((H.out.ext hw1.out (Nat.le_refl _)).more (Nat.le_of_lt s1))).mono ?_
   rintro e w2 ⟨rfl, hb2⟩
   obtain ⟨hc2, hf2⟩ := bcell hb2
   have s2 : w.heap.size < w2.heap.size := by have := hb2.size; omega
   have hw2 := Lib.hid (ext_trans hw1.out hb2)
   clear hb2
   go_wp2
   go_ret2
   exact ⟨rfl, hw2.out⟩
 rw [hs] at hI
 rcases findI_cases l id with ⟨hf, _⟩ | ⟨k, r, hf, hr, hxa, hxb⟩
 · rw [hf] at hA
   rw [stuO_miss hf]
   clear h hs hf
   go_enter Tryz.func106, Tryz.ntmps106
   go_wp2_with fail
   refine (hA.out _ ((H.out.ext (ext_alloc (ext_refl _) _) (Nat.le_refl _)).more (by simp))).mono ?_
   rintro e w1 ⟨rfl, hb1⟩
   obtain ⟨hc1, hf1⟩ := bcell hb1
   have s1 : w.heap.size < w1.heap.size := by have := hb1.size; simp at this; omega
   have hw1 := Lib.hid (ext_trans (ext_alloc (ext_refl w) _) hb1)
   clear hb1
   go_wp2_with fail
   refine (hI.out _ ((H.out.ext hw1.out (Nat.le_refl _)).more (Nat.le_of_lt s1))).mono ?_
   rintro e w2 ⟨rfl, hb2⟩
   obtain ⟨hc2, hf2⟩ := bcell hb2
   have s2 : w.heap.size < w2.heap.size := by have := hb2.size; omega
   have hw2 := Lib.hid (ext_trans hw1.out hb2)
   clear hb2
   go_wp2
   go_ret2
   exact ⟨rfl, hw2.out⟩
 clear hxa hxb
 rw [stuO_hit hs hf hr]
 rw [hf] at hA
 have HT := Lib.hid (fun w => l25Text_any r w (sch_stu hs hr))
 obtain ⟨b, o, hAd, hb, c0, c1, c2, c3, c4⟩ := rows_at h hr
 subst hAd
 have hne : b ≠ w.heap.size := by omega
 have hkn : (k : Int) < n := by have := (List.getElem?_eq_some_iff.1 hr).1; have := rows_len h; omega
 clear h hs hf hr
 go_enter Tryz.func106, Tryz.ntmps106
 go_wp2_with fail
 refine (hA.out _ ((H.out.ext (ext_alloc (ext_refl _) _) (Nat.le_refl _)).more (by simp))).mono ?_
 rintro e w1 ⟨rfl, hb1⟩
 obtain ⟨hc1, hf1⟩ := bcell hb1
 have s1 : w.heap.size < w1.heap.size := by have := hb1.size; simp at this; omega
 have hw1 := Lib.hid (ext_trans (ext_alloc (ext_refl w) _) hb1)
 clear hb1
 go_wp2_with fail
 refine (hI.out _ ((H.out.ext hw1.out (Nat.le_refl _)).more (Nat.le_of_lt s1))).mono ?_
 rintro e w2 ⟨rfl, hb2⟩
 obtain ⟨hc2, hf2⟩ := bcell hb2
 have s2 : w.heap.size < w2.heap.size := by have := hb2.size; omega
 have hw2 := Lib.hid (ext_trans hw1.out hb2)
 clear hb2
 have s3 : b < w1.heap.size := by omega
 have s4 : b < w2.heap.size := by omega
 go_wp2_with fail
 with_reducible refine (HT.out _).mono ?_
 rintro e w3 ⟨rfl, hb3⟩
 go_wp2
 go_ret2
 exact ⟨rfl, ext_trans hw2.out hb3⟩
set_option maxHeartbeats 1000000 in
theorem l28Student_any (day pa le id : Int) (A : Option Addr) (n c : Nat) (l : List R5) (w : World) (hn : n ≤ 1048576) (h : Reads w w.heap.size 5 A n (rowsV l)) :
 Calls Tryz.prog 97 #[schV day A n c pa le, .int .i64 id] w fun e w' => e = .returned (.string ((stuO day pa le l id).getD ⟨#[63]⟩)) ∧ Below w.heap.size w w' := by
 have HT := Lib.hid (fun w h => specStudentText_any day pa le id A n c l w hn h)
 have H := Lib.hid h
 obtain ⟨O, hO⟩ : ∃ O, stuO day pa le l id = O := ⟨_, rfl⟩
 rw [hO] at HT ⊢
 clear hO h
 rcases O with _ | T
 all_goals
  go_enter Tryz.func97, Tryz.ntmps97
  go_wp2_with fail
  refine (HT.out _ ((H.out.ext (ext_alloc (ext_refl _) _) (Nat.le_refl _)).more (by simp))).mono ?_
  rintro e w1 ⟨rfl, hb1⟩
  go_wp2
  go_ret
  exact ⟨rfl, ext_trans (ext_alloc (ext_refl _) _) hb1⟩
end Go.Proofs.YtkcbgiegoadkbaaGreat
