/- The reference makes a step: enrolling. -/
import Derived.Test.YtclihlihaigddaaVM5
namespace Go.Proofs.Ytclihlihaigddaa
open Go.RowKit
set_option linter.unusedVariables false
set_option linter.unusedSimpArgs false
set_option maxRecDepth 100000 in
set_option maxHeartbeats 4000000 in
theorem l25Make_enrol (day pa le id v : Int) (A : Option Addr) (n c : Nat) (l : List R5) (w : World) (hn : n ≤ 8) (hnc : n ≤ c) (hA : SlOk A n c) (h : Reads w w.heap.size 5 A n (rowsV l)) :
    Calls Try.prog 110 #[schV day A n c pa le, .agg #[.int .i64 2, .int .i64 id, .int .i64 v]] w (RetMake (if schB day (insS l id v day) pa le = true then some (day, insS l id v day, pa, le) else none) w) := by
  obtain ⟨O, hO⟩ : ∃ O, O = (if schB day (insS l id v day) pa le = true then some (day, insS l id v day, pa, le) else none) := ⟨_, rfl⟩
  rw [← hO]
  have HOO := Lib.hid hO
  clear hO
  have H := Lib.hid h
  have HL := Lib.hid (rows_len h)
  have HA := Lib.hid (fun w h => l25Own_any day pa le A n c l w (by omega) hA h)
  have HF := Lib.hid (fun (w : World) h => l25Find_any day pa le id A n c l w (by omega) h)
  obtain ⟨zf, hzf⟩ : ∃ zf, findI l id = zf := ⟨_, rfl⟩
  rw [hzf] at HF
  clear hzf
  clear h
  go_enter Try.func110, Try.ntmps110
  go_wp2_with fail
  refine (HA.out _ ((H.out.ext (ext_alloc (ext_alloc (ext_alloc (ext_refl _) _) _) _) (Nat.le_refl _)).more (by simp; omega))).mono ?_
  rintro e w1 ⟨A1, c1, rfl, hown, hb1⟩
  have z0 : w.heap.size + 1 + 1 < w1.heap.size := by (have := hb1.size; simp at this; omega)
  have z1 : w.heap.size + 1 < w1.heap.size := by omega
  have z2 : w.heap.size < w1.heap.size := by omega
  have BX : Hid (Blk w1 w.heap.size 24 #[.int .i64 day, .slice A n c, .int .i64 pa, .int .i64 le]) := Lib.hid (((Blk.new w _ _).ext (ext_alloc (ext_alloc (ext_refl _) _) _)).ext hb1)
  have BY : Hid (Blk w1 (w.heap.size + 1) 74 #[.int .i64 2, .int .i64 id, .int .i64 v]) := Lib.hid (by
    have := ((Blk.new (w.alloc (.cells #[.int .i64 day, .slice A n c, .int .i64 pa, .int .i64 le] 24)) #[.int .i64 2, .int .i64 id, .int .i64 v] 74).ext (ext_alloc (ext_refl _) (.cells #[.int .i64 0, .slice none 0 0, .int .i64 0, .int .i64 0] 24))).ext hb1
    simpa using this)
  have BR : Hid (Blk w1 (w.heap.size + 1 + 1) 24 #[.int .i64 0, .slice none 0 0, .int .i64 0, .int .i64 0]) := Lib.hid (by
    have := (Blk.new ((w.alloc (.cells #[.int .i64 day, .slice A n c, .int .i64 pa, .int .i64 le] 24)).alloc (.cells #[.int .i64 2, .int .i64 id, .int .i64 v] 74)) #[.int .i64 0, .slice none 0 0, .int .i64 0, .int .i64 0] 24).ext hb1
    simpa using this)
  have hbw := Lib.hid (ext_trans (ext_alloc (ext_alloc (ext_alloc (ext_refl w) _) _) _) hb1)
  have HO : Hid (w1.ownsRow w.heap.size 109 5 (.slice A1 n c1) n (rowsV l)) := Lib.hid (own_base hown (by simp; omega))
  clear hb1 hown
  have x0 : w1.cell? ⟨w.heap.size, 0, none⟩ = some (.int .i64 day) := BX.out.cell 0
  have fx0 := BX.out.frozen 0
  have x1 : w1.cell? ⟨w.heap.size, 1, none⟩ = some (.slice A n c) := BX.out.cell 1
  have fx1 := BX.out.frozen 1
  have x2 : w1.cell? ⟨w.heap.size, 2, none⟩ = some (.int .i64 pa) := BX.out.cell 2
  have fx2 := BX.out.frozen 2
  have x3 : w1.cell? ⟨w.heap.size, 3, none⟩ = some (.int .i64 le) := BX.out.cell 3
  have fx3 := BX.out.frozen 3
  have y0 : w1.cell? ⟨w.heap.size + 1, 0, none⟩ = some (.int .i64 2) := BY.out.cell 0
  have fy0 := BY.out.frozen 0
  have y1 : w1.cell? ⟨w.heap.size + 1, 1, none⟩ = some (.int .i64 id) := BY.out.cell 1
  have fy1 := BY.out.frozen 1
  have y2 : w1.cell? ⟨w.heap.size + 1, 2, none⟩ = some (.int .i64 v) := BY.out.cell 2
  have fy2 := BY.out.frozen 2
  have r0 : w1.cell? ⟨w.heap.size + 1 + 1, 0, none⟩ = some (.int .i64 0) := BR.out.cell 0
  have fr0 := BR.out.frozen 0
  have r1 : w1.cell? ⟨w.heap.size + 1 + 1, 1, none⟩ = some (.slice none 0 0) := BR.out.cell 1
  have fr1 := BR.out.frozen 1
  have r2 : w1.cell? ⟨w.heap.size + 1 + 1, 2, none⟩ = some (.int .i64 0) := BR.out.cell 2
  have fr2 := BR.out.frozen 2
  have r3 : w1.cell? ⟨w.heap.size + 1 + 1, 3, none⟩ = some (.int .i64 0) := BR.out.cell 3
  have fr3 := BR.out.frozen 3
  go_wp2_with fail
  refine (HF.out _ (((H.out.ext hbw.out (Nat.le_refl _)).ext (ext_alloc (ext_refl _) _) (by omega)).more (by simp; omega))).mono ?_
  rintro e w5 ⟨rfl, hb5⟩
  have z5 : w1.heap.size < w5.heap.size := by (have := hb5.size; simp at this; omega)
  have z50 : w.heap.size + 1 + 1 < w5.heap.size := by omega
  have z51 : w.heap.size + 1 < w5.heap.size := by omega
  have z52 : w.heap.size < w5.heap.size := by omega
  have b5 := Lib.hid (ext_trans hbw.out (ext_trans (ext_alloc (ext_refl _) _) hb5))
  have O5 := Lib.hid (own_ext HO.out (ext_trans (ext_alloc (ext_refl _) _) hb5))
  have GX5 := Lib.hid (BX.out.ext (ext_trans (ext_alloc (ext_refl _) _) hb5))
  have GY5 := Lib.hid (BY.out.ext (ext_trans (ext_alloc (ext_refl _) _) hb5))
  have GR5 := Lib.hid (BR.out.ext (ext_trans (ext_alloc (ext_refl _) _) hb5))
  have GT5 : Hid (Blk w5 w1.heap.size 24 #[.int .i64 day, .slice A1 n c1, .int .i64 pa, .int .i64 le]) := Lib.hid ((Blk.new w1 _ _).ext hb5)
  clear hb5 x0 x1 x2 x3 fx0 fx1 fx2 fx3 y0 y1 y2 fy0 fy1 fy2 r0 r1 r2 r3 fr0 fr1 fr2 fr3
  have p0 : w5.cell? ⟨w.heap.size, 0, none⟩ = some (.int .i64 day) := GX5.out.cell 0
  have fp0 := GX5.out.frozen 0
  have p1 : w5.cell? ⟨w.heap.size, 1, none⟩ = some (.slice A n c) := GX5.out.cell 1
  have fp1 := GX5.out.frozen 1
  have p2 : w5.cell? ⟨w.heap.size, 2, none⟩ = some (.int .i64 pa) := GX5.out.cell 2
  have fp2 := GX5.out.frozen 2
  have p3 : w5.cell? ⟨w.heap.size, 3, none⟩ = some (.int .i64 le) := GX5.out.cell 3
  have fp3 := GX5.out.frozen 3
  have m0 : w5.cell? ⟨w.heap.size + 1, 0, none⟩ = some (.int .i64 2) := GY5.out.cell 0
  have fm0 := GY5.out.frozen 0
  have m1 : w5.cell? ⟨w.heap.size + 1, 1, none⟩ = some (.int .i64 id) := GY5.out.cell 1
  have fm1 := GY5.out.frozen 1
  have m2 : w5.cell? ⟨w.heap.size + 1, 2, none⟩ = some (.int .i64 v) := GY5.out.cell 2
  have fm2 := GY5.out.frozen 2
  have s0 : w5.cell? ⟨w.heap.size + 1 + 1, 0, none⟩ = some (.int .i64 0) := GR5.out.cell 0
  have fs0 := GR5.out.frozen 0
  have s1 : w5.cell? ⟨w.heap.size + 1 + 1, 1, none⟩ = some (.slice none 0 0) := GR5.out.cell 1
  have fs1 := GR5.out.frozen 1
  have s2 : w5.cell? ⟨w.heap.size + 1 + 1, 2, none⟩ = some (.int .i64 0) := GR5.out.cell 2
  have fs2 := GR5.out.frozen 2
  have s3 : w5.cell? ⟨w.heap.size + 1 + 1, 3, none⟩ = some (.int .i64 0) := GR5.out.cell 3
  have fs3 := GR5.out.frozen 3
  have t0 : w5.cell? ⟨w1.heap.size, 0, none⟩ = some (.int .i64 day) := GT5.out.cell 0
  have ft0 := GT5.out.frozen 0
  have t1 : w5.cell? ⟨w1.heap.size, 1, none⟩ = some (.slice A1 n c1) := GT5.out.cell 1
  have ft1 := GT5.out.frozen 1
  have t2 : w5.cell? ⟨w1.heap.size, 2, none⟩ = some (.int .i64 pa) := GT5.out.cell 2
  have ft2 := GT5.out.frozen 2
  have t3 : w5.cell? ⟨w1.heap.size, 3, none⟩ = some (.int .i64 le) := GT5.out.cell 3
  have ft3 := GT5.out.frozen 3
  go_wp2_with fail
  refine (l25Enrol_any day pa le id v A n c l _ hn hnc hA ((H.out.ext b5.out (Nat.le_refl _)).more (by omega))).mono ?_
  rintro e w7 ⟨A7, c7, rfl, hown7, hb7⟩
  have y7 := hb7.size
  have y71 : w1.heap.size < w7.heap.size := by omega
  have y70 : w.heap.size + 1 + 1 < w7.heap.size := by omega
  have b7 := Lib.hid (ext_trans b5.out hb7)
  have O7 : Hid (w7.ownsRow w.heap.size 109 5 (.slice A7 (n + 1) c7) (n + 1) (rowsV (insS l id v day))) := Lib.hid (own_base hown7 (by omega))
  have GR7 := Lib.hid (GR5.out.ext hb7)
  have GT7 := Lib.hid (GT5.out.ext hb7)
  clear hb7 hown7
  clear p0 p1 p2 p3 fp0 fp1 fp2 fp3 m0 m1 m2 fm0 fm1 fm2 s0 s1 s2 s3 fs0 fs1 fs2 fs3 t0 t1 t2 t3 ft0 ft1 ft2 ft3
  have s0 : w7.cell? ⟨w.heap.size + 1 + 1, 0, none⟩ = some (.int .i64 0) := GR7.out.cell 0
  have fs0 := GR7.out.frozen 0
  have s1 : w7.cell? ⟨w.heap.size + 1 + 1, 1, none⟩ = some (.slice none 0 0) := GR7.out.cell 1
  have fs1 := GR7.out.frozen 1
  have s2 : w7.cell? ⟨w.heap.size + 1 + 1, 2, none⟩ = some (.int .i64 0) := GR7.out.cell 2
  have fs2 := GR7.out.frozen 2
  have s3 : w7.cell? ⟨w.heap.size + 1 + 1, 3, none⟩ = some (.int .i64 0) := GR7.out.cell 3
  have fs3 := GR7.out.frozen 3
  have t0 : w7.cell? ⟨w1.heap.size, 0, none⟩ = some (.int .i64 day) := GT7.out.cell 0
  have ft0 := GT7.out.frozen 0
  have t1 : w7.cell? ⟨w1.heap.size, 1, none⟩ = some (.slice A1 n c1) := GT7.out.cell 1
  have ft1 := GT7.out.frozen 1
  have t2 : w7.cell? ⟨w1.heap.size, 2, none⟩ = some (.int .i64 pa) := GT7.out.cell 2
  have ft2 := GT7.out.frozen 2
  have t3 : w7.cell? ⟨w1.heap.size, 3, none⟩ = some (.int .i64 le) := GT7.out.cell 3
  have ft3 := GT7.out.frozen 3
  have hne7 := own_nb O7.out GT7.out (by decide)
  obtain ⟨w6, hw6⟩ : ∃ w6, w6 = ((((w7.setCell ⟨w1.heap.size, 0, none⟩ (.int .i64 day)).setCell ⟨w1.heap.size, 1, none⟩ (.slice A7 (n + 1) c7)).setCell ⟨w1.heap.size, 2, none⟩ (.int .i64 pa)).setCell ⟨w1.heap.size, 3, none⟩ (.int .i64 le)) := ⟨_, rfl⟩
  have b6 : Hid (Below w.heap.size w w6) := Lib.hid (by rw [hw6]; (iterate 4 refine ext_set ?_ (by show w.heap.size ≤ w1.heap.size; omega) _); exact b7.out)
  have O6 : Hid (w6.ownsRow w.heap.size 109 5 (.slice A7 (n + 1) c7) (n + 1) (rowsV (insS l id v day))) := Lib.hid (by rw [hw6]; (iterate 4 refine own_set_nb ?_ hne7 _); exact O7.out)
  have GR6 := Lib.hid (show Blk w6 (w.heap.size + 1 + 1) 24 #[.int .i64 0, .slice none 0 0, .int .i64 0, .int .i64 0] from by rw [hw6]; (iterate 4 refine Blk.set_far ?_ (by show w1.heap.size ≠ _; omega) _); exact GR7.out)
  have GT6 := Lib.hid (show Blk w6 w1.heap.size 24 #[.int .i64 day, .slice A7 (n + 1) c7, .int .i64 pa, .int .i64 le] from by rw [hw6]; have := (((GT7.out.set_ 0 (.int .i64 day)).set_ 1 (.slice A7 (n + 1) c7)).set_ 2 (.int .i64 pa)).set_ 3 (.int .i64 le); simpa using this)
  go_wp2
  rw [← hw6]
  clear hw6 hne7 s0 s1 s2 s3 fs0 fs1 fs2 fs3 t0 t1 t2 t3 ft0 ft1 ft2 ft3
  have HG := Lib.hid (fun (w : World) h hn => l25Good_any (day) (pa) (le) A7 (n + 1) c7 ((insS l id v day)) w hn h)
  obtain ⟨sb, hsb⟩ : ∃ sb, schB (day) ((insS l id v day)) (pa) (le) = sb := ⟨_, rfl⟩
  rw [hsb] at HG
  have HSB := Lib.hid hsb
  have hneR := Lib.hid (own_nb O6.out GR6.out (by decide))
  clear hsb
  have a0 : w6.cell? ⟨w1.heap.size, 0, none⟩ = some (.int .i64 day) := GT6.out.cell 0
  have fa0 := GT6.out.frozen 0
  have a1 : w6.cell? ⟨w1.heap.size, 1, none⟩ = some (.slice A7 (n + 1) c7) := GT6.out.cell 1
  have fa1 := GT6.out.frozen 1
  have a2 : w6.cell? ⟨w1.heap.size, 2, none⟩ = some (.int .i64 pa) := GT6.out.cell 2
  have fa2 := GT6.out.frozen 2
  have a3 : w6.cell? ⟨w1.heap.size, 3, none⟩ = some (.int .i64 le) := GT6.out.cell 3
  have fa3 := GT6.out.frozen 3
  have d0 : w6.cell? ⟨w.heap.size + 1 + 1, 0, none⟩ = some (.int .i64 0) := GR6.out.cell 0
  have fd0 := GR6.out.frozen 0
  have d1 : w6.cell? ⟨w.heap.size + 1 + 1, 1, none⟩ = some (.slice none 0 0) := GR6.out.cell 1
  have fd1 := GR6.out.frozen 1
  have d2 : w6.cell? ⟨w.heap.size + 1 + 1, 2, none⟩ = some (.int .i64 0) := GR6.out.cell 2
  have fd2 := GR6.out.frozen 2
  have d3 : w6.cell? ⟨w.heap.size + 1 + 1, 3, none⟩ = some (.int .i64 0) := GR6.out.cell 3
  have fd3 := GR6.out.frozen 3
  have z6 := GR6.out.lt
  have z61 := GT6.out.lt
  go_region_held3 (fun w' => w'.cell? ⟨w1.heap.size, 0, none⟩ = some (.int .i64 day) ∧ w'.cell? ⟨w1.heap.size, 1, none⟩ = some (.slice A7 (n + 1) c7) ∧ w'.cell? ⟨w1.heap.size, 2, none⟩ = some (.int .i64 pa) ∧ w'.cell? ⟨w1.heap.size, 3, none⟩ = some (.int .i64 le)) (first | (go_split_ands; refine ⟨?_, ?_, ?_, ?_⟩ <;> with_reducible (repeat (first | assumption | refine cell_drew ?_ | refine ext_cell hb9 ?_ | refine cell_set_far (by show w.heap.size + 1 + 1 ≠ w1.heap.size; omega) ?_)))) (first | (go_at_call 108; refine (HG.out _ (Reads.of_own (base := w.heap.size) (e := 109) (c := c7) (by (repeat (first | (with_reducible exact O6.out) | (with_reducible refine World.ownsRow.drew ?_) | (with_reducible refine own_set_nb ?_ hneR.out _))))) (by omega)).mono ?_; rintro e w9 ⟨rfl, hb9⟩; have HB9 := Lib.hid hb9; obtain ⟨hc9, hf9⟩ := bcell hb9; have z9 := hb9.size; have z91 : w1.heap.size < w9.heap.size := (by simp at z9; omega); have z90 : w.heap.size + 1 + 1 < w9.heap.size := (by omega); (try (have GR9 := GR6.out.ext (ext_trans (ext_drew (ext_refl _)) hb9); have g0 : w9.cell? ⟨w.heap.size + 1 + 1, 0, none⟩ = some (.int .i64 0) := GR9.cell 0; have fg0 := GR9.frozen 0; have g1 : w9.cell? ⟨w.heap.size + 1 + 1, 1, none⟩ = some (.slice none 0 0) := GR9.cell 1; have fg1 := GR9.frozen 1; have g2 : w9.cell? ⟨w.heap.size + 1 + 1, 2, none⟩ = some (.int .i64 0) := GR9.cell 2; have fg2 := GR9.frozen 2; have g3 : w9.cell? ⟨w.heap.size + 1 + 1, 3, none⟩ = some (.int .i64 0) := GR9.cell 3; have fg3 := GR9.frozen 3; clear GR9))))
  all_goals go_wp2
  all_goals
    refine bodyPost_ret (v := .tuple #[schV (day) A7 (n + 1) c7 (pa) (le), .bool sb]) (by simp [results, Try.results110, go_sem, *]) rfl ?_
    refine ⟨A7, c7, day, pa, le, (insS l id v day), ?_, ?_, ?_, ?_⟩
    · rw [HOO.out, HSB.out]
      rw [insS_len, HL.out]
      rcases sb with _ | _ <;> rfl
    · rw [insS_len, HL.out]
      exact (by (repeat (first | (with_reducible exact O6.out) | (with_reducible refine World.ownsRow.drew ?_) | (with_reducible refine own_set_nb ?_ hneR.out _) | refine own_ext ?_ HB9.out)))
    · intro x hx
      rw [HOO.out] at hx
      split at hx
      · injection hx with hx; exact hx.symm
      · cases hx
    · exact (by repeat (first | (with_reducible exact b6.out) | (with_reducible refine ext_drew ?_) | (with_reducible refine ext_set ?_ (by show w.heap.size ≤ w.heap.size + 1 + 1; omega) _) | refine ext_trans ?_ HB9.out))
end Go.Proofs.Ytclihlihaigddaa
