/- The reference makes a step: an exam that fails, an exam that is passed. -/
import Derived.Test.YtkcbgiegoadkbaaGreatVM6
namespace Go.Proofs.YtkcbgiegoadkbaaGreat
open Go.RowKit
set_option linter.unusedVariables false
set_option linter.unusedSimpArgs false
set_option maxRecDepth 100000 in
set_option maxHeartbeats 4000000 in
theorem l25Make_4f (day pa le id v : Int) (A : Option Addr) (n c : Nat) (l : List R5) (w : World) (hn : n ≤ 8) (hnc : n ≤ c) (hA : SlOk A n c) (h : Reads w w.heap.size 5 A n (rowsV l)) (i : Nat) (r : R5) (hf : findI l id = i) (hr : l[i]? = some r) (hst : stuB r = true) (hday : 0 ≤ day ∧ day ≤ 4000) (hpa : 0 ≤ pa ∧ pa ≤ 9999) (hv : 0 ≤ v ∧ v ≤ 100) (hp : passB r v = false) :
 Calls Tryz.prog 100 #[schV day A n c pa le, .agg #[.int .i64 4, .int .i64 id, .int .i64 v]] w (RetMake (if chgB r 4 day = true then (if schB day (l.set i (chgR r 4 v day)) pa le = true then some (day, (l.set i (chgR r 4 v day)), pa, le) else none) else none) w) := by
 obtain ⟨O, hO⟩ : ∃ O, O = (if chgB r 4 day = true then (if schB day (l.set i (chgR r 4 v day)) pa le = true then some (day, (l.set i (chgR r 4 v day)), pa, le) else none) else none) := ⟨_, rfl⟩
 rw [← hO]
 have HOO := Lib.hid hO
 clear hO
 have HC := Lib.hid (fun (w : World) => l25Change_4 r id v day w hst hday (by omega))
 have HLR : Hid ((l.set i (chgR r 4 v day)).length = n) := Lib.hid (by rw [List.length_set]; exact rows_len h)
 obtain ⟨NR, hNR⟩ : ∃ NR, chgR r 4 v day = NR := ⟨_, rfl⟩
 obtain ⟨cb, hcb⟩ : ∃ cb, chgB r 4 day = cb := ⟨_, rfl⟩
 rw [hNR, hcb] at HC HOO
 rw [hNR] at HLR
 have hin : i < n := by have := (List.getElem?_eq_some_iff.1 hr).1; have := rows_len h; omega
 have hini : (i : Int) < n := by omega
 have hst2 := stu_bounds hst
 have HP := Lib.hid (fun w => l25Passes_any r v w (by omega) (by omega))
 rw [hp] at HP
 have HRR := Lib.hid hr
 have HC0 := Lib.hid (rows_at h hr)
 clear hNR hcb hr
 have H := Lib.hid h
 have HL := Lib.hid (rows_len h)
 have HA := Lib.hid (fun w h => l25Own_any day pa le A n c l w (by omega) hA h)
 have HF := Lib.hid (fun (w : World) h => l25Find_any day pa le id A n c l w (by omega) h)
 rw [hf] at HF
 clear hf
 clear h
 go_enter Tryz.func100, Tryz.ntmps100
 go_wp2_with fail
 refine (HA.out _ ((H.out.ext (ext_alloc (ext_alloc (ext_alloc (ext_refl _) _) _) _) (Nat.le_refl _)).more (by simp; omega))).mono ?_
 rintro e w1 ⟨A1, c1, rfl, hown, hb1⟩
 have z0 : w.heap.size + 1 + 1 < w1.heap.size := by (have := hb1.size; simp at this; omega)
 have z1 : w.heap.size + 1 < w1.heap.size := by omega
 have z2 : w.heap.size < w1.heap.size := by omega
 have BX : Hid (Blk w1 w.heap.size 32 #[.int .i64 day, .slice A n c, .int .i64 pa, .int .i64 le]) := Lib.hid (((Blk.new w _ _).ext (ext_alloc (ext_alloc (ext_refl _) _) _)).ext hb1)
 have BY : Hid (Blk w1 (w.heap.size + 1) 82 #[.int .i64 4, .int .i64 id, .int .i64 v]) := Lib.hid (by
  have := ((Blk.new (w.alloc (.cells #[.int .i64 day, .slice A n c, .int .i64 pa, .int .i64 le] 32)) #[.int .i64 4, .int .i64 id, .int .i64 v] 82).ext (ext_alloc (ext_refl _) (.cells #[.int .i64 0, .slice none 0 0, .int .i64 0, .int .i64 0] 32))).ext hb1
  simpa using this)
 have BR : Hid (Blk w1 (w.heap.size + 1 + 1) 32 #[.int .i64 0, .slice none 0 0, .int .i64 0, .int .i64 0]) := Lib.hid (by
  have := (Blk.new ((w.alloc (.cells #[.int .i64 day, .slice A n c, .int .i64 pa, .int .i64 le] 32)).alloc (.cells #[.int .i64 4, .int .i64 id, .int .i64 v] 82)) #[.int .i64 0, .slice none 0 0, .int .i64 0, .int .i64 0] 32).ext hb1
  simpa using this)
 have hbw := Lib.hid (ext_trans (ext_alloc (ext_alloc (ext_alloc (ext_refl w) _) _) _) hb1)
 have HO : Hid (w1.ownsRow w.heap.size 111 5 (.slice A1 n c1) n (rowsV l)) := Lib.hid (own_base hown (by simp; omega))
 clear hb1 hown
 obtain ⟨x0, x1, x2, x3⟩ := BX.out.q4
 obtain ⟨fx0, fx1, fx2, fx3⟩ := BX.out.z4
 obtain ⟨y0, y1, y2⟩ := BY.out.q3
 obtain ⟨fy0, fy1, fy2⟩ := BY.out.z3
 obtain ⟨r0, r1, r2, r3⟩ := BR.out.q4
 obtain ⟨fr0, fr1, fr2, fr3⟩ := BR.out.z4
 go_wp2_with fail
 refine (HF.out _ (((H.out.ext hbw.out (Nat.le_refl _)).ext (ext_alloc (ext_refl _) _) (by omega)).more (by simp; omega))).mono ?_
 rintro e w5 ⟨rfl, hb5⟩
 have z5 : w1.heap.size < w5.heap.size := by (have := hb5.size; simp at this; omega)
 have z50 : w.heap.size + 1 + 1 < w5.heap.size := by omega
 have z51 : w.heap.size + 1 < w5.heap.size := by omega
 have z52 : w.heap.size < w5.heap.size := by omega
 have b5 := Lib.hid (ext_trans hbw.out (ext_trans (ext_alloc (ext_refl _) _) hb5))
 have O5 := Lib.hid (own_ext HO.out (ext_trans (ext_alloc (ext_refl _) _) hb5))
 have GX5 := Lib.hid (BX.out.ext (ext_trans (ext_alloc (ext_refl _) _) hb5))
 have GY5 := Lib.hid (BY.out.ext (ext_trans (ext_alloc (ext_refl _) _) hb5))
 have GR5 := Lib.hid (BR.out.ext (ext_trans (ext_alloc (ext_refl _) _) hb5))
 have GT5 : Hid (Blk w5 w1.heap.size 32 #[.int .i64 day, .slice A1 n c1, .int .i64 pa, .int .i64 le]) := Lib.hid ((Blk.new w1 _ _).ext hb5)
 clear hb5 x0 x1 x2 x3 fx0 fx1 fx2 fx3 y0 y1 y2 fy0 fy1 fy2 r0 r1 r2 r3 fr0 fr1 fr2 fr3
 obtain ⟨p0, p1, p2, p3⟩ := GX5.out.q4
 obtain ⟨fp0, fp1, fp2, fp3⟩ := GX5.out.z4
 obtain ⟨m0, m1, m2⟩ := GY5.out.q3
 obtain ⟨fm0, fm1, fm2⟩ := GY5.out.z3
 obtain ⟨s0, s1, s2, s3⟩ := GR5.out.q4
 obtain ⟨fs0, fs1, fs2, fs3⟩ := GR5.out.z4
 obtain ⟨t0, t1, t2, t3⟩ := GT5.out.q4
 obtain ⟨ft0, ft1, ft2, ft3⟩ := GT5.out.z4
 obtain ⟨g, cap, hv1, hgb, hglt⟩ := HO.out.form (by omega)
 injection hv1 with hv1 _ hc1
 subst hv1
 clear hc1
 obtain ⟨b, o, hAd, hbb, c0, c1', c2, c3, c4⟩ := HC0.out
 subst hAd
 have c0 := ext_cell b5.out c0
 have c1' := ext_cell b5.out c1'
 have c2 := ext_cell b5.out c2
 have c3 := ext_cell b5.out c3
 have c4 := ext_cell b5.out c4
 have hb5 : b < w5.heap.size := by omega
 go_upto_region 4 with fail
 go_cut [9, 10] (fun s9 s10 wx => ∃ (g9 : Nat), s9 = .pointer (some ⟨g9, 0, none⟩) ∧ s10 = .bool cb ∧ Hid (Blk wx g9 111 #[.int .i64 NR.a, .int .i64 NR.b, .int .i64 NR.c, .int .i64 NR.d, .int .i64 NR.e]) ∧ w5.heap.size ≤ g9 ∧ Hid (Below w5.heap.size w5 wx))
 case first =>
  go_region_held3 (fun w' => w'.cell? ⟨w.heap.size, 0, none⟩ = some (.int .i64 day) ∧ w'.cell? ⟨w.heap.size, 1, none⟩ = some (.slice (some ⟨b, o, none⟩) n c) ∧ w'.cell? ⟨w.heap.size + 1, 0, none⟩ = some (.int .i64 4) ∧ w'.cell? ⟨w.heap.size + 1, 1, none⟩ = some (.int .i64 id) ∧ w'.cell? ⟨w.heap.size + 1, 2, none⟩ = some (.int .i64 v) ∧ w'.cell? ⟨b, o + i * 5, none⟩ = some (.int .i64 r.a) ∧ w'.cell? ⟨b, o + i * 5 + 1, none⟩ = some (.int .i64 r.b) ∧ w'.cell? ⟨b, o + i * 5 + 2, none⟩ = some (.int .i64 r.c) ∧ w'.cell? ⟨b, o + i * 5 + 3, none⟩ = some (.int .i64 r.d) ∧ w'.cell? ⟨b, o + i * 5 + 4, none⟩ = some (.int .i64 r.e)) (first | (go_split_ands; refine ⟨?_, ?_, ?_, ?_, ?_, ?_, ?_, ?_, ?_, ?_⟩ <;> with_reducible (repeat (first | assumption | refine cell_drew ?_ | refine cell_old ?_ _ | refine ext_cell hb9 ?_ | refine cell_set_far (by simp <;> omega) ?_)))) (first | (go_at_call 108; refine (HC.out _).mono ?_; rintro e w9 ⟨rfl, hb9⟩; have HB9 := Lib.hid hb9; obtain ⟨hc9, hf9⟩ := bcell hb9; have z9 := hb9.size))
  all_goals (go_wp2_with fail; go_meet; refine ⟨_, rfl, rfl, ?_, ?_, ?_⟩)
  all_goals first
   | (with_reducible exact Lib.hid (Blk.new _ _ _))
   | (with_reducible exact Lib.hid (ext_alloc (ext_trans (ext_drew (ext_refl _)) HB9.out) _))
   | (with_reducible exact Nat.le_refl _)
   | (have hq := HB9.out.size; simp at hq; omega)
   | (refine Lib.hid ?_; have := (((((Blk.new w5 #[.int .i64 0, .int .i64 0, .int .i64 0, .int .i64 0, .int .i64 0] 111).ext (ext_drew_left HB9.out)).set_ 0 (.int .i64 NR.a)).set_ 1 (.int .i64 NR.b)).set_ 2 (.int .i64 NR.c)).set_ 3 (.int .i64 NR.d) |>.set_ 4 (.int .i64 NR.e); simpa using this)
   | (refine Lib.hid ?_; (iterate 5 (with_reducible refine ext_set ?_ (Nat.le_refl _) _)); exact ext_trans (ext_drew (ext_alloc (ext_refl _) _)) HB9.out)
 case rest =>
  obtain ⟨g9, rfl, rfl, N9, h9, B9⟩ := hcut
  have z9 := B9.out.size
  have y91 : w1.heap.size < wc.heap.size := by omega
  have y90 : w.heap.size + 1 + 1 < wc.heap.size := by omega
  have b9 := Lib.hid (ext_trans b5.out B9.out)
  have O9 := Lib.hid (own_ext O5.out B9.out)
  have GX9 := Lib.hid (GX5.out.ext B9.out)
  have GY9 := Lib.hid (GY5.out.ext B9.out)
  have GR9 := Lib.hid (GR5.out.ext B9.out)
  have GT9 := Lib.hid (GT5.out.ext B9.out)
  have n90 : g ≠ w.heap.size + 1 + 1 := own_ne_blk O9.out GR9.out (by decide)
  have n91 : g ≠ w1.heap.size := own_ne_blk O9.out GT9.out (by decide)
  have n92 : g ≠ w.heap.size + 1 := own_ne_blk O9.out GY9.out (by decide)
  have n93 : g ≠ w.heap.size := own_ne_blk O9.out GX9.out (by decide)
  have n94 : g ≠ g9 := by omega
  have n95 : b ≠ g := by omega
  have hsz9 : g < wc.heap.size := by omega
  obtain ⟨gg0, gg1, gg2, gg3, gg4⟩ := own_cells O9.out HRR.out
  have gf0 := O9.out.frozenAt (i * 5)
  have gf1 := O9.out.frozenAt (i * 5 + 1)
  have gf2 := O9.out.frozenAt (i * 5 + 2)
  have gf3 := O9.out.frozenAt (i * 5 + 3)
  have gf4 := O9.out.frozenAt (i * 5 + 4)
  clear p0 p1 p2 p3 fp0 fp1 fp2 fp3 m0 m1 m2 fm0 fm1 fm2 s0 s1 s2 s3 fs0 fs1 fs2 fs3 t0 t1 t2 t3 ft0 ft1 ft2 ft3
  obtain ⟨a0, a1, a2, a3⟩ := GT9.out.q4
  obtain ⟨fa0, fa1, fa2, fa3⟩ := GT9.out.z4
  obtain ⟨d0, d1, d2, d3⟩ := GR9.out.q4
  obtain ⟨fd0, fd1, fd2, fd3⟩ := GR9.out.z4
  obtain ⟨e0, e1, e2, e3, e4⟩ := N9.out.q5
  obtain ⟨fe0, fe1, fe2, fe3, fe4⟩ := N9.out.z5
  obtain ⟨w7, hw7⟩ : ∃ w7, w7 = ((((wc.setCell ⟨g, i * 5, none⟩ (.int .i64 NR.a)).setCell ⟨g, i * 5 + 1, none⟩ (.int .i64 NR.b)).setCell ⟨g, i * 5 + 2, none⟩ (.int .i64 NR.c)).setCell ⟨g, i * 5 + 3, none⟩ (.int .i64 NR.d)).setCell ⟨g, i * 5 + 4, none⟩ (.int .i64 NR.e) := ⟨_, rfl⟩
  have b7 : Hid (Below w.heap.size w w7) := Lib.hid (by rw [hw7]; (iterate 5 refine ext_set ?_ (by show w.heap.size ≤ g; omega) _); exact b9.out)
  have hiL : i < l.length := by rw [HL.out]; exact hin
  have O7 : Hid (w7.ownsRow w.heap.size 111 5 (.slice (some ⟨g, 0, none⟩) n c1) n (rowsV (l.set i NR))) := Lib.hid (by rw [hw7, rowsV_set5 l i NR hiL]; exact (((((O9.out.stored _ _).1.stored _ _).1.stored _ _).1.stored _ _).1.stored _ _).1)
  have GX7 := Lib.hid (show Blk w7 w.heap.size 32 #[.int .i64 day, .slice (some ⟨b, o, none⟩) n c, .int .i64 pa, .int .i64 le] from by rw [hw7]; (iterate 5 refine Blk.set_far ?_ (by show g ≠ _; omega) _); exact GX9.out)
  have GY7 := Lib.hid (show Blk w7 (w.heap.size + 1) 82 #[.int .i64 4, .int .i64 id, .int .i64 v] from by rw [hw7]; (iterate 5 refine Blk.set_far ?_ (by show g ≠ _; omega) _); exact GY9.out)
  have GR7 := Lib.hid (show Blk w7 (w.heap.size + 1 + 1) 32 #[.int .i64 0, .slice none 0 0, .int .i64 0, .int .i64 0] from by rw [hw7]; (iterate 5 refine Blk.set_far ?_ (by show g ≠ _; omega) _); exact GR9.out)
  have GT7 := Lib.hid (show Blk w7 w1.heap.size 32 #[.int .i64 day, .slice (some ⟨g, 0, none⟩) n c1, .int .i64 pa, .int .i64 le] from by rw [hw7]; (iterate 5 refine Blk.set_far ?_ (by show g ≠ _; omega) _); exact GT9.out)
  have z7 : wc.heap.size = w7.heap.size := by rw [hw7]; simp [World.setCell]
  have cc0 : w7.cell? ⟨b, o + i * 5, none⟩ = some (.int .i64 r.a) := by rw [hw7]; (iterate 5 refine cell_set_far (Ne.symm n95) ?_); exact ext_cell B9.out c0
  have cc1 : w7.cell? ⟨b, o + i * 5 + 1, none⟩ = some (.int .i64 r.b) := by rw [hw7]; (iterate 5 refine cell_set_far (Ne.symm n95) ?_); exact ext_cell B9.out c1'
  have cc2 : w7.cell? ⟨b, o + i * 5 + 2, none⟩ = some (.int .i64 r.c) := by rw [hw7]; (iterate 5 refine cell_set_far (Ne.symm n95) ?_); exact ext_cell B9.out c2
  have cc3 : w7.cell? ⟨b, o + i * 5 + 3, none⟩ = some (.int .i64 r.d) := by rw [hw7]; (iterate 5 refine cell_set_far (Ne.symm n95) ?_); exact ext_cell B9.out c3
  have cc4 : w7.cell? ⟨b, o + i * 5 + 4, none⟩ = some (.int .i64 r.e) := by rw [hw7]; (iterate 5 refine cell_set_far (Ne.symm n95) ?_); exact ext_cell B9.out c4
  have hb7 : b < w7.heap.size := by omega
  go_wp2
  rw [← hw7]
  clear hw7 a0 a1 a2 a3 fa0 fa1 fa2 fa3 d0 d1 d2 d3 fd0 fd1 fd2 fd3 e0 e1 e2 e3 e4 fe0 fe1 fe2 fe3 fe4 gg0 gg1 gg2 gg3 gg4 gf0 gf1 gf2 gf3 gf4
  obtain ⟨i0, i1, i2, i3⟩ := GX7.out.q4
  obtain ⟨fi0, fi1, fi2, fi3⟩ := GX7.out.z4
  obtain ⟨k0, k1, k2⟩ := GY7.out.q3
  obtain ⟨fk0, fk1, fk2⟩ := GY7.out.z3
  obtain ⟨j0, j1, j2, j3⟩ := GT7.out.q4
  obtain ⟨fj0, fj1, fj2, fj3⟩ := GT7.out.z4
  (refine wp_region_later (by kernel_rfl) (by kernel_rfl) ?_; (repeat (go_big_quiet_step (first | (go_at_call 103; exact Calls.later_of (HP.out _))))); refine wpQuiet_nil ?_; intro w8 hw1; obtain ⟨⟨wl, hb⟩, hw1'⟩ := hw1; simp only at hw1'; subst hw1')
  have b8 := Lib.hid (ext_trans b7.out hb)
  have O8 := Lib.hid (own_ext O7.out hb)
  have GR8 := Lib.hid (GR7.out.ext hb)
  have GT8 := Lib.hid (GT7.out.ext hb)
  have GX8 := Lib.hid (GX7.out.ext hb)
  clear hb j0 j1 j2 j3 fj0 fj1 fj2 fj3 k0 k1 k2 fk0 fk1 fk2 i0 i1 i2 i3 fi0 fi1 fi2 fi3
  obtain ⟨a0, a1, a2, a3⟩ := GT8.out.q4
  obtain ⟨fa0, fa1, fa2, fa3⟩ := GT8.out.z4
  obtain ⟨d0, d1, d2, d3⟩ := GR8.out.q4
  obtain ⟨fd0, fd1, fd2, fd3⟩ := GR8.out.z4
  obtain ⟨x0, x1, x2, x3⟩ := GX8.out.q4
  obtain ⟨fx0, fx1, fx2, fx3⟩ := GX8.out.z4
  have b6 := b8
  have O6 := O8
  have GR6 := GR8
  have GT6 := GT8
  obtain ⟨w6, hw6⟩ : ∃ w6, w6 = w8 := ⟨_, rfl⟩
  rw [← hw6] at b6 O6 GR6 GT6
  subst hw6
  go_wp2
  rcases cb with _ | _
  · have hne6 := own_nb O6.out GR6.out (by decide)
    obtain ⟨a0, a1, a2, a3⟩ := GT6.out.q4
    obtain ⟨fa0, fa1, fa2, fa3⟩ := GT6.out.z4
    obtain ⟨d0, d1, d2, d3⟩ := GR6.out.q4
    obtain ⟨fd0, fd1, fd2, fd3⟩ := GR6.out.z4
    go_wp2
    go_region
    all_goals go_wp2
    all_goals
     refine bodyPost_ret (v := .tuple #[schV day (some ⟨g, 0, none⟩) n c1 (pa) le, .bool false]) (by simp [results, Tryz.results100, go_sem, *]) rfl ?_
     refine ⟨(some ⟨g, 0, none⟩), c1, day, (pa), le, l.set i NR, ?_, ?_, ?_, ?_⟩
     · rw [HOO.out, HLR.out]; rfl
     · rw [HLR.out]
       repeat (first | (with_reducible exact O6.out) | (with_reducible refine World.ownsRow.drew ?_) | (with_reducible refine own_set_nb ?_ hne6 _))
     · intro x hx
       rw [HOO.out] at hx
       cases hx
     · repeat (first | (with_reducible exact b6.out) | (with_reducible refine ext_drew ?_) | (with_reducible refine ext_set ?_ (by show w.heap.size ≤ w.heap.size + 1 + 1; omega) _))
  · have HG := Lib.hid (fun (w : World) h hn => l25Good_any (day) (pa) (le) (some ⟨g, 0, none⟩) (n) c1 ((l.set i NR)) w hn h)
    obtain ⟨sb, hsb⟩ : ∃ sb, schB (day) ((l.set i NR)) (pa) (le) = sb := ⟨_, rfl⟩
    rw [hsb] at HG
    have HSB := Lib.hid hsb
    have hneR := Lib.hid (own_nb O6.out GR6.out (by decide))
    clear hsb
    obtain ⟨a0, a1, a2, a3⟩ := GT6.out.q4
    obtain ⟨fa0, fa1, fa2, fa3⟩ := GT6.out.z4
    obtain ⟨d0, d1, d2, d3⟩ := GR6.out.q4
    obtain ⟨fd0, fd1, fd2, fd3⟩ := GR6.out.z4
    have z6 := GR6.out.lt
    have z61 := GT6.out.lt
    go_wp2
    go_region_held3 (fun w' => w'.cell? ⟨w1.heap.size, 0, none⟩ = some (.int .i64 day) ∧ w'.cell? ⟨w1.heap.size, 1, none⟩ = some (.slice (some ⟨g, 0, none⟩) (n) c1) ∧ w'.cell? ⟨w1.heap.size, 2, none⟩ = some (.int .i64 pa) ∧ w'.cell? ⟨w1.heap.size, 3, none⟩ = some (.int .i64 le)) (first | (go_split_ands; refine ⟨?_, ?_, ?_, ?_⟩ <;> with_reducible (repeat (first | assumption | refine cell_drew ?_ | refine ext_cell hb9 ?_ | refine cell_set_far (by show w.heap.size + 1 + 1 ≠ w1.heap.size; omega) ?_)))) (first | (go_at_call 70; refine (HG.out _ (Reads.of_own (base := w.heap.size) (e := 111) (c := c1) (by (repeat (first | (with_reducible exact O6.out) | (with_reducible refine World.ownsRow.drew ?_) | (with_reducible refine own_set_nb ?_ hneR.out _))))) (by omega)).mono ?_; rintro e w9 ⟨rfl, hb9⟩; have HB9 := Lib.hid hb9; obtain ⟨hc9, hf9⟩ := bcell hb9; have z9 := hb9.size; have z91 : w1.heap.size < w9.heap.size := (by simp at z9; omega); have z90 : w.heap.size + 1 + 1 < w9.heap.size := (by omega); (try (have GR9 := GR6.out.ext (ext_trans (ext_drew (ext_refl _)) hb9); obtain ⟨g0, g1, g2, g3⟩ := GR9.q4; obtain ⟨fg0, fg1, fg2, fg3⟩ := GR9.z4; clear GR9))))
    all_goals go_wp2
    all_goals
     refine bodyPost_ret (v := .tuple #[schV (day) (some ⟨g, 0, none⟩) (n) c1 (pa) (le), .bool sb]) (by simp [results, Tryz.results100, go_sem, *]) rfl ?_
     refine ⟨(some ⟨g, 0, none⟩), c1, day, pa, le, (l.set i NR), ?_, ?_, ?_, ?_⟩
     · rw [HOO.out, HSB.out]; simp only [if_true]
       rw [HLR.out]
       rcases sb with _ | _ <;> rfl
     · rw [HLR.out]
       exact (by (repeat (first | (with_reducible exact O6.out) | (with_reducible refine World.ownsRow.drew ?_) | (with_reducible refine own_set_nb ?_ hneR.out _) | refine own_ext ?_ HB9.out)))
     · intro x hx
       rw [HOO.out] at hx
       simp only [if_true] at hx
       split at hx
       · injection hx with hx; exact hx.symm
       · cases hx
     · exact (by repeat (first | (with_reducible exact b6.out) | (with_reducible refine ext_drew ?_) | (with_reducible refine ext_set ?_ (by show w.heap.size ≤ w.heap.size + 1 + 1; omega) _) | refine ext_trans ?_ HB9.out))

set_option maxRecDepth 100000 in
set_option maxHeartbeats 4000000 in
theorem l25Make_4p (day pa le id v : Int) (A : Option Addr) (n c : Nat) (l : List R5) (w : World) (hn : n ≤ 8) (hnc : n ≤ c) (hA : SlOk A n c) (h : Reads w w.heap.size 5 A n (rowsV l)) (i : Nat) (r : R5) (hf : findI l id = i) (hr : l[i]? = some r) (hst : stuB r = true) (hday : 0 ≤ day ∧ day ≤ 4000) (hpa : 0 ≤ pa ∧ pa ≤ 9999) (hv : 0 ≤ v ∧ v ≤ 100) (hp : passB r v = true) :
 Calls Tryz.prog 100 #[schV day A n c pa le, .agg #[.int .i64 4, .int .i64 id, .int .i64 v]] w (RetMake (if chgB r 4 day = true then (if schB day (l.set i (chgR r 4 v day)) (pa + 1) le = true then some (day, (l.set i (chgR r 4 v day)), (pa + 1), le) else none) else none) w) := by
 obtain ⟨O, hO⟩ : ∃ O, O = (if chgB r 4 day = true then (if schB day (l.set i (chgR r 4 v day)) (pa + 1) le = true then some (day, (l.set i (chgR r 4 v day)), (pa + 1), le) else none) else none) := ⟨_, rfl⟩
 rw [← hO]
 have HOO := Lib.hid hO
 clear hO
 have HC := Lib.hid (fun (w : World) => l25Change_4 r id v day w hst hday (by omega))
 have HLR : Hid ((l.set i (chgR r 4 v day)).length = n) := Lib.hid (by rw [List.length_set]; exact rows_len h)
 obtain ⟨NR, hNR⟩ : ∃ NR, chgR r 4 v day = NR := ⟨_, rfl⟩
 obtain ⟨cb, hcb⟩ : ∃ cb, chgB r 4 day = cb := ⟨_, rfl⟩
 rw [hNR, hcb] at HC HOO
 rw [hNR] at HLR
 have hin : i < n := by have := (List.getElem?_eq_some_iff.1 hr).1; have := rows_len h; omega
 have hini : (i : Int) < n := by omega
 have hst2 := stu_bounds hst
 have HP := Lib.hid (fun w => l25Passes_any r v w (by omega) (by omega))
 rw [hp] at HP
 have HRR := Lib.hid hr
 have HC0 := Lib.hid (rows_at h hr)
 clear hNR hcb hr
 have H := Lib.hid h
 have HL := Lib.hid (rows_len h)
 have HA := Lib.hid (fun w h => l25Own_any day pa le A n c l w (by omega) hA h)
 have HF := Lib.hid (fun (w : World) h => l25Find_any day pa le id A n c l w (by omega) h)
 rw [hf] at HF
 clear hf
 clear h
 go_enter Tryz.func100, Tryz.ntmps100
 go_wp2_with fail
 refine (HA.out _ ((H.out.ext (ext_alloc (ext_alloc (ext_alloc (ext_refl _) _) _) _) (Nat.le_refl _)).more (by simp; omega))).mono ?_
 rintro e w1 ⟨A1, c1, rfl, hown, hb1⟩
 have z0 : w.heap.size + 1 + 1 < w1.heap.size := by (have := hb1.size; simp at this; omega)
 have z1 : w.heap.size + 1 < w1.heap.size := by omega
 have z2 : w.heap.size < w1.heap.size := by omega
 have BX : Hid (Blk w1 w.heap.size 32 #[.int .i64 day, .slice A n c, .int .i64 pa, .int .i64 le]) := Lib.hid (((Blk.new w _ _).ext (ext_alloc (ext_alloc (ext_refl _) _) _)).ext hb1)
 have BY : Hid (Blk w1 (w.heap.size + 1) 82 #[.int .i64 4, .int .i64 id, .int .i64 v]) := Lib.hid (by
  have := ((Blk.new (w.alloc (.cells #[.int .i64 day, .slice A n c, .int .i64 pa, .int .i64 le] 32)) #[.int .i64 4, .int .i64 id, .int .i64 v] 82).ext (ext_alloc (ext_refl _) (.cells #[.int .i64 0, .slice none 0 0, .int .i64 0, .int .i64 0] 32))).ext hb1
  simpa using this)
 have BR : Hid (Blk w1 (w.heap.size + 1 + 1) 32 #[.int .i64 0, .slice none 0 0, .int .i64 0, .int .i64 0]) := Lib.hid (by
  have := (Blk.new ((w.alloc (.cells #[.int .i64 day, .slice A n c, .int .i64 pa, .int .i64 le] 32)).alloc (.cells #[.int .i64 4, .int .i64 id, .int .i64 v] 82)) #[.int .i64 0, .slice none 0 0, .int .i64 0, .int .i64 0] 32).ext hb1
  simpa using this)
 have hbw := Lib.hid (ext_trans (ext_alloc (ext_alloc (ext_alloc (ext_refl w) _) _) _) hb1)
 have HO : Hid (w1.ownsRow w.heap.size 111 5 (.slice A1 n c1) n (rowsV l)) := Lib.hid (own_base hown (by simp; omega))
 clear hb1 hown
 obtain ⟨x0, x1, x2, x3⟩ := BX.out.q4
 obtain ⟨fx0, fx1, fx2, fx3⟩ := BX.out.z4
 obtain ⟨y0, y1, y2⟩ := BY.out.q3
 obtain ⟨fy0, fy1, fy2⟩ := BY.out.z3
 obtain ⟨r0, r1, r2, r3⟩ := BR.out.q4
 obtain ⟨fr0, fr1, fr2, fr3⟩ := BR.out.z4
 go_wp2_with fail
 refine (HF.out _ (((H.out.ext hbw.out (Nat.le_refl _)).ext (ext_alloc (ext_refl _) _) (by omega)).more (by simp; omega))).mono ?_
 rintro e w5 ⟨rfl, hb5⟩
 have z5 : w1.heap.size < w5.heap.size := by (have := hb5.size; simp at this; omega)
 have z50 : w.heap.size + 1 + 1 < w5.heap.size := by omega
 have z51 : w.heap.size + 1 < w5.heap.size := by omega
 have z52 : w.heap.size < w5.heap.size := by omega
 have b5 := Lib.hid (ext_trans hbw.out (ext_trans (ext_alloc (ext_refl _) _) hb5))
 have O5 := Lib.hid (own_ext HO.out (ext_trans (ext_alloc (ext_refl _) _) hb5))
 have GX5 := Lib.hid (BX.out.ext (ext_trans (ext_alloc (ext_refl _) _) hb5))
 have GY5 := Lib.hid (BY.out.ext (ext_trans (ext_alloc (ext_refl _) _) hb5))
 have GR5 := Lib.hid (BR.out.ext (ext_trans (ext_alloc (ext_refl _) _) hb5))
 have GT5 : Hid (Blk w5 w1.heap.size 32 #[.int .i64 day, .slice A1 n c1, .int .i64 pa, .int .i64 le]) := Lib.hid ((Blk.new w1 _ _).ext hb5)
 clear hb5 x0 x1 x2 x3 fx0 fx1 fx2 fx3 y0 y1 y2 fy0 fy1 fy2 r0 r1 r2 r3 fr0 fr1 fr2 fr3
 obtain ⟨p0, p1, p2, p3⟩ := GX5.out.q4
 obtain ⟨fp0, fp1, fp2, fp3⟩ := GX5.out.z4
 obtain ⟨m0, m1, m2⟩ := GY5.out.q3
 obtain ⟨fm0, fm1, fm2⟩ := GY5.out.z3
 obtain ⟨s0, s1, s2, s3⟩ := GR5.out.q4
 obtain ⟨fs0, fs1, fs2, fs3⟩ := GR5.out.z4
 obtain ⟨t0, t1, t2, t3⟩ := GT5.out.q4
 obtain ⟨ft0, ft1, ft2, ft3⟩ := GT5.out.z4
 obtain ⟨g, cap, hv1, hgb, hglt⟩ := HO.out.form (by omega)
 injection hv1 with hv1 _ hc1
 subst hv1
 clear hc1
 obtain ⟨b, o, hAd, hbb, c0, c1', c2, c3, c4⟩ := HC0.out
 subst hAd
 have c0 := ext_cell b5.out c0
 have c1' := ext_cell b5.out c1'
 have c2 := ext_cell b5.out c2
 have c3 := ext_cell b5.out c3
 have c4 := ext_cell b5.out c4
 have hb5 : b < w5.heap.size := by omega
 go_upto_region 4 with fail
 go_cut [9, 10] (fun s9 s10 wx => ∃ (g9 : Nat), s9 = .pointer (some ⟨g9, 0, none⟩) ∧ s10 = .bool cb ∧ Hid (Blk wx g9 111 #[.int .i64 NR.a, .int .i64 NR.b, .int .i64 NR.c, .int .i64 NR.d, .int .i64 NR.e]) ∧ w5.heap.size ≤ g9 ∧ Hid (Below w5.heap.size w5 wx))
 case first =>
  go_region_held3 (fun w' => w'.cell? ⟨w.heap.size, 0, none⟩ = some (.int .i64 day) ∧ w'.cell? ⟨w.heap.size, 1, none⟩ = some (.slice (some ⟨b, o, none⟩) n c) ∧ w'.cell? ⟨w.heap.size + 1, 0, none⟩ = some (.int .i64 4) ∧ w'.cell? ⟨w.heap.size + 1, 1, none⟩ = some (.int .i64 id) ∧ w'.cell? ⟨w.heap.size + 1, 2, none⟩ = some (.int .i64 v) ∧ w'.cell? ⟨b, o + i * 5, none⟩ = some (.int .i64 r.a) ∧ w'.cell? ⟨b, o + i * 5 + 1, none⟩ = some (.int .i64 r.b) ∧ w'.cell? ⟨b, o + i * 5 + 2, none⟩ = some (.int .i64 r.c) ∧ w'.cell? ⟨b, o + i * 5 + 3, none⟩ = some (.int .i64 r.d) ∧ w'.cell? ⟨b, o + i * 5 + 4, none⟩ = some (.int .i64 r.e)) (first | (go_split_ands; refine ⟨?_, ?_, ?_, ?_, ?_, ?_, ?_, ?_, ?_, ?_⟩ <;> with_reducible (repeat (first | assumption | refine cell_drew ?_ | refine cell_old ?_ _ | refine ext_cell hb9 ?_ | refine cell_set_far (by simp <;> omega) ?_)))) (first | (go_at_call 108; refine (HC.out _).mono ?_; rintro e w9 ⟨rfl, hb9⟩; have HB9 := Lib.hid hb9; obtain ⟨hc9, hf9⟩ := bcell hb9; have z9 := hb9.size))
  all_goals (go_wp2_with fail; go_meet; refine ⟨_, rfl, rfl, ?_, ?_, ?_⟩)
  all_goals first
   | (with_reducible exact Lib.hid (Blk.new _ _ _))
   | (with_reducible exact Lib.hid (ext_alloc (ext_trans (ext_drew (ext_refl _)) HB9.out) _))
   | (with_reducible exact Nat.le_refl _)
   | (have hq := HB9.out.size; simp at hq; omega)
   | (refine Lib.hid ?_; have := (((((Blk.new w5 #[.int .i64 0, .int .i64 0, .int .i64 0, .int .i64 0, .int .i64 0] 111).ext (ext_drew_left HB9.out)).set_ 0 (.int .i64 NR.a)).set_ 1 (.int .i64 NR.b)).set_ 2 (.int .i64 NR.c)).set_ 3 (.int .i64 NR.d) |>.set_ 4 (.int .i64 NR.e); simpa using this)
   | (refine Lib.hid ?_; (iterate 5 (with_reducible refine ext_set ?_ (Nat.le_refl _) _)); exact ext_trans (ext_drew (ext_alloc (ext_refl _) _)) HB9.out)
 case rest =>
  obtain ⟨g9, rfl, rfl, N9, h9, B9⟩ := hcut
  have z9 := B9.out.size
  have y91 : w1.heap.size < wc.heap.size := by omega
  have y90 : w.heap.size + 1 + 1 < wc.heap.size := by omega
  have b9 := Lib.hid (ext_trans b5.out B9.out)
  have O9 := Lib.hid (own_ext O5.out B9.out)
  have GX9 := Lib.hid (GX5.out.ext B9.out)
  have GY9 := Lib.hid (GY5.out.ext B9.out)
  have GR9 := Lib.hid (GR5.out.ext B9.out)
  have GT9 := Lib.hid (GT5.out.ext B9.out)
  have n90 : g ≠ w.heap.size + 1 + 1 := own_ne_blk O9.out GR9.out (by decide)
  have n91 : g ≠ w1.heap.size := own_ne_blk O9.out GT9.out (by decide)
  have n92 : g ≠ w.heap.size + 1 := own_ne_blk O9.out GY9.out (by decide)
  have n93 : g ≠ w.heap.size := own_ne_blk O9.out GX9.out (by decide)
  have n94 : g ≠ g9 := by omega
  have n95 : b ≠ g := by omega
  have hsz9 : g < wc.heap.size := by omega
  obtain ⟨gg0, gg1, gg2, gg3, gg4⟩ := own_cells O9.out HRR.out
  have gf0 := O9.out.frozenAt (i * 5)
  have gf1 := O9.out.frozenAt (i * 5 + 1)
  have gf2 := O9.out.frozenAt (i * 5 + 2)
  have gf3 := O9.out.frozenAt (i * 5 + 3)
  have gf4 := O9.out.frozenAt (i * 5 + 4)
  clear p0 p1 p2 p3 fp0 fp1 fp2 fp3 m0 m1 m2 fm0 fm1 fm2 s0 s1 s2 s3 fs0 fs1 fs2 fs3 t0 t1 t2 t3 ft0 ft1 ft2 ft3
  obtain ⟨a0, a1, a2, a3⟩ := GT9.out.q4
  obtain ⟨fa0, fa1, fa2, fa3⟩ := GT9.out.z4
  obtain ⟨d0, d1, d2, d3⟩ := GR9.out.q4
  obtain ⟨fd0, fd1, fd2, fd3⟩ := GR9.out.z4
  obtain ⟨e0, e1, e2, e3, e4⟩ := N9.out.q5
  obtain ⟨fe0, fe1, fe2, fe3, fe4⟩ := N9.out.z5
  obtain ⟨w7, hw7⟩ : ∃ w7, w7 = ((((wc.setCell ⟨g, i * 5, none⟩ (.int .i64 NR.a)).setCell ⟨g, i * 5 + 1, none⟩ (.int .i64 NR.b)).setCell ⟨g, i * 5 + 2, none⟩ (.int .i64 NR.c)).setCell ⟨g, i * 5 + 3, none⟩ (.int .i64 NR.d)).setCell ⟨g, i * 5 + 4, none⟩ (.int .i64 NR.e) := ⟨_, rfl⟩
  have b7 : Hid (Below w.heap.size w w7) := Lib.hid (by rw [hw7]; (iterate 5 refine ext_set ?_ (by show w.heap.size ≤ g; omega) _); exact b9.out)
  have hiL : i < l.length := by rw [HL.out]; exact hin
  have O7 : Hid (w7.ownsRow w.heap.size 111 5 (.slice (some ⟨g, 0, none⟩) n c1) n (rowsV (l.set i NR))) := Lib.hid (by rw [hw7, rowsV_set5 l i NR hiL]; exact (((((O9.out.stored _ _).1.stored _ _).1.stored _ _).1.stored _ _).1.stored _ _).1)
  have GX7 := Lib.hid (show Blk w7 w.heap.size 32 #[.int .i64 day, .slice (some ⟨b, o, none⟩) n c, .int .i64 pa, .int .i64 le] from by rw [hw7]; (iterate 5 refine Blk.set_far ?_ (by show g ≠ _; omega) _); exact GX9.out)
  have GY7 := Lib.hid (show Blk w7 (w.heap.size + 1) 82 #[.int .i64 4, .int .i64 id, .int .i64 v] from by rw [hw7]; (iterate 5 refine Blk.set_far ?_ (by show g ≠ _; omega) _); exact GY9.out)
  have GR7 := Lib.hid (show Blk w7 (w.heap.size + 1 + 1) 32 #[.int .i64 0, .slice none 0 0, .int .i64 0, .int .i64 0] from by rw [hw7]; (iterate 5 refine Blk.set_far ?_ (by show g ≠ _; omega) _); exact GR9.out)
  have GT7 := Lib.hid (show Blk w7 w1.heap.size 32 #[.int .i64 day, .slice (some ⟨g, 0, none⟩) n c1, .int .i64 pa, .int .i64 le] from by rw [hw7]; (iterate 5 refine Blk.set_far ?_ (by show g ≠ _; omega) _); exact GT9.out)
  have z7 : wc.heap.size = w7.heap.size := by rw [hw7]; simp [World.setCell]
  have cc0 : w7.cell? ⟨b, o + i * 5, none⟩ = some (.int .i64 r.a) := by rw [hw7]; (iterate 5 refine cell_set_far (Ne.symm n95) ?_); exact ext_cell B9.out c0
  have cc1 : w7.cell? ⟨b, o + i * 5 + 1, none⟩ = some (.int .i64 r.b) := by rw [hw7]; (iterate 5 refine cell_set_far (Ne.symm n95) ?_); exact ext_cell B9.out c1'
  have cc2 : w7.cell? ⟨b, o + i * 5 + 2, none⟩ = some (.int .i64 r.c) := by rw [hw7]; (iterate 5 refine cell_set_far (Ne.symm n95) ?_); exact ext_cell B9.out c2
  have cc3 : w7.cell? ⟨b, o + i * 5 + 3, none⟩ = some (.int .i64 r.d) := by rw [hw7]; (iterate 5 refine cell_set_far (Ne.symm n95) ?_); exact ext_cell B9.out c3
  have cc4 : w7.cell? ⟨b, o + i * 5 + 4, none⟩ = some (.int .i64 r.e) := by rw [hw7]; (iterate 5 refine cell_set_far (Ne.symm n95) ?_); exact ext_cell B9.out c4
  have hb7 : b < w7.heap.size := by omega
  go_wp2
  rw [← hw7]
  clear hw7 a0 a1 a2 a3 fa0 fa1 fa2 fa3 d0 d1 d2 d3 fd0 fd1 fd2 fd3 e0 e1 e2 e3 e4 fe0 fe1 fe2 fe3 fe4 gg0 gg1 gg2 gg3 gg4 gf0 gf1 gf2 gf3 gf4
  obtain ⟨i0, i1, i2, i3⟩ := GX7.out.q4
  obtain ⟨fi0, fi1, fi2, fi3⟩ := GX7.out.z4
  obtain ⟨k0, k1, k2⟩ := GY7.out.q3
  obtain ⟨fk0, fk1, fk2⟩ := GY7.out.z3
  obtain ⟨j0, j1, j2, j3⟩ := GT7.out.q4
  obtain ⟨fj0, fj1, fj2, fj3⟩ := GT7.out.z4
  (refine wp_region_later (by kernel_rfl) (by kernel_rfl) ?_; (repeat (go_big_quiet_step (first | (go_at_call 103; exact Calls.later_of (HP.out _))))); refine wpQuiet_nil ?_; intro w8 hw1; obtain ⟨⟨wl, hb⟩, hw1'⟩ := hw1; simp only at hw1'; subst hw1')
  have b8 := Lib.hid (ext_trans b7.out hb)
  have O8 := Lib.hid (own_ext O7.out hb)
  have GR8 := Lib.hid (GR7.out.ext hb)
  have GT8 := Lib.hid (GT7.out.ext hb)
  have GX8 := Lib.hid (GX7.out.ext hb)
  clear hb j0 j1 j2 j3 fj0 fj1 fj2 fj3 k0 k1 k2 fk0 fk1 fk2 i0 i1 i2 i3 fi0 fi1 fi2 fi3
  obtain ⟨a0, a1, a2, a3⟩ := GT8.out.q4
  obtain ⟨fa0, fa1, fa2, fa3⟩ := GT8.out.z4
  obtain ⟨d0, d1, d2, d3⟩ := GR8.out.q4
  obtain ⟨fd0, fd1, fd2, fd3⟩ := GR8.out.z4
  obtain ⟨x0, x1, x2, x3⟩ := GX8.out.q4
  obtain ⟨fx0, fx1, fx2, fx3⟩ := GX8.out.z4
  obtain ⟨w6, hw6⟩ : ∃ w6, w6 = w8.setCell ⟨w1.heap.size, 2, none⟩ (.int .i64 (pa + 1)) := ⟨_, rfl⟩
  have b6 : Hid (Below w.heap.size w w6) := Lib.hid (by rw [hw6]; exact ext_set b8.out (by show w.heap.size ≤ w1.heap.size; omega) _)
  have O6 : Hid (w6.ownsRow w.heap.size 111 5 (.slice (some ⟨g, 0, none⟩) n c1) n (rowsV (l.set i NR))) := Lib.hid (by rw [hw6]; exact own_set_ne O8.out (Ne.symm n91) _)
  have GR6 := Lib.hid (show Blk w6 (w.heap.size + 1 + 1) 32 #[.int .i64 0, .slice none 0 0, .int .i64 0, .int .i64 0] from by rw [hw6]; exact GR8.out.set_far (by show w1.heap.size ≠ _; omega) _)
  have GT6 := Lib.hid (show Blk w6 w1.heap.size 32 #[.int .i64 day, .slice (some ⟨g, 0, none⟩) n c1, .int .i64 (pa + 1), .int .i64 le] from by rw [hw6]; have := GT8.out.set_ 2 (.int .i64 (pa + 1)); simpa using this)
  go_wp2
  rw [← hw6]
  clear hw6 a0 a1 a2 a3 fa0 fa1 fa2 fa3 d0 d1 d2 d3 fd0 fd1 fd2 fd3
  rcases cb with _ | _
  · have hne6 := own_nb O6.out GR6.out (by decide)
    obtain ⟨a0, a1, a2, a3⟩ := GT6.out.q4
    obtain ⟨fa0, fa1, fa2, fa3⟩ := GT6.out.z4
    obtain ⟨d0, d1, d2, d3⟩ := GR6.out.q4
    obtain ⟨fd0, fd1, fd2, fd3⟩ := GR6.out.z4
    go_wp2
    go_region
    all_goals go_wp2
    all_goals
     refine bodyPost_ret (v := .tuple #[schV day (some ⟨g, 0, none⟩) n c1 ((pa + 1)) le, .bool false]) (by simp [results, Tryz.results100, go_sem, *]) rfl ?_
     refine ⟨(some ⟨g, 0, none⟩), c1, day, ((pa + 1)), le, l.set i NR, ?_, ?_, ?_, ?_⟩
     · rw [HOO.out, HLR.out]; rfl
     · rw [HLR.out]
       repeat (first | (with_reducible exact O6.out) | (with_reducible refine World.ownsRow.drew ?_) | (with_reducible refine own_set_nb ?_ hne6 _))
     · intro x hx
       rw [HOO.out] at hx
       cases hx
     · repeat (first | (with_reducible exact b6.out) | (with_reducible refine ext_drew ?_) | (with_reducible refine ext_set ?_ (by show w.heap.size ≤ w.heap.size + 1 + 1; omega) _))
  · have HG := Lib.hid (fun (w : World) h hn => l25Good_any (day) ((pa + 1)) (le) (some ⟨g, 0, none⟩) (n) c1 ((l.set i NR)) w hn h)
    obtain ⟨sb, hsb⟩ : ∃ sb, schB (day) ((l.set i NR)) ((pa + 1)) (le) = sb := ⟨_, rfl⟩
    rw [hsb] at HG
    have HSB := Lib.hid hsb
    have hneR := Lib.hid (own_nb O6.out GR6.out (by decide))
    clear hsb
    obtain ⟨a0, a1, a2, a3⟩ := GT6.out.q4
    obtain ⟨fa0, fa1, fa2, fa3⟩ := GT6.out.z4
    obtain ⟨d0, d1, d2, d3⟩ := GR6.out.q4
    obtain ⟨fd0, fd1, fd2, fd3⟩ := GR6.out.z4
    have z6 := GR6.out.lt
    have z61 := GT6.out.lt
    go_wp2
    go_region_held3 (fun w' => w'.cell? ⟨w1.heap.size, 0, none⟩ = some (.int .i64 day) ∧ w'.cell? ⟨w1.heap.size, 1, none⟩ = some (.slice (some ⟨g, 0, none⟩) (n) c1) ∧ w'.cell? ⟨w1.heap.size, 2, none⟩ = some (.int .i64 (pa + 1)) ∧ w'.cell? ⟨w1.heap.size, 3, none⟩ = some (.int .i64 le)) (first | (go_split_ands; refine ⟨?_, ?_, ?_, ?_⟩ <;> with_reducible (repeat (first | assumption | refine cell_drew ?_ | refine ext_cell hb9 ?_ | refine cell_set_far (by show w.heap.size + 1 + 1 ≠ w1.heap.size; omega) ?_)))) (first | (go_at_call 70; refine (HG.out _ (Reads.of_own (base := w.heap.size) (e := 111) (c := c1) (by (repeat (first | (with_reducible exact O6.out) | (with_reducible refine World.ownsRow.drew ?_) | (with_reducible refine own_set_nb ?_ hneR.out _))))) (by omega)).mono ?_; rintro e w9 ⟨rfl, hb9⟩; have HB9 := Lib.hid hb9; obtain ⟨hc9, hf9⟩ := bcell hb9; have z9 := hb9.size; have z91 : w1.heap.size < w9.heap.size := (by simp at z9; omega); have z90 : w.heap.size + 1 + 1 < w9.heap.size := (by omega); (try (have GR9 := GR6.out.ext (ext_trans (ext_drew (ext_refl _)) hb9); obtain ⟨g0, g1, g2, g3⟩ := GR9.q4; obtain ⟨fg0, fg1, fg2, fg3⟩ := GR9.z4; clear GR9))))
    all_goals go_wp2
    all_goals
     refine bodyPost_ret (v := .tuple #[schV (day) (some ⟨g, 0, none⟩) (n) c1 ((pa + 1)) (le), .bool sb]) (by simp [results, Tryz.results100, go_sem, *]) rfl ?_
     refine ⟨(some ⟨g, 0, none⟩), c1, day, (pa + 1), le, (l.set i NR), ?_, ?_, ?_, ?_⟩
     · rw [HOO.out, HSB.out]; simp only [if_true]
       rw [HLR.out]
       rcases sb with _ | _ <;> rfl
     · rw [HLR.out]
       exact (by (repeat (first | (with_reducible exact O6.out) | (with_reducible refine World.ownsRow.drew ?_) | (with_reducible refine own_set_nb ?_ hneR.out _) | refine own_ext ?_ HB9.out)))
     · intro x hx
       rw [HOO.out] at hx
       simp only [if_true] at hx
       split at hx
       · injection hx with hx; exact hx.symm
       · cases hx
     · exact (by repeat (first | (with_reducible exact b6.out) | (with_reducible refine ext_drew ?_) | (with_reducible refine ext_set ?_ (by show w.heap.size ≤ w.heap.size + 1 + 1; omega) _) | refine ext_trans ?_ HB9.out))

end Go.Proofs.YtkcbgiegoadkbaaGreat
