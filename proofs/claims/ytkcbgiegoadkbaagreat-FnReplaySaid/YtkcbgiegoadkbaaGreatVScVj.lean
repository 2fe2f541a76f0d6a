/- The reference makes a step: leaving. -/
import Derived.Test.YtkcbgiegoadkbaaGreatVM6
namespace Go.Proofs.YtkcbgiegoadkbaaGreat
open Go.RowKit
set_option linter.unusedVariables false
set_option linter.unusedSimpArgs false
set_option maxRecDepth 100000 in
set_option maxHeartbeats 4000000 in
theorem l25Make_6 (day pa le id v : Int) (A : Option Addr) (n c : Nat) (l : List R5) (w : World) (hn : n ≤ 8) (hnc : n ≤ c) (hA : SlOk A n c) (h : Reads w w.heap.size 5 A n (rowsV l)) (i : Nat) (r : R5) (hf : findI l id = i) (hr : l[i]? = some r) (hle : 0 ≤ le ∧ le ≤ 9999) :
 Calls Tryz.prog 100 #[schV day A n c pa le, .agg #[.int .i64 6, .int .i64 id, .int .i64 v]] w (RetMake (if schB day (l.eraseIdx i) pa (le + 1) = true then some (day, l.eraseIdx i, pa, le + 1) else none) w) := by
 obtain ⟨O, hO⟩ : ∃ O, O = (if schB day (l.eraseIdx i) pa (le + 1) = true then some (day, l.eraseIdx i, pa, le + 1) else none) := ⟨_, rfl⟩
 rw [← hO]
 have HOO := Lib.hid hO
 clear hO
 have hin : i < n := by have := (List.getElem?_eq_some_iff.1 hr).1; have := rows_len h; omega
 rcases Classical.em (c = i + 1) with hci | hci
 · subst hci
   obtain rfl : n = i + 1 := by omega
   obtain ⟨i0, ji, jz0, jz1, jz2⟩ := info_parts info_stu
   have hin : i < (i + 1) := by have := (List.getElem?_eq_some_iff.1 hr).1; have := rows_len h; omega
   have HC0 := Lib.hid (rows_at h hr)
   clear hr
   have H := Lib.hid h
   have HL := Lib.hid (rows_len h)
   have HA := Lib.hid (fun w h => l25Own_any day pa le A (i + 1) (i + 1) l w (by omega) hA h)
   have HF := Lib.hid (fun (w : World) h => l25Find_any day pa le id A (i + 1) (i + 1) l w (by omega) h)
   rw [hf] at HF
   clear hf
   clear h
   go_enter Tryz.func100, Tryz.ntmps100
   go_wp2_with fail
   refine (HA.out _ ((H.out.ext (ext_alloc (ext_alloc (ext_alloc (ext_refl _) _) _) _) (Nat.le_refl _)).more (by simp; omega))).mono ?_
   rintro e w1 ⟨A1, c1, rfl, hown, hb1⟩
   have z0 : w.heap.size + 1 + 1 < w1.heap.size := by (have := hb1.size; simp at this; omega)
   have z1 : w.heap.size + 1 < w1.heap.size := by omega
   have z2 : w.heap.size < w1.heap.size := by omega
   have BX : Hid (Blk w1 w.heap.size 32 #[.int .i64 day, .slice A (i + 1) (i + 1), .int .i64 pa, .int .i64 le]) := Lib.hid (((Blk.new w _ _).ext (ext_alloc (ext_alloc (ext_refl _) _) _)).ext hb1)
   have BY : Hid (Blk w1 (w.heap.size + 1) 82 #[.int .i64 6, .int .i64 id, .int .i64 v]) := Lib.hid (by
    have := ((Blk.new (w.alloc (.cells #[.int .i64 day, .slice A (i + 1) (i + 1), .int .i64 pa, .int .i64 le] 32)) #[.int .i64 6, .int .i64 id, .int .i64 v] 82).ext (ext_alloc (ext_refl _) (.cells #[.int .i64 0, .slice none 0 0, .int .i64 0, .int .i64 0] 32))).ext hb1
    simpa using this)
   have BR : Hid (Blk w1 (w.heap.size + 1 + 1) 32 #[.int .i64 0, .slice none 0 0, .int .i64 0, .int .i64 0]) := Lib.hid (by
    have := (Blk.new ((w.alloc (.cells #[.int .i64 day, .slice A (i + 1) (i + 1), .int .i64 pa, .int .i64 le] 32)).alloc (.cells #[.int .i64 6, .int .i64 id, .int .i64 v] 82)) #[.int .i64 0, .slice none 0 0, .int .i64 0, .int .i64 0] 32).ext hb1
    simpa using this)
   have hbw := Lib.hid (ext_trans (ext_alloc (ext_alloc (ext_alloc (ext_refl w) _) _) _) hb1)
   have HO : Hid (w1.ownsRow w.heap.size 111 5 (.slice A1 (i + 1) c1) (i + 1) (rowsV l)) := Lib.hid (own_base hown (by simp; omega))
   clear hb1 hown
   obtain ⟨x0, x1, x2, x3⟩ := BX.out.q4
   obtain ⟨fx0, fx1, fx2, fx3⟩ := BX.out.z4
   obtain ⟨y0, y1, y2⟩ := BY.out.q3
   obtain ⟨fy0, fy1, fy2⟩ := BY.out.z3
   obtain ⟨r0, r1, r2, r3⟩ := BR.out.q4
   obtain ⟨fr0, fr1, fr2, fr3⟩ := BR.out.z4
   go_wp2_with fail
   refine (HF.out _ (((H.out.ext hbw.out (Nat.le_refl _)).ext (ext_alloc (ext_refl _) _) (by omega)).more (by simp; omega))).mono ?_
   rintro e w5 ⟨rfl, hb5⟩
   have z5 : w1.heap.size < w5.heap.size := by (have := hb5.size; simp at this; omega)
   have z50 : w.heap.size + 1 + 1 < w5.heap.size := by omega
   have z51 : w.heap.size + 1 < w5.heap.size := by omega
   have z52 : w.heap.size < w5.heap.size := by omega
   have b5 := Lib.hid (ext_trans hbw.out (ext_trans (ext_alloc (ext_refl _) _) hb5))
   have O5 := Lib.hid (own_ext HO.out (ext_trans (ext_alloc (ext_refl _) _) hb5))
   have GX5 := Lib.hid (BX.out.ext (ext_trans (ext_alloc (ext_refl _) _) hb5))
   have GY5 := Lib.hid (BY.out.ext (ext_trans (ext_alloc (ext_refl _) _) hb5))
   have GR5 := Lib.hid (BR.out.ext (ext_trans (ext_alloc (ext_refl _) _) hb5))
   have GT5 : Hid (Blk w5 w1.heap.size 32 #[.int .i64 day, .slice A1 (i + 1) c1, .int .i64 pa, .int .i64 le]) := Lib.hid ((Blk.new w1 _ _).ext hb5)
   clear hb5 x0 x1 x2 x3 fx0 fx1 fx2 fx3 y0 y1 y2 fy0 fy1 fy2 r0 r1 r2 r3 fr0 fr1 fr2 fr3
   obtain ⟨p0, p1, p2, p3⟩ := GX5.out.q4
   obtain ⟨fp0, fp1, fp2, fp3⟩ := GX5.out.z4
   obtain ⟨m0, m1, m2⟩ := GY5.out.q3
   obtain ⟨fm0, fm1, fm2⟩ := GY5.out.z3
   obtain ⟨s0, s1, s2, s3⟩ := GR5.out.q4
   obtain ⟨fs0, fs1, fs2, fs3⟩ := GR5.out.z4
   obtain ⟨t0, t1, t2, t3⟩ := GT5.out.q4
   obtain ⟨ft0, ft1, ft2, ft3⟩ := GT5.out.z4
   obtain ⟨b, o, hAd, hbb, _⟩ := HC0.out
   subst hAd
   have HRr := Lib.hid ((H.out.ext b5.out (Nat.le_refl _)).more (show w.heap.size ≤ w5.heap.size by omega))
   have hkn : i ≤ (i + 1) := by omega
   have hi1 : i + 1 ≤ (i + 1) := hin
   have hi2 : (i : Int) + 1 ≤ (i + 1) := by omega
   have hi3 : (i : Int) ≤ (i + 1) := by omega
   have hi4 : i ≤ (i + 1) := by omega
   have hi5 : (i : Int) ≤ (i + 1) := by omega
   have hnci : ((i + 1) : Int) ≤ (i + 1) := by omega
   have hLe : (l.eraseIdx i).length = i := by rw [List.length_eraseIdx, HL.out, if_pos hin] <;> omega
   have HLE := Lib.hid hLe
   have HL1 : Hid ((rowsV (l.take i)).length = i * 5) := Lib.hid (by rw [rowsV_len, List.length_take, HL.out, Nat.min_eq_left hkn])
   have HL2 : Hid ((rowsV (l.drop (i + 1))).length = 0 * 5) := Lib.hid (by rw [rowsV_len, List.length_drop, HL.out]; omega)
   have M1 : Hid (0 + i ≤ maxLen) := Lib.hid (by unfold maxLen; omega)
   have M2 : Hid ((0 + i) * 40 ≤ 140737488355328) := Lib.hid (by omega)
   have M3 : Hid (0 + i + 0 ≤ maxLen) := Lib.hid (by unfold maxLen; omega)
   have M4 : Hid ((0 + i + 0) * 40 ≤ 140737488355328) := Lib.hid (by omega)
   clear hLe fp0 fp2 fp3 fm0 fm1 fm2
   go_wp2_with fail
   have hw0 : (0 : Int) ≤ (i : Int) + 1 := by omega
   have hwn : ((i : Int) + 1).toNat = i + 1 := by omega
   have hwr : IntKind.i64.wrap ((i : Int) + 1) = (i : Int) + 1 := IntWalk.i64_in _ (by omega)
   go_region_held3 (fun w' => w'.cell? ⟨w.heap.size, 1, none⟩ = some (.slice (some ⟨b, o, none⟩) (i + 1) (i + 1))) (first | (refine cell_set_far (by show w1.heap.size ≠ w.heap.size; omega) ?_; with_reducible assumption) | (refine ext_cell (w := w5) ?_ p1 <;> (repeat (first | assumption | refine ext_alloc ?_ _ | refine ext_drew ?_ | exact ext_refl _)))) (first | (clear hwr hwn hw0; refine step_app (by rfl) (.tmp 79) (.tmp 83) 30 (by rfl) 111 i0 _ 5 40 Tryz.underlying30 ji jz0 jz1 jz2 rfl (by decide) w5 (by repeat (first | exact ext_refl _ | assumption | refine ext_alloc ?_ _ | refine ext_drew ?_)) _ 0 [] (by rfl) (by first | exact own_fresh (by simp) _ _ | exact (own_fresh (by simp) _ _).drew) _ _ _ (rowsV (l.take i)) (by rfl) HL1.out (by intro e; first | (cases e; done) | (split at e <;> cases e; done)) (by intro ad had; exact head_cells HRr.out (by repeat (first | exact ext_refl _ | assumption | refine ext_alloc ?_ _ | refine ext_drew ?_)) hkn ad had) (rows_one _) M1.out M2.out ?_; intro v84 w84 hown84 hb84 hg84; have HO84 := Lib.hid hown84; clear hown84 hg84) | (refine step_app (by rfl) (.tmp 84) (.tmp 89) 30 (by rfl) 111 i0 _ 5 40 Tryz.underlying30 ji jz0 jz1 jz2 rfl (by decide) w5 (by repeat (first | exact ext_refl _ | assumption | refine ext_alloc ?_ _ | refine ext_drew ?_)) _ _ _ (by rfl) HO84.out _ _ _ (rowsV (l.drop (i + 1))) (by rfl) HL2.out (by intro e; first | (cases e; done) | (split at e <;> cases e; done)) (by intro ad had; exact cut_cells HRr.out (by repeat (first | exact ext_refl _ | assumption | refine ext_alloc ?_ _ | refine ext_drew ?_)) hi1 ad (fun hlt b1 o1 hA => by first | (exfalso; omega) | (injection hA with hA; injection hA with h1 h2; subst h1 h2; first | (injection had with had; exact had.symm) | (split at had <;> first | omega | (injection had with had; exact had.symm))))) (rows_one _) M3.out M4.out ?_; intro v90 w90 hown90 hb90 hg90; rw [show 0 + i + 0 = i from by omega] at hown90; obtain ⟨A3, c3, rfl⟩ := own_shape hown90; have HO90 := Lib.hid hown90; have HB90 := Lib.hid hb90; have GT90 := Lib.hid (GT5.out.ext hb90); have GR90 := Lib.hid (GR5.out.ext hb90); have GX90 := Lib.hid (GX5.out.ext hb90); have zz90 := hb90.size; obtain ⟨a0, a1, a2, a3⟩ := GT90.out.q4; obtain ⟨fa0, fa1, fa2, fa3⟩ := GT90.out.z4; obtain ⟨d0, d1, d2, d3⟩ := GR90.out.q4; obtain ⟨fd0, fd1, fd2, fd3⟩ := GR90.out.z4; have xs3 := GX90.out.c3; have yy3 : w.heap.size < w90.heap.size := (by omega); have yy1 : w1.heap.size < w90.heap.size := (by omega); have yy2 : w.heap.size + 1 + 1 < w90.heap.size := (by omega); clear hown90 hg90))
   all_goals
    obtain ⟨w6, hw6⟩ : ∃ w6, w6 = (w90.setCell ⟨w1.heap.size, 1, none⟩ (.slice A3 (i) c3)).setCell ⟨w1.heap.size, 3, none⟩ (.int .i64 (le + 1)) := ⟨_, rfl⟩
    have b6 : Hid (Below w.heap.size w w6) := Lib.hid (by rw [hw6]; (iterate 2 refine ext_set ?_ (by show w.heap.size ≤ w1.heap.size; omega) _); exact ext_trans b5.out HB90.out)
    have hne9 := own_nb HO90.out GT90.out (by decide)
    have O6 : Hid (w6.ownsRow w.heap.size 111 5 (.slice A3 (i) c3) (i) (rowsV (l.eraseIdx i))) := Lib.hid (by rw [hw6]; (iterate 2 refine own_set_nb ?_ hne9 _); have := own_base (base' := w.heap.size) HO90.out (by omega); rw [List.nil_append, rows_erase] at this; exact this)
    have GR6 := Lib.hid (show Blk w6 (w.heap.size + 1 + 1) 32 #[.int .i64 0, .slice none 0 0, .int .i64 0, .int .i64 0] from by rw [hw6]; (iterate 2 refine Blk.set_far ?_ (by show w1.heap.size ≠ _; omega) _); exact GR90.out)
    have GT6 := Lib.hid (show Blk w6 w1.heap.size 32 #[.int .i64 day, .slice A3 (i) c3, .int .i64 pa, .int .i64 (le + 1)] from by rw [hw6]; have := (GT90.out.set_ 1 (.slice A3 (i) c3)).set_ 3 (.int .i64 (le + 1)); simpa using this)
    go_wp2
    rw [← hw6]
    clear hw6 hne9 a0 a1 a2 a3 fa0 fa1 fa2 fa3 d0 d1 d2 d3 fd0 fd1 fd2 fd3
    have HG := Lib.hid (fun (w : World) h hn => l25Good_any (day) (pa) ((le + 1)) A3 (i) c3 ((l.eraseIdx i)) w hn h)
    obtain ⟨sb, hsb⟩ : ∃ sb, schB (day) ((l.eraseIdx i)) (pa) ((le + 1)) = sb := ⟨_, rfl⟩
    rw [hsb] at HG
    have HSB := Lib.hid hsb
    have hneR := Lib.hid (own_nb O6.out GR6.out (by decide))
    clear hsb
    obtain ⟨a0, a1, a2, a3⟩ := GT6.out.q4
    obtain ⟨fa0, fa1, fa2, fa3⟩ := GT6.out.z4
    obtain ⟨d0, d1, d2, d3⟩ := GR6.out.q4
    obtain ⟨fd0, fd1, fd2, fd3⟩ := GR6.out.z4
    have z6 := GR6.out.lt
    have z61 := GT6.out.lt
    go_region_held3 (fun w' => w'.cell? ⟨w1.heap.size, 0, none⟩ = some (.int .i64 day) ∧ w'.cell? ⟨w1.heap.size, 1, none⟩ = some (.slice A3 (i) c3) ∧ w'.cell? ⟨w1.heap.size, 2, none⟩ = some (.int .i64 pa) ∧ w'.cell? ⟨w1.heap.size, 3, none⟩ = some (.int .i64 (le + 1))) (first | (go_split_ands; refine ⟨?_, ?_, ?_, ?_⟩ <;> with_reducible (repeat (first | assumption | refine cell_drew ?_ | refine ext_cell hb9 ?_ | refine cell_set_far (by show w.heap.size + 1 + 1 ≠ w1.heap.size; omega) ?_)))) (first | (go_at_call 70; refine (HG.out _ (Reads.of_own (base := w.heap.size) (e := 111) (c := c3) (by (repeat (first | (with_reducible exact O6.out) | (with_reducible refine World.ownsRow.drew ?_) | (with_reducible refine own_set_nb ?_ hneR.out _))))) (by omega)).mono ?_; rintro e w9 ⟨rfl, hb9⟩; have HB9 := Lib.hid hb9; obtain ⟨hc9, hf9⟩ := bcell hb9; have z9 := hb9.size; have z91 : w1.heap.size < w9.heap.size := (by simp at z9; omega); have z90 : w.heap.size + 1 + 1 < w9.heap.size := (by omega); (try (have GR9 := GR6.out.ext (ext_trans (ext_drew (ext_refl _)) hb9); obtain ⟨g0, g1, g2, g3⟩ := GR9.q4; obtain ⟨fg0, fg1, fg2, fg3⟩ := GR9.z4; clear GR9))))
    all_goals go_wp2
    all_goals
     refine bodyPost_ret (v := .tuple #[schV (day) A3 (i) c3 (pa) ((le + 1)), .bool sb]) (by simp [results, Tryz.results100, go_sem, *]) rfl ?_
     refine ⟨A3, c3, day, pa, (le + 1), (l.eraseIdx i), ?_, ?_, ?_, ?_⟩
     · rw [HOO.out, HSB.out]
       rw [HLE.out]
       rcases sb with _ | _ <;> rfl
     · rw [HLE.out]
       exact (by (repeat (first | (with_reducible exact O6.out) | (with_reducible refine World.ownsRow.drew ?_) | (with_reducible refine own_set_nb ?_ hneR.out _) | refine own_ext ?_ HB9.out)))
     · intro x hx
       rw [HOO.out] at hx
       split at hx
       · injection hx with hx; exact hx.symm
       · cases hx
     · exact (by repeat (first | (with_reducible exact b6.out) | (with_reducible refine ext_drew ?_) | (with_reducible refine ext_set ?_ (by show w.heap.size ≤ w.heap.size + 1 + 1; omega) _) | refine ext_trans ?_ HB9.out))
 · skip
   obtain ⟨i0, ji, jz0, jz1, jz2⟩ := info_parts info_stu
   have hin : i < n := by have := (List.getElem?_eq_some_iff.1 hr).1; have := rows_len h; omega
   have HC0 := Lib.hid (rows_at h hr)
   clear hr
   have H := Lib.hid h
   have HL := Lib.hid (rows_len h)
   have HA := Lib.hid (fun w h => l25Own_any day pa le A n c l w (by omega) hA h)
   have HF := Lib.hid (fun (w : World) h => l25Find_any day pa le id A n c l w (by omega) h)
   rw [hf] at HF
   clear hf
   clear h
   go_enter Tryz.func100, Tryz.ntmps100
   go_wp2_with fail
   refine (HA.out _ ((H.out.ext (ext_alloc (ext_alloc (ext_alloc (ext_refl _) _) _) _) (Nat.le_refl _)).more (by simp; omega))).mono ?_
   rintro e w1 ⟨A1, c1, rfl, hown, hb1⟩
   have z0 : w.heap.size + 1 + 1 < w1.heap.size := by (have := hb1.size; simp at this; omega)
   have z1 : w.heap.size + 1 < w1.heap.size := by omega
   have z2 : w.heap.size < w1.heap.size := by omega
   have BX : Hid (Blk w1 w.heap.size 32 #[.int .i64 day, .slice A n c, .int .i64 pa, .int .i64 le]) := Lib.hid (((Blk.new w _ _).ext (ext_alloc (ext_alloc (ext_refl _) _) _)).ext hb1)
   have BY : Hid (Blk w1 (w.heap.size + 1) 82 #[.int .i64 6, .int .i64 id, .int .i64 v]) := Lib.hid (by
    have := ((Blk.new (w.alloc (.cells #[.int .i64 day, .slice A n c, .int .i64 pa, .int .i64 le] 32)) #[.int .i64 6, .int .i64 id, .int .i64 v] 82).ext (ext_alloc (ext_refl _) (.cells #[.int .i64 0, .slice none 0 0, .int .i64 0, .int .i64 0] 32))).ext hb1
    simpa using this)
   have BR : Hid (Blk w1 (w.heap.size + 1 + 1) 32 #[.int .i64 0, .slice none 0 0, .int .i64 0, .int .i64 0]) := Lib.hid (by
    have := (Blk.new ((w.alloc (.cells #[.int .i64 day, .slice A n c, .int .i64 pa, .int .i64 le] 32)).alloc (.cells #[.int .i64 6, .int .i64 id, .int .i64 v] 82)) #[.int .i64 0, .slice none 0 0, .int .i64 0, .int .i64 0] 32).ext hb1
    simpa using this)
   have hbw := Lib.hid (ext_trans (ext_alloc (ext_alloc (ext_alloc (ext_refl w) _) _) _) hb1)
   have HO : Hid (w1.ownsRow w.heap.size 111 5 (.slice A1 n c1) n (rowsV l)) := Lib.hid (own_base hown (by simp; omega))
   clear hb1 hown
   obtain ⟨x0, x1, x2, x3⟩ := BX.out.q4
   obtain ⟨fx0, fx1, fx2, fx3⟩ := BX.out.z4
   obtain ⟨y0, y1, y2⟩ := BY.out.q3
   obtain ⟨fy0, fy1, fy2⟩ := BY.out.z3
   obtain ⟨r0, r1, r2, r3⟩ := BR.out.q4
   obtain ⟨fr0, fr1, fr2, fr3⟩ := BR.out.z4
   go_wp2_with fail
   refine (HF.out _ (((H.out.ext hbw.out (Nat.le_refl _)).ext (ext_alloc (ext_refl _) _) (by omega)).more (by simp; omega))).mono ?_
   rintro e w5 ⟨rfl, hb5⟩
   have z5 : w1.heap.size < w5.heap.size := by (have := hb5.size; simp at this; omega)
   have z50 : w.heap.size + 1 + 1 < w5.heap.size := by omega
   have z51 : w.heap.size + 1 < w5.heap.size := by omega
   have z52 : w.heap.size < w5.heap.size := by omega
   have b5 := Lib.hid (ext_trans hbw.out (ext_trans (ext_alloc (ext_refl _) _) hb5))
   have O5 := Lib.hid (own_ext HO.out (ext_trans (ext_alloc (ext_refl _) _) hb5))
   have GX5 := Lib.hid (BX.out.ext (ext_trans (ext_alloc (ext_refl _) _) hb5))
   have GY5 := Lib.hid (BY.out.ext (ext_trans (ext_alloc (ext_refl _) _) hb5))
   have GR5 := Lib.hid (BR.out.ext (ext_trans (ext_alloc (ext_refl _) _) hb5))
   have GT5 : Hid (Blk w5 w1.heap.size 32 #[.int .i64 day, .slice A1 n c1, .int .i64 pa, .int .i64 le]) := Lib.hid ((Blk.new w1 _ _).ext hb5)
   clear hb5 x0 x1 x2 x3 fx0 fx1 fx2 fx3 y0 y1 y2 fy0 fy1 fy2 r0 r1 r2 r3 fr0 fr1 fr2 fr3
   obtain ⟨p0, p1, p2, p3⟩ := GX5.out.q4
   obtain ⟨fp0, fp1, fp2, fp3⟩ := GX5.out.z4
   obtain ⟨m0, m1, m2⟩ := GY5.out.q3
   obtain ⟨fm0, fm1, fm2⟩ := GY5.out.z3
   obtain ⟨s0, s1, s2, s3⟩ := GR5.out.q4
   obtain ⟨fs0, fs1, fs2, fs3⟩ := GR5.out.z4
   obtain ⟨t0, t1, t2, t3⟩ := GT5.out.q4
   obtain ⟨ft0, ft1, ft2, ft3⟩ := GT5.out.z4
   obtain ⟨b, o, hAd, hbb, _⟩ := HC0.out
   subst hAd
   have HRr := Lib.hid ((H.out.ext b5.out (Nat.le_refl _)).more (show w.heap.size ≤ w5.heap.size by omega))
   have hkn : i ≤ n := by omega
   have hi1 : i + 1 ≤ n := hin
   have hi2 : (i : Int) + 1 ≤ n := by omega
   have hi3 : (i : Int) ≤ c := by omega
   have hi4 : i ≤ c := by omega
   have hi5 : (i : Int) ≤ n := by omega
   have hnci : (n : Int) ≤ c := by omega
   have hLe : (l.eraseIdx i).length = n - 1 := by rw [List.length_eraseIdx, HL.out, if_pos hin] <;> omega
   have HLE := Lib.hid hLe
   have HL1 : Hid ((rowsV (l.take i)).length = i * 5) := Lib.hid (by rw [rowsV_len, List.length_take, HL.out, Nat.min_eq_left hkn])
   have HL2 : Hid ((rowsV (l.drop (i + 1))).length = (n - (i + 1)) * 5) := Lib.hid (by rw [rowsV_len, List.length_drop, HL.out])
   have M1 : Hid (0 + i ≤ maxLen) := Lib.hid (by unfold maxLen; omega)
   have M2 : Hid ((0 + i) * 40 ≤ 140737488355328) := Lib.hid (by omega)
   have M3 : Hid (0 + i + (n - (i + 1)) ≤ maxLen) := Lib.hid (by unfold maxLen; omega)
   have M4 : Hid ((0 + i + (n - (i + 1))) * 40 ≤ 140737488355328) := Lib.hid (by omega)
   clear hLe fp0 fp2 fp3 fm0 fm1 fm2
   go_wp2_with fail
   have hw0 : (0 : Int) ≤ (i : Int) + 1 := by omega
   have hwn : ((i : Int) + 1).toNat = i + 1 := by omega
   have hwr : IntKind.i64.wrap ((i : Int) + 1) = (i : Int) + 1 := IntWalk.i64_in _ (by omega)
   go_region_held3 (fun w' => w'.cell? ⟨w.heap.size, 1, none⟩ = some (.slice (some ⟨b, o, none⟩) n c)) (first | (refine cell_set_far (by show w1.heap.size ≠ w.heap.size; omega) ?_; with_reducible assumption) | (refine ext_cell (w := w5) ?_ p1 <;> (repeat (first | assumption | refine ext_alloc ?_ _ | refine ext_drew ?_ | exact ext_refl _)))) (first | (clear hwr hwn hw0; refine step_app (by rfl) (.tmp 79) (.tmp 83) 30 (by rfl) 111 i0 _ 5 40 Tryz.underlying30 ji jz0 jz1 jz2 rfl (by decide) w5 (by repeat (first | exact ext_refl _ | assumption | refine ext_alloc ?_ _ | refine ext_drew ?_)) _ 0 [] (by rfl) (by first | exact own_fresh (by simp) _ _ | exact (own_fresh (by simp) _ _).drew) _ _ _ (rowsV (l.take i)) (by rfl) HL1.out (by intro e; first | (cases e; done) | (split at e <;> cases e; done)) (by intro ad had; exact head_cells HRr.out (by repeat (first | exact ext_refl _ | assumption | refine ext_alloc ?_ _ | refine ext_drew ?_)) hkn ad had) (rows_one _) M1.out M2.out ?_; intro v84 w84 hown84 hb84 hg84; have HO84 := Lib.hid hown84; clear hown84 hg84) | (refine step_app (by rfl) (.tmp 84) (.tmp 89) 30 (by rfl) 111 i0 _ 5 40 Tryz.underlying30 ji jz0 jz1 jz2 rfl (by decide) w5 (by repeat (first | exact ext_refl _ | assumption | refine ext_alloc ?_ _ | refine ext_drew ?_)) _ _ _ (by rfl) HO84.out _ _ _ (rowsV (l.drop (i + 1))) (by rfl) HL2.out (by intro e; first | (cases e; done) | (split at e <;> cases e; done)) (by intro ad had; exact cut_cells HRr.out (by repeat (first | exact ext_refl _ | assumption | refine ext_alloc ?_ _ | refine ext_drew ?_)) hi1 ad (fun hlt b1 o1 hA => by first | (exfalso; omega) | (injection hA with hA; injection hA with h1 h2; subst h1 h2; first | (injection had with had; exact had.symm) | (split at had <;> first | omega | (injection had with had; exact had.symm))))) (rows_one _) M3.out M4.out ?_; intro v90 w90 hown90 hb90 hg90; rw [show 0 + i + (n - (i + 1)) = n - 1 from by omega] at hown90; obtain ⟨A3, c3, rfl⟩ := own_shape hown90; have HO90 := Lib.hid hown90; have HB90 := Lib.hid hb90; have GT90 := Lib.hid (GT5.out.ext hb90); have GR90 := Lib.hid (GR5.out.ext hb90); have GX90 := Lib.hid (GX5.out.ext hb90); have zz90 := hb90.size; obtain ⟨a0, a1, a2, a3⟩ := GT90.out.q4; obtain ⟨fa0, fa1, fa2, fa3⟩ := GT90.out.z4; obtain ⟨d0, d1, d2, d3⟩ := GR90.out.q4; obtain ⟨fd0, fd1, fd2, fd3⟩ := GR90.out.z4; have xs3 := GX90.out.c3; have yy3 : w.heap.size < w90.heap.size := (by omega); have yy1 : w1.heap.size < w90.heap.size := (by omega); have yy2 : w.heap.size + 1 + 1 < w90.heap.size := (by omega); clear hown90 hg90))
   all_goals
    obtain ⟨w6, hw6⟩ : ∃ w6, w6 = (w90.setCell ⟨w1.heap.size, 1, none⟩ (.slice A3 (n - 1) c3)).setCell ⟨w1.heap.size, 3, none⟩ (.int .i64 (le + 1)) := ⟨_, rfl⟩
    have b6 : Hid (Below w.heap.size w w6) := Lib.hid (by rw [hw6]; (iterate 2 refine ext_set ?_ (by show w.heap.size ≤ w1.heap.size; omega) _); exact ext_trans b5.out HB90.out)
    have hne9 := own_nb HO90.out GT90.out (by decide)
    have O6 : Hid (w6.ownsRow w.heap.size 111 5 (.slice A3 (n - 1) c3) (n - 1) (rowsV (l.eraseIdx i))) := Lib.hid (by rw [hw6]; (iterate 2 refine own_set_nb ?_ hne9 _); have := own_base (base' := w.heap.size) HO90.out (by omega); rw [List.nil_append, rows_erase] at this; exact this)
    have GR6 := Lib.hid (show Blk w6 (w.heap.size + 1 + 1) 32 #[.int .i64 0, .slice none 0 0, .int .i64 0, .int .i64 0] from by rw [hw6]; (iterate 2 refine Blk.set_far ?_ (by show w1.heap.size ≠ _; omega) _); exact GR90.out)
    have GT6 := Lib.hid (show Blk w6 w1.heap.size 32 #[.int .i64 day, .slice A3 (n - 1) c3, .int .i64 pa, .int .i64 (le + 1)] from by rw [hw6]; have := (GT90.out.set_ 1 (.slice A3 (n - 1) c3)).set_ 3 (.int .i64 (le + 1)); simpa using this)
    go_wp2
    rw [← hw6]
    clear hw6 hne9 a0 a1 a2 a3 fa0 fa1 fa2 fa3 d0 d1 d2 d3 fd0 fd1 fd2 fd3
    have HG := Lib.hid (fun (w : World) h hn => l25Good_any (day) (pa) ((le + 1)) A3 (n - 1) c3 ((l.eraseIdx i)) w hn h)
    obtain ⟨sb, hsb⟩ : ∃ sb, schB (day) ((l.eraseIdx i)) (pa) ((le + 1)) = sb := ⟨_, rfl⟩
    rw [hsb] at HG
    have HSB := Lib.hid hsb
    have hneR := Lib.hid (own_nb O6.out GR6.out (by decide))
    clear hsb
    obtain ⟨a0, a1, a2, a3⟩ := GT6.out.q4
    obtain ⟨fa0, fa1, fa2, fa3⟩ := GT6.out.z4
    obtain ⟨d0, d1, d2, d3⟩ := GR6.out.q4
    obtain ⟨fd0, fd1, fd2, fd3⟩ := GR6.out.z4
    have z6 := GR6.out.lt
    have z61 := GT6.out.lt
    go_region_held3 (fun w' => w'.cell? ⟨w1.heap.size, 0, none⟩ = some (.int .i64 day) ∧ w'.cell? ⟨w1.heap.size, 1, none⟩ = some (.slice A3 (n - 1) c3) ∧ w'.cell? ⟨w1.heap.size, 2, none⟩ = some (.int .i64 pa) ∧ w'.cell? ⟨w1.heap.size, 3, none⟩ = some (.int .i64 (le + 1))) (first | (go_split_ands; refine ⟨?_, ?_, ?_, ?_⟩ <;> with_reducible (repeat (first | assumption | refine cell_drew ?_ | refine ext_cell hb9 ?_ | refine cell_set_far (by show w.heap.size + 1 + 1 ≠ w1.heap.size; omega) ?_)))) (first | (go_at_call 70; refine (HG.out _ (Reads.of_own (base := w.heap.size) (e := 111) (c := c3) (by (repeat (first | (with_reducible exact O6.out) | (with_reducible refine World.ownsRow.drew ?_) | (with_reducible refine own_set_nb ?_ hneR.out _))))) (by omega)).mono ?_; rintro e w9 ⟨rfl, hb9⟩; have HB9 := Lib.hid hb9; obtain ⟨hc9, hf9⟩ := bcell hb9; have z9 := hb9.size; have z91 : w1.heap.size < w9.heap.size := (by simp at z9; omega); have z90 : w.heap.size + 1 + 1 < w9.heap.size := (by omega); (try (have GR9 := GR6.out.ext (ext_trans (ext_drew (ext_refl _)) hb9); obtain ⟨g0, g1, g2, g3⟩ := GR9.q4; obtain ⟨fg0, fg1, fg2, fg3⟩ := GR9.z4; clear GR9))))
    all_goals go_wp2
    all_goals
     refine bodyPost_ret (v := .tuple #[schV (day) A3 (n - 1) c3 (pa) ((le + 1)), .bool sb]) (by simp [results, Tryz.results100, go_sem, *]) rfl ?_
     refine ⟨A3, c3, day, pa, (le + 1), (l.eraseIdx i), ?_, ?_, ?_, ?_⟩
     · rw [HOO.out, HSB.out]
       rw [HLE.out]
       rcases sb with _ | _ <;> rfl
     · rw [HLE.out]
       exact (by (repeat (first | (with_reducible exact O6.out) | (with_reducible refine World.ownsRow.drew ?_) | (with_reducible refine own_set_nb ?_ hneR.out _) | refine own_ext ?_ HB9.out)))
     · intro x hx
       rw [HOO.out] at hx
       split at hx
       · injection hx with hx; exact hx.symm
       · cases hx
     · exact (by repeat (first | (with_reducible exact b6.out) | (with_reducible refine ext_drew ?_) | (with_reducible refine ext_set ?_ (by show w.heap.size ≤ w.heap.size + 1 + 1; omega) _) | refine ext_trans ?_ HB9.out))

end Go.Proofs.YtkcbgiegoadkbaaGreat
