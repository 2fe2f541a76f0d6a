/- stepped: enrolling; the whole. -/
import Derived.Test.YtkcbgiegoadkbaaVScSb
namespace Go.Proofs.Ytkcbgiegoadkbaa
open Go.RowKit
set_option linter.unusedVariables false
set_option linter.unusedSimpArgs false
set_option maxRecDepth 100000 in
set_option maxHeartbeats 4000000 in
theorem stepped_enrol (day pa le id v : Int) (A : Option Addr) (n c : Nat) (l : List R5) (w : World) (hn : n ≤ 8) (hA : SlOk A n c) (h : Reads w w.heap.size 5 A n (rowsV l)) (hs : schB day l pa le = true) :
 Calls Try.prog 20 #[schV day A n c pa le, .agg #[.int .i64 2, .int .i64 id, .int .i64 v]] w (RetSch (((enr day l id v).map fun L => (day, L, pa, le)).filter fun q => schB q.1 q.2.1 q.2.2.1 q.2.2.2) w) := by
 clear hs
 have H := Lib.hid h
 have HL := Lib.hid (rows_len h)
 have HA := Lib.hid (fun w h => own_any day pa le A n c l w (by omega) hA h)
 clear h
 go_enter Try.func20, Try.ntmps20
 go_wp2_with fail
 refine (HA.out _ ((H.out.ext (ext_alloc (ext_alloc (ext_alloc (ext_refl _) _) _) _) (Nat.le_refl _)).more (by simp; omega))).mono ?_
 rintro e w1 ⟨A1, c1, rfl, hown, hb1⟩
 have z0 : w.heap.size + 1 + 1 < w1.heap.size := by (have := hb1.size; simp at this; omega)
 have z1 : w.heap.size + 1 < w1.heap.size := by omega
 have z2 : w.heap.size < w1.heap.size := by omega
 have BX : Hid (Blk w1 w.heap.size 26 #[.int .i64 day, .slice A n c, .int .i64 pa, .int .i64 le]) := Lib.hid (((Blk.new w _ _).ext (ext_alloc (ext_alloc (ext_refl _) _) _)).ext hb1)
 have BY : Hid (Blk w1 (w.heap.size + 1) 28 #[.int .i64 2, .int .i64 id, .int .i64 v]) := Lib.hid (by
  have := ((Blk.new (w.alloc (.cells #[.int .i64 day, .slice A n c, .int .i64 pa, .int .i64 le] 26)) #[.int .i64 2, .int .i64 id, .int .i64 v] 28).ext (ext_alloc (ext_refl _) (.cells #[.int .i64 0, .slice none 0 0, .int .i64 0, .int .i64 0] 26))).ext hb1
  simpa using this)
 have BR : Hid (Blk w1 (w.heap.size + 1 + 1) 26 #[.int .i64 0, .slice none 0 0, .int .i64 0, .int .i64 0]) := Lib.hid (by
  have := (Blk.new ((w.alloc (.cells #[.int .i64 day, .slice A n c, .int .i64 pa, .int .i64 le] 26)).alloc (.cells #[.int .i64 2, .int .i64 id, .int .i64 v] 28)) #[.int .i64 0, .slice none 0 0, .int .i64 0, .int .i64 0] 26).ext hb1
  simpa using this)
 have hbw := Lib.hid (ext_trans (ext_alloc (ext_alloc (ext_alloc (ext_refl w) _) _) _) hb1)
 have HO : Hid (w1.ownsRow w.heap.size 55 5 (.slice A1 n c1) n (rowsV l)) := Lib.hid (own_base hown (by simp; omega))
 clear hb1 hown
 obtain ⟨x0, x1, x2, x3⟩ := BX.out.q4
 obtain ⟨fx0, fx1, fx2, fx3⟩ := BX.out.z4
 obtain ⟨y0, y1, y2⟩ := BY.out.q3
 obtain ⟨fy0, fy1, fy2⟩ := BY.out.z3
 obtain ⟨r0, r1, r2, r3⟩ := BR.out.q4
 obtain ⟨fr0, fr1, fr2, fr3⟩ := BR.out.z4
 obtain ⟨w5, hw5⟩ : ∃ w5, w5 = w1.alloc (.cells #[.int .i64 day, .slice A1 n c1, .int .i64 pa, .int .i64 le] 26) := ⟨_, rfl⟩
 have b5 : Hid (Below w.heap.size w w5) := Lib.hid (by rw [hw5]; exact ext_alloc hbw.out _)
 have O5 : Hid (w5.ownsRow w.heap.size 55 5 (.slice A1 n c1) n (rowsV l)) := Lib.hid (by rw [hw5]; exact own_ext HO.out (ext_alloc (ext_refl _) _))
 have GR5 : Hid (Blk w5 (w.heap.size + 1 + 1) 26 #[.int .i64 0, .slice none 0 0, .int .i64 0, .int .i64 0]) := Lib.hid (by rw [hw5]; exact BR.out.ext (ext_alloc (ext_refl _) _))
 have GT5 : Hid (Blk w5 w1.heap.size 26 #[.int .i64 day, .slice A1 n c1, .int .i64 pa, .int .i64 le]) := Lib.hid (by rw [hw5]; exact Blk.new _ _ _)
 have z5 : w1.heap.size + 1 = w5.heap.size := by rw [hw5]; simp
 go_wp2_with fail
 rw [← hw5]
 clear hw5 x0 x1 x2 x3 fx0 fx1 fx2 fx3 y0 y1 y2 fy0 fy1 fy2 r0 r1 r2 r3 fr0 fr1 fr2 fr3
 rcases he : enr day l id v with _ | L
 · refine (enrolled_no day pa le id v A1 n c1 w.heap.size l _ (Reads.of_own O5.out) hn he).mono ?_
   rintro e w4 ⟨rfl, hb4⟩
   have HT := Lib.hid he
   have z4 := hb4.size
   have z43 : w1.heap.size < w4.heap.size := by omega
   have z40 : w.heap.size + 1 + 1 < w4.heap.size := by omega
   have b4 := Lib.hid (ext_trans b5.out hb4)
   have GR4 := Lib.hid (GR5.out.ext hb4)
   have GT4 := Lib.hid (GT5.out.ext hb4)
   clear hb4 he
   obtain ⟨s0, s1, s2, s3⟩ := GR4.out.q4
   obtain ⟨fs0, fs1, fs2, fs3⟩ := GR4.out.z4
   obtain ⟨t0, t1, t2, t3⟩ := GT4.out.q4
   obtain ⟨ft0, ft1, ft2, ft3⟩ := GT4.out.z4
   go_wp2
   refine bodyPost_ret (v := .tuple #[schV 0 none 0 0 0 0, .bool false]) (by simp [results, Try.results20, go_sem, *]) rfl ?_
   rw [HT.out]
   refine ⟨rfl, ?_⟩
   repeat (first | (with_reducible exact (b4).out) | (with_reducible refine ext_set ?_ (by simp <;> omega) _))
 · have hf : findI l id < 0 := by
    unfold enr at he; split at he
    · cases he
    · omega
   have hv : inB v 0 5 = true := by
    unfold enr at he; split at he
    · cases he
    · rename_i hc; rcases hb : inB v 0 5 with _ | _
      · exact absurd (.inr hb) hc
      · rfl
   have hL : insS l id v day = L := by
    unfold enr at he; split at he
    · cases he
    · injection he
   refine (enrolled_yes day pa le id v A1 n c1 w.heap.size l _ O5.out (by omega) hn hf hv).mono ?_
   rw [hL]
   rintro e w4 ⟨A4, c4, rfl, hown4, hg4⟩
   have HT := Lib.hid he
   have z4 := hg4.size
   have z43 : w1.heap.size < w4.heap.size := by omega
   have z40 : w.heap.size + 1 + 1 < w4.heap.size := by omega
   have GR4 := Lib.hid (GR5.out.grown hg4 (own_nb O5.out GR5.out (by decide)))
   have GT4 := Lib.hid (GT5.out.grown hg4 (own_nb O5.out GT5.out (by decide)))
   have b4 : Hid (Below w.heap.size w w4) := Lib.hid (below_grown' O5.out (Nat.le_refl _) b5.out hg4)
   have O4 := Lib.hid hown4
   have n4 := Lib.hid (own_nb O4.out GT4.out (by decide))
   have hLn : L.length ≤ 1048576 := by rw [← hL, insS_len, HL.out]; omega
   clear hg4 hown4 he hL
   obtain ⟨s0, s1, s2, s3⟩ := GR4.out.q4
   obtain ⟨fs0, fs1, fs2, fs3⟩ := GR4.out.z4
   obtain ⟨t0, t1, t2, t3⟩ := GT4.out.q4
   obtain ⟨ft0, ft1, ft2, ft3⟩ := GT4.out.z4
   obtain ⟨w6, hw6⟩ : ∃ w6, w6 = ((((w4.setCell ⟨w1.heap.size, 0, none⟩ (.int .i64 day)).setCell ⟨w1.heap.size, 1, none⟩ (.slice A4 L.length c4)).setCell ⟨w1.heap.size, 2, none⟩ (.int .i64 pa)).setCell ⟨w1.heap.size, 3, none⟩ (.int .i64 le)) := ⟨_, rfl⟩
   have b6 : Hid (Below w.heap.size w w6) := Lib.hid (by rw [hw6]; (iterate 4 refine ext_set ?_ (by show w.heap.size ≤ w1.heap.size; omega) _); exact b4.out)
   have O6 : Hid (w6.ownsRow w.heap.size 55 5 (.slice A4 L.length c4) L.length (rowsV L)) := Lib.hid (by rw [hw6]; (iterate 4 refine own_set_nb ?_ n4.out _); exact O4.out)
   have GR6 := Lib.hid (show Blk w6 (w.heap.size + 1 + 1) 26 #[.int .i64 0, .slice none 0 0, .int .i64 0, .int .i64 0] from by rw [hw6]; (iterate 4 refine Blk.set_far ?_ (by show w1.heap.size ≠ _; omega) _); exact GR4.out)
   have GT6 := Lib.hid (show Blk w6 w1.heap.size 26 #[.int .i64 day, .slice A4 L.length c4, .int .i64 pa, .int .i64 le] from by rw [hw6]; have := (((GT4.out.set_ 0 (.int .i64 day)).set_ 1 (.slice A4 L.length c4)).set_ 2 (.int .i64 pa)).set_ 3 (.int .i64 le); simpa using this)
   have z6 : w4.heap.size = w6.heap.size := by rw [hw6]; simp [World.setCell]
   go_wp2_with fail
   rw [← hw6]
   clear hw6 t0 t1 t2 t3 ft0 ft1 ft2 ft3 s0 s1 s2 s3 fs0 fs1 fs2 fs3
   obtain ⟨q0, q1, q2, q3⟩ := GT6.out.q4
   obtain ⟨fq0, fq1, fq2, fq3⟩ := GT6.out.z4
   have HI := Lib.hid (fun w A n c h hn => isSchool_any (day) (pa) (le) A n c (L) w hn h)
   rcases hS : schB (day) (L) (pa) (le) with _ | _
   · rw [hS] at HI
     have HS := Lib.hid hS
     clear hS
     refine (HI.out _ A4 _ c4 (Reads.of_own O6.out) (by omega)).mono ?_
     rintro e w8 ⟨rfl, hb8⟩
     have z8 := hb8.size
     have z81 : w1.heap.size < w8.heap.size := by omega
     have z80 : w.heap.size + 1 + 1 < w8.heap.size := by omega
     have z82 : w.heap.size + 1 < w8.heap.size := by omega
     have z83 : w.heap.size < w8.heap.size := by omega
     have b8 := Lib.hid (ext_trans b6.out hb8)
     have O8 := Lib.hid (own_ext O6.out hb8)
     have GT8 := Lib.hid (GT6.out.ext hb8)
     have GR8 := Lib.hid (GR6.out.ext hb8)
     obtain ⟨a0, a1, a2, a3⟩ := GT8.out.q4
     obtain ⟨fa0, fa1, fa2, fa3⟩ := GT8.out.z4
     obtain ⟨d0, d1, d2, d3⟩ := GR8.out.q4
     obtain ⟨fd0, fd1, fd2, fd3⟩ := GR8.out.z4
     clear hb8 q0 fq0 q1 fq1 q2 fq2 q3 fq3
     go_wp2
     refine bodyPost_ret (v := .tuple #[schV 0 none 0 0 0 0, .bool false]) (by simp [results, Try.results20, go_sem, *]) rfl ?_
     rw [HT.out]
     change RetSch ((some (day, L, pa, le)).filter fun q => schB q.1 q.2.1 q.2.2.1 q.2.2.2) w _ _
     rw [Option.filter_some]
     rw [if_neg (by rw [HS.out]; simp)]
     refine ⟨rfl, ?_⟩
     repeat (first | (with_reducible exact b8.out) | (with_reducible refine ext_set ?_ (by simp <;> omega) _))
   · rw [hS] at HI
     have HS := Lib.hid hS
     clear hS
     refine (HI.out _ A4 _ c4 (Reads.of_own O6.out) (by omega)).mono ?_
     rintro e w8 ⟨rfl, hb8⟩
     have z8 := hb8.size
     have z81 : w1.heap.size < w8.heap.size := by omega
     have z80 : w.heap.size + 1 + 1 < w8.heap.size := by omega
     have z82 : w.heap.size + 1 < w8.heap.size := by omega
     have z83 : w.heap.size < w8.heap.size := by omega
     have b8 := Lib.hid (ext_trans b6.out hb8)
     have O8 := Lib.hid (own_ext O6.out hb8)
     have GT8 := Lib.hid (GT6.out.ext hb8)
     have GR8 := Lib.hid (GR6.out.ext hb8)
     obtain ⟨a0, a1, a2, a3⟩ := GT8.out.q4
     obtain ⟨fa0, fa1, fa2, fa3⟩ := GT8.out.z4
     obtain ⟨d0, d1, d2, d3⟩ := GR8.out.q4
     obtain ⟨fd0, fd1, fd2, fd3⟩ := GR8.out.z4
     clear hb8 q0 fq0 q1 fq1 q2 fq2 q3 fq3
     go_wp2
     refine bodyPost_ret (v := .tuple #[schV (day) A4 (L.length) c4 (pa) (le), .bool true]) (by simp [results, Try.results20, go_sem, *]) rfl ?_
     rw [HT.out]
     change RetSch ((some (day, L, pa, le)).filter fun q => schB q.1 q.2.1 q.2.2.1 q.2.2.2) w _ _
     rw [Option.filter_some]
     rw [if_pos HS.out]
     unfold RetSch
     dsimp only
     skip
     refine ⟨_, _, rfl, ?_, ?_⟩
     · have hne := own_nb O8.out GR8.out (by decide)
       iterate 4 refine own_set_nb ?_ hne _
       exact O8.out
     · iterate 4 refine ext_set ?_ (by show w.heap.size ≤ w.heap.size + 1 + 1; omega) _
       exact b8.out

end Go.Proofs.Ytkcbgiegoadkbaa
