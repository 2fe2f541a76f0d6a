/- stepped: enrolling; the whole. -/
import Derived.Test.YtkcbgiegoadkbaaGreatVScSb
import Derived.Test.YtkcbgiegoadkbaaGreatVM1
import Derived.Test.YtkcbgiegoadkbaaGreatVM2
import Derived.Test.YtkcbgiegoadkbaaGreatVLgA
import Derived.Test.YtkcbgiegoadkbaaGreatVM3
namespace Go.Proofs.YtkcbgiegoadkbaaGreat
open Go.RowKit
set_option linter.unusedVariables false
set_option linter.unusedSimpArgs false
set_option maxRecDepth 100000 in
set_option maxHeartbeats 4000000 in
theorem stepped_enrol (day pa le id v : Int) (A : Option Addr) (n c : Nat) (l : List R5) (w : World) (hn : n ≤ 8) (hA : SlOk A n c) (h : Reads w w.heap.size 5 A n (rowsV l)) (hs : schB day l pa le = true) :
 Calls Tryz.prog 60 #[schV day A n c pa le, .agg #[.int .i64 2, .int .i64 id, .int .i64 v]] w (RetSch (((enr day l id v).map fun L => (day, L, pa, le)).filter fun q => schB q.1 q.2.1 q.2.2.1 q.2.2.2) w) := by
 clear hs
 have H := Lib.hid h
 have HL := Lib.hid (rows_len h)
 have HA := Lib.hid (fun w h => own_any day pa le A n c l w (by omega) hA h)
 clear h
 go_enter Tryz.func60, Tryz.ntmps60
 go_wp2_with fail
 refine (HA.out _ ((H.out.ext (ext_alloc (ext_alloc (ext_alloc (ext_refl _) _) _) _) (Nat.le_refl _)).more (by simp; omega))).mono ?_
 rintro e w1 ⟨A1, c1, rfl, hown, hb1⟩
 have z0 : w.heap.size + 1 + 1 < w1.heap.size := by (have := hb1.size; simp at this; omega)
 have z1 : w.heap.size + 1 < w1.heap.size := by omega
 have z2 : w.heap.size < w1.heap.size := by omega
 have BX : Hid (Blk w1 w.heap.size 32 #[.int .i64 day, .slice A n c, .int .i64 pa, .int .i64 le]) := Lib.hid (((Blk.new w _ _).ext (ext_alloc (ext_alloc (ext_refl _) _) _)).ext hb1)
 have BY : Hid (Blk w1 (w.heap.size + 1) 82 #[.int .i64 2, .int .i64 id, .int .i64 v]) := Lib.hid (by
  have := ((Blk.new (w.alloc (.cells #[.int .i64 day, .slice A n c, .int .i64 pa, .int .i64 le] 32)) #[.int .i64 2, .int .i64 id, .int .i64 v] 82).ext (ext_alloc (ext_refl _) (.cells #[.int .i64 0, .slice none 0 0, .int .i64 0, .int .i64 0] 32))).ext hb1
  simpa using this)
 have BR : Hid (Blk w1 (w.heap.size + 1 + 1) 32 #[.int .i64 0, .slice none 0 0, .int .i64 0, .int .i64 0]) := Lib.hid (by
  have := (Blk.new ((w.alloc (.cells #[.int .i64 day, .slice A n c, .int .i64 pa, .int .i64 le] 32)).alloc (.cells #[.int .i64 2, .int .i64 id, .int .i64 v] 82)) #[.int .i64 0, .slice none 0 0, .int .i64 0, .int .i64 0] 32).ext hb1
  simpa using this)
 have hbw := Lib.hid (ext_trans (ext_alloc (ext_alloc (ext_alloc (ext_refl w) _) _) _) hb1)
 have HO : Hid (w1.ownsRow w.heap.size 111 5 (.slice A1 n c1) n (rowsV l)) := Lib.hid (own_base hown (by simp; omega))
 clear hb1 hown
 obtain ⟨x0, x1, x2, x3⟩ := BX.out.q4
 obtain ⟨fx0, fx1, fx2, fx3⟩ := BX.out.z4
 obtain ⟨y0, y1, y2⟩ := BY.out.q3
 obtain ⟨fy0, fy1, fy2⟩ := BY.out.z3
 obtain ⟨r0, r1, r2, r3⟩ := BR.out.q4
 obtain ⟨fr0, fr1, fr2, fr3⟩ := BR.out.z4
 obtain ⟨w5, hw5⟩ : ∃ w5, w5 = w1.alloc (.cells #[.int .i64 day, .slice A1 n c1, .int .i64 pa, .int .i64 le] 32) := ⟨_, rfl⟩
 have b5 : Hid (Below w.heap.size w w5) := Lib.hid (by rw [hw5]; exact ext_alloc hbw.out _)
 have O5 : Hid (w5.ownsRow w.heap.size 111 5 (.slice A1 n c1) n (rowsV l)) := Lib.hid (by rw [hw5]; exact own_ext HO.out (ext_alloc (ext_refl _) _))
 have GR5 : Hid (Blk w5 (w.heap.size + 1 + 1) 32 #[.int .i64 0, .slice none 0 0, .int .i64 0, .int .i64 0]) := Lib.hid (by rw [hw5]; exact BR.out.ext (ext_alloc (ext_refl _) _))
 have GT5 : Hid (Blk w5 w1.heap.size 32 #[.int .i64 day, .slice A1 n c1, .int .i64 pa, .int .i64 le]) := Lib.hid (by rw [hw5]; exact Blk.new _ _ _)
 have z5 : w1.heap.size + 1 = w5.heap.size := by rw [hw5]; simp
 go_wp2_with fail
 rw [← hw5]
 clear hw5 x0 x1 x2 x3 fx0 fx1 fx2 fx3 y0 y1 y2 fy0 fy1 fy2 r0 r1 r2 r3 fr0 fr1 fr2 fr3
 rcases he : enr day l id v with _ | L
 · refine (enrolled_no day pa le id v A1 n c1 w.heap.size l _ (Reads.of_own O5.out) hn he).mono ?_
   rintro e w4 ⟨rfl, hb4⟩
   have HT := Lib.hid he
   have z4 := hb4.size
   have z43 : w1.heap.size < w4.heap.size := by omega
   have z40 : w.heap.size + 1 + 1 < w4.heap.size := by omega
   have b4 := Lib.hid (ext_trans b5.out hb4)
   have GR4 := Lib.hid (GR5.out.ext hb4)
   have GT4 := Lib.hid (GT5.out.ext hb4)
   clear hb4 he
   obtain ⟨s0, s1, s2, s3⟩ := GR4.out.q4
   obtain ⟨fs0, fs1, fs2, fs3⟩ := GR4.out.z4
   obtain ⟨t0, t1, t2, t3⟩ := GT4.out.q4
   obtain ⟨ft0, ft1, ft2, ft3⟩ := GT4.out.z4
   go_wp2
   refine bodyPost_ret (v := .tuple #[schV 0 none 0 0 0 0, .bool false]) (by simp [results, Tryz.results60, go_sem, *]) rfl ?_
   rw [HT.out]
   refine ⟨rfl, ?_⟩
   repeat (first | (with_reducible exact (b4).out) | (with_reducible refine ext_set ?_ (by simp <;> omega) _))
 · have hf : findI l id < 0 := by
    unfold enr at he; split at he
    · cases he
    · omega
   have hv : inB v 0 5 = true := by
    unfold enr at he; split at he
    · cases he
    · rename_i hc; rcases hb : inB v 0 5 with _ | _
      · exact absurd (.inr hb) hc
      · rfl
   have hL : insS l id v day = L := by
    unfold enr at he; split at he
    · cases he
    · injection he
   refine (enrolled_yes day pa le id v A1 n c1 w.heap.size l _ O5.out (by omega) hn hf hv).mono ?_
   rw [hL]
   rintro e w4 ⟨A4, c4, rfl, hown4, hg4⟩
   have HT := Lib.hid he
   have z4 := hg4.size
   have z43 : w1.heap.size < w4.heap.size := by omega
   have z40 : w.heap.size + 1 + 1 < w4.heap.size := by omega
   have GR4 := Lib.hid (GR5.out.grown hg4 (own_nb O5.out GR5.out (by decide)))
   have GT4 := Lib.hid (GT5.out.grown hg4 (own_nb O5.out GT5.out (by decide)))
   have b4 : Hid (Below w.heap.size w w4) := Lib.hid (below_grown' O5.out (Nat.le_refl _) b5.out hg4)
   have O4 := Lib.hid hown4
   have n4 := Lib.hid (own_nb O4.out GT4.out (by decide))
   have hLn : L.length ≤ 1048576 := by rw [← hL, insS_len, HL.out]; omega
   clear hg4 hown4 he hL
   obtain ⟨s0, s1, s2, s3⟩ := GR4.out.q4
   obtain ⟨fs0, fs1, fs2, fs3⟩ := GR4.out.z4
   obtain ⟨t0, t1, t2, t3⟩ := GT4.out.q4
   obtain ⟨ft0, ft1, ft2, ft3⟩ := GT4.out.z4
   obtain ⟨w6, hw6⟩ : ∃ w6, w6 = ((((w4.setCell ⟨w1.heap.size, 0, none⟩ (.int .i64 day)).setCell ⟨w1.heap.size, 1, none⟩ (.slice A4 L.length c4)).setCell ⟨w1.heap.size, 2, none⟩ (.int .i64 pa)).setCell ⟨w1.heap.size, 3, none⟩ (.int .i64 le)) := ⟨_, rfl⟩
   have b6 : Hid (Below w.heap.size w w6) := Lib.hid (by rw [hw6]; (iterate 4 refine ext_set ?_ (by show w.heap.size ≤ w1.heap.size; omega) _); exact b4.out)
   have O6 : Hid (w6.ownsRow w.heap.size 111 5 (.slice A4 L.length c4) L.length (rowsV L)) := Lib.hid (by rw [hw6]; (iterate 4 refine own_set_nb ?_ n4.out _); exact O4.out)
   have GR6 := Lib.hid (show Blk w6 (w.heap.size + 1 + 1) 32 #[.int .i64 0, .slice none 0 0, .int .i64 0, .int .i64 0] from by rw [hw6]; (iterate 4 refine Blk.set_far ?_ (by show w1.heap.size ≠ _; omega) _); exact GR4.out)
   have GT6 := Lib.hid (show Blk w6 w1.heap.size 32 #[.int .i64 day, .slice A4 L.length c4, .int .i64 pa, .int .i64 le] from by rw [hw6]; have := (((GT4.out.set_ 0 (.int .i64 day)).set_ 1 (.slice A4 L.length c4)).set_ 2 (.int .i64 pa)).set_ 3 (.int .i64 le); simpa using this)
   have z6 : w4.heap.size = w6.heap.size := by rw [hw6]; simp [World.setCell]
   go_wp2_with fail
   rw [← hw6]
   clear hw6 t0 t1 t2 t3 ft0 ft1 ft2 ft3 s0 s1 s2 s3 fs0 fs1 fs2 fs3
   obtain ⟨q0, q1, q2, q3⟩ := GT6.out.q4
   obtain ⟨fq0, fq1, fq2, fq3⟩ := GT6.out.z4
   have HI := Lib.hid (fun w A n c h hn => isSchool_any (day) (pa) (le) A n c (L) w hn h)
   rcases hS : schB (day) (L) (pa) (le) with _ | _
   · rw [hS] at HI
     have HS := Lib.hid hS
     clear hS
     refine (HI.out _ A4 _ c4 (Reads.of_own O6.out) (by omega)).mono ?_
     rintro e w8 ⟨rfl, hb8⟩
     have z8 := hb8.size
     have z81 : w1.heap.size < w8.heap.size := by omega
     have z80 : w.heap.size + 1 + 1 < w8.heap.size := by omega
     have z82 : w.heap.size + 1 < w8.heap.size := by omega
     have z83 : w.heap.size < w8.heap.size := by omega
     have b8 := Lib.hid (ext_trans b6.out hb8)
     have O8 := Lib.hid (own_ext O6.out hb8)
     have GT8 := Lib.hid (GT6.out.ext hb8)
     have GR8 := Lib.hid (GR6.out.ext hb8)
     obtain ⟨a0, a1, a2, a3⟩ := GT8.out.q4
     obtain ⟨fa0, fa1, fa2, fa3⟩ := GT8.out.z4
     obtain ⟨d0, d1, d2, d3⟩ := GR8.out.q4
     obtain ⟨fd0, fd1, fd2, fd3⟩ := GR8.out.z4
     clear hb8 q0 fq0 q1 fq1 q2 fq2 q3 fq3
     go_wp2
     refine bodyPost_ret (v := .tuple #[schV 0 none 0 0 0 0, .bool false]) (by simp [results, Tryz.results60, go_sem, *]) rfl ?_
     rw [HT.out]
     change RetSch ((some (day, L, pa, le)).filter fun q => schB q.1 q.2.1 q.2.2.1 q.2.2.2) w _ _
     rw [Option.filter_some]
     rw [if_neg (by rw [HS.out]; simp)]
     refine ⟨rfl, ?_⟩
     repeat (first | (with_reducible exact b8.out) | (with_reducible refine ext_set ?_ (by simp <;> omega) _))
   · rw [hS] at HI
     have HS := Lib.hid hS
     clear hS
     refine (HI.out _ A4 _ c4 (Reads.of_own O6.out) (by omega)).mono ?_
     rintro e w8 ⟨rfl, hb8⟩
     have z8 := hb8.size
     have z81 : w1.heap.size < w8.heap.size := by omega
     have z80 : w.heap.size + 1 + 1 < w8.heap.size := by omega
     have z82 : w.heap.size + 1 < w8.heap.size := by omega
     have z83 : w.heap.size < w8.heap.size := by omega
     have b8 := Lib.hid (ext_trans b6.out hb8)
     have O8 := Lib.hid (own_ext O6.out hb8)
     have GT8 := Lib.hid (GT6.out.ext hb8)
     have GR8 := Lib.hid (GR6.out.ext hb8)
     obtain ⟨a0, a1, a2, a3⟩ := GT8.out.q4
     obtain ⟨fa0, fa1, fa2, fa3⟩ := GT8.out.z4
     obtain ⟨d0, d1, d2, d3⟩ := GR8.out.q4
     obtain ⟨fd0, fd1, fd2, fd3⟩ := GR8.out.z4
     clear hb8 q0 fq0 q1 fq1 q2 fq2 q3 fq3
     go_wp2
     refine bodyPost_ret (v := .tuple #[schV (day) A4 (L.length) c4 (pa) (le), .bool true]) (by simp [results, Tryz.results60, go_sem, *]) rfl ?_
     rw [HT.out]
     change RetSch ((some (day, L, pa, le)).filter fun q => schB q.1 q.2.1 q.2.2.1 q.2.2.2) w _ _
     rw [Option.filter_some]
     rw [if_pos HS.out]
     unfold RetSch
     dsimp only
     skip
     refine ⟨_, _, rfl, ?_, ?_⟩
     · have hne := own_nb O8.out GR8.out (by decide)
       iterate 4 refine own_set_nb ?_ hne _
       exact O8.out
     · iterate 4 refine ext_set ?_ (by show w.heap.size ≤ w.heap.size + 1 + 1; omega) _
       exact b8.out

end Go.Proofs.YtkcbgiegoadkbaaGreat
namespace Go.Proofs.YtkcbgiegoadkbaaGreat
open Go.RowKit
set_option linter.unusedVariables false
set_option linter.unusedSimpArgs false
/-- a record is drawn -/
def DrawRec (g a K M : Nat) (w : World) (e : Ending) (w' : World) : Prop := ∃ (c r : ByteArray) (a' : Nat), e = .returned (recV c r) ∧ c.size ≤ M ∧ r.size ≤ M ∧ a' ≤ a + K ∧ CurAt w' g a' ∧ Gr g w w'
theorem zeros3 (w : World) : (convert 22 9 (.slice (some ⟨w.heap.size, 0, none⟩) 3 3)).run Tryz.prog (w.alloc (.cells #[.int .u8 0, .int .u8 0, .int .u8 0] 5)) = .ok (.string ⟨#[0, 0, 0]⟩) (w.alloc (.cells #[.int .u8 0, .int .u8 0, .int .u8 0] 5)) :=
 bytes_back _ Tryz.underlying22 Tryz.underlying5 Tryz.underlying9 w.heap.size 3 3 [0, 0, 0] rfl (fun j hj => by
  rw [World.cell?_alloc_at _ _ _ _ rfl]
  match j, hj with
  | 0, _ => rfl
  | 1, _ => rfl
  | 2, _ => rfl
  | j + 3, h => omega)
set_option maxHeartbeats 1000000 in
theorem logRecord_any (g a : Nat) (w : World) (h : CurAt w g a) (ha : a ≤ 700000000000) :
 Calls Tryz.prog 22 #[.pointer (some ⟨g, 0, none⟩)] w (DrawRec g a 8 20 w) := by
 have hlt := h.lt
 have kz := zeros3
 have hmk : ∀ w : World, (Instr.makeSlice 22 (.int .i64 3) (.int .i64 3)).run Tryz.prog w = .ok (.slice (some ⟨w.heap.size, 0, none⟩) 3 3) (w.alloc (.cells #[.int .u8 0, .int .u8 0, .int .u8 0] 5)) := fun _ => by kernel_rfl
 go_enter Tryz.func22, Tryz.ntmps22
 go_wp2_with fail
 refine (of_lit g a 20 [⟨#[99, 111, 117, 110, 116]⟩, ⟨#[115, 111, 114, 116, 32, 109, 101, 114, 103, 101]⟩, ⟨#[120]⟩, ⟨#[115, 101, 108, 101, 99, 116, 32, 50]⟩, ⟨#[48, 32, 49]⟩] 9 _ (h.ext (ext_alloc (ext_refl _) _)) (by omega) (by decide) (by decide) (by decide) _ rfl (by simp)).mono ?_
 rintro e w1 ⟨s1, a1, rfl, hs1, ha1, hc1, hg1⟩
 go_wp2_with fail
 refine (of_lit g a1 20 [⟨#[]⟩, ⟨#[51]⟩, ⟨#[63]⟩, ⟨#[97, 64, 98]⟩, ⟨#[51, 32, 49, 32, 50]⟩] 9 _ hc1 (by omega) (by decide) (by decide) (by decide) _ rfl (by simp)).mono ?_
 rintro e w2 ⟨s2, a2, rfl, hs2, ha2, hc2, hg2⟩
 go_wp2_with fail
 refine (pick_any g a2 24 _ (hc2.ext (ext_alloc (ext_refl _) _)) (by omega) (by omega) (by omega)).mono ?_
 rintro e w3 ⟨z3, a3, rfl, z30, z31, ha3, hc3, hg3⟩
 have hx1 : Gr g w w1 := (Gr.of_ext (ext_alloc (ext_refl _) _)).trans hg1
 have hx2 : Gr g w w2 := hx1.trans hg2
 have hx3 : Gr g w w3 := (hx2.trans (Gr.of_ext (ext_alloc (ext_refl _) _))).trans hg3
 have y2 := hx2.size
 have s23 : w2.heap.size < w3.heap.size := by have := hg3.size; simp at this; omega
 have s03 : w.heap.size < w3.heap.size := by omega
 have HR : Blk w3 w.heap.size 60 #[.string ⟨#[]⟩, .string ⟨#[]⟩] := ((((Blk.new w _ _).gr hg1 (by omega)).gr hg2 (by omega)).ext (ext_alloc (ext_refl _) _)).gr hg3 (by omega)
 have HE : Blk w3 w2.heap.size 60 #[.string s1, .string s2] := (Blk.new w2 _ _).gr hg3 (by omega)
 have hne : w.heap.size ≠ w2.heap.size := by have := hg1.size; have := hg2.size; simp at *; omega
 obtain ⟨r0, r1⟩ := HR.q2
 obtain ⟨fr0, fr1⟩ := HR.z2
 obtain ⟨e0, e1⟩ := HE.q2
 obtain ⟨fe0, fe1⟩ := HE.z2
 have H1 := Lib.hid hx3
 have H2 := Lib.hid hc3
 have H3 := Lib.hid HR
 have H4 := Lib.hid HE
 clear hg1 hg2 hg3 hx1 hx2 hx3 hc1 hc2 hc3 HR HE
 by_cases hz0 : z3 = 0
 · subst hz0
   go_wp2_with fail
   refine (of_lit g a3 20 [⟨#[]⟩, ⟨#[97, 64, 98]⟩, ⟨#[97, 35]⟩, ⟨#[10]⟩, ⟨#[0, 0, 0]⟩] 9 _ (H2.out.ext (ext_alloc (ext_refl _) _)) (by omega) (by decide) (by decide) (by decide) _ rfl (by simp)).mono ?_
   rintro e w4 ⟨s4, a4, rfl, hs4, ha4, hc4, hg4⟩
   have HR4 := (H3.out.ext (ext_alloc (ext_refl _) _)).gr hg4 (by omega)
   have HE4 := (H4.out.ext (ext_alloc (ext_refl _) _)).gr hg4 (by omega)
   obtain ⟨r0, r1⟩ := HR4.q2
   obtain ⟨fr0, fr1⟩ := HR4.z2
   obtain ⟨e0, e1⟩ := HE4.q2
   obtain ⟨fe0, fe1⟩ := HE4.z2
   have H1 := Lib.hid ((H1.out.trans (Gr.of_ext (ext_alloc (ext_refl _) _))).trans hg4)
   have H2 := Lib.hid hc4
   clear hg4 hc4 HR4 HE4
   go_wp2
   refine bodyPost_ret (v := recV s4 s2) (by simp [results, Tryz.results22, go_sem, *]) rfl ⟨s4, s2, a4, rfl, hs4, hs2, by omega, ?_, ?_⟩
   · exact ((H2.out.far (by show g < w2.heap.size; omega) _).far (by show g < w.heap.size; omega) _).far (by show g < w.heap.size; omega) _
   · exact ((H1.out.setNew (by show w.heap.size ≤ w2.heap.size; omega) _).setNew (by show w.heap.size ≤ w.heap.size; omega) _).setNew (by show w.heap.size ≤ w.heap.size; omega) _
 · by_cases hz1 : z3 = 1
   · subst hz1
     go_wp2_with fail
     refine (of_lit g a3 20 [⟨#[35]⟩, ⟨#[10]⟩, ⟨#[127]⟩] 9 _ H2.out (by omega) (by decide) (by decide) (by decide) _ rfl (by simp)).mono ?_
     rintro e w4 ⟨s4, a4, rfl, hs4, ha4, hc4, hg4⟩
     have HR4 := H3.out.gr hg4 (by omega)
     have HE4 := H4.out.gr hg4 (by omega)
     obtain ⟨r0, r1⟩ := HR4.q2
     obtain ⟨fr0, fr1⟩ := HR4.z2
     obtain ⟨e0, e1⟩ := HE4.q2
     obtain ⟨fe0, fe1⟩ := HE4.z2
     have H1 := Lib.hid (H1.out.trans hg4)
     have H2 := Lib.hid hc4
     clear hg4 hc4 HR4 HE4
     go_wp2
     refine bodyPost_ret (v := recV s1 s4) (by simp [results, Tryz.results22, go_sem, *]) rfl ⟨s1, s4, a4, rfl, hs1, hs4, by omega, ?_, ?_⟩
     · exact ((H2.out.far (by show g < w2.heap.size; omega) _).far (by show g < w.heap.size; omega) _).far (by show g < w.heap.size; omega) _
     · exact ((H1.out.setNew (by show w.heap.size ≤ w2.heap.size; omega) _).setNew (by show w.heap.size ≤ w.heap.size; omega) _).setNew (by show w.heap.size ≤ w.heap.size; omega) _
   · have hz0' : (z3 == 0) = false := by simpa using hz0
     have hz1' : (z3 == 1) = false := by simpa using hz1
     go_wp2
     refine bodyPost_ret (v := recV s1 s2) (by simp [results, Tryz.results22, go_sem, *]) rfl ⟨s1, s2, a3, rfl, hs1, hs2, by omega, ?_, ?_⟩
     · exact (H2.out.far (by show g < w.heap.size; omega) _).far (by show g < w.heap.size; omega) _
     · exact (H1.out.setNew (by show w.heap.size ≤ w.heap.size; omega) _).setNew (by show w.heap.size ≤ w.heap.size; omega) _
end Go.Proofs.YtkcbgiegoadkbaaGreat
namespace Go.Proofs.YtkcbgiegoadkbaaGreat
open Go.RowKit
set_option linter.unusedVariables false
set_option linter.unusedSimpArgs false
/-- a log is drawn -/
def DrawLog (g a K M : Nat) (Z : Int) (w : World) (e : Ending) (w' : World) : Prop := ∃ (d p : ByteArray) (z : Int) (a' : Nat), e = .returned (logV d p z) ∧ d.size + p.size ≤ M ∧ 0 ≤ z ∧ z ≤ Z ∧ a' ≤ a + K ∧ CurAt w' g a' ∧ Gr g w w'
theorem appP_size (d p : ByteArray) (z : Int) (c r : ByteArray) (hc : c.size ≤ 20) (hr : r.size ≤ 20) : (appP d p z c r).size ≤ p.size + 85 := by
 unfold appP
 split
 · have := lineB_size z c r
   rw [ByteArray.size_append]; omega
 · omega
theorem appZ_le (d p : ByteArray) (z : Int) (c r : ByteArray) : z ≤ appZ d p z c r ∧ appZ d p z c r ≤ z + 1 := by unfold appZ; split <;> omega
theorem syncD_size (d p : ByteArray) (z : Int) : (syncD d p z).size ≤ d.size + p.size := by
 unfold syncD
 split
 · rw [ByteArray.size_append]; omega
 · simp [lit_size]
theorem syncZ_le (d p : ByteArray) (z : Int) (h : 0 ≤ z) : 0 ≤ syncZ d p z ∧ syncZ d p z ≤ z := by unfold syncZ; split <;> omega
abbrev TL : TypeId := 25
set_option maxHeartbeats 2000000 in
theorem log_any (g a : Nat) (w : World) (h : CurAt w g a) (ha : a ≤ 600000000000) :
 Calls Tryz.prog 80 #[.pointer (some ⟨g, 0, none⟩)] w (DrawLog g a 100 510 6 w) := by
 have hlt := h.lt
 go_enter Tryz.func80, Tryz.ntmps80
 go_wp2_with fail
 refine (pick_any g a 7 _ ((h.ext (ext_alloc (ext_refl _) _)).ext (ext_alloc (ext_refl _) _)) (by omega) (by omega) (by omega)).mono ?_
 rintro e w1 ⟨z1, a1, rfl, z10, z11, ha1, hc1, hg1⟩
 obtain ⟨n, rfl⟩ := Int.eq_ofNat_of_zero_le z10
 have hx1 : Gr g w w1 := (Gr.of_ext (ext_alloc (ext_alloc (ext_refl w) _) _)).trans hg1
 have BR : Blk w1 w.heap.size 25 #[.string ⟨#[]⟩, .string ⟨#[]⟩, .int .i64 0] := ((Blk.new w _ _).ext (ext_alloc (ext_refl _) _)).gr hg1 (by omega)
 have BL : Blk w1 (w.heap.size + 1) 25 #[.string ⟨#[]⟩, .string ⟨#[]⟩, .int .i64 0] := by
  have := (Blk.new (w.alloc (.cells #[.string ⟨#[]⟩, .string ⟨#[]⟩, .int .i64 0] 25)) #[.string ⟨#[]⟩, .string ⟨#[]⟩, .int .i64 0] 25).gr hg1 (by simp; omega)
  simpa using this
 go_wp2
 go_loopw [4] (fun i wr => ∃ (m a2 : Nat) (d p : ByteArray) (z : Int), i = .int .i64 m ∧ m ≤ 6 ∧ d.size + p.size + m * 85 ≤ 510 ∧ 0 ≤ z ∧ z + m ≤ 6 ∧ a2 + m * 10 ≤ a + 62 ∧ Hid (Blk wr w.heap.size 25 #[.string ⟨#[]⟩, .string ⟨#[]⟩, .int .i64 0]) ∧ Hid (Blk wr (w.heap.size + 1) 25 #[.string d, .string p, .int .i64 z]) ∧ Hid (CurAt wr g a2) ∧ Hid (Gr g w wr)) (fun i _ => (intOf i).toNat)
 case atStart => exact ⟨n, a1, ⟨#[]⟩, ⟨#[]⟩, 0, rfl, by omega, by simp [lit_size]; omega, by omega, by omega, by omega, Lib.hid BR, Lib.hid BL, Lib.hid hc1, Lib.hid hx1⟩
 case round =>
  obtain ⟨m, a2, d, p, z, rfl, hm, hdp, hz0, hzm, ha2, HR, HL, HC, HG⟩ := hrel
  have sR := HR.out.lt
  have sL := HL.out.lt
  obtain ⟨l0, l1, l2⟩ := HL.out.q3
  obtain ⟨fl0, fl1, fl2⟩ := HL.out.z3
  obtain ⟨r0, r1, r2⟩ := HR.out.q3
  obtain ⟨fr0, fr1, fr2⟩ := HR.out.z3
  by_cases hm0 : 0 < m
  · go_wp2
    go_region_with (first | (go_at_call 22; refine (logRecord_any g a2 _ (HC.out.ext (ext_drew (ext_refl _))) (by omega)).mono ?_; rintro e w3 ⟨c3, r3, a3, rfl, hc3, hr3, ha3, hcu3, hg3⟩; have HL := Lib.hid ((HL.out.ext (ext_drew (ext_refl _))).gr hg3 (by omega)); obtain ⟨l0, l1, l2⟩ := HL.out.q3; obtain ⟨fl0, fl1, fl2⟩ := HL.out.z3) | (go_at_call 21; refine (specAppend_any d p z _ _ _ (by omega) (by omega) (by omega) (by omega)).mono ?_; rintro e w4 ⟨rfl, hb4⟩; have HL := Lib.hid (HL.out.ext hb4); obtain ⟨l0, l1, l2⟩ := HL.out.q3; obtain ⟨fl0, fl1, fl2⟩ := HL.out.z3))
    all_goals
     have hP := appP_size d p z c3 r3 hc3 hr3
     obtain ⟨hZ0, hZ1⟩ := appZ_le d p z c3 r3
     generalize appP d p z c3 r3 = P at *
     generalize appZ d p z c3 r3 = Z at *
     have HL5 : Blk (((w4.setCell ⟨w.heap.size + 1, 0, none⟩ (.string d)).setCell ⟨w.heap.size + 1, 1, none⟩ (.string P)).setCell ⟨w.heap.size + 1, 2, none⟩ (.int .i64 Z)) (w.heap.size + 1) 25 #[.string d, .string P, .int .i64 Z] := by
      have := ((HL.out.set_ 0 (.string d)).set_ 1 (.string P)).set_ 2 (.int .i64 Z)
      simpa using this
     have HR5 : Blk (((w4.setCell ⟨w.heap.size + 1, 0, none⟩ (.string d)).setCell ⟨w.heap.size + 1, 1, none⟩ (.string P)).setCell ⟨w.heap.size + 1, 2, none⟩ (.int .i64 Z)) w.heap.size 25 #[.string ⟨#[]⟩, .string ⟨#[]⟩, .int .i64 0] :=
      ((((((HR.out.ext (ext_drew (ext_refl _))).gr hg3 (by omega)).ext hb4).far (by show w.heap.size ≠ w.heap.size + 1; omega) _).far (by show w.heap.size ≠ w.heap.size + 1; omega) _).far (by show w.heap.size ≠ w.heap.size + 1; omega) _)
     have HC5 := (((hcu3.ext hb4).far (p := ⟨w.heap.size + 1, 0, none⟩) (by show g < w.heap.size + 1; omega) (.string d)).far (p := ⟨w.heap.size + 1, 1, none⟩) (by show g < w.heap.size + 1; omega) (.string P)).far (p := ⟨w.heap.size + 1, 2, none⟩) (by show g < w.heap.size + 1; omega) (.int .i64 Z)
     have HG5 := (((((HG.out.trans (Gr.of_ext (ext_drew (ext_refl _)))).trans hg3).trans (Gr.of_ext hb4)).setNew (p := ⟨w.heap.size + 1, 0, none⟩) (by show w.heap.size ≤ w.heap.size + 1; omega) (.string d)).setNew (p := ⟨w.heap.size + 1, 1, none⟩) (by show w.heap.size ≤ w.heap.size + 1; omega) (.string P)).setNew (p := ⟨w.heap.size + 1, 2, none⟩) (by show w.heap.size ≤ w.heap.size + 1; omega) (.int .i64 Z)
     clear HL l0 l1 l2 fl0 fl1 fl2
     generalize (((w4.setCell ⟨w.heap.size + 1, 0, none⟩ (.string d)).setCell ⟨w.heap.size + 1, 1, none⟩ (.string P)).setCell ⟨w.heap.size + 1, 2, none⟩ (.int .i64 Z)) = w5 at *
     clear HC hcu3 HR HG hg3 hb4 hc1 hx1 BR BL r0 r1 r2 fr0 fr1 fr2
     have HL := Lib.hid HL5
     have HR := Lib.hid HR5
     have HC := Lib.hid HC5
     have HG := Lib.hid HG5
     clear HL5 HR5 HC5 HG5
     go_wp2_with fail
     refine (one_any g a3 4 _ HC.out (by omega) (by omega) (by omega)).mono ?_
     rintro e w6 ⟨b, a4, rfl, ha4, hc6, hg6⟩
     have HL := Lib.hid (HL.out.gr hg6 (by omega))
     have HR := Lib.hid (HR.out.gr hg6 (by omega))
     have HG := Lib.hid (HG.out.trans hg6)
     have HC := Lib.hid hc6
     clear hc6 hg6
     obtain ⟨l0, l1, l2⟩ := HL.out.q3
     obtain ⟨fl0, fl1, fl2⟩ := HL.out.z3
     cases b
     · go_wp2
       go_roundw
       case rel => exact ⟨m - 1, a4, d, P, Z, by go_num, by omega, by omega, by omega, by omega, by omega, HR, HL, HC, HG⟩
       case measure => simp [intOf]; omega
     · have hD := syncD_size d P Z
       obtain ⟨hY0, hY1⟩ := syncZ_le d P Z (by omega)
       go_wp2_with fail
       refine (specSync_any d P Z _ (by omega) (by omega)).mono ?_
       rintro e w7 ⟨rfl, hb7⟩
       generalize syncD d P Z = D at *
       generalize syncZ d P Z = Y at *
       have HL := Lib.hid (HL.out.ext hb7)
       have HR := Lib.hid (HR.out.ext hb7)
       have HG := Lib.hid (HG.out.trans (Gr.of_ext hb7))
       have HC := Lib.hid (HC.out.ext hb7)
       clear hb7 l0 l1 l2 fl0 fl1 fl2
       obtain ⟨l0, l1, l2⟩ := HL.out.q3
       obtain ⟨fl0, fl1, fl2⟩ := HL.out.z3
       go_wp2
       go_roundw
       case rel =>
        refine ⟨m - 1, a4, D, ⟨#[]⟩, Y, by go_num, by omega, by simp [lit_size]; omega, by omega, by omega, by omega, ?_, ?_, ?_, ?_⟩
        · exact Lib.hid (((HR.out.far (by show w.heap.size ≠ w.heap.size + 1; omega) _).far (by show w.heap.size ≠ w.heap.size + 1; omega) _).far (by show w.heap.size ≠ w.heap.size + 1; omega) _)
        · refine Lib.hid ?_
          have := ((HL.out.set_ 0 (.string D)).set_ 1 (.string ⟨#[]⟩)).set_ 2 (.int .i64 Y)
          simpa using this
        · exact Lib.hid (((HC.out.far (by show g < w.heap.size + 1; omega) _).far (by show g < w.heap.size + 1; omega) _).far (by show g < w.heap.size + 1; omega) _)
        · exact Lib.hid (((HG.out.setNew (by show w.heap.size ≤ w.heap.size + 1; omega) _).setNew (by show w.heap.size ≤ w.heap.size + 1; omega) _).setNew (by show w.heap.size ≤ w.heap.size + 1; omega) _)
       case measure => simp [intOf]; omega
  · go_wp2
    refine bodyPost_ret (v := logV d p z) (by simp [results, Tryz.results80, go_sem, *]) rfl ⟨d, p, z, a2, rfl, by omega, hz0, by omega, by omega, ?_, ?_⟩
    · exact ((HC.out.far (by show g < w.heap.size; omega) _).far (by show g < w.heap.size; omega) _).far (by show g < w.heap.size; omega) _
    · exact ((HG.out.setNew (Nat.le_refl _) _).setNew (Nat.le_refl _) _).setNew (Nat.le_refl _) _
end Go.Proofs.YtkcbgiegoadkbaaGreat
namespace Go.Proofs.YtkcbgiegoadkbaaGreat
open Go.RowKit
set_option linter.unusedVariables false
set_option linter.unusedSimpArgs false
set_option maxHeartbeats 2000000 in
theorem anyLog_any (g a : Nat) (w : World) (h : CurAt w g a) (ha : a ≤ 500000000000) :
 Calls Tryz.prog 51 #[.pointer (some ⟨g, 0, none⟩)] w (DrawLog g a 110 1100 7 w) := by
 have hlt := h.lt
 go_enter Tryz.func51, Tryz.ntmps51
 go_wp2_with fail
 refine (log_any g a _ (h.ext (ext_alloc (ext_refl _) _)) (by omega)).mono ?_
 rintro e w1 ⟨d, p, z, a1, rfl, hdp, hz0, hz6, ha1, hc1, hg1⟩
 have hx1 : Gr g w w1 := (Gr.of_ext (ext_alloc (ext_refl w) _)).trans hg1
 have BR : Blk w1 w.heap.size 25 #[.string ⟨#[]⟩, .string ⟨#[]⟩, .int .i64 0] := (Blk.new w _ _).gr hg1 (by omega)
 have s01 : w.heap.size < w1.heap.size := BR.lt
 go_wp2_with fail
 refine (pick_any g a1 24 _ (hc1.ext (ext_alloc (ext_refl _) _)) (by omega) (by omega) (by omega)).mono ?_
 rintro e w2 ⟨q, a2, rfl, q0, q1, ha2, hc2, hg2⟩
 have HG : Hid (Gr g w w2) := Lib.hid ((hx1.trans (Gr.of_ext (ext_alloc (ext_refl w1) _))).trans hg2)
 have HR : Hid (Blk w2 w.heap.size 25 #[.string ⟨#[]⟩, .string ⟨#[]⟩, .int .i64 0]) := Lib.hid ((BR.ext (ext_alloc (ext_refl w1) _)).gr hg2 (by omega))
 have HL : Hid (Blk w2 w1.heap.size 25 #[.string d, .string p, .int .i64 z]) := Lib.hid ((Blk.new w1 _ _).gr hg2 (by omega))
 have HC := Lib.hid hc2
 have s12 : w1.heap.size < w2.heap.size := HL.out.lt
 have s02 : w.heap.size < w2.heap.size := by omega
 have hne : w.heap.size ≠ w1.heap.size := by omega
 clear hc1 hg1 hx1 BR hc2 hg2
 obtain ⟨l0, l1, l2⟩ := HL.out.q3
 obtain ⟨fl0, fl1, fl2⟩ := HL.out.z3
 obtain ⟨r0, r1, r2⟩ := HR.out.q3
 obtain ⟨fr0, fr1, fr2⟩ := HR.out.z3
 by_cases hq0 : q = 0
 · subst hq0
   go_wp2
   refine bodyPost_ret (v := logV d p (z + 1)) (by simp [results, Tryz.results51, go_sem, *]) rfl ⟨d, p, z + 1, a2, rfl, by omega, by omega, by omega, by omega, ?_, ?_⟩
   · exact (by repeat (first | exact HC.out | refine CurAt.far ?_ (by first | (show g < w.heap.size; omega) | (show g < w1.heap.size; omega)) _))
   · exact (by repeat (first | exact HG.out | refine Gr.setNew ?_ (by first | exact Nat.le_refl _ | (show w.heap.size ≤ w1.heap.size; omega)) _))
 · have hq0' : (q == 0) = false := by simpa using hq0
   by_cases hq1 : q = 1
   · subst hq1
     go_wp2_with fail
     refine (spoilt_any g a2 p ⟨#[35, 64, 10, 48, 49]⟩ _ HC.out (by omega) (by omega) (by decide) (by decide)).mono ?_
     rintro e w3 ⟨s, a3, rfl, hs, ha3, hc3, hg3⟩
     have HR := Lib.hid (HR.out.gr hg3 (by omega))
     have HL := Lib.hid (HL.out.gr hg3 (by omega))
     have HG := Lib.hid (HG.out.trans hg3)
     have HC := Lib.hid hc3
     clear hg3 hc3 l0 l1 l2 fl0 fl1 fl2 r0 r1 r2 fr0 fr1 fr2
     obtain ⟨l0, l1, l2⟩ := HL.out.q3
     obtain ⟨fl0, fl1, fl2⟩ := HL.out.z3
     obtain ⟨r0, r1, r2⟩ := HR.out.q3
     obtain ⟨fr0, fr1, fr2⟩ := HR.out.z3
     go_wp2
     refine bodyPost_ret (v := logV d s z) (by simp [results, Tryz.results51, go_sem, *]) rfl ⟨d, s, z, a3, rfl, by omega, by omega, by omega, by omega, ?_, ?_⟩
     · exact (by repeat (first | exact HC.out | refine CurAt.far ?_ (by first | (show g < w.heap.size; omega) | (show g < w1.heap.size; omega)) _))
     · exact (by repeat (first | exact HG.out | refine Gr.setNew ?_ (by first | exact Nat.le_refl _ | (show w.heap.size ≤ w1.heap.size; omega)) _))
   · have hq1' : (q == 1) = false := by simpa using hq1
     by_cases hq2 : q = 2
     · subst hq2
       go_wp2
       refine bodyPost_ret (v := logV (d ++ p) p z) (by simp [results, Tryz.results51, go_sem, *]) rfl ⟨d ++ p, p, z, a2, rfl, by rw [ByteArray.size_append]; omega, by omega, by omega, by omega, ?_, ?_⟩
       · exact (by repeat (first | exact HC.out | refine CurAt.far ?_ (by first | (show g < w.heap.size; omega) | (show g < w1.heap.size; omega)) _))
       · exact (by repeat (first | exact HG.out | refine Gr.setNew ?_ (by first | exact Nat.le_refl _ | (show w.heap.size ≤ w1.heap.size; omega)) _))
     · have hq2' : (q == 2) = false := by simpa using hq2
       go_wp2
       refine bodyPost_ret (v := logV d p z) (by simp [results, Tryz.results51, go_sem, *]) rfl ⟨d, p, z, a2, rfl, by omega, by omega, by omega, by omega, ?_, ?_⟩
       · exact (by repeat (first | exact HC.out | refine CurAt.far ?_ (by first | (show g < w.heap.size; omega) | (show g < w1.heap.size; omega)) _))
       · exact (by repeat (first | exact HG.out | refine Gr.setNew ?_ (by first | exact Nat.le_refl _ | (show w.heap.size ≤ w1.heap.size; omega)) _))
end Go.Proofs.YtkcbgiegoadkbaaGreat
namespace Go.Proofs.YtkcbgiegoadkbaaGreat
open Go.RowKit
set_option linter.unusedVariables false
set_option linter.unusedSimpArgs false
end Go.Proofs.YtkcbgiegoadkbaaGreat
namespace Go.Proofs.YtkcbgiegoadkbaaGreat
open Go.RowKit
set_option linter.unusedVariables false
set_option linter.unusedSimpArgs false
theorem info_u8 : (Tryz.prog.info? 5).map (fun i => (i.zero, i.size, i.bytes)) = some (some (.int .u8 0), 1, 1) := by kernel_rfl
theorem zeros_back (w : World) (base n c cap : Nat) (g : Nat) (h : w.ownsRow base 5 1 (.slice (some ⟨g, 0, none⟩) n c) n (madeCells (Value.cells (.int .u8 0)) (n * 1)).toList) :
 (convert 22 9 (.slice (some ⟨g, 0, none⟩) n cap)).run Tryz.prog w = .ok (.string (str (List.replicate n 0))) w :=
 bytes_back w Tryz.underlying22 Tryz.underlying5 Tryz.underlying9 g n cap (List.replicate n 0) (by simp) (fun j hj => by
  rw [h.cellAt j (by omega), Nat.mul_one, show Value.cells (.int .u8 0) = #[.int .u8 0] from rfl, toList_madeCells_one]
  simp [hj, List.getD])
end Go.Proofs.YtkcbgiegoadkbaaGreat
namespace Go.Proofs.YtkcbgiegoadkbaaGreat
open Go.RowKit
set_option linter.unusedVariables false
set_option linter.unusedSimpArgs false
end Go.Proofs.YtkcbgiegoadkbaaGreat
namespace Go.Proofs.YtkcbgiegoadkbaaGreat
open Go.RowKit
set_option linter.unusedVariables false
set_option linter.unusedSimpArgs false
theorem rcv_valid {t : ByteArray} (h : t.size ≤ 30000) : logB (rcvD t) ⟨#[]⟩ (rcvN t) = true ∧ syncD (rcvD t) ⟨#[]⟩ (rcvN t) = rcvD t ∧ syncZ (rcvD t) ⟨#[]⟩ (rcvN t) = rcvN t := by
 have e : ∀ s : ByteArray, s ++ ⟨#[]⟩ = s := fun s => by apply bl_inj; rw [bl_append]; simp [bl]
 obtain ⟨h1, h2⟩ := rec_fix t
 have h3 : (t.extract 0 (recE t)).size = recE t := by rw [extract_size _ _ _ (recE_le t)]; omega
 have hb : logB (rcvD t) ⟨#[]⟩ (rcvN t) = true := by
  rw [rcvD, rcvN, if_pos h, if_pos h, logB, e, h1, h2, h3]
  simp [lit_size]
 exact ⟨hb, by rw [syncD, hb, if_pos rfl, e], by rw [syncZ, hb, if_pos rfl]⟩
end Go.Proofs.YtkcbgiegoadkbaaGreat
