/- The drawing of logs that may be spoilt. -/
import Derived.Test.YtdielldikdmjpaaCurM
namespace Go.Proofs.Ytdielldikdmjpaa
open Go.RowKit
set_option linter.unusedVariables false
set_option linter.unusedSimpArgs false
set_option maxHeartbeats 2000000 in
theorem anyLog_any (g a : Nat) (w : World) (h : CurAt w g a) (ha : a ≤ 500000000000) :
    Calls Try.prog 62 #[.pointer (some ⟨g, 0, none⟩)] w (DrawLog g a 110 1100 7 w) := by
  have hlt := h.lt
  go_enter Try.func62, Try.ntmps62
  go_wp2_with fail
  refine (log_any g a _ (h.ext (ext_alloc (ext_refl _) _)) (by omega)).mono ?_
  rintro e w1 ⟨d, p, z, a1, rfl, hdp, hz0, hz6, ha1, hc1, hg1⟩
  have hx1 : Gr g w w1 := (Gr.of_ext (ext_alloc (ext_refl w) _)).trans hg1
  have BR : Blk w1 w.heap.size 33 #[.string ⟨#[]⟩, .string ⟨#[]⟩, .int .i64 0] := (Blk.new w _ _).gr hg1 (by omega)
  have s01 : w.heap.size < w1.heap.size := BR.lt
  go_wp2_with fail
  refine (pick_any g a1 24 _ (hc1.ext (ext_alloc (ext_refl _) _)) (by omega) (by omega) (by omega)).mono ?_
  rintro e w2 ⟨q, a2, rfl, q0, q1, ha2, hc2, hg2⟩
  have HG : Hid (Gr g w w2) := Lib.hid ((hx1.trans (Gr.of_ext (ext_alloc (ext_refl w1) _))).trans hg2)
  have HR : Hid (Blk w2 w.heap.size 33 #[.string ⟨#[]⟩, .string ⟨#[]⟩, .int .i64 0]) := Lib.hid ((BR.ext (ext_alloc (ext_refl w1) _)).gr hg2 (by omega))
  have HL : Hid (Blk w2 w1.heap.size 33 #[.string d, .string p, .int .i64 z]) := Lib.hid ((Blk.new w1 _ _).gr hg2 (by omega))
  have HC := Lib.hid hc2
  have s12 : w1.heap.size < w2.heap.size := HL.out.lt
  have s02 : w.heap.size < w2.heap.size := by omega
  have hne : w.heap.size ≠ w1.heap.size := by omega
  clear hc1 hg1 hx1 BR hc2 hg2
  have l0 : w2.cell? ⟨w1.heap.size, 0, none⟩ = some (.string d) := HL.out.cell 0
  have fl0 := HL.out.frozen 0
  have l1 : w2.cell? ⟨w1.heap.size, 1, none⟩ = some (.string p) := HL.out.cell 1
  have fl1 := HL.out.frozen 1
  have l2 : w2.cell? ⟨w1.heap.size, 2, none⟩ = some (.int .i64 z) := HL.out.cell 2
  have fl2 := HL.out.frozen 2
  have r0 : w2.cell? ⟨w.heap.size, 0, none⟩ = some (.string ⟨#[]⟩) := HR.out.cell 0
  have fr0 := HR.out.frozen 0
  have r1 : w2.cell? ⟨w.heap.size, 1, none⟩ = some (.string ⟨#[]⟩) := HR.out.cell 1
  have fr1 := HR.out.frozen 1
  have r2 : w2.cell? ⟨w.heap.size, 2, none⟩ = some (.int .i64 0) := HR.out.cell 2
  have fr2 := HR.out.frozen 2
  by_cases hq0 : q = 0
  · subst hq0
    go_wp2
    refine bodyPost_ret (v := logV d p (z + 1)) (by simp [results, Try.results62, go_sem, *]) rfl ⟨d, p, z + 1, a2, rfl, by omega, by omega, by omega, by omega, ?_, ?_⟩
    · exact (by repeat (first | exact HC.out | refine CurAt.far ?_ (by first | (show g < w.heap.size; omega) | (show g < w1.heap.size; omega)) _))
    · exact (by repeat (first | exact HG.out | refine Gr.setNew ?_ (by first | exact Nat.le_refl _ | (show w.heap.size ≤ w1.heap.size; omega)) _))
  · have hq0' : (q == 0) = false := by simpa using hq0
    by_cases hq1 : q = 1
    · subst hq1
      go_wp2_with fail
      refine (spoilt_any g a2 p ⟨#[35, 64, 10, 48, 49]⟩ _ HC.out (by omega) (by omega) (by decide) (by decide)).mono ?_
      rintro e w3 ⟨s, a3, rfl, hs, ha3, hc3, hg3⟩
      have HR := Lib.hid (HR.out.gr hg3 (by omega))
      have HL := Lib.hid (HL.out.gr hg3 (by omega))
      have HG := Lib.hid (HG.out.trans hg3)
      have HC := Lib.hid hc3
      clear hg3 hc3 l0 l1 l2 fl0 fl1 fl2 r0 r1 r2 fr0 fr1 fr2
      have l0 : w3.cell? ⟨w1.heap.size, 0, none⟩ = some (.string d) := HL.out.cell 0
      have fl0 := HL.out.frozen 0
      have l1 : w3.cell? ⟨w1.heap.size, 1, none⟩ = some (.string p) := HL.out.cell 1
      have fl1 := HL.out.frozen 1
      have l2 : w3.cell? ⟨w1.heap.size, 2, none⟩ = some (.int .i64 z) := HL.out.cell 2
      have fl2 := HL.out.frozen 2
      have r0 : w3.cell? ⟨w.heap.size, 0, none⟩ = some (.string ⟨#[]⟩) := HR.out.cell 0
      have fr0 := HR.out.frozen 0
      have r1 : w3.cell? ⟨w.heap.size, 1, none⟩ = some (.string ⟨#[]⟩) := HR.out.cell 1
      have fr1 := HR.out.frozen 1
      have r2 : w3.cell? ⟨w.heap.size, 2, none⟩ = some (.int .i64 0) := HR.out.cell 2
      have fr2 := HR.out.frozen 2
      go_wp2
      refine bodyPost_ret (v := logV d s z) (by simp [results, Try.results62, go_sem, *]) rfl ⟨d, s, z, a3, rfl, by omega, by omega, by omega, by omega, ?_, ?_⟩
      · exact (by repeat (first | exact HC.out | refine CurAt.far ?_ (by first | (show g < w.heap.size; omega) | (show g < w1.heap.size; omega)) _))
      · exact (by repeat (first | exact HG.out | refine Gr.setNew ?_ (by first | exact Nat.le_refl _ | (show w.heap.size ≤ w1.heap.size; omega)) _))
    · have hq1' : (q == 1) = false := by simpa using hq1
      by_cases hq2 : q = 2
      · subst hq2
        go_wp2
        refine bodyPost_ret (v := logV (d ++ p) p z) (by simp [results, Try.results62, go_sem, *]) rfl ⟨d ++ p, p, z, a2, rfl, by rw [ByteArray.size_append]; omega, by omega, by omega, by omega, ?_, ?_⟩
        · exact (by repeat (first | exact HC.out | refine CurAt.far ?_ (by first | (show g < w.heap.size; omega) | (show g < w1.heap.size; omega)) _))
        · exact (by repeat (first | exact HG.out | refine Gr.setNew ?_ (by first | exact Nat.le_refl _ | (show w.heap.size ≤ w1.heap.size; omega)) _))
      · have hq2' : (q == 2) = false := by simpa using hq2
        go_wp2
        refine bodyPost_ret (v := logV d p z) (by simp [results, Try.results62, go_sem, *]) rfl ⟨d, p, z, a2, rfl, by omega, by omega, by omega, by omega, ?_, ?_⟩
        · exact (by repeat (first | exact HC.out | refine CurAt.far ?_ (by first | (show g < w.heap.size; omega) | (show g < w1.heap.size; omega)) _))
        · exact (by repeat (first | exact HG.out | refine Gr.setNew ?_ (by first | exact Nat.le_refl _ | (show w.heap.size ≤ w1.heap.size; omega)) _))
end Go.Proofs.Ytdielldikdmjpaa
