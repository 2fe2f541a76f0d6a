/- The drawing of logs. -/
import Derived.Test.YtdielldikdmjpaaCurL
namespace Go.Proofs.Ytdielldikdmjpaa
open Go.RowKit
set_option linter.unusedVariables false
set_option linter.unusedSimpArgs false
/-- a log is drawn -/
def DrawLog (g a K M : Nat) (Z : Int) (w : World) (e : Ending) (w' : World) : Prop := ∃ (d p : ByteArray) (z : Int) (a' : Nat), e = .returned (logV d p z) ∧ d.size + p.size ≤ M ∧ 0 ≤ z ∧ z ≤ Z ∧ a' ≤ a + K ∧ CurAt w' g a' ∧ Gr g w w'
theorem appP_size (d p : ByteArray) (z : Int) (c r : ByteArray) (hc : c.size ≤ 20) (hr : r.size ≤ 20) : (appP d p z c r).size ≤ p.size + 85 := by
  unfold appP
  split
  · have := lineB_size z c r
    rw [ByteArray.size_append]; omega
  · omega
theorem appZ_le (d p : ByteArray) (z : Int) (c r : ByteArray) : z ≤ appZ d p z c r ∧ appZ d p z c r ≤ z + 1 := by unfold appZ; split <;> omega
theorem syncD_size (d p : ByteArray) (z : Int) : (syncD d p z).size ≤ d.size + p.size := by
  unfold syncD
  split
  · rw [ByteArray.size_append]; omega
  · simp [lit_size]
theorem syncZ_le (d p : ByteArray) (z : Int) (h : 0 ≤ z) : 0 ≤ syncZ d p z ∧ syncZ d p z ≤ z := by unfold syncZ; split <;> omega
abbrev TL : TypeId := 33
set_option maxHeartbeats 2000000 in
theorem log_any (g a : Nat) (w : World) (h : CurAt w g a) (ha : a ≤ 600000000000) :
    Calls Try.prog 58 #[.pointer (some ⟨g, 0, none⟩)] w (DrawLog g a 100 510 6 w) := by
  have hlt := h.lt
  go_enter Try.func58, Try.ntmps58
  go_wp2_with fail
  refine (pick_any g a 7 _ ((h.ext (ext_alloc (ext_refl _) _)).ext (ext_alloc (ext_refl _) _)) (by omega) (by omega) (by omega)).mono ?_
  rintro e w1 ⟨z1, a1, rfl, z10, z11, ha1, hc1, hg1⟩
  obtain ⟨n, rfl⟩ := Int.eq_ofNat_of_zero_le z10
  have hx1 : Gr g w w1 := (Gr.of_ext (ext_alloc (ext_alloc (ext_refl w) _) _)).trans hg1
  have BR : Blk w1 w.heap.size 33 #[.string ⟨#[]⟩, .string ⟨#[]⟩, .int .i64 0] := ((Blk.new w _ _).ext (ext_alloc (ext_refl _) _)).gr hg1 (by omega)
  have BL : Blk w1 (w.heap.size + 1) 33 #[.string ⟨#[]⟩, .string ⟨#[]⟩, .int .i64 0] := by
    have := (Blk.new (w.alloc (.cells #[.string ⟨#[]⟩, .string ⟨#[]⟩, .int .i64 0] 33)) #[.string ⟨#[]⟩, .string ⟨#[]⟩, .int .i64 0] 33).gr hg1 (by simp; omega)
    simpa using this
  go_wp2
  go_loopw [4] (fun i wr => ∃ (m a2 : Nat) (d p : ByteArray) (z : Int), i = .int .i64 m ∧ m ≤ 6 ∧ d.size + p.size + m * 85 ≤ 510 ∧ 0 ≤ z ∧ z + m ≤ 6 ∧ a2 + m * 10 ≤ a + 62 ∧ Hid (Blk wr w.heap.size 33 #[.string ⟨#[]⟩, .string ⟨#[]⟩, .int .i64 0]) ∧ Hid (Blk wr (w.heap.size + 1) 33 #[.string d, .string p, .int .i64 z]) ∧ Hid (CurAt wr g a2) ∧ Hid (Gr g w wr)) (fun i _ => (intOf i).toNat)
  case atStart => exact ⟨n, a1, ⟨#[]⟩, ⟨#[]⟩, 0, rfl, by omega, by simp [lit_size]; omega, by omega, by omega, by omega, Lib.hid BR, Lib.hid BL, Lib.hid hc1, Lib.hid hx1⟩
  case round =>
    obtain ⟨m, a2, d, p, z, rfl, hm, hdp, hz0, hzm, ha2, HR, HL, HC, HG⟩ := hrel
    have sR := HR.out.lt
    have sL := HL.out.lt
    have l0 : wr.cell? ⟨w.heap.size + 1, 0, none⟩ = some (.string d) := HL.out.cell 0
    have l1 : wr.cell? ⟨w.heap.size + 1, 1, none⟩ = some (.string p) := HL.out.cell 1
    have l2 : wr.cell? ⟨w.heap.size + 1, 2, none⟩ = some (.int .i64 z) := HL.out.cell 2
    have fl0 := HL.out.frozen 0
    have fl1 := HL.out.frozen 1
    have fl2 := HL.out.frozen 2
    have r0 : wr.cell? ⟨w.heap.size, 0, none⟩ = some (.string ⟨#[]⟩) := HR.out.cell 0
    have r1 : wr.cell? ⟨w.heap.size, 1, none⟩ = some (.string ⟨#[]⟩) := HR.out.cell 1
    have r2 : wr.cell? ⟨w.heap.size, 2, none⟩ = some (.int .i64 0) := HR.out.cell 2
    have fr0 := HR.out.frozen 0
    have fr1 := HR.out.frozen 1
    have fr2 := HR.out.frozen 2
    by_cases hm0 : 0 < m
    · go_wp2
      go_region_with (first | (go_at_call 57; refine (logRecord_any g a2 _ (HC.out.ext (ext_drew (ext_refl _))) (by omega)).mono ?_; rintro e w3 ⟨c3, r3, a3, rfl, hc3, hr3, ha3, hcu3, hg3⟩; have HL := Lib.hid ((HL.out.ext (ext_drew (ext_refl _))).gr hg3 (by omega)); have l0 : w3.cell? ⟨w.heap.size + 1, 0, none⟩ = some (.string d) := HL.out.cell 0; have fl0 := HL.out.frozen 0; have l1 : w3.cell? ⟨w.heap.size + 1, 1, none⟩ = some (.string p) := HL.out.cell 1; have fl1 := HL.out.frozen 1; have l2 : w3.cell? ⟨w.heap.size + 1, 2, none⟩ = some (.int .i64 z) := HL.out.cell 2; have fl2 := HL.out.frozen 2) | (go_at_call 31; refine (specAppend_any d p z _ _ _ (by omega) (by omega) (by omega) (by omega)).mono ?_; rintro e w4 ⟨rfl, hb4⟩; have HL := Lib.hid (HL.out.ext hb4); have l0 : w4.cell? ⟨w.heap.size + 1, 0, none⟩ = some (.string d) := HL.out.cell 0; have fl0 := HL.out.frozen 0; have l1 : w4.cell? ⟨w.heap.size + 1, 1, none⟩ = some (.string p) := HL.out.cell 1; have fl1 := HL.out.frozen 1; have l2 : w4.cell? ⟨w.heap.size + 1, 2, none⟩ = some (.int .i64 z) := HL.out.cell 2; have fl2 := HL.out.frozen 2))
      all_goals
        have hP := appP_size d p z c3 r3 hc3 hr3
        obtain ⟨hZ0, hZ1⟩ := appZ_le d p z c3 r3
        generalize appP d p z c3 r3 = P at *
        generalize appZ d p z c3 r3 = Z at *
        have HL5 : Blk (((w4.setCell ⟨w.heap.size + 1, 0, none⟩ (.string d)).setCell ⟨w.heap.size + 1, 1, none⟩ (.string P)).setCell ⟨w.heap.size + 1, 2, none⟩ (.int .i64 Z)) (w.heap.size + 1) 33 #[.string d, .string P, .int .i64 Z] := by
          have := ((HL.out.set_ 0 (.string d)).set_ 1 (.string P)).set_ 2 (.int .i64 Z)
          simpa using this
        have HR5 : Blk (((w4.setCell ⟨w.heap.size + 1, 0, none⟩ (.string d)).setCell ⟨w.heap.size + 1, 1, none⟩ (.string P)).setCell ⟨w.heap.size + 1, 2, none⟩ (.int .i64 Z)) w.heap.size 33 #[.string ⟨#[]⟩, .string ⟨#[]⟩, .int .i64 0] :=
          ((((((HR.out.ext (ext_drew (ext_refl _))).gr hg3 (by omega)).ext hb4).far (by show w.heap.size ≠ w.heap.size + 1; omega) _).far (by show w.heap.size ≠ w.heap.size + 1; omega) _).far (by show w.heap.size ≠ w.heap.size + 1; omega) _)
        have HC5 := (((hcu3.ext hb4).far (p := ⟨w.heap.size + 1, 0, none⟩) (by show g < w.heap.size + 1; omega) (.string d)).far (p := ⟨w.heap.size + 1, 1, none⟩) (by show g < w.heap.size + 1; omega) (.string P)).far (p := ⟨w.heap.size + 1, 2, none⟩) (by show g < w.heap.size + 1; omega) (.int .i64 Z)
        have HG5 := (((((HG.out.trans (Gr.of_ext (ext_drew (ext_refl _)))).trans hg3).trans (Gr.of_ext hb4)).setNew (p := ⟨w.heap.size + 1, 0, none⟩) (by show w.heap.size ≤ w.heap.size + 1; omega) (.string d)).setNew (p := ⟨w.heap.size + 1, 1, none⟩) (by show w.heap.size ≤ w.heap.size + 1; omega) (.string P)).setNew (p := ⟨w.heap.size + 1, 2, none⟩) (by show w.heap.size ≤ w.heap.size + 1; omega) (.int .i64 Z)
        clear HL l0 l1 l2 fl0 fl1 fl2
        generalize (((w4.setCell ⟨w.heap.size + 1, 0, none⟩ (.string d)).setCell ⟨w.heap.size + 1, 1, none⟩ (.string P)).setCell ⟨w.heap.size + 1, 2, none⟩ (.int .i64 Z)) = w5 at *
        clear HC hcu3 HR HG hg3 hb4 hc1 hx1 BR BL r0 r1 r2 fr0 fr1 fr2
        have HL := Lib.hid HL5
        have HR := Lib.hid HR5
        have HC := Lib.hid HC5
        have HG := Lib.hid HG5
        clear HL5 HR5 HC5 HG5
        go_wp2_with fail
        refine (one_any g a3 4 _ HC.out (by omega) (by omega) (by omega)).mono ?_
        rintro e w6 ⟨b, a4, rfl, ha4, hc6, hg6⟩
        have HL := Lib.hid (HL.out.gr hg6 (by omega))
        have HR := Lib.hid (HR.out.gr hg6 (by omega))
        have HG := Lib.hid (HG.out.trans hg6)
        have HC := Lib.hid hc6
        clear hc6 hg6
        have l0 : w6.cell? ⟨w.heap.size + 1, 0, none⟩ = some (.string d) := HL.out.cell 0
        have fl0 := HL.out.frozen 0
        have l1 : w6.cell? ⟨w.heap.size + 1, 1, none⟩ = some (.string P) := HL.out.cell 1
        have fl1 := HL.out.frozen 1
        have l2 : w6.cell? ⟨w.heap.size + 1, 2, none⟩ = some (.int .i64 Z) := HL.out.cell 2
        have fl2 := HL.out.frozen 2
        cases b
        · go_wp2
          go_roundw
          case rel => exact ⟨m - 1, a4, d, P, Z, by go_num, by omega, by omega, by omega, by omega, by omega, HR, HL, HC, HG⟩
          case measure => simp [intOf]; omega
        · have hD := syncD_size d P Z
          obtain ⟨hY0, hY1⟩ := syncZ_le d P Z (by omega)
          go_wp2_with fail
          refine (specSync_any d P Z _ (by omega) (by omega)).mono ?_
          rintro e w7 ⟨rfl, hb7⟩
          generalize syncD d P Z = D at *
          generalize syncZ d P Z = Y at *
          have HL := Lib.hid (HL.out.ext hb7)
          have HR := Lib.hid (HR.out.ext hb7)
          have HG := Lib.hid (HG.out.trans (Gr.of_ext hb7))
          have HC := Lib.hid (HC.out.ext hb7)
          clear hb7 l0 l1 l2 fl0 fl1 fl2
          have l0 : w7.cell? ⟨w.heap.size + 1, 0, none⟩ = some (.string d) := HL.out.cell 0
          have fl0 := HL.out.frozen 0
          have l1 : w7.cell? ⟨w.heap.size + 1, 1, none⟩ = some (.string P) := HL.out.cell 1
          have fl1 := HL.out.frozen 1
          have l2 : w7.cell? ⟨w.heap.size + 1, 2, none⟩ = some (.int .i64 Z) := HL.out.cell 2
          have fl2 := HL.out.frozen 2
          go_wp2
          go_roundw
          case rel =>
            refine ⟨m - 1, a4, D, ⟨#[]⟩, Y, by go_num, by omega, by simp [lit_size]; omega, by omega, by omega, by omega, ?_, ?_, ?_, ?_⟩
            · exact Lib.hid (((HR.out.far (by show w.heap.size ≠ w.heap.size + 1; omega) _).far (by show w.heap.size ≠ w.heap.size + 1; omega) _).far (by show w.heap.size ≠ w.heap.size + 1; omega) _)
            · refine Lib.hid ?_
              have := ((HL.out.set_ 0 (.string D)).set_ 1 (.string ⟨#[]⟩)).set_ 2 (.int .i64 Y)
              simpa using this
            · exact Lib.hid (((HC.out.far (by show g < w.heap.size + 1; omega) _).far (by show g < w.heap.size + 1; omega) _).far (by show g < w.heap.size + 1; omega) _)
            · exact Lib.hid (((HG.out.setNew (by show w.heap.size ≤ w.heap.size + 1; omega) _).setNew (by show w.heap.size ≤ w.heap.size + 1; omega) _).setNew (by show w.heap.size ≤ w.heap.size + 1; omega) _)
          case measure => simp [intOf]; omega
    · go_wp2
      refine bodyPost_ret (v := logV d p z) (by simp [results, Try.results58, go_sem, *]) rfl ⟨d, p, z, a2, rfl, by omega, hz0, by omega, by omega, ?_, ?_⟩
      · exact ((HC.out.far (by show g < w.heap.size; omega) _).far (by show g < w.heap.size; omega) _).far (by show g < w.heap.size; omega) _
      · exact ((HG.out.setNew (Nat.le_refl _) _).setNew (Nat.le_refl _) _).setNew (Nat.le_refl _) _
end Go.Proofs.Ytdielldikdmjpaa
