/- The drawing of a log and a record. -/
import Derived.Test.YtdielldikdmjpaaDrawL
namespace Go.Proofs.Ytdielldikdmjpaa
open Go.RowKit
set_option linter.unusedVariables false
set_option linter.unusedSimpArgs false
set_option maxHeartbeats 4000000 in
theorem drawAppend_any (A : Option Addr) (n c : Nat) (w : World) (h : Code w w.heap.size A n) (hn : n ≤ 65536) :
    Calls Try.prog 41 #[.slice A n c] w fun e w' => ∃ (d p : ByteArray) (z : Int) (s r : ByteArray), e = .returned (.tuple #[logV d p z, recV s r]) ∧ d.size + p.size ≤ 5100 ∧ 0 ≤ z ∧ z ≤ 60 ∧ s.size ≤ 20 ∧ r.size ≤ 20 ∧ Below w.heap.size w w' := by
  have HC : Hid (CurAt (((w.alloc (.cells #[.string ⟨#[]⟩, .string ⟨#[]⟩, .int .i64 0] 33)).alloc (.cells #[.string ⟨#[]⟩, .string ⟨#[]⟩] 26)).alloc (.cells #[.slice A n c, .int .i64 0, .int .u64 0] 75)) (w.heap.size + 1 + 1) 0) := by
    have := Code.cur1 (((h.below (ext_alloc (ext_refl _) (.cells #[.string ⟨#[]⟩, .string ⟨#[]⟩, .int .i64 0] 33))).more (B' := (w.alloc (.cells #[.string ⟨#[]⟩, .string ⟨#[]⟩, .int .i64 0] 33)).heap.size) (by simp))) (by omega) c (.cells #[.string ⟨#[]⟩, .string ⟨#[]⟩] 26)
    exact Lib.hid (by simpa using this)
  clear h
  go_enter Try.func41, Try.ntmps41
  go_wp2_with fail
  refine (anyLog_any _ 0 _ HC.out (by omega)).mono ?_
  rintro e w1 ⟨d, p, z, a1, rfl, hdp, hz0, hz6, ha1, hc1, hg1⟩
  have s01 : w.heap.size + 1 + 1 < w1.heap.size := hc1.lt
  have s01a : w.heap.size + 1 < w1.heap.size := by omega
  have s01b : w.heap.size < w1.heap.size := by omega
  have HX := Lib.hid (Gr.below (ext_alloc (ext_alloc (ext_alloc (ext_refl w) (.cells #[.string ⟨#[]⟩, .string ⟨#[]⟩, .int .i64 0] 33)) (.cells #[.string ⟨#[]⟩, .string ⟨#[]⟩] 26)) (.cells #[.slice A n c, .int .i64 0, .int .u64 0] 75)) hg1 (by omega))
  have HA : Hid (Blk w1 w.heap.size 33 #[.string ⟨#[]⟩, .string ⟨#[]⟩, .int .i64 0]) := Lib.hid ((((Blk.new w _ _).ext (ext_alloc (ext_refl _) _)).ext (ext_alloc (ext_refl _) _)).gr hg1 (by omega))
  have HB : Hid (Blk w1 (w.heap.size + 1) 26 #[.string ⟨#[]⟩, .string ⟨#[]⟩]) := Lib.hid (by
    have := ((Blk.new (w.alloc (.cells #[.string ⟨#[]⟩, .string ⟨#[]⟩, .int .i64 0] 33)) #[.string ⟨#[]⟩, .string ⟨#[]⟩] 26).ext (ext_alloc (ext_refl _) (.cells #[.slice A n c, .int .i64 0, .int .u64 0] 75))).gr hg1 (by simp)
    simpa using this)
  clear hg1
  go_wp2_with fail
  refine (one_any _ a1 40 _ (hc1.ext (ext_alloc (ext_refl _) _)) (by omega) (by omega) (by omega)).mono ?_
  rintro e w2 ⟨b, a2, rfl, ha2, hc2, hg2⟩
  have HX := Lib.hid (Gr.below (ext_alloc HX.out (.cells #[.string d, .string p, .int .i64 z] 33)) hg2 (by omega))
  have HA := Lib.hid ((HA.out.ext (ext_alloc (ext_refl _) (.cells #[.string d, .string p, .int .i64 z] 33))).gr hg2 (by omega))
  have HB := Lib.hid ((HB.out.ext (ext_alloc (ext_refl _) (.cells #[.string d, .string p, .int .i64 z] 33))).gr hg2 (by omega))
  have HL : Hid (Blk w2 w1.heap.size 33 #[.string d, .string p, .int .i64 z]) := Lib.hid ((Blk.new w1 _ _).gr hg2 (by omega))
  have HC := Lib.hid hc2
  have s12 : w1.heap.size < w2.heap.size := HL.out.lt
  have s02 : w.heap.size < w2.heap.size := by omega
  have s02a : w.heap.size + 1 < w2.heap.size := by omega
  clear hc1 hg2 hc2
  have ra0 : w2.cell? ⟨w.heap.size, 0, none⟩ = some (.string ⟨#[]⟩) := HA.out.cell 0
  have fra0 := HA.out.frozen 0
  have ra1 : w2.cell? ⟨w.heap.size, 1, none⟩ = some (.string ⟨#[]⟩) := HA.out.cell 1
  have fra1 := HA.out.frozen 1
  have ra2 : w2.cell? ⟨w.heap.size, 2, none⟩ = some (.int .i64 0) := HA.out.cell 2
  have fra2 := HA.out.frozen 2
  have rb0 : w2.cell? ⟨w.heap.size + 1, 0, none⟩ = some (.string ⟨#[]⟩) := HB.out.cell 0
  have frb0 := HB.out.frozen 0
  have rb1 : w2.cell? ⟨w.heap.size + 1, 1, none⟩ = some (.string ⟨#[]⟩) := HB.out.cell 1
  have frb1 := HB.out.frozen 1
  have l0 : w2.cell? ⟨w1.heap.size, 0, none⟩ = some (.string d) := HL.out.cell 0
  have fl0 := HL.out.frozen 0
  have l1 : w2.cell? ⟨w1.heap.size, 1, none⟩ = some (.string p) := HL.out.cell 1
  have fl1 := HL.out.frozen 1
  have l2 : w2.cell? ⟨w1.heap.size, 2, none⟩ = some (.int .i64 z) := HL.out.cell 2
  have fl2 := HL.out.frozen 2
  cases b
  · go_wp2
    go_region_with (go_at_call 57; refine (logRecord_any _ a2 _ (HC.out.ext (ext_drew (ext_refl _))) (by omega)).mono ?_; rintro e wf ⟨cf, rf, af, rfl, hcf, hrf, haf, hcuf, hgf⟩; have HA := Lib.hid ((HA.out.ext (ext_drew (ext_refl _))).gr hgf (by omega)); have HB := Lib.hid ((HB.out.ext (ext_drew (ext_refl _))).gr hgf (by omega)); have HL := Lib.hid ((HL.out.ext (ext_drew (ext_refl _))).gr hgf (by omega)); have HX := Lib.hid (Gr.below (ext_drew HX.out) hgf (by omega)); clear hgf; have ra0 : wf.cell? ⟨w.heap.size, 0, none⟩ = some (.string ⟨#[]⟩) := HA.out.cell 0; have fra0 := HA.out.frozen 0; have ra1 : wf.cell? ⟨w.heap.size, 1, none⟩ = some (.string ⟨#[]⟩) := HA.out.cell 1; have fra1 := HA.out.frozen 1; have ra2 : wf.cell? ⟨w.heap.size, 2, none⟩ = some (.int .i64 0) := HA.out.cell 2; have fra2 := HA.out.frozen 2; have rb0 : wf.cell? ⟨w.heap.size + 1, 0, none⟩ = some (.string ⟨#[]⟩) := HB.out.cell 0; have frb0 := HB.out.frozen 0; have rb1 : wf.cell? ⟨w.heap.size + 1, 1, none⟩ = some (.string ⟨#[]⟩) := HB.out.cell 1; have frb1 := HB.out.frozen 1; have l0 : wf.cell? ⟨w1.heap.size, 0, none⟩ = some (.string d) := HL.out.cell 0; have fl0 := HL.out.frozen 0; have l1 : wf.cell? ⟨w1.heap.size, 1, none⟩ = some (.string p) := HL.out.cell 1; have fl1 := HL.out.frozen 1; have l2 : wf.cell? ⟨w1.heap.size, 2, none⟩ = some (.int .i64 z) := HL.out.cell 2; have fl2 := HL.out.frozen 2)
    all_goals
      go_wp2
      refine bodyPost_ret (v := .tuple #[logV d p z, recV cf rf]) (by simp [results, Try.results41, go_sem, *]) rfl ⟨d, p, z, cf, rf, rfl, by omega, by omega, by omega, by omega, by omega, (by repeat (first | exact HX.out | refine ext_set ?_ (by first | exact Nat.le_refl _ | exact Nat.le_succ _) _))⟩
  · go_wp2_with fail
    have HL3 : Blk (((w2.setCell ⟨w1.heap.size, 0, none⟩ (.string ⟨#[]⟩)).setCell ⟨w1.heap.size, 1, none⟩ (.string ⟨#[]⟩)).setCell ⟨w1.heap.size, 2, none⟩ (.int .i64 0)) w1.heap.size 33 #[.string ⟨#[]⟩, .string ⟨#[]⟩, .int .i64 0] := by
      have := ((HL.out.set_ 0 (.string ⟨#[]⟩)).set_ 1 (.string ⟨#[]⟩)).set_ 2 (.int .i64 0)
      simpa using this
    have HA3 : Blk (((w2.setCell ⟨w1.heap.size, 0, none⟩ (.string ⟨#[]⟩)).setCell ⟨w1.heap.size, 1, none⟩ (.string ⟨#[]⟩)).setCell ⟨w1.heap.size, 2, none⟩ (.int .i64 0)) w.heap.size 33 #[.string ⟨#[]⟩, .string ⟨#[]⟩, .int .i64 0] := (((HA.out.far (by show w.heap.size ≠ w1.heap.size; omega) _).far (by show w.heap.size ≠ w1.heap.size; omega) _).far (by show w.heap.size ≠ w1.heap.size; omega) _)
    have HB3 : Blk (((w2.setCell ⟨w1.heap.size, 0, none⟩ (.string ⟨#[]⟩)).setCell ⟨w1.heap.size, 1, none⟩ (.string ⟨#[]⟩)).setCell ⟨w1.heap.size, 2, none⟩ (.int .i64 0)) (w.heap.size + 1) 26 #[.string ⟨#[]⟩, .string ⟨#[]⟩] := (((HB.out.far (by show w.heap.size + 1 ≠ w1.heap.size; omega) _).far (by show w.heap.size + 1 ≠ w1.heap.size; omega) _).far (by show w.heap.size + 1 ≠ w1.heap.size; omega) _)
    have HC3 : CurAt (((w2.setCell ⟨w1.heap.size, 0, none⟩ (.string ⟨#[]⟩)).setCell ⟨w1.heap.size, 1, none⟩ (.string ⟨#[]⟩)).setCell ⟨w1.heap.size, 2, none⟩ (.int .i64 0)) (w.heap.size + 1 + 1) a2 := (((HC.out.far (by show w.heap.size + 1 + 1 < w1.heap.size; omega) _).far (by show w.heap.size + 1 + 1 < w1.heap.size; omega) _).far (by show w.heap.size + 1 + 1 < w1.heap.size; omega) _)
    have HX3 : Below w.heap.size w (((w2.setCell ⟨w1.heap.size, 0, none⟩ (.string ⟨#[]⟩)).setCell ⟨w1.heap.size, 1, none⟩ (.string ⟨#[]⟩)).setCell ⟨w1.heap.size, 2, none⟩ (.int .i64 0)) := ext_set (ext_set (ext_set HX.out (by show w.heap.size ≤ w1.heap.size; omega) _) (by show w.heap.size ≤ w1.heap.size; omega) _) (by show w.heap.size ≤ w1.heap.size; omega) _
    clear HL l0 l1 l2 fl0 fl1 fl2 ra0 ra1 ra2 rb0 rb1 fra0 fra1 fra2 frb0 frb1
    generalize (((w2.setCell ⟨w1.heap.size, 0, none⟩ (.string ⟨#[]⟩)).setCell ⟨w1.heap.size, 1, none⟩ (.string ⟨#[]⟩)).setCell ⟨w1.heap.size, 2, none⟩ (.int .i64 0)) = w3 at *
    clear HA HB HC HX
    refine (pick_any _ a2 2 _ HC3 (by omega) (by omega) (by omega)).mono ?_
    rintro e w4 ⟨y, a3, rfl, y0, y1, ha3, hc4, hg4⟩
    obtain ⟨q, rfl⟩ := Int.eq_ofNat_of_zero_le y0
    have HX := Lib.hid (Gr.below HX3 hg4 (by omega))
    have HA := Lib.hid (HA3.gr hg4 (by omega))
    have HB := Lib.hid (HB3.gr hg4 (by omega))
    have HL := Lib.hid (HL3.gr hg4 (by omega))
    have HC := Lib.hid hc4
    clear HX3 HA3 HB3 HL3 HC3 hg4 hc4 hdp hz0 hz6
    go_wp2
    go_loopw [6] (fun i wr => ∃ (m : Nat) (d p : ByteArray) (z : Int), i = .int .i64 m ∧ m ≤ 60 ∧ d.size + p.size + m * 85 ≤ 5100 ∧ 0 ≤ z ∧ z + m ≤ 60 ∧ Hid (Below w.heap.size w wr) ∧ Hid (Blk wr w.heap.size 33 #[.string ⟨#[]⟩, .string ⟨#[]⟩, .int .i64 0]) ∧ Hid (Blk wr (w.heap.size + 1) 26 #[.string ⟨#[]⟩, .string ⟨#[]⟩]) ∧ Hid (Blk wr w1.heap.size 33 #[.string d, .string p, .int .i64 z]) ∧ Hid (CurAt wr (w.heap.size + 1 + 1) a3)) (fun i _ => (intOf i).toNat)
    case atStart => exact ⟨59 + q, ⟨#[]⟩, ⟨#[]⟩, 0, by go_num, by omega, by simp [lit_size]; omega, by omega, by omega, HX, HA, HB, HL, HC⟩
    case round =>
      clear HX HA HB HL HC
      obtain ⟨m, d, p, z, rfl, hm, hdp, hz0, hzm, HX, HA, HB, HL, HC⟩ := hrel
      have sA := HA.out.lt
      have sB := HB.out.lt
      have sL := HL.out.lt
      have ra0 : wr.cell? ⟨w.heap.size, 0, none⟩ = some (.string ⟨#[]⟩) := HA.out.cell 0
      have fra0 := HA.out.frozen 0
      have ra1 : wr.cell? ⟨w.heap.size, 1, none⟩ = some (.string ⟨#[]⟩) := HA.out.cell 1
      have fra1 := HA.out.frozen 1
      have ra2 : wr.cell? ⟨w.heap.size, 2, none⟩ = some (.int .i64 0) := HA.out.cell 2
      have fra2 := HA.out.frozen 2
      have rb0 : wr.cell? ⟨w.heap.size + 1, 0, none⟩ = some (.string ⟨#[]⟩) := HB.out.cell 0
      have frb0 := HB.out.frozen 0
      have rb1 : wr.cell? ⟨w.heap.size + 1, 1, none⟩ = some (.string ⟨#[]⟩) := HB.out.cell 1
      have frb1 := HB.out.frozen 1
      have l0 : wr.cell? ⟨w1.heap.size, 0, none⟩ = some (.string d) := HL.out.cell 0
      have fl0 := HL.out.frozen 0
      have l1 : wr.cell? ⟨w1.heap.size, 1, none⟩ = some (.string p) := HL.out.cell 1
      have fl1 := HL.out.frozen 1
      have l2 : wr.cell? ⟨w1.heap.size, 2, none⟩ = some (.int .i64 z) := HL.out.cell 2
      have fl2 := HL.out.frozen 2
      by_cases hm0 : 0 < m
      · have hP := appP_size d p z ⟨#[120]⟩ ⟨#[]⟩ (by decide) (by decide)
        obtain ⟨hZ0, hZ1⟩ := appZ_le d p z ⟨#[120]⟩ ⟨#[]⟩
        have HQ := Lib.hid (fun w => specAppend_any d p z ⟨#[120]⟩ ⟨#[]⟩ w (by omega) (by omega) (by decide) (by decide))
        generalize appP d p z ⟨#[120]⟩ ⟨#[]⟩ = P at *
        generalize appZ d p z ⟨#[120]⟩ ⟨#[]⟩ = Z at *
        generalize appC d p z ⟨#[120]⟩ ⟨#[]⟩ = C at *
        go_wp2_with fail
        refine (HQ.out _).mono ?_
        rintro e w5 ⟨rfl, hb5⟩
        have HX := Lib.hid (ext_trans HX.out hb5)
        have HA := Lib.hid (HA.out.ext hb5)
        have HB := Lib.hid (HB.out.ext hb5)
        have HL := Lib.hid (HL.out.ext hb5)
        have HC := Lib.hid (HC.out.ext hb5)
        have sL5 := HL.out.lt
        clear hb5 l0 l1 l2 fl0 fl1 fl2 ra0 ra1 ra2 rb0 rb1 fra0 fra1 fra2 frb0 frb1
        have l0 : w5.cell? ⟨w1.heap.size, 0, none⟩ = some (.string d) := HL.out.cell 0
        have fl0 := HL.out.frozen 0
        have l1 : w5.cell? ⟨w1.heap.size, 1, none⟩ = some (.string p) := HL.out.cell 1
        have fl1 := HL.out.frozen 1
        have l2 : w5.cell? ⟨w1.heap.size, 2, none⟩ = some (.int .i64 z) := HL.out.cell 2
        have fl2 := HL.out.frozen 2
        have HL3 : Blk (((w5.setCell ⟨w1.heap.size, 0, none⟩ (.string d)).setCell ⟨w1.heap.size, 1, none⟩ (.string P)).setCell ⟨w1.heap.size, 2, none⟩ (.int .i64 Z)) w1.heap.size 33 #[.string d, .string P, .int .i64 Z] := by
          have := ((HL.out.set_ 0 (.string d)).set_ 1 (.string P)).set_ 2 (.int .i64 Z)
          simpa using this
        have HA3 : Blk (((w5.setCell ⟨w1.heap.size, 0, none⟩ (.string d)).setCell ⟨w1.heap.size, 1, none⟩ (.string P)).setCell ⟨w1.heap.size, 2, none⟩ (.int .i64 Z)) w.heap.size 33 #[.string ⟨#[]⟩, .string ⟨#[]⟩, .int .i64 0] := (((HA.out.far (by show w.heap.size ≠ w1.heap.size; omega) _).far (by show w.heap.size ≠ w1.heap.size; omega) _).far (by show w.heap.size ≠ w1.heap.size; omega) _)
        have HB3 : Blk (((w5.setCell ⟨w1.heap.size, 0, none⟩ (.string d)).setCell ⟨w1.heap.size, 1, none⟩ (.string P)).setCell ⟨w1.heap.size, 2, none⟩ (.int .i64 Z)) (w.heap.size + 1) 26 #[.string ⟨#[]⟩, .string ⟨#[]⟩] := (((HB.out.far (by show w.heap.size + 1 ≠ w1.heap.size; omega) _).far (by show w.heap.size + 1 ≠ w1.heap.size; omega) _).far (by show w.heap.size + 1 ≠ w1.heap.size; omega) _)
        have HC3 : CurAt (((w5.setCell ⟨w1.heap.size, 0, none⟩ (.string d)).setCell ⟨w1.heap.size, 1, none⟩ (.string P)).setCell ⟨w1.heap.size, 2, none⟩ (.int .i64 Z)) (w.heap.size + 1 + 1) a3 := (((HC.out.far (by show w.heap.size + 1 + 1 < w1.heap.size; omega) _).far (by show w.heap.size + 1 + 1 < w1.heap.size; omega) _).far (by show w.heap.size + 1 + 1 < w1.heap.size; omega) _)
        have HX3 : Below w.heap.size w (((w5.setCell ⟨w1.heap.size, 0, none⟩ (.string d)).setCell ⟨w1.heap.size, 1, none⟩ (.string P)).setCell ⟨w1.heap.size, 2, none⟩ (.int .i64 Z)) := ext_set (ext_set (ext_set HX.out (by show w.heap.size ≤ w1.heap.size; omega) _) (by show w.heap.size ≤ w1.heap.size; omega) _) (by show w.heap.size ≤ w1.heap.size; omega) _
        go_wp2
        go_roundw
        case rel => exact ⟨m - 1, d, P, Z, by go_num, by omega, by omega, by omega, by omega, Lib.hid HX3, Lib.hid HA3, Lib.hid HB3, Lib.hid HL3, Lib.hid HC3⟩
        case measure => simp [intOf]; omega
      · go_wp2
        go_region_with (go_at_call 57; refine (logRecord_any _ a3 _ (HC.out.ext (ext_drew (ext_refl _))) (by omega)).mono ?_; rintro e wf ⟨cf, rf, af, rfl, hcf, hrf, haf, hcuf, hgf⟩; have HA := Lib.hid ((HA.out.ext (ext_drew (ext_refl _))).gr hgf (by omega)); have HB := Lib.hid ((HB.out.ext (ext_drew (ext_refl _))).gr hgf (by omega)); have HL := Lib.hid ((HL.out.ext (ext_drew (ext_refl _))).gr hgf (by omega)); have HX := Lib.hid (Gr.below (ext_drew HX.out) hgf (by omega)); clear hgf; have ra0 : wf.cell? ⟨w.heap.size, 0, none⟩ = some (.string ⟨#[]⟩) := HA.out.cell 0; have fra0 := HA.out.frozen 0; have ra1 : wf.cell? ⟨w.heap.size, 1, none⟩ = some (.string ⟨#[]⟩) := HA.out.cell 1; have fra1 := HA.out.frozen 1; have ra2 : wf.cell? ⟨w.heap.size, 2, none⟩ = some (.int .i64 0) := HA.out.cell 2; have fra2 := HA.out.frozen 2; have rb0 : wf.cell? ⟨w.heap.size + 1, 0, none⟩ = some (.string ⟨#[]⟩) := HB.out.cell 0; have frb0 := HB.out.frozen 0; have rb1 : wf.cell? ⟨w.heap.size + 1, 1, none⟩ = some (.string ⟨#[]⟩) := HB.out.cell 1; have frb1 := HB.out.frozen 1; have l0 : wf.cell? ⟨w1.heap.size, 0, none⟩ = some (.string d) := HL.out.cell 0; have fl0 := HL.out.frozen 0; have l1 : wf.cell? ⟨w1.heap.size, 1, none⟩ = some (.string p) := HL.out.cell 1; have fl1 := HL.out.frozen 1; have l2 : wf.cell? ⟨w1.heap.size, 2, none⟩ = some (.int .i64 z) := HL.out.cell 2; have fl2 := HL.out.frozen 2)
        all_goals
          go_wp2
          refine bodyPost_ret (v := .tuple #[logV d p z, recV cf rf]) (by simp [results, Try.results41, go_sem, *]) rfl ⟨d, p, z, cf, rf, rfl, by omega, by omega, by omega, by omega, by omega, (by repeat (first | exact HX.out | refine ext_set ?_ (by first | exact Nat.le_refl _ | exact Nat.le_succ _) _))⟩
end Go.Proofs.Ytdielldikdmjpaa
