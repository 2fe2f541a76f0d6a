/- The drawing of a log and of what is kept of it. -/
import Derived.Test.YtdielldikdmjpaaDrawL
namespace Go.Proofs.Ytdielldikdmjpaa
open Go.RowKit
set_option linter.unusedVariables false
set_option linter.unusedSimpArgs false
set_option maxHeartbeats 4000000 in
theorem drawCrash_any (A : Option Addr) (n c : Nat) (w : World) (h : Code w w.heap.size A n) (hn : n ≤ 65536) :
    Calls Try.prog 42 #[.slice A n c] w fun e w' => ∃ (d p : ByteArray) (z k : Int) (t : Bool), e = .returned (.tuple #[logV d p z, .int .i64 k, .bool t]) ∧ d.size + p.size ≤ 5100 ∧ 0 ≤ z ∧ z ≤ 60 ∧ -1 ≤ k ∧ k ≤ p.size + 1 ∧ Below w.heap.size w w' := by
  have HC := Lib.hid (h.cur1 (by omega) c (.cells #[.string ⟨#[]⟩, .string ⟨#[]⟩, .int .i64 0] 33))
  clear h
  go_enter Try.func42, Try.ntmps42
  go_wp2_with fail
  refine (anyLog_any _ 0 _ HC.out (by omega)).mono ?_
  rintro e w1 ⟨d, p, z, a1, rfl, hdp, hz0, hz6, ha1, hc1, hg1⟩
  have s01a : w.heap.size + 1 < w1.heap.size := hc1.lt
  have s01b : w.heap.size < w1.heap.size := by omega
  have HX := Lib.hid (Gr.below (ext_alloc (ext_alloc (ext_refl w) (.cells #[.string ⟨#[]⟩, .string ⟨#[]⟩, .int .i64 0] 33)) (.cells #[.slice A n c, .int .i64 0, .int .u64 0] 75)) hg1 (by omega))
  have HA : Hid (Blk w1 w.heap.size 33 #[.string ⟨#[]⟩, .string ⟨#[]⟩, .int .i64 0]) := Lib.hid (((Blk.new w _ _).ext (ext_alloc (ext_refl _) _)).gr hg1 (by omega))
  clear hg1
  go_wp2_with fail
  rw [show (p.size : Int) + 3 = ((p.size + 3 : Nat) : Int) from by omega]
  refine (pick_any _ a1 (p.size + 3) _ (hc1.ext (ext_alloc (ext_refl _) _)) (by omega) (by omega) (by omega)).mono ?_
  rintro e w2 ⟨q, a2, rfl, q0, q1, ha2, hc2, hg2⟩
  have HX := Lib.hid (Gr.below (ext_alloc HX.out (.cells #[.string d, .string p, .int .i64 z] 33)) hg2 (by omega))
  have HA := Lib.hid ((HA.out.ext (ext_alloc (ext_refl _) (.cells #[.string d, .string p, .int .i64 z] 33))).gr hg2 (by omega))
  have HL : Hid (Blk w2 w1.heap.size 33 #[.string d, .string p, .int .i64 z]) := Lib.hid ((Blk.new w1 _ _).gr hg2 (by omega))
  have HC := Lib.hid hc2
  have s12 : w1.heap.size < w2.heap.size := HL.out.lt
  have s02 : w.heap.size < w2.heap.size := by omega
  clear hc1 hg2 hc2
  have ra0 : w2.cell? ⟨w.heap.size, 0, none⟩ = some (.string ⟨#[]⟩) := HA.out.cell 0
  have fra0 := HA.out.frozen 0
  have ra1 : w2.cell? ⟨w.heap.size, 1, none⟩ = some (.string ⟨#[]⟩) := HA.out.cell 1
  have fra1 := HA.out.frozen 1
  have ra2 : w2.cell? ⟨w.heap.size, 2, none⟩ = some (.int .i64 0) := HA.out.cell 2
  have fra2 := HA.out.frozen 2
  have l0 : w2.cell? ⟨w1.heap.size, 0, none⟩ = some (.string d) := HL.out.cell 0
  have fl0 := HL.out.frozen 0
  have l1 : w2.cell? ⟨w1.heap.size, 1, none⟩ = some (.string p) := HL.out.cell 1
  have fl1 := HL.out.frozen 1
  have l2 : w2.cell? ⟨w1.heap.size, 2, none⟩ = some (.int .i64 z) := HL.out.cell 2
  have fl2 := HL.out.frozen 2
  go_wp2
  go_region_with (go_at_call 61; refine (one_any _ a2 2 _ (HC.out.ext (ext_drew (ext_refl _))) (by omega) (by omega) (by omega)).mono ?_; rintro e wf ⟨b, af, rfl, haf, hcuf, hgf⟩; have HA := Lib.hid ((HA.out.ext (ext_drew (ext_refl _))).gr hgf (by omega)); have HL := Lib.hid ((HL.out.ext (ext_drew (ext_refl _))).gr hgf (by omega)); have HX := Lib.hid (Gr.below (ext_drew HX.out) hgf (by omega)); clear hgf; have ra0 : wf.cell? ⟨w.heap.size, 0, none⟩ = some (.string ⟨#[]⟩) := HA.out.cell 0; have fra0 := HA.out.frozen 0; have ra1 : wf.cell? ⟨w.heap.size, 1, none⟩ = some (.string ⟨#[]⟩) := HA.out.cell 1; have fra1 := HA.out.frozen 1; have ra2 : wf.cell? ⟨w.heap.size, 2, none⟩ = some (.int .i64 0) := HA.out.cell 2; have fra2 := HA.out.frozen 2; have l0 : wf.cell? ⟨w1.heap.size, 0, none⟩ = some (.string d) := HL.out.cell 0; have fl0 := HL.out.frozen 0; have l1 : wf.cell? ⟨w1.heap.size, 1, none⟩ = some (.string p) := HL.out.cell 1; have fl1 := HL.out.frozen 1; have l2 : wf.cell? ⟨w1.heap.size, 2, none⟩ = some (.int .i64 z) := HL.out.cell 2; have fl2 := HL.out.frozen 2)
  all_goals
    go_wp2
    refine bodyPost_ret (v := .tuple #[logV d p z, .int .i64 (q - 1), .bool b]) (by simp [results, Try.results42, go_sem, *]) rfl ⟨d, p, z, q - 1, b, rfl, by omega, by omega, by omega, by omega, by omega, (by repeat (first | exact HX.out | refine ext_set ?_ (by first | exact Nat.le_refl _ | exact Nat.le_succ _) _))⟩
end Go.Proofs.Ytdielldikdmjpaa
