/- What the log's laws draw. -/
import Derived.Test.YtdielldikdmjpaaCurN
namespace Go.Proofs.Ytdielldikdmjpaa
open Go.RowKit
set_option linter.unusedVariables false
set_option linter.unusedSimpArgs false
theorem vBig_any (A : Option Addr) (n c : Nat) (w : World) : Calls Try.prog 38 #[.slice A n c] w fun e w' => e = .returned (.bool (decide ((65536 : Int) < n))) ∧ Below w.heap.size w w' := by
  go_enter Try.func38, Try.ntmps38
  go_wp2
  go_ret
  exact ⟨rfl, (by repeat (first | exact ext_refl _ | assumption | refine ext_alloc ?_ _ | refine ext_drew ?_ | refine ext_drewN ?_ _ | refine ext_set ?_ (by simp <;> omega) _ | refine ext_trans ?_ (by assumption)))⟩
set_option maxHeartbeats 1000000 in
theorem drawEncode_any (A : Option Addr) (n c : Nat) (w : World) (h : Code w w.heap.size A n) (hn : n ≤ 65536) :
    Calls Try.prog 39 #[.slice A n c] w fun e w' => ∃ (k : Int) (s r : ByteArray), e = .returned (.tuple #[.int .i64 k, recV s r]) ∧ -1 ≤ k ∧ k ≤ 60 ∧ s.size ≤ 20 ∧ r.size ≤ 20 ∧ Below w.heap.size w w' := by
  have HC := Lib.hid (h.cur1 (by omega) c (.cells #[.string ⟨#[]⟩, .string ⟨#[]⟩] 26))
  clear h
  go_enter Try.func39, Try.ntmps39
  go_wp2_with fail
  refine (among_lit _ 0 (-1) 60 [0, 1, 12, 59, 60, -1] 3 _ HC.out (by omega) (by decide) (by decide) (by decide) _ rfl (by simp)).mono ?_
  rintro e w1 ⟨k, a1, rfl, k0, k1, ha1, hc1, hg1⟩
  go_wp2_with fail
  refine (logRecord_any _ a1 _ hc1 (by omega)).mono ?_
  rintro e w2 ⟨s, r, a2, rfl, hs, hr, ha2, hc2, hg2⟩
  have hx : Below w.heap.size w w2 := Gr.below (Gr.below (ext_alloc (ext_alloc (ext_refl w) _) _) hg1 (by omega)) hg2 (by omega)
  have BR : Blk w2 w.heap.size 26 #[.string ⟨#[]⟩, .string ⟨#[]⟩] := (((Blk.new w _ _).ext (ext_alloc (ext_refl _) _)).gr hg1 (by omega)).gr hg2 (by omega)
  have r0 : w2.cell? ⟨w.heap.size, 0, none⟩ = some (.string ⟨#[]⟩) := BR.cell 0
  have r1 : w2.cell? ⟨w.heap.size, 1, none⟩ = some (.string ⟨#[]⟩) := BR.cell 1
  have fr0 := BR.frozen 0
  have fr1 := BR.frozen 1
  have HX := Lib.hid hx
  clear hg1 hg2 hx BR hc1 hc2
  go_wp2
  refine bodyPost_ret (v := .tuple #[.int .i64 k, recV s r]) (by simp [results, Try.results39, go_sem, *]) rfl ⟨k, s, r, rfl, k0, k1, hs, hr, ext_set (ext_set HX.out (Nat.le_refl _) _) (Nat.le_refl _) _⟩
end Go.Proofs.Ytdielldikdmjpaa
