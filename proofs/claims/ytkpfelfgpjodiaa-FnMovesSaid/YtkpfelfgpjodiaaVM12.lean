/- What FnMoves draws. -/
import Derived.Test.YtkpfelfgpjodiaaVMvF
import Derived.Test.YtkpfelfgpjodiaaVM1
import Derived.Test.YtkpfelfgpjodiaaVFdB
namespace Go.Proofs.Ytkpfelfgpjodiaa
open Go.RowKit
set_option linter.unusedVariables false
set_option linter.unusedSimpArgs false
set_option maxRecDepth 100000 in
set_option maxHeartbeats 4000000 in
theorem drawUndoMoves_any (Ac : Option Addr) (nc cc : Nat) (w : World) (h : Code w w.heap.size Ac nc) (hn : nc ≤ 65536) :
 Calls Try.prog 22 #[.slice Ac nc cc] w fun e w' => ∃ (ms : List R3) (B : Option Addr) (cb : Nat), e = .returned (.slice B ms.length cb) ∧ ms.length ≤ 61 ∧ w'.ownsRow w.heap.size 41 3 (.slice B ms.length cb) ms.length (rowsV3 ms) ∧ Below w.heap.size w w' := by
 have HC := Lib.hid (h.cur (by omega) cc)
 have hbx := Lib.hid (ext_alloc (ext_refl w) (.cells #[.slice Ac nc cc, .int .i64 0, .int .u64 0] 77))
 obtain ⟨g, hg⟩ : ∃ g, g = w.heap.size := ⟨_, rfl⟩
 rw [← hg] at HC
 clear h
 go_enter Try.func22, Try.ntmps22
 go_wp2_with fail
 rw [← hg]
 have HGE := Lib.hid hg
 clear hg
 refine (frame_any g 0 _ HC.out (by omega)).mono ?_
 rintro e w1 ⟨u, lo, l, A, c, a1, rfl, hIN, ha1, hr1, hc1, hg1⟩
 have HIN := Lib.hid hIN
 have HC1 := Lib.hid hc1
 have HG1 := Lib.hid ((Gr.of_ext hbx.out).trans hg1)
 have HR1 := Lib.hid (own_base (base' := g + 1) hr1 (by rw [HGE.out]; simp))
 have hs1 := HG1.out.size
 clear hIN hr1 hc1 hg1 HC hbx
 go_wp2_with fail
 refine (beads_any g a1 (g + 1) u lo A c l _ HC1.out (by omega) (Nat.lt_succ_self g) HR1.out HIN.out).mono ?_
 rintro e w2 ⟨ms, B, cb, a2, rfl, hl, ho, ha2, hc2, hg2⟩
 have HG2 := Lib.hid (HG1.out.trans hg2)
 have HO := Lib.hid (own_base ho hs1)
 clear ho hc2 hg2 hs1
 go_wp2
 go_ret
 exact ⟨ms, B, cb, rfl, hl, HO.out, Gr.below (ext_refl w) HG2.out (Nat.le_of_eq HGE.out.symm)⟩
end Go.Proofs.Ytkpfelfgpjodiaa
