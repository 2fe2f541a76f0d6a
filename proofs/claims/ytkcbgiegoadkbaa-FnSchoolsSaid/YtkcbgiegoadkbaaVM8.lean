/- The drawing of a school out of a code. -/
import Derived.Test.YtkcbgiegoadkbaaVCurQ
namespace Go.Proofs.Ytkcbgiegoadkbaa
open Go.RowKit
set_option linter.unusedVariables false
set_option linter.unusedSimpArgs false
/-- a school is drawn out of a code -/
def DrawnSch (w : World) (e : Ending) (w' : World) : Prop := ∃ (D P Q : Int) (l : List R5) (A : Option Addr) (c : Nat), e = .returned (schV D A l.length c P Q) ∧ l.length ≤ 9 ∧ (∀ r ∈ l, 0 ≤ r.a ∧ r.a ≤ 100) ∧ w'.ownsRow w.heap.size 55 5 (.slice A l.length c) l.length (rowsV l) ∧ Below w.heap.size w w'
end Go.Proofs.Ytkcbgiegoadkbaa
namespace Go.Proofs.Ytkcbgiegoadkbaa
open Go.RowKit
set_option linter.unusedVariables false
set_option linter.unusedSimpArgs false
def DrawnStp (w : World) (e : Ending) (w' : World) : Prop := ∃ (D P Q : Int) (l : List R5) (A : Option Addr) (c : Nat) (k id v : Int), e = .returned (.tuple #[schV D A l.length c P Q, .agg #[.int .i64 k, .int .i64 id, .int .i64 v]]) ∧ l.length ≤ 9 ∧ v ≤ 4001 ∧ w'.ownsRow w.heap.size 55 5 (.slice A l.length c) l.length (rowsV l) ∧ Below w.heap.size w w'
set_option maxHeartbeats 1000000 in
theorem drawNew_any (Ac : Option Addr) (nc cc : Nat) (w : World) (h : Code w w.heap.size Ac nc) (hn : nc ≤ 65536) : Calls Try.prog 15 #[.slice Ac nc cc] w fun e w' => ∃ z : Int, e = .returned (.int .i64 z) ∧ Below w.heap.size w w' := by
 have HC := Lib.hid (h.cur (by omega) cc)
 clear h
 go_enter Try.func15, Try.ntmps15
 go_wp2_with fail
 refine (among_lit _ 0 (-1) 4001 [0, 10, 4000, 4001, -1] 3 _ HC.out (by omega) (by decide) (by decide) (by decide) _ rfl (by simp)).mono ?_
 rintro e w1 ⟨z, a1, rfl, z0, z1, ha1, hc, hg⟩
 have HX := Lib.hid (Gr.below (ext_alloc (ext_refl w) (.cells #[.slice Ac nc cc, .int .i64 0, .int .u64 0] 47)) hg (Nat.le_refl _))
 clear hc hg
 go_wp2
 go_ret
 exact ⟨z, rfl, HX.out⟩
set_option maxRecDepth 100000 in
set_option maxHeartbeats 4000000 in
theorem drawStep_any (Ac : Option Addr) (nc cc : Nat) (w : World) (h : Code w w.heap.size Ac nc) (hn : nc ≤ 65536) : Calls Try.prog 5 #[.slice Ac nc cc] w (DrawnStp w) := by
 have HC : Hid (CurAt (((w.alloc (.cells #[.int .i64 0, .slice none 0 0, .int .i64 0, .int .i64 0] 26)).alloc (.cells #[.int .i64 0, .int .i64 0, .int .i64 0] 28)).alloc (.cells #[.slice Ac nc cc, .int .i64 0, .int .u64 0] 47)) (w.heap.size + 1 + 1) 0) := Lib.hid (by
  have := Code.cur1 (w := w.alloc (.cells #[.int .i64 0, .slice none 0 0, .int .i64 0, .int .i64 0] 26)) ((h.below (ext_alloc (ext_refl w) _)).more (by simp)) (by omega) cc (.cells #[.int .i64 0, .int .i64 0, .int .i64 0] 28)
  simpa using this)
 clear h
 go_enter Try.func5, Try.ntmps5
 go_wp2_with fail
 refine (school_any _ 0 _ HC.out (by omega)).mono ?_
 rintro e w1 ⟨D, P, Q, l, A, c, a1, rfl, hl9, hid, ho, ha1, hc, hg⟩
 have s01 : w.heap.size + 1 + 1 < w1.heap.size := hc.lt
 have C1 := Lib.hid hc
 have X1 : Hid (Below w.heap.size w w1) := Lib.hid (Gr.below (ext_alloc (ext_alloc (ext_alloc (ext_refl w) (.cells #[.int .i64 0, .slice none 0 0, .int .i64 0, .int .i64 0] 26)) (.cells #[.int .i64 0, .int .i64 0, .int .i64 0] 28)) (.cells #[.slice Ac nc cc, .int .i64 0, .int .u64 0] 47)) hg (by omega))
 have R1 : Hid (Blk w1 w.heap.size 26 #[.int .i64 0, .slice none 0 0, .int .i64 0, .int .i64 0]) := Lib.hid (((Blk.new w _ _).ext (ext_alloc (ext_alloc (ext_refl _) _) _)).gr hg (by omega))
 have T1 : Hid (Blk w1 (w.heap.size + 1) 28 #[.int .i64 0, .int .i64 0, .int .i64 0]) := Lib.hid (by
  have := ((Blk.new (w.alloc (.cells #[.int .i64 0, .slice none 0 0, .int .i64 0, .int .i64 0] 26)) #[.int .i64 0, .int .i64 0, .int .i64 0] 28).ext (ext_alloc (ext_refl _) (.cells #[.slice Ac nc cc, .int .i64 0, .int .u64 0] 47))).gr hg (by simp)
  simpa using this)
 have O1 := Lib.hid ho
 have HID := Lib.hid hid
 clear hc hg ho hid HC
 obtain ⟨w2, hw2⟩ : ∃ w2, w2 = w1.alloc (.cells #[.int .i64 D, .slice A l.length c, .int .i64 P, .int .i64 Q] 26) := ⟨_, rfl⟩
 have e2 : Below w1.heap.size w1 w2 := by rw [hw2]; exact ext_alloc (ext_refl _) _
 have C2 := Lib.hid (C1.out.ext e2)
 have X2 := Lib.hid (ext_trans X1.out e2)
 have R2 := Lib.hid (R1.out.ext e2)
 have T2 := Lib.hid (T1.out.ext e2)
 have S2 : Hid (Blk w2 w1.heap.size 26 #[.int .i64 D, .slice A l.length c, .int .i64 P, .int .i64 Q]) := Lib.hid (by rw [hw2]; exact Blk.new _ _ _)
 have O2 := Lib.hid (own_ext O1.out e2)
 have sS2 := S2.out.lt
 clear e2 C1 X1 R1 T1 O1
 obtain ⟨x0, x1, x2, x3⟩ := S2.out.q4
 obtain ⟨fx0, fx1, fx2, fx3⟩ := S2.out.z4
 go_upto_region 3 with fail
 rw [← hw2]
 clear hw2
 go_region_with (first | (go_at_call 19; refine (schoolStep_any _ a1 D P Q A l.length c l w2.drew (C2.out.ext (ext_drew (ext_refl _))) (by omega) (by omega) (World.ownsRow.drew O2.out) HID.out).mono ?_; rintro e w4 ⟨k, id, v, a3, rfl, _, _, ⟨_, hv⟩, ha3, hc, hg⟩; have BS4 := (S2.out.ext (ext_drew (ext_refl _))).gr hg (by omega); have BR4 := (R2.out.ext (ext_drew (ext_refl _))).gr hg (by omega); have BT4 := (T2.out.ext (ext_drew (ext_refl _))).gr hg (by omega); have HO4 := Lib.hid (own_gr (World.ownsRow.drew O2.out) hg (Nat.lt_succ_self _)); have zS4 := BS4.lt; have zR4 := BR4.lt; have zT4 := BT4.lt; obtain ⟨y0, y1, y2, y3⟩ := BS4.q4; obtain ⟨q0, q1, q2, q3⟩ := BR4.q4; obtain ⟨fq0, fq1, fq2, fq3⟩ := BR4.z4; obtain ⟨t0, t1, t2⟩ := BT4.q3; obtain ⟨ft0, ft1, ft2⟩ := BT4.z3; have HR4 := Lib.hid BR4; have HT4 := Lib.hid BT4; clear BS4 BR4 BT4))
 all_goals
  have HX4 := Lib.hid (Gr.below (ext_drew X2.out) hg (by omega))
  have hneR := Lib.hid (own_nb HO4.out HR4.out (by decide))
  have hneT := Lib.hid (own_nb HO4.out HT4.out (by decide))
  have HO5 := Lib.hid (own_base (base' := w.heap.size) HO4.out (by omega))
  clear hg hc
  go_wp2
  refine bodyPost_ret (v := .tuple #[schV D A l.length c P Q, .agg #[.int .i64 k, .int .i64 id, .int .i64 v]]) (by simp [results, Try.results5, go_sem, *]) rfl ⟨D, P, Q, l, A, c, k, id, v, rfl, hl9, hv, ?_, ?_⟩
  · iterate 7 with_reducible refine own_set_nb ?_ (by first | exact hneR.out | exact hneT.out) _
    exact HO5.out
  · exact (by repeat (first | (with_reducible exact HX4.out) | (refine ext_set ?_ (by first | exact Nat.le_refl _ | exact Nat.le_succ _) _)))
end Go.Proofs.Ytkcbgiegoadkbaa
