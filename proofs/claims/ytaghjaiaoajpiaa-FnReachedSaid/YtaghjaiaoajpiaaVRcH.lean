/- What FnReached draws. -/
import Derived.Deep.CutBlock
import Derived.Test.YtaghjaiaoajpiaaVRcB
import Derived.Test.YtaghjaiaoajpiaaVM8
namespace Go.Proofs.Ytaghjaiaoajpiaa
open Go.RowKit
set_option linter.unusedVariables false
set_option linter.unusedSimpArgs false
theorem own_pre {w : World} {B h n c : Nat} {l : List R2} (hr : w.ownsRow B 42 2 (.slice (some ⟨h, 0, none⟩) n c) n (rowsV2 l)) (hl : l.length = n) (h2 : 2 ≤ n) : w.ownsRow B 42 2 (.slice (some ⟨h, 0, none⟩) 2 c) 2 (rowsV2 (l.take 2)) := by
 have e : rowsV2 l = rowsV2 (l.take 2) ++ rowsV2 (l.drop 2) := by rw [← rowsV2_app, List.take_append_drop]
 have e4 : (rowsV2 (l.take 2)).length = 4 := by
  match l, hl with
  | [], hl => simp at hl; omega
  | [_], hl => simp at hl; omega
  | x :: y :: l, _ => rfl
 refine ⟨e4, ?_⟩
 rcases hr.2 with ⟨h0, _⟩ | ⟨g, cap, cur, hv, hb, hh, hnc, hcm, hcs, ht⟩
 · cases h0
 · simp only [Value.slice.injEq, Option.some.injEq, Addr.mk.injEq, and_true, true_and] at hv
   obtain ⟨rfl, rfl⟩ := hv
   refine .inr ⟨h, c, cur, rfl, hb, hh, by omega, hcm, hcs, ?_⟩
   have : (cur.toList.take (n * 2)).take 4 = rowsV2 (l.take 2) := by rw [ht, e, ← e4, List.take_left]
   rw [List.take_take, Nat.min_eq_left (by omega)] at this
   exact this
def DFrS (w : World) (e : Ending) (w' : World) : Prop := ∃ (u lo : Int) (l : List R2) (A : Option Addr) (c : Nat) (z : Int), e = .returned (.tuple #[frV u lo A l.length c, .int .i64 z]) ∧ l.length ≤ 9 ∧ -1 ≤ z ∧ z ≤ 5 ∧ w'.ownsRow w.heap.size 42 2 (.slice A l.length c) l.length (rowsV2 l) ∧ Below w.heap.size w w'
def DrawSm (g a : Nat) (w : World) (e : Ending) (w' : World) : Prop := ∃ (u lo : Int) (l : List R2) (A : Option Addr) (c a' : Nat), e = .returned (frV u lo A l.length c) ∧ l.length ≤ 9 ∧ a' ≤ a + 402 ∧ w'.ownsRow w.heap.size 42 2 (.slice A l.length c) l.length (rowsV2 l) ∧ CurAt w' g a' ∧ Gr g w w'
set_option maxRecDepth 100000 in
set_option maxHeartbeats 8000000 in
theorem small_any (g a : Nat) (w : World) (h : CurAt w g a) (ha : a ≤ 400000000000) :
 Calls Try.prog 31 #[.pointer (some ⟨g, 0, none⟩)] w (DrawSm g a w) := by
 have hgw := h.lt
 obtain ⟨W1, hW1⟩ : ∃ y : World, y = w.alloc (.cells #[.int .i64 0, .int .i64 0, .slice none 0 0] 26) := ⟨_, rfl⟩
 have BR1 := Lib.hid (show Blk W1 w.heap.size 26 #[.int .i64 0, .int .i64 0, .slice none 0 0] by rw [hW1]; exact Blk.born w _ 26 (H := w.heap.size) rfl)
 have HC1 := Lib.hid (show CurAt W1 g a by rw [hW1]; exact h.ext (ext_alloc (ext_refl _) _))
 have HG1 := Lib.hid (show Gr g w W1 by rw [hW1]; exact Gr.alloc _ _ _)
 have hneR : w.heap.size ≠ g := by omega
 have hbs := Lib.hid (show w.heap.size ≤ W1.heap.size by rw [hW1]; simp)
 clear h
 go_enter Try.func31, Try.ntmps31
 go_upto_region 1 with fail
 rw [← hW1]
 clear hW1
 go_wp2_with fail
 refine (frame_any g a _ HC1.out (by omega)).mono ?_
 rintro e w2 ⟨u, lo, l, A, c, a1, rfl, hF, ha1, ho, hc, hg⟩
 have hl9 := hF.2.2.2.2.2.1
 obtain ⟨N, hN⟩ : ∃ o9, l.length = o9 := ⟨_, rfl⟩
 rw [hN] at ho hl9 ⊢
 have HN := Lib.hid hN
 obtain ⟨NB, hNB⟩ : ∃ o9, w2.heap.size = o9 := ⟨_, rfl⟩
 obtain ⟨W3, hW3⟩ : ∃ y : World, y = w2.alloc (.cells #[.int .i64 u, .int .i64 lo, .slice A N c] 26) := ⟨_, rfl⟩
 have BN3 := Lib.hid (show Blk W3 NB 26 #[.int .i64 u, .int .i64 lo, .slice A N c] by rw [hW3]; exact Blk.born w2 _ 26 hNB.symm)
 have BR3 := Lib.hid (show Blk W3 w.heap.size 26 #[.int .i64 0, .int .i64 0, .slice none 0 0] by rw [hW3]; exact (BR1.out.gr hg hneR).al _)
 have HO3 := Lib.hid (show W3.ownsRow w.heap.size 42 2 (.slice A N c) N (rowsV2 l) by rw [hW3]; exact (own_base ho hbs.out).alloc _)
 have HC3 := Lib.hid (show CurAt W3 g a1 by rw [hW3]; exact hc.ext (ext_alloc (ext_refl _) _))
 have HG3 := Lib.hid (show Gr g w W3 by rw [hW3]; exact (HG1.out.trans hg).trans (Gr.alloc _ _ _))
 have hRN : w.heap.size < NB := by have h1 := (BR1.out.gr hg hneR).lt; omega
 have hNg : NB ≠ g := by omega
 have hgN : g < NB := by omega
 go_upto_region 2 with fail
 rw [← hW3]
 clear hW3 hN hNB hF ho hc hg BR1 HC1 HG1
 skip
 by_cases h2 : 2 < N
 · have h2i : (2 : Int) < (N : Int) := by omega
   have h2b : decide ((2 : Int) < (N : Int)) = true := decide_eq_true h2i
   obtain ⟨x0, x1, x2⟩ := BN3.out.q3
   have lx := BN3.out.lt
   obtain ⟨h, hA⟩ := own_some HO3.out (by omega)
   subst hA
   have hNc := own_capI HO3.out
   have h2c : (2 : Int) ≤ (c : Int) := by omega
   have h2d : ¬ c = 0 := by omega
   go_wp2_with fail
   refine (one_any g a1 8 _ HC3.out (by omega) (by omega) (by omega)).mono ?_
   rintro e w4 ⟨bb, a2, rfl, ha2, hc4, hg4⟩
   have BN4 := Lib.hid (BN3.out.gr hg4 hNg)
   have BR4 := Lib.hid (BR3.out.gr hg4 hneR)
   have HO4 := Lib.hid (own_gr HO3.out hg4 hgw)
   have HC4 := Lib.hid hc4
   have HG4 := Lib.hid (HG3.out.trans hg4)
   clear hc4 hg4 BN3 BR3 HO3 HC3 HG3 x0 x1 x2 lx
   cases bb
   · obtain ⟨x0, x1, x2⟩ := BN4.out.q3
     obtain ⟨z0, z1, z2⟩ := BN4.out.z3
     have lx := BN4.out.lt
     obtain ⟨W5, hW5⟩ : ∃ y : World, y = w4.setCell ⟨NB, 2, none⟩ (.slice (some ⟨h, 0, none⟩) 2 c) := ⟨_, rfl⟩
     have BN5 := Lib.hid (show Blk W5 NB 26 #[.int .i64 u, .int .i64 lo, .slice (some ⟨h, 0, none⟩) 2 c] by rw [hW5]; exact BN4.out.set_ 2 _)
     have BR5 := Lib.hid (show Blk W5 w.heap.size 26 #[.int .i64 0, .int .i64 0, .slice none 0 0] by rw [hW5]; exact BR4.out.setF (p := ⟨NB, 2, none⟩) (Nat.ne_of_gt hRN) _)
     have HO5 := Lib.hid (show W5.ownsRow w.heap.size 42 2 (.slice (some ⟨h, 0, none⟩) 2 c) 2 (rowsV2 (l.take 2)) by rw [hW5]; exact own_setF (own_pre HO4.out HN.out (by omega)) (p := ⟨NB, 2, none⟩) (own_nbT (own_pre HO4.out HN.out (by omega)) BN4.out (by decide)) _)
     have HC5 := Lib.hid (show CurAt W5 g a2 by rw [hW5]; exact HC4.out.far (p := ⟨NB, 2, none⟩) hgN _)
     have HG5 := Lib.hid (show Gr g w W5 by rw [hW5]; exact HG4.out.setNew (p := ⟨NB, 2, none⟩) (Nat.le_of_lt hRN) _)
     have hl2 : (l.take 2).length = 2 := by rw [List.length_take, HN.out]; omega
     go_upto_region 4 with fail
     skip
     rw [← hW5]
     clear hW5 x0 x1 x2 z0 z1 z2 lx BN4 BR4 HO4 HC4 HG4
     obtain ⟨x0, x1, x2⟩ := BN5.out.q3
     have lx := BN5.out.lt
     obtain ⟨y0, y1, y2⟩ := BR5.out.q3
     obtain ⟨r0, r1, r2⟩ := BR5.out.z3
     have lr := BR5.out.lt
     go_wp2
     refine bodyPost_ret (v := frV u lo (some ⟨h, 0, none⟩) 2 c) (by simp [results, Try.results31, go_sem, *]) rfl ?_
     exact ⟨u, lo, l.take 2, (some ⟨h, 0, none⟩), c, a2, by rw [hl2], by rw [hl2]; omega, by omega, by rw [hl2]; exact fill_own' HO5.out (own_nbT HO5.out BR5.out (by decide)), ((HC5.out.far (p := ⟨w.heap.size, 0, none⟩) hgw _).far (p := ⟨w.heap.size, 1, none⟩) hgw _).far (p := ⟨w.heap.size, 2, none⟩) hgw _, ((HG5.out.setNew (p := ⟨w.heap.size, 0, none⟩) (Nat.le_refl _) _).setNew (p := ⟨w.heap.size, 1, none⟩) (Nat.le_refl _) _).setNew (p := ⟨w.heap.size, 2, none⟩) (Nat.le_refl _) _⟩
   · have hl2 := HN.out
     obtain ⟨x0, x1, x2⟩ := BN4.out.q3
     have lx := BN4.out.lt
     obtain ⟨y0, y1, y2⟩ := BR4.out.q3
     obtain ⟨r0, r1, r2⟩ := BR4.out.z3
     have lr := BR4.out.lt
     go_wp2
     refine bodyPost_ret (v := frV u lo (some ⟨h, 0, none⟩) N c) (by simp [results, Try.results31, go_sem, *]) rfl ?_
     exact ⟨u, lo, l, (some ⟨h, 0, none⟩), c, a2, by rw [hl2], by rw [hl2]; omega, by omega, by rw [hl2]; exact fill_own' HO4.out (own_nbT HO4.out BR4.out (by decide)), ((HC4.out.far (p := ⟨w.heap.size, 0, none⟩) hgw _).far (p := ⟨w.heap.size, 1, none⟩) hgw _).far (p := ⟨w.heap.size, 2, none⟩) hgw _, ((HG4.out.setNew (p := ⟨w.heap.size, 0, none⟩) (Nat.le_refl _) _).setNew (p := ⟨w.heap.size, 1, none⟩) (Nat.le_refl _) _).setNew (p := ⟨w.heap.size, 2, none⟩) (Nat.le_refl _) _⟩
 · have h2i : ¬ (2 : Int) < (N : Int) := by omega
   have h2b : decide ((2 : Int) < (N : Int)) = false := decide_eq_false h2i
   have hl2 := HN.out
   obtain ⟨x0, x1, x2⟩ := BN3.out.q3
   have lx := BN3.out.lt
   obtain ⟨y0, y1, y2⟩ := BR3.out.q3
   obtain ⟨r0, r1, r2⟩ := BR3.out.z3
   have lr := BR3.out.lt
   go_wp2
   refine bodyPost_ret (v := frV u lo A N c) (by simp [results, Try.results31, go_sem, *]) rfl ?_
   exact ⟨u, lo, l, A, c, a1, by rw [hl2], by rw [hl2]; omega, by omega, by rw [hl2]; exact fill_own' HO3.out (own_nbT HO3.out BR3.out (by decide)), ((HC3.out.far (p := ⟨w.heap.size, 0, none⟩) hgw _).far (p := ⟨w.heap.size, 1, none⟩) hgw _).far (p := ⟨w.heap.size, 2, none⟩) hgw _, ((HG3.out.setNew (p := ⟨w.heap.size, 0, none⟩) (Nat.le_refl _) _).setNew (p := ⟨w.heap.size, 1, none⟩) (Nat.le_refl _) _).setNew (p := ⟨w.heap.size, 2, none⟩) (Nat.le_refl _) _⟩

set_option maxRecDepth 100000 in
set_option maxHeartbeats 8000000 in
theorem drawReachedIn_any (Ac : Option Addr) (nc cc : Nat) (w : World) (h : Code w w.heap.size Ac nc) (hn : nc ≤ 65536) :
 Calls Try.prog 6 #[.slice Ac nc cc] w (DFrS w) := by
 obtain ⟨W0, hW0⟩ : ∃ y9 : World, y9 = (w.alloc (.cells #[.int .i64 0, .int .i64 0, .slice none 0 0] 26)).alloc (.cells #[.slice Ac nc cc, .int .i64 0, .int .u64 0] 60) := ⟨_, rfl⟩
 have hbx := Lib.hid (show Below w.heap.size w W0 by rw [hW0]; exact ext_alloc (ext_alloc (ext_refl w) _) _)
 obtain ⟨g, hg⟩ : ∃ g, g = w.heap.size + 1 := ⟨_, rfl⟩
 have HC := Lib.hid (show CurAt W0 g 0 by rw [hW0, hg]; exact h.cur1 (by omega) cc _)
 have BR0 := Lib.hid (show Blk W0 w.heap.size 26 #[.int .i64 0, .int .i64 0, .slice none 0 0] by rw [hW0]; exact (Blk.born w #[.int .i64 0, .int .i64 0, .slice none 0 0] 26 (H := w.heap.size) rfl).al _)
 have hwg : w.heap.size < g := by omega
 have hRg : w.heap.size ≠ g := by omega
 clear h
 go_enter Try.func6, Try.ntmps6
 go_wp2_with fail
 rw [← hW0]
 rw [← hg]
 clear hg hW0
 refine (small_any g 0 _ HC.out (by omega)).mono ?_
 rintro e w1 ⟨u, lo, l, A, c, a1, rfl, hl9, ha1, hr1, hc1, hg1⟩
 have HR1 := Lib.hid (own_base (base' := g + 1) hr1 HC.out.lt)
 have HC1 := Lib.hid hc1
 have HG1 := Lib.hid ((Gr.of_ext (g := g) hbx.out).trans hg1)
 have BR1 := Lib.hid (BR0.out.gr hg1 hRg)
 obtain ⟨N, hN⟩ : ∃ o9, l.length = o9 := ⟨_, rfl⟩
 rw [hN] at HR1 hl9 ⊢
 have HN := Lib.hid hN
 clear hr1 hc1 hg1 BR0 HC hN
 go_wp2_with fail
 refine (among_lit g a1 (-1) 5 [0, 1, 1, 2, 3, 4, 5, -1] 3 _ HC1.out (by omega) (by decide) (by decide) (by decide) 8 rfl rfl).mono ?_
 rintro e w2 ⟨z, a2, rfl, z0, z1, ha2, hc2, hg2⟩
 have HR2 := Lib.hid (own_gr HR1.out hg2 (Nat.lt_succ_self g))
 have BR2 := Lib.hid (BR1.out.gr hg2 hRg)
 have HG2 := Lib.hid (HG1.out.trans hg2)
 clear hc2 hg2 HR1 HC1 HG1 BR1
 obtain ⟨r0, r1, r2⟩ := BR2.out.z3
 obtain ⟨y0, y1, y2⟩ := BR2.out.q3
 have lr := BR2.out.lt
 go_wp2
 refine bodyPost_ret (v := .tuple #[frV u lo A N c, .int .i64 z]) (by simp [results, Try.results6, go_sem, *]) rfl ?_
 exact ⟨u, lo, l, A, c, z, by rw [HN.out], by rw [HN.out]; exact hl9, z0, z1, by rw [HN.out]; exact own_base (base' := w.heap.size) (fill_own' HR2.out (own_nbT HR2.out BR2.out (by decide))) (by omega), fill_below (Gr.below (ext_refl w) HG2.out (by omega)) (Nat.le_refl _)⟩

set_option maxRecDepth 100000 in
set_option maxHeartbeats 8000000 in
theorem drawFormsOf_any (Ac : Option Addr) (nc cc : Nat) (w : World) (h : Code w w.heap.size Ac nc) (hn : nc ≤ 65536) :
 Calls Try.prog 13 #[.slice Ac nc cc] w fun e w' => ∃ (u lo v : Int), e = .returned (.tuple #[.int .i64 u, .int .i64 lo, .int .i64 v]) ∧ Below w.heap.size w w' := by
 obtain ⟨W0, hW0⟩ : ∃ y9 : World, y9 = w.alloc (.cells #[.slice Ac nc cc, .int .i64 0, .int .u64 0] 60) := ⟨_, rfl⟩
 have hbx := Lib.hid (show Below w.heap.size w W0 by rw [hW0]; exact ext_alloc (ext_refl w) _)
 obtain ⟨g, hg⟩ : ∃ g, g = w.heap.size := ⟨_, rfl⟩
 have HC := Lib.hid (show CurAt W0 g 0 by rw [hW0, hg]; exact h.cur (by omega) cc)
 have hwg : w.heap.size ≤ g := by omega
 clear h
 go_enter Try.func13, Try.ntmps13
 go_upto_region 2 with fail
 rw [← hW0]
 rw [← hg]
 clear hg hW0
 skip
 go_wp2_with fail
 refine (among_lit g 0 0 3 [1, 2, 2, 0, 3] 3 _ HC.out (by omega) (by decide) (by decide) (by decide) 5 rfl rfl).mono ?_
 rintro e w1 ⟨u, a1, rfl, u0, u1, ha1, hc1, hg1⟩
 have HG1 := Lib.hid ((Gr.of_ext (g := g) hbx.out).trans hg1)
 have HC1 := Lib.hid hc1
 clear hc1 hg1 HC hbx
 go_wp2_with fail
 refine (among_lit g a1 3 6 [4, 5, 5, 3, 6] 3 _ HC1.out (by omega) (by decide) (by decide) (by decide) 5 rfl rfl).mono ?_
 rintro e w2 ⟨lo, a2, rfl, lo0, lo1, ha2, hc2, hg2⟩
 have HG2 := Lib.hid (HG1.out.trans hg2)
 have HC2 := Lib.hid hc2
 clear hc2 hg2 HC1 HG1
 go_wp2_with fail
 refine (pick_any g a2 18 _ HC2.out (by omega) (by omega) (by omega)).mono ?_
 rintro e w3 ⟨p, a3, rfl, p0, p1, ha3, hc3, hg3⟩
 have HG3 := Lib.hid (HG2.out.trans hg3)
 have HC3 := Lib.hid hc3
 clear hc3 hg3 HC2 HG2
 go_wp2_with fail
 refine (pick_any g a3 17 _ HC3.out (by omega) (by omega) (by omega)).mono ?_
 rintro e w4 ⟨q, a4, rfl, q0, q1, ha4, hc4, hg4⟩
 have HG4 := Lib.hid (HG3.out.trans hg4)
 clear hc4 hg4 HC3 HG3
 have HB := Lib.hid (Gr.below (ext_refl w) HG4.out hwg)
 clear HG4
 go_wp2
 go_ret3
 exact ⟨u, lo, _, rfl, HB.out⟩

end Go.Proofs.Ytaghjaiaoajpiaa
