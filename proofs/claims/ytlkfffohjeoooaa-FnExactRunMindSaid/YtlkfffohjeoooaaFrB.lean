
/- Frames of their own; the moves that turn a rod. -/
import Derived.Test.YtlkfffohjeoooaaFrA
import Derived.Test.YtlkfffohjeoooaaAp
namespace Go.Proofs.Ytlkfffohjeoooaa
open Go.RowKit
set_option linter.unusedVariables false
set_option linter.unusedSimpArgs false
theorem info_rod : (Try.prog.info? 155).map (fun i => (i.zero, i.size, i.bytes)) = some (some (.agg #[.int .i64 0, .int .i64 0]), 2, 16) := by kernel_rfl
theorem info_mv : (Try.prog.info? 113).map (fun i => (i.zero, i.size, i.bytes)) = some (some (.agg #[.int .i64 0, .int .i64 0, .int .i64 0]), 3, 24) := by kernel_rfl
theorem rows2_one (l : List R2) : ∀ u ∈ rowsV2 l, u.oneCell' = true := by
  intro u hu
  obtain ⟨r, _, hr⟩ := List.mem_flatMap.1 hu
  simp only [R2.cells, List.mem_cons, List.not_mem_nil, or_false] at hr
  rcases hr with rfl | rfl <;> rfl
theorem rows3_one (l : List R3) : ∀ u ∈ rowsV3 l, u.oneCell' = true := by
  intro u hu
  obtain ⟨r, _, hr⟩ := List.mem_flatMap.1 hu
  simp only [R3.cells, List.mem_cons, List.not_mem_nil, or_false] at hr
  rcases hr with rfl | rfl | rfl <;> rfl
theorem rowsV3_app (l m : List R3) : rowsV3 (l ++ m) = rowsV3 l ++ rowsV3 m := by simp [rowsV3]
theorem rowsV2_app (l m : List R2) : rowsV2 (l ++ m) = rowsV2 l ++ rowsV2 m := by simp [rowsV2]
/-- a frame with rods of its own comes back -/
def RetFr (w : World) (u lo : Int) (n : Nat) (xs : List Value) (e : Ending) (w' : World) : Prop :=
  ∃ g c, e = .returned (frV u lo (some ⟨g, 0, none⟩) n c) ∧ w'.ownsRow w.heap.size 155 2 (.slice (some ⟨g, 0, none⟩) n c) n xs ∧ Below w.heap.size w w'
set_option maxRecDepth 100000 in
set_option maxHeartbeats 1000000 in
theorem own_fr (u lo : Int) (A : Option Addr) (n c : Nat) (l : List R2) (w : World) (hn1 : 1 ≤ n) (hn : n ≤ 1048576) (h : Reads w w.heap.size 2 A n (rowsV2 l)) :
    Calls Try.prog 136 #[frV u lo A n c] w (RetFr w u lo n (rowsV2 l)) := by
  obtain ⟨i0, hi, hz0, hz1, hz2⟩ := info_parts info_rod
  have H := Lib.hid h
  clear h
  go_enter Try.func136, Try.ntmps136
  go_wp2_with (at_builtin; refine wpList_appNew rfl (.tmp 3) (.tmp 5) 22 155 rfl i0 _ 2 16 (w.heap.size + 1 + 1) Try.underlying22 hi hz0 hz1 hz2 rfl (by decide) rfl (by simp) A n c (rowsV2 l) rfl w.heap.size (by omega) (H.out.below (ext_alloc (ext_alloc (ext_refl w) _) _)) (by simp; omega) (rows2_one l) (by unfold maxLen; omega) (by omega) ?_; intro g' cap w2 hown hb2 hs2; have BF2 := ((Blk.born w #[.int .i64 u, .int .i64 lo, .slice A n c] 29 rfl).al (.cells #[.int .i64 0, .int .i64 0, .slice none 0 0] 29)).ext hb2; have BR2 := (Blk.born (w.alloc (.cells #[.int .i64 u, .int .i64 lo, .slice A n c] 29)) #[.int .i64 0, .int .i64 0, .slice none 0 0] 29 (H := w.heap.size + 1) (by simp)).ext hb2; obtain ⟨a0, a1, a2⟩ := BF2.q3; obtain ⟨f0, f1, f2⟩ := BF2.z3; obtain ⟨e0, e1, e2⟩ := BR2.q3; obtain ⟨k0, k1, k2⟩ := BR2.z3; clear BF2 BR2; simp at hs2; have hz3 : w.heap.size + 1 < w2.heap.size := (by omega); have hz4 : w.heap.size < w2.heap.size := (by omega); have hown := Lib.hid (own_base (base' := w.heap.size + 1 + 1) hown (by simp)); have hb2 := Lib.hid hb2)
  refine bodyPost_ret (v := frV u lo (some ⟨g', 0, none⟩) n cap) (by simp [results, Try.results136, go_sem, *]) rfl ?_
  have hb3 := hb2.out
  refine ⟨g', cap, rfl, ?_, (by repeat (first | exact ext_refl _ | assumption | refine ext_alloc ?_ _ | refine ext_drew ?_ | refine ext_drewN ?_ _ | refine ext_set ?_ (by simp <;> omega) _ | refine ext_trans ?_ (by assumption)))⟩
  iterate 4 refine own_setF ?_ (own_far_lt hown.out (by dsimp only; omega)) _
  exact own_base hown.out (by omega)
set_option maxRecDepth 100000 in
set_option maxHeartbeats 1000000 in
theorem l2Own_fr (u lo : Int) (A : Option Addr) (n c : Nat) (l : List R2) (w : World) (hn1 : 1 ≤ n) (hn : n ≤ 1048576) (h : Reads w w.heap.size 2 A n (rowsV2 l)) :
    Calls Try.prog 146 #[frV u lo A n c] w (RetFr w u lo n (rowsV2 l)) := by
  obtain ⟨i0, hi, hz0, hz1, hz2⟩ := info_parts info_rod
  have H := Lib.hid h
  clear h
  go_enter Try.func146, Try.ntmps146
  go_wp2_with fail
  go_region_held3 (fun w' => w'.cell? ⟨w.heap.size, 0, none⟩ = some (.int .i64 u) ∧ w'.cell? ⟨w.heap.size, 1, none⟩ = some (.int .i64 lo) ∧ w'.cell? ⟨w.heap.size, 2, none⟩ = some (.slice A n c)) (first | go_keep | ((repeat' refine And.intro ?_ ?_) <;> first | assumption | exact ext_cell hb (by assumption))) (first | ((refine step_appNew rfl (.tmp 7) (.tmp 9) 22 155 rfl i0 _ 2 16 (w.heap.size + 1 + 1) Try.underlying22 hi hz0 hz1 hz2 rfl (by decide) rfl (by simp) A n c (rowsV2 l) rfl w.heap.size (by omega) (H.out.below (ext_drew (ext_alloc (ext_alloc (ext_refl w) _) _))) (by simp; omega) (rows2_one l) (by unfold maxLen; omega) (by omega) ?_; intro g' cap w2 hown hb2 hs2; have hb4 := Lib.hid (ext_trans (ext_drew (ext_refl _)) hb2); have BF2 := ((Blk.born w #[.int .i64 u, .int .i64 lo, .slice A n c] 29 rfl).al (.cells #[.int .i64 0, .int .i64 0, .slice none 0 0] 29)).ext hb4.out; have BR2 := (Blk.born (w.alloc (.cells #[.int .i64 u, .int .i64 lo, .slice A n c] 29)) #[.int .i64 0, .int .i64 0, .slice none 0 0] 29 (H := w.heap.size + 1) (by simp)).ext hb4.out; obtain ⟨a0, a1, a2⟩ := BF2.q3; obtain ⟨e0, e1, e2⟩ := BR2.q3; obtain ⟨k0, k1, k2⟩ := BR2.z3; clear BF2 BR2; simp at hs2; have hz3 : w.heap.size + 1 < w2.heap.size := (by omega); have hz4 : w.heap.size < w2.heap.size := (by omega); have hown := Lib.hid (own_base (base' := w.heap.size + 1 + 1) hown (by simp)); clear hb2)))
  all_goals
    go_wp2
    refine bodyPost_ret (v := frV u lo (some ⟨g', 0, none⟩) n cap) (by simp [results, Try.results146, go_sem, *]) rfl ?_
    have hb3 := hb4.out
    refine ⟨g', cap, rfl, ?_, (by repeat (first | exact ext_refl _ | assumption | refine ext_alloc ?_ _ | refine ext_drew ?_ | refine ext_drewN ?_ _ | refine ext_set ?_ (by simp <;> omega) _ | refine ext_trans ?_ (by assumption)))⟩
    iterate 3 refine own_setF ?_ (own_far_lt hown.out (by dsimp only; omega)) _
    exact own_base hown.out (by omega)
def cmp (r : R2) (k : Nat) : Int := if k = 0 then r.a else r.b
def mvTo (rod : Int) (a b : R2) : Nat → List R3
  | 0 => []
  | k + 1 => mvTo rod a b k ++ (if cmp b k - cmp a k = 0 then [] else [⟨rod, (k : Int), cmp b k - cmp a k⟩])
theorem mvTo_two (rod : Int) (a b : R2) : mvTo rod a b 2 = mvR rod a b := by simp [mvTo, mvR, cmp]
theorem mvTo_len (rod : Int) (a b : R2) (k : Nat) : (mvTo rod a b k).length ≤ k := by
  induction k with
  | zero => simp [mvTo]
  | succ k ih => rw [mvTo, List.length_append]; split <;> simp <;> omega
theorem mvTo_same {rod : Int} {a b : R2} {k : Nat} (h : cmp b k - cmp a k = 0) : mvTo rod a b (k + 1) = mvTo rod a b k := by rw [mvTo, if_pos h]; simp
theorem mvTo_more {rod : Int} {a b : R2} {k : Nat} (h : ¬ cmp b k - cmp a k = 0) : mvTo rod a b (k + 1) = mvTo rod a b k ++ [⟨rod, (k : Int), cmp b k - cmp a k⟩] := by rw [mvTo, if_neg h]
/-- small numbers on a rod -/
def Sm (r : R2) : Prop := (-1000 ≤ r.a ∧ r.a ≤ 1000) ∧ -1000 ≤ r.b ∧ r.b ≤ 1000
theorem Sm.cmp {r : R2} (h : Sm r) (k : Nat) : -1000 ≤ cmp r k ∧ cmp r k ≤ 1000 := by unfold Sm at h; unfold Go.Proofs.Ytlkfffohjeoooaa.cmp; split <;> omega
theorem two_cells {r : R2} {w : World} {b : Nat} {t : TypeId} (h : Blk w b t #[.int .i64 r.a, .int .i64 r.b]) {k : Nat} (hk : k < 2) : w.cell? ⟨b, k, none⟩ = some (.int .i64 (cmp r k)) := by
  rw [h.cell]
  rcases (show k = 0 ∨ k = 1 by omega) with rfl | rfl <;> simp [cmp]
set_option maxRecDepth 100000 in
set_option maxHeartbeats 1000000 in
theorem rodMoves_any (rod : Int) (a b : R2) (w : World) (ha : Sm a) (hb : Sm b) :
    Calls Try.prog 195 #[.int .i64 rod, a.val, b.val] w (RetSlice w 113 3 (mvR rod a b).length (rowsV3 (mvR rod a b))) := by
  obtain ⟨i0, hi, hz0, hz1, hz2⟩ := info_parts info_mv
  have BA := Lib.hid ((Blk.born w #[.int .i64 a.a, .int .i64 a.b] 155 rfl).al (.cells #[.int .i64 b.a, .int .i64 b.b] 155))
  have BB := Lib.hid (Blk.born (w.alloc (.cells #[.int .i64 a.a, .int .i64 a.b] 155)) #[.int .i64 b.a, .int .i64 b.b] 155 (H := w.heap.size + 1) (by simp))
  go_enter Try.func195, Try.ntmps195
  go_wp2
  go_loopw [7, 10] (fun v i wr => ∃ k : Nat, k ≤ 2 ∧ i = .int .i64 k ∧ wr.ownsRow (w.heap.size + 1 + 1) 113 3 v (mvTo rod a b k).length (rowsV3 (mvTo rod a b k)) ∧ Below (w.heap.size + 1 + 1) ((w.alloc (.cells #[.int .i64 a.a, .int .i64 a.b] 155)).alloc (.cells #[.int .i64 b.a, .int .i64 b.b] 155)) wr) (fun _ i _ => 2 - (intOf i).toNat)
  case atStart => exact ⟨0, by omega, rfl, World.ownsRow_nil _ _ _ _, Below.refl _ _⟩
  case round =>
    obtain ⟨k, hk, rfl, hown, hbl⟩ := hrel
    have hs := hbl.size
    simp at hs
    by_cases hlt : k < 2
    · have c1 := two_cells (BA.out.below hbl (by omega)) hlt
      have c2 := two_cells (BB.out.below hbl (by omega)) hlt
      have m1 := ha.cmp k
      have m2 := hb.cmp k
      have m3 := mvTo_len rod a b k
      have z1 : w.heap.size < wr.heap.size := by omega
      have z2 : w.heap.size + 1 < wr.heap.size := by omega
      by_cases h0 : cmp b k - cmp a k = 0
      · have hsame := Lib.hid (mvTo_same (rod := rod) h0)
        have hd : (cmp b k - cmp a k != 0) = false := by simp [h0]
        have hd2 : (cmp b k - cmp a k == 0) = true := by simp [h0]
        have h0 := Lib.hid h0
        go_wp2
        (refine wp_region_later (by kernel_rfl) (by kernel_rfl) ?_; (repeat (go_big_quiet_step (fail))); refine wpQuiet_nil ?_; intro w1 hw1; obtain ⟨⟨wl, hbL⟩, hw1'⟩ := hw1; simp only at hw1'; subst hw1'; obtain ⟨hcL, hfL⟩ := bcell hbL)
        go_wp2
        go_roundw
        case rel => exact ⟨k + 1, by omega, by go_num, by rw [hsame.out]; exact own_ext hown hbL, hbl.trans (hbL.mono hs)⟩
        case measure => simp [intOf]; omega
      · have hsame := Lib.hid (mvTo_more (rod := rod) h0)
        have hd : (cmp b k - cmp a k != 0) = true := by simp [h0]
        have hd2 : (cmp b k - cmp a k == 0) = false := by simp [h0]
        have h0 := Lib.hid h0
        go_wp2
        (refine wp_region_later (by kernel_rfl) (by kernel_rfl) ?_; (repeat (go_big_quiet_step (fail))); refine wpQuiet_nil ?_; intro w1 hw1; obtain ⟨⟨wl, hbL⟩, hw1'⟩ := hw1; simp only at hw1'; subst hw1'; obtain ⟨hcL, hfL⟩ := bcell hbL)
        have hown := own_ext hown hbL
        have m5 := hbL.size
        have m6 : (mvTo rod a b k).length + 1 ≤ maxLen := by unfold maxLen; omega
        have m7 : ((mvTo rod a b k).length + 1) * 24 ≤ 140737488355328 := by omega
        go_wp2_with (at_builtin; refine wpList_append_own _ rfl (.tmp 22) (.tmp 27) 26 rfl (w.heap.size + 1 + 1) 113 i0 _ 3 24 Try.underlying26 hi hz0 hz1 hz2 rfl (by decide) _ _ _ rfl (hown.alloc _) _ 1 1 [.int .i64 rod, .int .i64 (k : Int), .int .i64 (cmp b k - cmp a k)] rfl rfl (cells_new_at _ [.int .i64 rod, .int .i64 (k : Int), .int .i64 (cmp b k - cmp a k)] _ (by simp)) (by simp [Value.oneCell']) m6 m7 (by simp; omega) ?_; intro v' w2 hown2 hgrow _)
        go_roundw
        case rel =>
          refine ⟨k + 1, by omega, by go_num, ?_, ((hbl.trans (hbL.mono hs)).trans ((ext_alloc (ext_refl w1) _).mono (by omega))).trans (below_row (hown.alloc _) hgrow (by simp; omega))⟩
          rw [hsame.out, List.length_append, rowsV3_app]
          exact hown2
        case measure => simp [intOf]; omega
    · obtain rfl : k = 2 := by omega
      obtain ⟨A', c', rfl⟩ := own_shape hown
      have e2 := Lib.hid (mvTo_two rod a b)
      have hown := Lib.hid hown
      have hbl := Lib.hid hbl
      go_wp2
      go_ret
      refine ⟨A', c', ?_, ?_, ?_⟩
      · rw [← e2.out]; rfl
      · rw [← e2.out]; exact own_base hown.out (by omega)
      · exact (ext_alloc (ext_alloc (ext_refl w) _) _).trans (hbl.out.mono (by omega))
theorem turnM_eq (r : Nat) (x v : Int) : mvR r (rodD x) (rodD v) = turnM r x v := rfl
theorem rodD_Sm {d : Int} (h0 : 0 ≤ d) (h1 : d ≤ 99) : Sm (rodD d) := by unfold Sm rodD; dsimp only; omega
end Go.Proofs.Ytlkfffohjeoooaa
