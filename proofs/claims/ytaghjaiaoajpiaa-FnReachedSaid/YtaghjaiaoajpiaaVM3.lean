/- Frames of their own; the moves that turn a rod. -/
import Derived.Test.YtaghjaiaoajpiaaVFrA
import Derived.Test.YtaghjaiaoajpiaaVAp
import Derived.Test.YtaghjaiaoajpiaaVRegL
import Derived.Test.YtaghjaiaoajpiaaVM1
namespace Go.Proofs.Ytaghjaiaoajpiaa
open Go.RowKit
set_option linter.unusedVariables false
set_option linter.unusedSimpArgs false
theorem info_rod : (Try.prog.info? 42).map (fun i => (i.zero, i.size, i.bytes)) = some (some (.agg #[.int .i64 0, .int .i64 0]), 2, 16) := by kernel_rfl
theorem info_mv : (Try.prog.info? 83).map (fun i => (i.zero, i.size, i.bytes)) = some (some (.agg #[.int .i64 0, .int .i64 0, .int .i64 0]), 3, 24) := by kernel_rfl
theorem rows2_one (l : List R2) : ∀ u ∈ rowsV2 l, u.oneCell' = true := by
 intro u hu
 obtain ⟨r, _, hr⟩ := List.mem_flatMap.1 hu
 simp only [R2.cells, List.mem_cons, List.not_mem_nil, or_false] at hr
 rcases hr with rfl | rfl <;> rfl
theorem rows3_one (l : List R3) : ∀ u ∈ rowsV3 l, u.oneCell' = true := by
 intro u hu
 obtain ⟨r, _, hr⟩ := List.mem_flatMap.1 hu
 simp only [R3.cells, List.mem_cons, List.not_mem_nil, or_false] at hr
 rcases hr with rfl | rfl | rfl <;> rfl
theorem rowsV3_app (l m : List R3) : rowsV3 (l ++ m) = rowsV3 l ++ rowsV3 m := by simp [rowsV3]
theorem rowsV2_app (l m : List R2) : rowsV2 (l ++ m) = rowsV2 l ++ rowsV2 m := by simp [rowsV2]
/-- a frame with rods of its own comes back -/
def RetFr (w : World) (u lo : Int) (n : Nat) (xs : List Value) (e : Ending) (w' : World) : Prop :=
 ∃ g c, e = .returned (frV u lo (some ⟨g, 0, none⟩) n c) ∧ w'.ownsRow w.heap.size 42 2 (.slice (some ⟨g, 0, none⟩) n c) n xs ∧ Below w.heap.size w w'
set_option maxRecDepth 100000 in
set_option maxHeartbeats 1000000 in
theorem own_fr (u lo : Int) (A : Option Addr) (n c : Nat) (l : List R2) (w : World) (hn1 : 1 ≤ n) (hn : n ≤ 1048576) (h : Reads w w.heap.size 2 A n (rowsV2 l)) :
 Calls Try.prog 59 #[frV u lo A n c] w (RetFr w u lo n (rowsV2 l)) := by
 obtain ⟨i0, hi, hz0, hz1, hz2⟩ := info_parts info_rod
 have H := Lib.hid h
 clear h
 go_enter Try.func59, Try.ntmps59
 go_wp2_with (at_builtin; refine wpList_appNew rfl (.tmp 3) (.tmp 5) 24 42 rfl i0 _ 2 16 (w.heap.size + 1 + 1) Try.underlying24 hi hz0 hz1 hz2 rfl (by decide) rfl (by simp) A n c (rowsV2 l) rfl w.heap.size (by omega) (H.out.below (ext_alloc (ext_alloc (ext_refl w) _) _)) (by simp; omega) (rows2_one l) (by unfold maxLen; omega) (by omega) ?_; intro g' cap w2 hown hb2 hs2; have BF2 := ((Blk.born w #[.int .i64 u, .int .i64 lo, .slice A n c] 26 rfl).al (.cells #[.int .i64 0, .int .i64 0, .slice none 0 0] 26)).ext hb2; have BR2 := (Blk.born (w.alloc (.cells #[.int .i64 u, .int .i64 lo, .slice A n c] 26)) #[.int .i64 0, .int .i64 0, .slice none 0 0] 26 (H := w.heap.size + 1) (by simp)).ext hb2; obtain ⟨a0, a1, a2⟩ := BF2.q3; obtain ⟨f0, f1, f2⟩ := BF2.z3; obtain ⟨e0, e1, e2⟩ := BR2.q3; obtain ⟨k0, k1, k2⟩ := BR2.z3; clear BF2 BR2; simp at hs2; have hz3 : w.heap.size + 1 < w2.heap.size := (by omega); have hz4 : w.heap.size < w2.heap.size := (by omega); have hown := Lib.hid (own_base (base' := w.heap.size + 1 + 1) hown (by simp)); have hb2 := Lib.hid hb2)
 refine bodyPost_ret (v := frV u lo (some ⟨g', 0, none⟩) n cap) (by simp [results, Try.results59, go_sem, *]) rfl ?_
 have hb3 := hb2.out
 refine ⟨g', cap, rfl, ?_, (by repeat (first | exact ext_refl _ | assumption | refine ext_alloc ?_ _ | refine ext_drew ?_ | refine ext_drewN ?_ _ | refine ext_set ?_ (by simp <;> omega) _ | refine ext_trans ?_ (by assumption)))⟩
 iterate 4 refine own_setF ?_ (own_far_lt hown.out (by dsimp only; omega)) _
 exact own_base hown.out (by omega)
set_option maxRecDepth 100000 in
set_option maxHeartbeats 1000000 in
theorem l2Own_fr (u lo : Int) (A : Option Addr) (n c : Nat) (l : List R2) (w : World) (hn1 : 1 ≤ n) (hn : n ≤ 1048576) (h : Reads w w.heap.size 2 A n (rowsV2 l)) :
 Calls Try.prog 76 #[frV u lo A n c] w (RetFr w u lo n (rowsV2 l)) := by
 obtain ⟨i0, hi, hz0, hz1, hz2⟩ := info_parts info_rod
 have H := Lib.hid h
 clear h
 go_enter Try.func76, Try.ntmps76
 go_wp2_with fail
 go_region_held3 (fun w' => w'.cell? ⟨w.heap.size, 0, none⟩ = some (.int .i64 u) ∧ w'.cell? ⟨w.heap.size, 1, none⟩ = some (.int .i64 lo) ∧ w'.cell? ⟨w.heap.size, 2, none⟩ = some (.slice A n c)) (first | go_keep | ((repeat' refine And.intro ?_ ?_) <;> first | assumption | exact ext_cell hb (by assumption))) (first | ((refine step_appNew rfl (.tmp 7) (.tmp 9) 24 42 rfl i0 _ 2 16 (w.heap.size + 1 + 1) Try.underlying24 hi hz0 hz1 hz2 rfl (by decide) rfl (by simp) A n c (rowsV2 l) rfl w.heap.size (by omega) (H.out.below (ext_drew (ext_alloc (ext_alloc (ext_refl w) _) _))) (by simp; omega) (rows2_one l) (by unfold maxLen; omega) (by omega) ?_; intro g' cap w2 hown hb2 hs2; have hb4 := Lib.hid (ext_trans (ext_drew (ext_refl _)) hb2); have BF2 := ((Blk.born w #[.int .i64 u, .int .i64 lo, .slice A n c] 26 rfl).al (.cells #[.int .i64 0, .int .i64 0, .slice none 0 0] 26)).ext hb4.out; have BR2 := (Blk.born (w.alloc (.cells #[.int .i64 u, .int .i64 lo, .slice A n c] 26)) #[.int .i64 0, .int .i64 0, .slice none 0 0] 26 (H := w.heap.size + 1) (by simp)).ext hb4.out; obtain ⟨a0, a1, a2⟩ := BF2.q3; obtain ⟨e0, e1, e2⟩ := BR2.q3; obtain ⟨k0, k1, k2⟩ := BR2.z3; clear BF2 BR2; simp at hs2; have hz3 : w.heap.size + 1 < w2.heap.size := (by omega); have hz4 : w.heap.size < w2.heap.size := (by omega); have hown := Lib.hid (own_base (base' := w.heap.size + 1 + 1) hown (by simp)); clear hb2)))
 all_goals
  go_wp2
  refine bodyPost_ret (v := frV u lo (some ⟨g', 0, none⟩) n cap) (by simp [results, Try.results76, go_sem, *]) rfl ?_
  have hb3 := hb4.out
  refine ⟨g', cap, rfl, ?_, (by repeat (first | exact ext_refl _ | assumption | refine ext_alloc ?_ _ | refine ext_drew ?_ | refine ext_drewN ?_ _ | refine ext_set ?_ (by simp <;> omega) _ | refine ext_trans ?_ (by assumption)))⟩
  iterate 3 refine own_setF ?_ (own_far_lt hown.out (by dsimp only; omega)) _
  exact own_base hown.out (by omega)
def cmp (r : R2) (k : Nat) : Int := if k = 0 then r.a else r.b
def mvTo (rod : Int) (a b : R2) : Nat → List R3
 | 0 => []
 | k + 1 => mvTo rod a b k ++ (if cmp b k - cmp a k = 0 then [] else [⟨rod, (k : Int), cmp b k - cmp a k⟩])
theorem mvTo_two (rod : Int) (a b : R2) : mvTo rod a b 2 = mvR rod a b := by simp [mvTo, mvR, cmp]
theorem mvTo_len (rod : Int) (a b : R2) (k : Nat) : (mvTo rod a b k).length ≤ k := by
 induction k with
 | zero => simp [mvTo]
 | succ k ih => rw [mvTo, List.length_append]; split <;> simp <;> omega
theorem mvTo_same {rod : Int} {a b : R2} {k : Nat} (h : cmp b k - cmp a k = 0) : mvTo rod a b (k + 1) = mvTo rod a b k := by rw [mvTo, if_pos h]; simp
theorem mvTo_more {rod : Int} {a b : R2} {k : Nat} (h : ¬ cmp b k - cmp a k = 0) : mvTo rod a b (k + 1) = mvTo rod a b k ++ [⟨rod, (k : Int), cmp b k - cmp a k⟩] := by rw [mvTo, if_neg h]
/-- small numbers on a rod -/
def Sm (r : R2) : Prop := (-1000 ≤ r.a ∧ r.a ≤ 1000) ∧ -1000 ≤ r.b ∧ r.b ≤ 1000
theorem Sm.cmp {r : R2} (h : Sm r) (k : Nat) : -1000 ≤ cmp r k ∧ cmp r k ≤ 1000 := by unfold Sm at h; unfold Go.Proofs.Ytaghjaiaoajpiaa.cmp; split <;> omega
theorem two_cells {r : R2} {w : World} {b : Nat} {t : TypeId} (h : Blk w b t #[.int .i64 r.a, .int .i64 r.b]) {k : Nat} (hk : k < 2) : w.cell? ⟨b, k, none⟩ = some (.int .i64 (cmp r k)) := by
 rw [h.cell]
 rcases (show k = 0 ∨ k = 1 by omega) with rfl | rfl <;> simp [cmp]
set_option maxRecDepth 100000 in
set_option maxHeartbeats 1000000 in
theorem rodMoves_any (rod : Int) (a b : R2) (w : World) (ha : Sm a) (hb : Sm b) :
 Calls Try.prog 84 #[.int .i64 rod, a.val, b.val] w (RetSlice w 83 3 (mvR rod a b).length (rowsV3 (mvR rod a b))) := by
 obtain ⟨i0, hi, hz0, hz1, hz2⟩ := info_parts info_mv
 have BA := Lib.hid ((Blk.born w #[.int .i64 a.a, .int .i64 a.b] 42 rfl).al (.cells #[.int .i64 b.a, .int .i64 b.b] 42))
 have BB := Lib.hid (Blk.born (w.alloc (.cells #[.int .i64 a.a, .int .i64 a.b] 42)) #[.int .i64 b.a, .int .i64 b.b] 42 (H := w.heap.size + 1) (by simp))
 go_enter Try.func84, Try.ntmps84
 go_wp2
 go_loopw [7, 10] (fun v i wr => ∃ k : Nat, k ≤ 2 ∧ i = .int .i64 k ∧ wr.ownsRow (w.heap.size + 1 + 1) 83 3 v (mvTo rod a b k).length (rowsV3 (mvTo rod a b k)) ∧ Below (w.heap.size + 1 + 1) ((w.alloc (.cells #[.int .i64 a.a, .int .i64 a.b] 42)).alloc (.cells #[.int .i64 b.a, .int .i64 b.b] 42)) wr) (fun _ i _ => 2 - (intOf i).toNat)
 case atStart => exact ⟨0, by omega, rfl, World.ownsRow_nil _ _ _ _, Below.refl _ _⟩
 case round =>
  obtain ⟨k, hk, rfl, hown, hbl⟩ := hrel
  have hs := hbl.size
  simp at hs
  by_cases hlt : k < 2
  · have c1 := two_cells (BA.out.below hbl (by omega)) hlt
    have c2 := two_cells (BB.out.below hbl (by omega)) hlt
    have m1 := ha.cmp k
    have m2 := hb.cmp k
    have m3 := mvTo_len rod a b k
    have z1 : w.heap.size < wr.heap.size := by omega
    have z2 : w.heap.size + 1 < wr.heap.size := by omega
    by_cases h0 : cmp b k - cmp a k = 0
    · have hsame := Lib.hid (mvTo_same (rod := rod) h0)
      have hd : (cmp b k - cmp a k != 0) = false := by simp [h0]
      have hd2 : (cmp b k - cmp a k == 0) = true := by simp [h0]
      have h0 := Lib.hid h0
      go_wp2
      (refine wp_region_later (by kernel_rfl) (by kernel_rfl) ?_; (repeat (go_big_quiet_step (fail))); refine wpQuiet_nil ?_; intro w1 hw1; obtain ⟨⟨wl, hbL⟩, hw1'⟩ := hw1; simp only at hw1'; subst hw1'; obtain ⟨hcL, hfL⟩ := bcell hbL)
      go_wp2
      go_roundw
      case rel => exact ⟨k + 1, by omega, by go_num, by rw [hsame.out]; exact own_ext hown hbL, hbl.trans (hbL.mono hs)⟩
      case measure => simp [intOf]; omega
    · have hsame := Lib.hid (mvTo_more (rod := rod) h0)
      have hd : (cmp b k - cmp a k != 0) = true := by simp [h0]
      have hd2 : (cmp b k - cmp a k == 0) = false := by simp [h0]
      have h0 := Lib.hid h0
      go_wp2
      (refine wp_region_later (by kernel_rfl) (by kernel_rfl) ?_; (repeat (go_big_quiet_step (fail))); refine wpQuiet_nil ?_; intro w1 hw1; obtain ⟨⟨wl, hbL⟩, hw1'⟩ := hw1; simp only at hw1'; subst hw1'; obtain ⟨hcL, hfL⟩ := bcell hbL)
      have hown := own_ext hown hbL
      have m5 := hbL.size
      have m6 : (mvTo rod a b k).length + 1 ≤ maxLen := by unfold maxLen; omega
      have m7 : ((mvTo rod a b k).length + 1) * 24 ≤ 140737488355328 := by omega
      go_wp2_with (at_builtin; refine wpList_append_own _ rfl (.tmp 22) (.tmp 27) 46 rfl (w.heap.size + 1 + 1) 83 i0 _ 3 24 Try.underlying46 hi hz0 hz1 hz2 rfl (by decide) _ _ _ rfl (hown.alloc _) _ 1 1 [.int .i64 rod, .int .i64 (k : Int), .int .i64 (cmp b k - cmp a k)] rfl rfl (cells_new_at _ [.int .i64 rod, .int .i64 (k : Int), .int .i64 (cmp b k - cmp a k)] _ (by simp)) (by simp [Value.oneCell']) m6 m7 (by simp; omega) ?_; intro v' w2 hown2 hgrow _)
      go_roundw
      case rel =>
       refine ⟨k + 1, by omega, by go_num, ?_, ((hbl.trans (hbL.mono hs)).trans ((ext_alloc (ext_refl w1) _).mono (by omega))).trans (below_row (hown.alloc _) hgrow (by simp; omega))⟩
       rw [hsame.out, List.length_append, rowsV3_app]
       exact hown2
      case measure => simp [intOf]; omega
  · obtain rfl : k = 2 := by omega
    obtain ⟨A', c', rfl⟩ := own_shape hown
    have e2 := Lib.hid (mvTo_two rod a b)
    have hown := Lib.hid hown
    have hbl := Lib.hid hbl
    go_wp2
    go_ret
    refine ⟨A', c', ?_, ?_, ?_⟩
    · rw [← e2.out]; rfl
    · rw [← e2.out]; exact own_base hown.out (by omega)
    · exact (ext_alloc (ext_alloc (ext_refl w) _) _).trans (hbl.out.mono (by omega))
theorem turnM_eq (r : Nat) (x v : Int) : mvR r (rodD x) (rodD v) = turnM r x v := rfl
theorem rodD_Sm {d : Int} (h0 : 0 ≤ d) (h1 : d ≤ 99) : Sm (rodD d) := by unfold Sm rodD; dsimp only; omega
end Go.Proofs.Ytaghjaiaoajpiaa
namespace Go.Proofs.Ytaghjaiaoajpiaa
open Go.RowKit
set_option linter.unusedVariables false
set_option linter.unusedSimpArgs false
theorem fr_fill {w : World} {g : Nat} {a b c : Value} (h : Blk w g 26 #[.int .i64 0, .int .i64 0, .slice none 0 0]) : Blk (((w.setCell ⟨g, 0, none⟩ a).setCell ⟨g, 1, none⟩ b).setCell ⟨g, 2, none⟩ c) g 26 #[a, b, c] := ((h.set_ 0 a).set_ 1 b).set_ 2 c
theorem fr_put {w : World} {g : Nat} {a b c a' b' c' : Value} (h : Blk w g 26 #[a', b', c']) : Blk (((w.setCell ⟨g, 0, none⟩ a).setCell ⟨g, 1, none⟩ b).setCell ⟨g, 2, none⟩ c) g 26 #[a, b, c] := ((h.set_ 0 a).set_ 1 b).set_ 2 c
theorem fill_far {w : World} {g k : Nat} {t : TypeId} {cs : Array Value} {a b c : Value} (h : Blk w k t cs) (hne : g ≠ k) : Blk (((w.setCell ⟨g, 0, none⟩ a).setCell ⟨g, 1, none⟩ b).setCell ⟨g, 2, none⟩ c) k t cs := ((h.setF (p := ⟨g, 0, none⟩) hne a).setF (p := ⟨g, 1, none⟩) hne b).setF (p := ⟨g, 2, none⟩) hne c
theorem fill_own' {w : World} {g B E size n : Nat} {v : Value} {xs : List Value} {a b c : Value} (h : w.ownsRow B E size v n xs) (hne : v.ownBlock ≠ some g) : (((w.setCell ⟨g, 0, none⟩ a).setCell ⟨g, 1, none⟩ b).setCell ⟨g, 2, none⟩ c).ownsRow B E size v n xs := own_setF (p := ⟨g, 2, none⟩) (own_setF (p := ⟨g, 1, none⟩) (own_setF (p := ⟨g, 0, none⟩) h hne a) hne b) hne c
theorem fill_own {w : World} {g B B' E size n : Nat} {v : Value} {xs : List Value} {a b c : Value} (h : w.ownsRow B E size v n xs) (hg : g < B) (hB : B' ≤ B) : (((w.setCell ⟨g, 0, none⟩ a).setCell ⟨g, 1, none⟩ b).setCell ⟨g, 2, none⟩ c).ownsRow B' E size v n xs := own_base (fill_own' h (own_far_lt h hg)) hB
theorem fill_below {w0 w : World} {g B : Nat} {a b c : Value} (h : Below B w0 w) (hg : B ≤ g) : Below B w0 (((w.setCell ⟨g, 0, none⟩ a).setCell ⟨g, 1, none⟩ b).setCell ⟨g, 2, none⟩ c) := ((h.setCell (p := ⟨g, 0, none⟩) hg a).setCell (p := ⟨g, 1, none⟩) hg b).setCell (p := ⟨g, 2, none⟩) hg c
/-- a frame of its own comes back beside a bool -/
def RetFrB (w : World) (F : Int × Int × List R2) (ok : Bool) (e : Ending) (w' : World) : Prop :=
 ∃ A c, e = .returned (.tuple #[frV F.1 F.2.1 A F.2.2.length c, .bool ok]) ∧ w'.ownsRow w.heap.size 42 2 (.slice A F.2.2.length c) F.2.2.length (rowsV2 F.2.2) ∧ Below w.heap.size w w'
theorem rows_cells2 {w : World} {B h n c : Nat} {l : List R2} (hr : w.ownsRow B 42 2 (.slice (some ⟨h, 0, none⟩) n c) n (rowsV2 l)) {r : Nat} {x : R2} (hd : l[r]? = some x) :
 w.cell? ⟨h, r * 2, none⟩ = some (.int .i64 x.a) ∧ w.cell? ⟨h, r * 2 + 1, none⟩ = some (.int .i64 x.b) ∧ h < w.heap.size ∧ B ≤ h := by
 obtain ⟨b, o, hA, hb, c0, c1⟩ := rows_at2 (Reads.of_own hr) hd
 injection hA with hA
 injection hA with hA1 hA2
 subst hA1 hA2
 rw [Nat.zero_add] at c0 c1
 exact ⟨c0, c1, hb, (hr.lt _ rfl).1⟩
end Go.Proofs.Ytaghjaiaoajpiaa
namespace Go.Proofs.Ytaghjaiaoajpiaa
open Go.RowKit
set_option linter.unusedVariables false
set_option linter.unusedSimpArgs false
theorem lst_lt {listed : Array Bool} {n j : Nat} (hs : listed.size = n) (h : lst listed j) : j < n := by
 rcases Nat.lt_or_ge j listed.size with h1 | h1
 · omega
 · unfold lst at h
   simp [Array.getD, Nat.not_lt.2 h1] at h
/-- dp only says what waits for what -/
def dpok (ops : Array Oper) (dp : Nat → Nat → Bool) : Bool := (List.range ops.size).all fun j => (List.range ops.size).all fun i => !dp j i || (match ops[j]? with | none => true | some oj => oj.after.any fun e => Region.binds .any e && e.on == i)
theorem wp_region_m {P : Program} {id : Nat} {ops : Array Oper} {Q : Exit → Act → World → Prop} {a : Act} {w : World} (hm : P.follows .mixedOrders = true) (hlat : laterB ops = true) (D : List Nat) (uses : Nat → List Nat) (hu : uok ops D uses = true) (hnd : D.Nodup) (mx : Nat) (hD : (D.all fun d => decide (d < mx)) = true) (hmx : mx ≤ a.tmps.size) (E : Act → Prop) (hE : E a) (dp : Nat → Nat → Bool) (hdp : dpok ops dp = true)
 (I : Nat → (Nat → Prop) → World → Prop) (R : Nat → World → World → Prop) (G : Nat → (Nat → Value) → World → Prop) (hI0 : I 0 (fun _ => False) w.drew)
 (hR : ∀ i j vs us w w', i ≠ j → dp j i = false → G j vs w → (∀ d ∈ uses j, us d = vs d) → R i w w' → G j us w')
 (hstep : ∀ a0, E a0 → ∀ i o, ops[i]? = some o → ∀ (Qx : Exit → Act → World → Prop) vs wx b K k L, I k L wx → k < ops.size → ¬ L i → (∀ j, L j → j < ops.size) → (∀ j oj jj, ops[j]? = some oj → L j → (oj.after.any fun e => Region.binds .any e && e.on == jj) = true → L jj) → (∀ j, (o.after.any fun e => Region.binds .any e && e.on == j) = true → L j ∧ G j vs wx) →
  (∀ t, t ∉ D → b.tmps[t]?.getD undef = a0.eval (.tmp t)) → (∀ d ∈ D, b.tmps[d]?.getD undef = vs d) →
  (∀ v w', I (k + 1) (fun j => j = i ∨ L j) w' → R i wx w' → G i (match o.dst with | some d => upd vs d v | none => vs) w' → K (b.put o.dst v) w') →
  if Region.wanted o (yielded ops b.tmps) = true then Oper.wp P o b wx K Qx else K (b.put o.dst undef) wx)
 (hend : ∀ vs wx k L, I k L wx → k ≤ ops.size → (∀ j, L j → j < ops.size) → (∀ j, j < ops.size → L j ∧ G j vs wx) → Q .normal (sl a vs D) wx) : (Code.region id ops true).wp P Q a w := by
 have hsz : ∀ d ∈ D, d < a.tmps.size := fun d hd => Nat.lt_of_lt_of_le (by simpa using List.all_eq_true.1 hD d hd) hmx
 refine wp_region_any hm ?_
 refine wpAny_inv (I := fun listed a' w' => listed.size = ops.size ∧ closed ops listed ∧ ∃ vs, a' = sl a vs D ∧ I (ops.size - unl listed) (lst listed) w' ∧ ∀ j, lst listed j → G j vs w') ?_ ?_ _ _ _ _ ⟨by simp, ?_, _, (sl_self a D hsz).symm, ?_, ?_⟩ ?_
 · rintro listed _ w' i ⟨hls, hcl, vs, rfl, hI, hG⟩ hi
   obtain ⟨h1, o, ho, h2⟩ := mem_ready.1 hi
   obtain ⟨h3, h4⟩ := lst_no h1
   have hn := unl_set h1
   have hle : unl listed ≤ ops.size := by rw [← hls]; unfold unl; have := List.count_le_length (a := false) (l := listed.toList); simpa using this
   refine wpOp_of ho fun K hK => ?_
   have hup : 0 < unl listed := by omega
   refine hstep a hE i o ho Q vs w' (sl a vs D) K _ (lst listed) hI (by omega) h3 (fun j hj => ?lt) (fun j oj jj hoj hj hd => ?cl) (fun j hj => ?dep) (fun t ht => (Array.getD_eq_getD_getElem? ..).symm.trans (sl_out a vs D ht)) (fun d hd => (Array.getD_eq_getD_getElem? ..).symm.trans (sl_at a vs D hnd hd (hsz d hd))) ?_
   case dep =>
    obtain ⟨k, hk, hb⟩ := Array.any_eq_true.1 hj
    simp only [Bool.and_eq_true, beq_iff_eq] at hb
    rw [← hb.2]
    have hl := h2 _ (Array.getElem_mem hk) hb.1
    exact ⟨hl, hG _ hl⟩
   case lt => exact lst_lt hls hj
   case cl =>
    obtain ⟨k, hk, hb⟩ := Array.any_eq_true.1 hd
    simp only [Bool.and_eq_true, beq_iff_eq] at hb
    rw [← hb.2]
    exact hcl j oj hoj hj _ (Array.getElem_mem hk) hb.1
   intro v w'' hI' hR' hG'
   have key : ∀ us, (∀ d, (o.dst ≠ some d) → us d = vs d) → G i us w'' → ∀ j, lst (listed.setIfInBounds i true) j → G j us w'' := by
    intro us hus hgi j hj
    by_cases e : j = i
    · subst e; exact hgi
    · have hj' := (lst_set.1 hj).resolve_left (fun h => e h.1)
      have hag : ∀ d ∈ uses j, us d = vs d := by
       intro d hd
       refine hus d fun hdst => ?_
       obtain ⟨_, hall⟩ := uok_dst hu ho hdst
       have hjs : j < ops.size := by
        rcases Nat.lt_or_ge j listed.size with h | h
        · omega
        · unfold lst at hj'
          simp [Array.getD, Nat.not_lt.2 h] at hj'
       obtain ⟨e2, he2, hb2, hon⟩ := hall j ops[j] (by simp [hjs]) (Ne.symm e) hd
       have := hcl j ops[j] (by simp [hjs]) hj' e2 he2 hb2
       rw [hon] at this
       exact h3 this
      refine hR i j vs us _ _ (Ne.symm e) ?_ (hG j hj') hag hR'
      cases hdj : dp j i with
      | false => rfl
      | true =>
        exfalso
        have hjs : j < ops.size := by
         rcases Nat.lt_or_ge j listed.size with h | h
         · omega
         · unfold lst at hj'
           simp [Array.getD, Nat.not_lt.2 h] at hj'
        have h5 := List.all_eq_true.1 (List.all_eq_true.1 hdp j (List.mem_range.2 hjs)) i (List.mem_range.2 (by omega))
        rw [hdj] at h5
        simp only [Array.getElem?_eq_getElem hjs, Bool.not_true, Bool.false_or] at h5
        obtain ⟨k, hk, hb⟩ := Array.any_eq_true.1 h5
        simp only [Bool.and_eq_true, beq_iff_eq] at hb
        have h6 := hcl j ops[j] (by simp [hjs]) hj' _ (Array.getElem_mem hk) hb.1
        rw [hb.2] at h6
        exact h3 h6
   have hclosed : closed ops (listed.setIfInBounds i true) := by
    intro j oj hoj hj e he hb
    rw [lst_set] at hj ⊢
    rcases hj with ⟨rfl, _⟩ | hj
    · rw [ho] at hoj
      injection hoj with hoj
      subst hoj
      exact .inr (h2 e he hb)
    · exact .inr (hcl j oj hoj hj e he hb)
   have hcnt : ops.size - unl (listed.setIfInBounds i true) = ops.size - unl listed + 1 := by omega
   have hset : lst (listed.setIfInBounds i true) = fun j => j = i ∨ lst listed j := by
    funext j
    exact propext ⟨fun h => (lst_set.1 h).imp And.left (fun x => x), fun h => lst_set.2 (h.imp (fun e => ⟨e, h4⟩) (fun x => x))⟩
   rcases hd : o.dst with _ | d
   · rw [hd] at hG'
     refine hK _ _ ⟨by simpa using hls, hclosed, vs, ?_, by rw [hcnt, hset]; exact hI', key vs (fun _ _ => rfl) hG'⟩
     rfl
   · rw [hd] at hG'
     refine hK _ _ ⟨by simpa using hls, hclosed, upd vs d v, sl_put a vs v D hnd (uok_dst hu ho hd).1, by rw [hcnt, hset]; exact hI', key _ (fun x hx => upd_ne _ _ (fun e => hx (by rw [hd, e]))) hG'⟩
 · rintro listed _ w' ⟨hls, _, vs, rfl, hI, hG⟩ hr
   have hall := fun j hj => all_listedB hlat hls hr j hj
   exact hend vs w' _ _ hI (Nat.sub_le _ _) (fun j hj => lst_lt hls hj) fun j hj => ⟨hall j hj, hG j (hall j hj)⟩
 · intro j o _ hj
   exact absurd hj lst_rep
 · rw [unl_rep, Nat.sub_self, show lst (Array.replicate ops.size false) = (fun _ => False) from funext fun j => propext ⟨fun h => lst_rep h, False.elim⟩]; exact hI0
 · intro j hj
   exact absurd hj lst_rep
 · simp [unl]
/-- a cursor on block g, at a or a little on; before p1 is listed only it is written, before p2 is listed B holds -/
def ICur (C g a : Nat) (w W0 : World) (p1 p2 : Nat) (B : World → Prop) (k : Nat) (L : Nat → Prop) (wx : World) : Prop :=
 ∃ a', a' ≤ a + C * k ∧ CurAt wx g a' ∧ Gr g w wx ∧ W0.heap.size ≤ wx.heap.size ∧ (¬ L p1 → Gr g W0 wx) ∧ (¬ L p2 → B wx)
/-- the same without a cursor: all only grows -/
def IExt (w W0 : World) (p1 p2 : Nat) (B : World → Prop) (k : Nat) (L : Nat → Prop) (wx : World) : Prop :=
 Below w.heap.size w wx ∧ W0.heap.size ≤ wx.heap.size ∧ (¬ L p1 → Below W0.heap.size W0 wx) ∧ (¬ L p2 → B wx)
theorem Gr.refl (g : Nat) (w : World) : Gr g w w := Gr.of_ext (ext_refl w)
theorem Gr.alloc (g : Nat) (w : World) (o : Obj) : Gr g w (w.alloc o) := Gr.of_ext (ext_alloc (ext_refl w) o)
/-- the literal row of one struct of two cells -/
theorem own_blk2 {w : World} {B x e : Nat} {a b : Value} (h : Blk w x e #[a, b]) (hB : B ≤ x) : w.ownsRow B e 2 (.slice (some ⟨x, 0, none⟩) 1 1) 1 [a, b] :=
 ⟨by simp, .inr ⟨x, 1, #[a, b], rfl, hB, h, Nat.le_refl _, by unfold maxLen; omega, by simp, by simp⟩⟩
theorem allAt_blk {w : World} {g x e n : Nat} {cs : Array Value} {l : List Int} {lo hi : Int} (h : Blk w x e cs) (hcs : cs = (l.map (Value.int .i64)).toArray) (hn : n = l.length) (hne : x ≠ g) (hl : ∀ z ∈ l, lo ≤ z ∧ z ≤ hi) : AllAt w g (some ⟨x, 0, none⟩) n (IntIn lo hi) := by
 subst hcs hn
 refine ⟨x, 0, rfl, hne, fun i hi => ⟨.int .i64 l[i], ?_, l[i], rfl, hl _ (List.getElem_mem hi)⟩⟩
 have := h.cell i
 simp [hi] at this ⊢
 exact this
theorem own_blkF {w : World} {B e size g n c : Nat} {xs : List Value} (ho : w.ownsRow B e size (.slice (some ⟨g, 0, none⟩) n c) n xs) : ∃ cs, Blk w g e cs := by
 rcases ho.2 with ⟨h0, _⟩ | ⟨g', cap, cur, hv, _, hh, _⟩
 · cases h0
 · injection hv with hv
   injection hv with hv
   injection hv with hv
   subst hv
   exact ⟨cur, hh⟩
def lenAt (w : World) (N k : Nat) : Nat := match w.cell? ⟨N, k, none⟩ with
 | some (.slice _ n _) => n
 | _ => 0
theorem lenAt_of {w : World} {N k n c : Nat} {A : Option Addr} (h : w.cell? ⟨N, k, none⟩ = some (.slice A n c)) : lenAt w N k = n := by unfold lenAt; rw [h]
end Go.Proofs.Ytaghjaiaoajpiaa
