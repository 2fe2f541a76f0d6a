/- The worker: a frame of its own, its moves, how often the left was asked. -/
import Derived.Test.YtaghjaiaoajpiaaVM3
import Derived.Deep.RegionLaw
namespace Go.Proofs.Ytaghjaiaoajpiaa
open Go.RowKit
set_option linter.unusedVariables false
set_option linter.unusedSimpArgs false
/-- the worker in block g, all that it has at B or above -/
def Wk (w : World) (B g : Nat) (u lo : Int) (s : WS) : Prop :=
 ∃ (h c c' : Nat) (A : Option Addr), Blk w g 78 #[.int .i64 u, .int .i64 lo, .slice (some ⟨h, 0, none⟩) s.ds.length c, .slice A s.ms.length c', .int .i64 s.ask] ∧ B ≤ g ∧
  w.ownsRow B 42 2 (.slice (some ⟨h, 0, none⟩) s.ds.length c) s.ds.length (rowsV2 (rodsD s.ds)) ∧ w.ownsRow B 83 3 (.slice A s.ms.length c') s.ms.length (rowsV3 s.ms)
theorem Wk.ext {w w' : World} {B g : Nat} {u lo : Int} {s : WS} (h : Wk w B g u lo s) (hb : Below w.heap.size w w') : Wk w' B g u lo s := by
 obtain ⟨h, c, c', A, h1, h2, h3, h4⟩ := h
 exact ⟨h, c, c', A, h1.ext hb, h2, own_ext h3 hb, own_ext h4 hb⟩
theorem Wk.lt {w : World} {B g : Nat} {u lo : Int} {s : WS} (h : Wk w B g u lo s) : B ≤ g ∧ g < w.heap.size := by
 obtain ⟨h, c, c', A, h1, h2, _⟩ := h
 exact ⟨h2, h1.lt⟩
/-- the cells of rod r -/
theorem rods_cells {w : World} {B h n c : Nat} {ds : List Int} (hr : w.ownsRow B 42 2 (.slice (some ⟨h, 0, none⟩) n c) n (rowsV2 (rodsD ds))) {r : Nat} {d : Int} (hd : ds[r]? = some d) :
 w.cell? ⟨h, r * 2, none⟩ = some (.int .i64 (d / 5)) ∧ w.cell? ⟨h, r * 2 + 1, none⟩ = some (.int .i64 (d % 5)) ∧ h < w.heap.size ∧ B ≤ h := by
 obtain ⟨b, o, hA, hb, c0, c1⟩ := rows_at2 (Reads.of_own hr) (rodsD_get hd)
 injection hA with hA
 injection hA with hA1 hA2
 subst hA1 hA2
 rw [Nat.zero_add] at c0 c1
 exact ⟨c0, c1, hb, (hr.lt _ rfl).1⟩
theorem own_frozen {w : World} {B e size h n c : Nat} {xs : List Value} (hr : w.ownsRow B e size (.slice (some ⟨h, 0, none⟩) n c) n xs) (i : Nat) : w.frozen? ⟨h, i, none⟩ = false := by
 rcases hr.2 with ⟨h0, _⟩ | ⟨g', cap, cur, hv, _, hh, _⟩
 · cases h0
 · injection hv with hv
   injection hv with hv
   injection hv with hv
   subst hv
   exact Blk.frozen hh i
set_option maxRecDepth 100000 in
theorem value_any (B g : Nat) (u lo : Int) (s : WS) (r : Nat) (d : Int) (w : World) (hW : Wk w B g u lo s) (hd : s.ds[r]? = some d) (h0 : 0 ≤ d) (h9 : d ≤ 9) :
 Calls Try.prog 88 #[.pointer (some ⟨g, 0, none⟩), .int .i64 (r : Int)] w fun e w' => e = .returned (.int .i64 d) ∧ Below w.heap.size w w' := by
 obtain ⟨h, c, c', A, hB, hBg, hr, hm⟩ := hW
 obtain ⟨c0, c1, hlt, _⟩ := rods_cells hr hd
 obtain ⟨q0, q1, q2, q3, q4⟩ := hB.q5
 have hrl : r < s.ds.length := (List.getElem?_eq_some_iff.1 hd).1
 have hg := hB.lt
 have e := Lib.hid (show 5 * (d / 5) + d % 5 = d by omega)
 clear hr hm hB hd hBg
 go_enter Try.func88, Try.ntmps88
 go_wp2
 (refine wp_region_later (by kernel_rfl) (by kernel_rfl) ?_; (repeat (go_big_quiet_step (fail))); refine wpQuiet_nil ?_; intro w1 hw1; obtain ⟨⟨wl, hbL⟩, hw1'⟩ := hw1; simp only at hw1'; subst hw1'; obtain ⟨hcL, hfL⟩ := bcell hbL)
 go_wp2
 go_ret
 exact ⟨ret_int e.out, hbL⟩
theorem turnMoves_any (r : Nat) (x v : Int) (mm : Nat) (w : World) (hmm : mm = (turnM r x v).length) (h0 : 0 ≤ x) (h9 : x ≤ 9) (v0 : 0 ≤ v) (v9 : v ≤ 9) :
 Calls Try.prog 84 #[.int .i64 (r : Int), .agg #[.int .i64 (x / 5), .int .i64 (x % 5)], .agg #[.int .i64 (rodD v).a, .int .i64 (rodD v).b]] w (RetSlice w 83 3 mm (rowsV3 (turnM r x v))) := by
 subst hmm
 exact rodMoves_any r (rodD x) (rodD v) w (rodD_Sm h0 (by omega)) (rodD_Sm v0 (by omega))
theorem rowsV2_set : ∀ (l : List R2) (i : Nat) (r : R2), i < l.length → rowsV2 (l.set i r) = ((rowsV2 l).set (i * 2) (.int .i64 r.a)).set (i * 2 + 1) (.int .i64 r.b) := by
 intro l
 induction l with
 | nil => intro i r h; simp at h
 | cons x l ih =>
   intro i r h
   rcases i with _ | i
   · simp [rowsV2, R2.cells]
   · have := ih i r (by simpa using h)
     have e : ∀ y : R2, ∀ m : List R2, rowsV2 (y :: m) = R2.cells y ++ rowsV2 m := fun y m => by simp [rowsV2]
     rw [List.set_cons_succ, e, e, this]
     have hl : (R2.cells x).length = 2 := rfl
     rw [List.set_append_right _ _ (by rw [hl]; omega), List.set_append_right _ _ (by rw [hl]; omega), hl]
     congr 2
     · congr 1; omega
     · omega
/-- blocks of other types than a worker's are as they were -/
def KeepT (w w' : World) : Prop := w.heap.size ≤ w'.heap.size ∧ ∀ b t cs, Blk w b t cs → t ≠ 78 → t ≠ 42 → t ≠ 83 → Blk w' b t cs
theorem KeepT.refl (w : World) : KeepT w w := ⟨Nat.le_refl _, fun _ _ _ h _ _ _ => h⟩
theorem KeepT.trans {w w1 w2 : World} (h : KeepT w w1) (k : KeepT w1 w2) : KeepT w w2 := ⟨Nat.le_trans h.1 k.1, fun b t cs hb h1 h2 h3 => k.2 b t cs (h.2 b t cs hb h1 h2 h3) h1 h2 h3⟩
theorem KeepT.of_ext {w w' : World} (h : Below w.heap.size w w') : KeepT w w' := ⟨h.size, fun _ _ _ hb _ _ _ => hb.ext h⟩
theorem blk_ne {w : World} {g b : Nat} {t e : TypeId} {cs ds : Array Value} (h : Blk w g t cs) (k : Blk w b e ds) (hne : t ≠ e) : g ≠ b := by
 rintro rfl
 unfold Blk at h k
 rw [h] at k
 injection k with k
 injection k with _ k
 exact hne k
theorem KeepT.set {w w' : World} (h : KeepT w w') {g : Nat} {t : TypeId} {cs : Array Value} (hg : Blk w' g t cs) (ht : t = 78 ∨ t = 42 ∨ t = 83) (i : Nat) (u : Value) : KeepT w (w'.setCell ⟨g, i, none⟩ u) :=
 ⟨by simpa [World.setCell] using h.1, fun b e ds hb h1 h2 h3 => (h.2 b e ds hb h1 h2 h3).setF (p := ⟨g, i, none⟩) (blk_ne hg (h.2 b e ds hb h1 h2 h3) (by rintro rfl; rcases ht with ht | ht | ht <;> first | exact h1 ht | exact h2 ht | exact h3 ht)) u⟩
theorem KeepT.setRow {w w' : World} (h : KeepT w w') {B g size n c : Nat} {t : TypeId} {xs : List Value} (hg : w'.ownsRow B t size (.slice (some ⟨g, 0, none⟩) n c) n xs) (ht : t = 78 ∨ t = 42 ∨ t = 83) (i : Nat) (u : Value) : KeepT w (w'.setCell ⟨g, i, none⟩ u) := by
 rcases hg.2 with ⟨h0, _⟩ | ⟨g', cap, cur, hv, _, hh, _⟩
 · cases h0
 · injection hv with hv
   injection hv with hv
   injection hv with hv
   subst hv
   exact h.set hh ht i u
theorem KeepT.row {w w1 w2 : World} (h : KeepT w w1) {B size n : Nat} {t : TypeId} {v : Value} {xs : List Value} (hr : w1.ownsRow B t size v n xs) (ht : t = 78 ∨ t = 42 ∨ t = 83) (hg : w1.grownBy w2 v.ownBlock) : KeepT w w2 :=
 ⟨Nat.le_trans h.1 hg.size, fun b e ds hb h1 h2 h3 => (h.2 b e ds hb h1 h2 h3).grownF hg (own_nbT hr (h.2 b e ds hb h1 h2 h3) (by rintro rfl; rcases ht with ht | ht | ht <;> first | exact h1 ht | exact h2 ht | exact h3 ht))⟩
theorem KeepT.own {w w' : World} (h : KeepT w w') {B size n : Nat} {e : TypeId} {v : Value} {xs : List Value} (hr : w.ownsRow B e size v n xs) (h1 : e ≠ 78) (h2 : e ≠ 42) (h3 : e ≠ 83) : w'.ownsRow B e size v n xs := by
 refine ⟨hr.1, ?_⟩
 rcases hr.2 with h0 | ⟨g, cap, cur, hv, hb, hh, hrest⟩
 · exact .inl h0
 · exact .inr ⟨g, cap, cur, hv, hb, h.2 g e cur hh h1 h2 h3, hrest⟩
/-- what a turn leaves -/
def Turned (w : World) (B g : Nat) (u lo : Int) (s : WS) (e : Ending) (w' : World) : Prop := e = .returned (.tuple #[]) ∧ Wk w' B g u lo s ∧ Below B w w' ∧ KeepT w w'
set_option maxRecDepth 100000 in
set_option maxHeartbeats 1000000 in
theorem turn_any (B g : Nat) (u lo : Int) (s : WS) (r : Nat) (x v : Int) (w : World) (hW : Wk w B g u lo s) (hx : s.ds[r]? = some x) (h0 : 0 ≤ x) (h9 : x ≤ 9) (v0 : 0 ≤ v) (v9 : v ≤ 9) (hms : s.ms.length ≤ 1000000000) :
 Calls Try.prog 89 #[.pointer (some ⟨g, 0, none⟩), .int .i64 (r : Int), .int .i64 v] w (Turned w B g u lo ⟨s.ds.set r v, s.ms ++ turnM r x v, s.ask⟩) := by
 obtain ⟨i0, hi, hz0, hz1, hz2⟩ := info_parts info_mv
 obtain ⟨h, c, c', A, hB, hBg, hr, hm⟩ := hW
 have hrl : r < s.ds.length := (List.getElem?_eq_some_iff.1 hx).1
 have hg := hB.lt
 have m3 := turnM_len r x v
 have m6 : s.ms.length + (turnM r x v).length ≤ maxLen := by unfold maxLen; omega
 have m7 : (s.ms.length + (turnM r x v).length) * 24 ≤ 140737488355328 := by omega
 obtain ⟨mm, hmm⟩ : ∃ mm, mm = (turnM r x v).length := ⟨_, rfl⟩
 rw [← hmm] at m3 m6 m7
 have HM := Lib.hid hmm
 have HX := Lib.hid hx
 have HR := Lib.hid hr
 have HMS := Lib.hid hm
 have HB := Lib.hid hB
 clear hmm hx hr hm hB
 go_enter Try.func89, Try.ntmps89
 go_wp2_with fail
 refine (rodOf_any v _ v0 (by omega)).mono ?_
 rintro e w1 ⟨rfl, hb1⟩
 go_wp2_with fail
 obtain ⟨W, hW⟩ : ∃ W, W = w1.alloc (.cells #[.int .i64 (rodD v).a, .int .i64 (rodD v).b] 42) := ⟨_, rfl⟩
 obtain ⟨N, hN⟩ : ∃ N, N = w1.heap.size := ⟨_, rfl⟩
 have BT : Blk W N 42 #[.int .i64 (rodD v).a, .int .i64 (rodD v).b] := by rw [hW]; exact Blk.born _ _ _ hN
 have hbW : Below w.heap.size w W := by rw [hW]; exact ext_alloc hb1 _
 rw [← hW, ← hN]
 have BT := Lib.hid BT
 have HB1 := Lib.hid (HB.out.ext hbW)
 have HR1 := Lib.hid (own_ext HR.out hbW)
 have HM1 := Lib.hid (own_ext HMS.out hbW)
 have hBW : B ≤ W.heap.size := by have := hbW.size; omega
 have hbW := Lib.hid hbW
 clear hW hN hb1
 have ⟨c0, c1, hlt, _⟩ := rods_cells HR1.out HX.out
 obtain ⟨q0, q1, q2, q3, q4⟩ := HB1.out.q5
 obtain ⟨t0, t1⟩ := BT.out.q2
 have hgW := HB1.out.lt
 go_upto_region 1 with fail
 go_cut [6] (fun s6 wx => ∃ (A4 : Option Addr) (c4 : Nat), s6 = .pointer (some ⟨N, 0, none⟩) ∧ Hid (Blk wx g 78 #[.int .i64 u, .int .i64 lo, .slice (some ⟨h, 0, none⟩) s.ds.length c, .slice A4 (s.ms.length + mm) c4, .int .i64 s.ask]) ∧ Hid (Blk wx N 42 #[.int .i64 (rodD v).a, .int .i64 (rodD v).b]) ∧ Hid (wx.ownsRow B 42 2 (.slice (some ⟨h, 0, none⟩) s.ds.length c) s.ds.length (rowsV2 (rodsD s.ds))) ∧ Hid (wx.ownsRow B 83 3 (.slice A4 (s.ms.length + mm) c4) (s.ms.length + mm) (rowsV3 (s.ms ++ turnM r x v))) ∧ Hid (Below B W wx) ∧ Hid (KeepT W wx))
 case first =>
  go_region_law (first
   | (go_simp; go_at_call 84; refine (turnMoves_any r x v mm _ HM.out h0 h9 v0 v9).mono ?_; rintro e w3 ⟨Am, cm, rfl, hm3, hb3⟩; have hb3 := Lib.hid (ext_drew_left hb3); have q3w : w3.cell? ⟨g, 3, none⟩ = some (.slice A s.ms.length c') := ext_cell hb3.out q3; have hm3 := Lib.hid (own_base (base' := W.heap.size) hm3 (Nat.le_refl _)))
   | (refine step_appO rfl (.tmp 13) (.tmp 24) 46 rfl B 83 i0 _ 3 24 Try.underlying46 hi hz0 hz1 hz2 rfl (by decide) (.slice A s.ms.length c') _ _ rfl (own_ext HM1.out hb3.out) Am mm cm (rowsV3 (turnM r x v)) rfl _ hm3.out (rows3_one _) m6 m7 (Nat.le_trans hBW hb3.out.size) ?_; intro A4 c4 w4 hown hgrow; rw [← rowsV3_app] at hown; have hnb := own_nbT (own_ext HM1.out hb3.out) (HB1.out.ext hb3.out) (by decide); have hnr := own_neT (own_ext HR1.out hb3.out) (own_ext HM1.out hb3.out) (by decide); have hnt := own_nbT (own_ext HM1.out hb3.out) (BT.out.ext hb3.out) (by decide); have BG4 := (HB1.out.ext hb3.out).grownF hgrow hnb; have BT4 := Lib.hid ((BT.out.ext hb3.out).grownF hgrow hnt); have HR4 := Lib.hid ((own_ext HR1.out hb3.out).kept hgrow hnr); have hb4 := Lib.hid (below_row (own_ext HM1.out hb3.out) hgrow (Nat.le_trans hBW hb3.out.size)); have hk4 := Lib.hid ((KeepT.of_ext hb3.out).row (own_ext HM1.out hb3.out) (.inr (.inr rfl)) hgrow); obtain ⟨p0, p1, p2, p3, p4⟩ := BG4.q5; obtain ⟨k0, k1, k2, k3, k4⟩ := BG4.z5; have BG4 := Lib.hid BG4; have hown := Lib.hid hown; clear hnb hnr hnt hgrow))
  all_goals
   go_wp2_with fail
   go_meet
   refine ⟨A4, c4, rfl, ?_, ?_, ?_, ?_, ?_, ?_⟩
   · exact Lib.hid (BG4.out.set_ 3 _)
   · exact Lib.hid (BT4.out.setF (p := ⟨g, 3, none⟩) (fun e => by have e : g = N := e; subst e; have h1 := BT4.out; have h2 := BG4.out; unfold Blk at h1 h2; rw [h1] at h2; cases h2) _)
   · exact Lib.hid (own_setF (p := ⟨g, 3, none⟩) HR4.out (own_nbT HR4.out BG4.out (by decide)) _)
   · exact Lib.hid (own_setF (p := ⟨g, 3, none⟩) hown.out (own_nbT hown.out BG4.out (by decide)) _)
   · exact Lib.hid (((hb3.out.mono hBW).trans hb4.out).setCell (p := ⟨g, 3, none⟩) hBg _)
   · exact Lib.hid (hk4.out.set BG4.out (.inl rfl) 3 _)
 case rest =>
  obtain ⟨A4, c4, rfl, BG5, BT5, HR5, HM5, hb5, hk5⟩ := hcut
  have ⟨c0', c1', hlt', _⟩ := rods_cells HR5.out HX.out
  have fz0 := own_frozen HR5.out (r * 2)
  have fz1 := own_frozen HR5.out (r * 2 + 1)
  obtain ⟨p0, p1, p2, p3, p4⟩ := BG5.out.q5
  obtain ⟨t0', t1'⟩ := BT5.out.q2
  have hg5 := BG5.out.lt
  have hne : h ≠ g := fun e => own_nbT HR5.out BG5.out (by decide) (by rw [e]; rfl)
  have e1 := Lib.hid (rowsV2_set (rodsD s.ds) r (rodD v) (by rw [rodsD_len]; exact hrl))
  go_wp2_with fail
  go_region
  refine bodyPost_ret (v := .tuple #[]) (by simp [results, Try.results89, go_sem]) rfl ?_
  refine ⟨rfl, ⟨h, c, c4, A4, ?_, hBg, ?_, ?_⟩, ?_, ?_⟩
  · rw [List.length_set, List.length_append, ← HM.out]
    exact ((show Blk wc.drew g _ _ from BG5.out).setF (p := ⟨h, r * 2, none⟩) hne _).setF (p := ⟨h, r * 2 + 1, none⟩) hne _
  · rw [List.length_set, rodsD_set, e1.out]
    exact (((show wc.drew.ownsRow _ _ _ _ _ _ from HR5.out).stored _ _).1.stored _ _).1
  · rw [List.length_append, ← HM.out]
    have hd := own_neT HR5.out HM5.out (by decide)
    have hne2 : Value.ownBlock (.slice A4 (s.ms.length + mm) c4) ≠ some h := fun e => by
     rcases hd with hd | hd
     · cases hd
     · exact hd e.symm
    exact own_setF (p := ⟨h, r * 2 + 1, none⟩) (own_setF (p := ⟨h, r * 2, none⟩) (show wc.drew.ownsRow _ _ _ _ _ _ from HM5.out) hne2 _) hne2 _
  · have hBh := (HR5.out.lt h rfl).1
    exact ((((hbW.out.mono (by omega)).trans hb5.out).drew).setCell (p := ⟨h, r * 2, none⟩) hBh _).setCell (p := ⟨h, r * 2 + 1, none⟩) hBh _
  · exact (((KeepT.of_ext hbW.out).trans (hk5.out.trans (KeepT.of_ext (ext_drew (ext_refl _))))).setRow (show wc.drew.ownsRow _ _ _ _ _ _ from HR5.out) (.inr (.inl rfl)) _ _).setRow (((show wc.drew.ownsRow _ _ _ _ _ _ from HR5.out).stored _ _).1) (.inr (.inl rfl)) _ _
end Go.Proofs.Ytaghjaiaoajpiaa
