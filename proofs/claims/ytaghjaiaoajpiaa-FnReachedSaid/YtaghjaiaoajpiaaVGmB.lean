/- A move made on a frame; moves played: the program's and the reference's. -/
import Derived.Test.YtaghjaiaoajpiaaVM4
import Derived.Test.YtaghjaiaoajpiaaVM3
namespace Go.Proofs.Ytaghjaiaoajpiaa
open Go.RowKit
set_option linter.unusedVariables false
set_option linter.unusedSimpArgs false
def bump (r : R2) (m : R3) : R2 := if m.b = 0 then ⟨r.a + m.c, r.b⟩ else ⟨r.a, r.b + m.c⟩
def mvL (l : List R2) (m : R3) : List R2 := l.set m.a.toNat (bump (l.getD m.a.toNat ⟨0, 0⟩) m)
def mvB (u lo : Int) (l : List R2) (m : R3) : Bool := decide (m.a < l.length) && frB u lo (mvL l m)
def mvF (u lo : Int) (l : List R2) (m : R3) : Int × Int × List R2 := if mvB u lo l m = true then (u, lo, mvL l m) else (0, 0, [])
theorem mvL_len (l : List R2) (m : R3) : (mvL l m).length = l.length := by simp [mvL]
theorem set_same {α : Type} {xs : List α} {i : Nat} {v : α} (h : xs[i]? = some v) : xs.set i v = xs := by
 obtain ⟨hi, e⟩ := List.getElem?_eq_some_iff.1 h
 rw [← e]
 exact List.set_getElem_self hi
theorem rowsV2_set0 {l : List R2} {i : Nat} {x : R2} (h : l[i]? = some x) (z : Int) : rowsV2 (l.set i ⟨z, x.b⟩) = (rowsV2 l).set (i * 2) (.int .i64 z) := by
 have hi : i < l.length := (List.getElem?_eq_some_iff.1 h).1
 rw [rowsV2_set _ _ _ hi]
 refine set_same ?_
 rw [List.getElem?_set_ne (by omega)]
 exact (rowsV_get2 h).2
theorem rowsV2_set1 {l : List R2} {i : Nat} {x : R2} (h : l[i]? = some x) (z : Int) : rowsV2 (l.set i ⟨x.a, z⟩) = (rowsV2 l).set (i * 2 + 1) (.int .i64 z) := by
 have hi : i < l.length := (List.getElem?_eq_some_iff.1 h).1
 rw [rowsV2_set _ _ _ hi]
 dsimp only
 rw [set_same (xs := rowsV2 l) (i := i * 2) (by simpa using (rowsV_get2 h).1)]
theorem hasRod_c (u lo : Int) (A : Option Addr) (n c : Nat) (m : Int) (b : Bool) (w : World) (hn : n ≤ 1048576) (hb : inB m 0 ((n : Int) - 1) = b) :
 Calls Try.prog 80 #[frV u lo A n c, .int .i64 m] w fun e w' => e = .returned (.bool b) ∧ Below w.heap.size w w' := by
 subst hb
 exact hasRod_any u lo A n c m w hn
set_option maxRecDepth 100000 in
set_option maxHeartbeats 4000000 in
theorem moved_any (u lo : Int) (A : Option Addr) (n c : Nat) (l : List R2) (m : R3) (w : World) (hf : frB u lo l = true) (hm : okM m = true) (h : Reads w w.heap.size 2 A n (rowsV2 l)) :
 Calls Try.prog 79 #[frV u lo A n c, m.val] w (RetFrB w (mvF u lo l m) (mvB u lo l m)) := by
 have hl := rows_len2 h
 obtain ⟨_, _, hn1, hn8⟩ := frB_head hf
 rw [hl] at hn1 hn8
 have hn : n ≤ 1048576 := by omega
 obtain ⟨⟨a0, a7⟩, ⟨b0, b1⟩, ⟨c5, c6⟩, _⟩ := okM_iff.1 hm
 obtain ⟨ma, mb, mc⟩ := m
 dsimp only at a0 a7 b0 b1 c5 c6
 obtain ⟨r, rfl⟩ := Int.eq_ofNat_of_zero_le a0
 have BF0 := Lib.hid (((Blk.born w #[.int .i64 u, .int .i64 lo, .slice A n c] 26 (H := w.heap.size) rfl).al (.cells #[.int .i64 (r : Int), .int .i64 mb, .int .i64 mc] 83)).al (.cells #[.int .i64 0, .int .i64 0, .slice none 0 0] 26))
 have BM0 := Lib.hid ((Blk.born (w.alloc (.cells #[.int .i64 u, .int .i64 lo, .slice A n c] 26)) #[.int .i64 (r : Int), .int .i64 mb, .int .i64 mc] 83 (H := w.heap.size + 1) (by simp)).al (.cells #[.int .i64 0, .int .i64 0, .slice none 0 0] 26))
 have BR0 := Lib.hid (Blk.born ((w.alloc (.cells #[.int .i64 u, .int .i64 lo, .slice A n c] 26)).alloc (.cells #[.int .i64 (r : Int), .int .i64 mb, .int .i64 mc] 83)) #[.int .i64 0, .int .i64 0, .slice none 0 0] 26 (H := w.heap.size + 1 + 1) (by simp))
 have hbx := Lib.hid (ext_alloc (ext_alloc (ext_alloc (ext_refl w) (.cells #[.int .i64 u, .int .i64 lo, .slice A n c] 26)) (.cells #[.int .i64 (r : Int), .int .i64 mb, .int .i64 mc] 83)) (.cells #[.int .i64 0, .int .i64 0, .slice none 0 0] 26))
 have H := Lib.hid h
 have HM := Lib.hid hm
 have HL := Lib.hid hl
 have HF := Lib.hid hf
 have hle2 : w.heap.size ≤ w.heap.size + 1 + 1 := by omega
 clear h hm
 by_cases hr : r < n
 · obtain ⟨x, hx⟩ := list_split (l := l) (k := r) (by omega)
   obtain ⟨r1, r2, r3, r4⟩ := frB_rod hf hx
   have hu := (frB_head hf).1
   have hlo := (frB_head hf).2.1
   rcases (show mb = 0 ∨ mb = 1 by omega) with rfl | rfl
   · obtain ⟨L', hL'⟩ : ∃ L', L' = l.set r ⟨x.a + mc, x.b⟩ := ⟨_, rfl⟩
     have hmv : mvL l ⟨(r : Int), 0, mc⟩ = L' := by
      rw [hL']
      unfold mvL bump
      rw [List.getD_eq_getElem?_getD]
      simp [hx]
     have hL'l : L'.length = n := by rw [hL', List.length_set, hl]
     have hset := Lib.hid (show rowsV2 L' = (rowsV2 l).set (r * 2) (.int .i64 (x.a + mc)) by rw [hL']; exact rowsV2_set0 hx (x.a + mc))
     have HLL := Lib.hid hL'
     have HX := Lib.hid hx
     have hdec : decide ((r : Int) < l.length) = true := by rw [hl]; simpa using hr
     have EB : mvB u lo l ⟨(r : Int), 0, mc⟩ = frB u lo L' := by unfold mvB; rw [hmv]; dsimp only; rw [hdec, Bool.true_and]
     have EF : mvF u lo l ⟨(r : Int), 0, mc⟩ = if frB u lo L' = true then (u, lo, L') else (0, 0, []) := by unfold mvF; rw [EB, hmv]
     obtain ⟨Y, hY⟩ : ∃ Y : Int × Int × List R2, Y = if frB u lo L' = true then (u, lo, L') else (0, 0, []) := ⟨_, rfl⟩
     rw [EB, EF, ← hY]
     have HY := Lib.hid hY
     clear hY EB EF hmv hL' hdec hx hl hf
     have hrb := inB_iff.2 (show 0 ≤ (r : Int) ∧ (r : Int) ≤ (n : Int) - 1 by omega)
     go_enter Try.func79, Try.ntmps79
     go_wp2_with fail
     refine (hasRod_c u lo A n c r _ _ hn hrb).mono ?_
     rintro e w1 ⟨rfl, hb1⟩
     have BF1 := Lib.hid (BF0.out.ext hb1)
     have BM1 := Lib.hid (BM0.out.ext hb1)
     have BR1 := Lib.hid (BR0.out.ext hb1)
     have hb2 := Lib.hid (ext_trans hbx.out hb1)
     obtain ⟨f0, f1, f2⟩ := BF1.out.q3
     clear hb1
     go_wp2_with fail
     refine (own_fr u lo A n c l _ hn1 hn (rdx H.out hb2.out)).mono ?_
     rintro e w2 ⟨h, cr, rfl, hr2, hb3⟩
     have hr2 := Lib.hid (own_base (base' := w.heap.size) hr2 hb2.out.size)
     have BF2 := Lib.hid (BF1.out.ext hb3)
     have BM2 := Lib.hid (BM1.out.ext hb3)
     have BR2 := Lib.hid (BR1.out.ext hb3)
     have hb4 := Lib.hid (ext_trans hb2.out hb3)
     have hRl := BR2.out.lt
     obtain ⟨N, hN⟩ : ∃ N, N = w2.heap.size := ⟨_, rfl⟩
     obtain ⟨W, hW⟩ : ∃ W, W = w2.alloc (.cells #[.int .i64 u, .int .i64 lo, .slice (some ⟨h, 0, none⟩) n cr] 26) := ⟨_, rfl⟩
     have BNW := Lib.hid (show Blk W N 26 #[.int .i64 u, .int .i64 lo, .slice (some ⟨h, 0, none⟩) n cr] by rw [hW]; exact Blk.born _ _ _ hN)
     have BFW := Lib.hid (show Blk W w.heap.size 26 #[.int .i64 u, .int .i64 lo, .slice A n c] by rw [hW]; exact BF2.out.al _)
     have BMW := Lib.hid (show Blk W (w.heap.size + 1) 83 #[.int .i64 (r : Int), .int .i64 0, .int .i64 mc] by rw [hW]; exact BM2.out.al _)
     have BRW := Lib.hid (show Blk W (w.heap.size + 1 + 1) 26 #[.int .i64 0, .int .i64 0, .slice none 0 0] by rw [hW]; exact BR2.out.al _)
     have hrW := Lib.hid (show W.ownsRow w.heap.size 42 2 (.slice (some ⟨h, 0, none⟩) n cr) n (rowsV2 l) by rw [hW]; exact hr2.out.alloc _)
     have hbW := Lib.hid (show Below w.heap.size w W by rw [hW]; exact ext_alloc hb4.out _)
     have HWN := Lib.hid (And.intro hW hN)
     have hneNR : N ≠ w.heap.size + 1 + 1 := by omega
     clear hb3 hN hW hRl
     go_upto_region 4 with fail
     rw [← HWN.out.2, ← HWN.out.1]
     obtain ⟨p0, p1, p2⟩ := BNW.out.q3
     obtain ⟨q0, q1, q2⟩ := BMW.out.q3
     obtain ⟨c0, c1, hlt, hge⟩ := rows_cells2 hrW.out HX.out
     have fz := own_frozen hrW.out (r * 2)
     have hneN : h ≠ N := fun ee => own_nbT hrW.out BNW.out (by decide) (by rw [ee]; rfl)
     have hneR : h ≠ w.heap.size + 1 + 1 := fun ee => own_nbT hrW.out BRW.out (by decide) (by rw [ee]; rfl)
     go_cut [6] (fun s6 wx => s6 = .pointer (some ⟨N, 0, none⟩) ∧ Hid (Blk wx N 26 #[.int .i64 u, .int .i64 lo, .slice (some ⟨h, 0, none⟩) n cr]) ∧ Hid (Blk wx (w.heap.size + 1 + 1) 26 #[.int .i64 0, .int .i64 0, .slice none 0 0]) ∧ Hid (wx.ownsRow w.heap.size 42 2 (.slice (some ⟨h, 0, none⟩) n cr) n (rowsV2 L')) ∧ Hid (Below w.heap.size w wx))
     case first =>
      go_region
      go_wp2_with fail
      go_meet
      exact ⟨rfl, Lib.hid ((show Blk W.drew N _ _ from BNW.out).setF (p := ⟨h, r * 2, none⟩) hneN _), Lib.hid ((show Blk W.drew _ _ _ from BRW.out).setF (p := ⟨h, r * 2, none⟩) hneR _), by rw [hset.out]; exact Lib.hid ((show W.drew.ownsRow _ _ _ _ _ _ from hrW.out).stored (r * 2) _).1, Lib.hid (hbW.out.drew.setCell (p := ⟨h, r * 2, none⟩) hge _)⟩
     case rest =>
      obtain ⟨rfl, BN5, BR5, hr5, hb5⟩ := hcut
      obtain ⟨w5, hw5⟩ : ∃ x : World, x = wc := ⟨_, rfl⟩
      subst hw5
      obtain ⟨p0, p1, p2⟩ := BN5.out.q3
      clear HWN
      go_wp2_with fail
      refine (isFrame_any u lo (some ⟨h, 0, none⟩) n cr L' _ hn (Reads.of_own hr5.out)).mono ?_
      cases hgd : frB u lo L'
      · rintro e w6 ⟨rfl, hb⟩
        have BR6 := Lib.hid (BR5.out.ext hb)
        have hb6 := Lib.hid (ext_trans hb5.out hb)
        obtain ⟨s0, s1, s2⟩ := BR6.out.q3
        obtain ⟨z0, z1, z2⟩ := BR6.out.z3
        have hRl := BR6.out.lt
        clear hb p0 p1 p2
        go_wp2
        refine bodyPost_ret (v := .tuple #[frV 0 0 none 0 0, .bool false]) (by simp [results, Try.results79, go_sem, *]) rfl ?_
        rw [HY.out, if_neg (by rw [hgd]; decide), hgd]
        exact ⟨none, 0, rfl, World.ownsRow_nil _ _ _ _, fill_below hb6.out hle2⟩
      · rintro e w6 ⟨rfl, hb⟩
        have BR6 := Lib.hid (BR5.out.ext hb)
        have hr6 := Lib.hid (own_ext hr5.out hb)
        have hb6 := Lib.hid (ext_trans hb5.out hb)
        obtain ⟨p0, p1, p2⟩ := (BN5.out.ext hb).q3
        obtain ⟨s0, s1, s2⟩ := BR6.out.q3
        obtain ⟨z0, z1, z2⟩ := BR6.out.z3
        have hRl := BR6.out.lt
        clear hb
        go_wp2
        refine bodyPost_ret (v := .tuple #[frV u lo (some ⟨h, 0, none⟩) n cr, .bool true]) (by simp [results, Try.results79, go_sem, *]) rfl ?_
        rw [HY.out, if_pos hgd, hgd]
        refine ⟨some ⟨h, 0, none⟩, cr, by dsimp only; rw [hL'l], ?_, fill_below hb6.out hle2⟩
        dsimp only
        rw [hL'l]
        exact fill_own' hr6.out (own_nbT hr6.out BR6.out (by decide))
   · obtain ⟨L', hL'⟩ : ∃ L', L' = l.set r ⟨x.a, x.b + mc⟩ := ⟨_, rfl⟩
     have hmv : mvL l ⟨(r : Int), 1, mc⟩ = L' := by
      rw [hL']
      unfold mvL bump
      rw [List.getD_eq_getElem?_getD]
      simp [hx]
     have hL'l : L'.length = n := by rw [hL', List.length_set, hl]
     have hset := Lib.hid (show rowsV2 L' = (rowsV2 l).set (r * 2 + 1) (.int .i64 (x.b + mc)) by rw [hL']; exact rowsV2_set1 hx (x.b + mc))
     have HLL := Lib.hid hL'
     have HX := Lib.hid hx
     have hdec : decide ((r : Int) < l.length) = true := by rw [hl]; simpa using hr
     have EB : mvB u lo l ⟨(r : Int), 1, mc⟩ = frB u lo L' := by unfold mvB; rw [hmv]; dsimp only; rw [hdec, Bool.true_and]
     have EF : mvF u lo l ⟨(r : Int), 1, mc⟩ = if frB u lo L' = true then (u, lo, L') else (0, 0, []) := by unfold mvF; rw [EB, hmv]
     obtain ⟨Y, hY⟩ : ∃ Y : Int × Int × List R2, Y = if frB u lo L' = true then (u, lo, L') else (0, 0, []) := ⟨_, rfl⟩
     rw [EB, EF, ← hY]
     have HY := Lib.hid hY
     clear hY EB EF hmv hL' hdec hx hl hf
     have hrb := inB_iff.2 (show 0 ≤ (r : Int) ∧ (r : Int) ≤ (n : Int) - 1 by omega)
     go_enter Try.func79, Try.ntmps79
     go_wp2_with fail
     refine (hasRod_c u lo A n c r _ _ hn hrb).mono ?_
     rintro e w1 ⟨rfl, hb1⟩
     have BF1 := Lib.hid (BF0.out.ext hb1)
     have BM1 := Lib.hid (BM0.out.ext hb1)
     have BR1 := Lib.hid (BR0.out.ext hb1)
     have hb2 := Lib.hid (ext_trans hbx.out hb1)
     obtain ⟨f0, f1, f2⟩ := BF1.out.q3
     clear hb1
     go_wp2_with fail
     refine (own_fr u lo A n c l _ hn1 hn (rdx H.out hb2.out)).mono ?_
     rintro e w2 ⟨h, cr, rfl, hr2, hb3⟩
     have hr2 := Lib.hid (own_base (base' := w.heap.size) hr2 hb2.out.size)
     have BF2 := Lib.hid (BF1.out.ext hb3)
     have BM2 := Lib.hid (BM1.out.ext hb3)
     have BR2 := Lib.hid (BR1.out.ext hb3)
     have hb4 := Lib.hid (ext_trans hb2.out hb3)
     have hRl := BR2.out.lt
     obtain ⟨N, hN⟩ : ∃ N, N = w2.heap.size := ⟨_, rfl⟩
     obtain ⟨W, hW⟩ : ∃ W, W = w2.alloc (.cells #[.int .i64 u, .int .i64 lo, .slice (some ⟨h, 0, none⟩) n cr] 26) := ⟨_, rfl⟩
     have BNW := Lib.hid (show Blk W N 26 #[.int .i64 u, .int .i64 lo, .slice (some ⟨h, 0, none⟩) n cr] by rw [hW]; exact Blk.born _ _ _ hN)
     have BFW := Lib.hid (show Blk W w.heap.size 26 #[.int .i64 u, .int .i64 lo, .slice A n c] by rw [hW]; exact BF2.out.al _)
     have BMW := Lib.hid (show Blk W (w.heap.size + 1) 83 #[.int .i64 (r : Int), .int .i64 1, .int .i64 mc] by rw [hW]; exact BM2.out.al _)
     have BRW := Lib.hid (show Blk W (w.heap.size + 1 + 1) 26 #[.int .i64 0, .int .i64 0, .slice none 0 0] by rw [hW]; exact BR2.out.al _)
     have hrW := Lib.hid (show W.ownsRow w.heap.size 42 2 (.slice (some ⟨h, 0, none⟩) n cr) n (rowsV2 l) by rw [hW]; exact hr2.out.alloc _)
     have hbW := Lib.hid (show Below w.heap.size w W by rw [hW]; exact ext_alloc hb4.out _)
     have HWN := Lib.hid (And.intro hW hN)
     have hneNR : N ≠ w.heap.size + 1 + 1 := by omega
     clear hb3 hN hW hRl
     go_upto_region 4 with fail
     rw [← HWN.out.2, ← HWN.out.1]
     obtain ⟨p0, p1, p2⟩ := BNW.out.q3
     obtain ⟨q0, q1, q2⟩ := BMW.out.q3
     obtain ⟨c0, c1, hlt, hge⟩ := rows_cells2 hrW.out HX.out
     have fz := own_frozen hrW.out (r * 2 + 1)
     have hneN : h ≠ N := fun ee => own_nbT hrW.out BNW.out (by decide) (by rw [ee]; rfl)
     have hneR : h ≠ w.heap.size + 1 + 1 := fun ee => own_nbT hrW.out BRW.out (by decide) (by rw [ee]; rfl)
     go_cut [6] (fun s6 wx => s6 = .pointer (some ⟨N, 0, none⟩) ∧ Hid (Blk wx N 26 #[.int .i64 u, .int .i64 lo, .slice (some ⟨h, 0, none⟩) n cr]) ∧ Hid (Blk wx (w.heap.size + 1 + 1) 26 #[.int .i64 0, .int .i64 0, .slice none 0 0]) ∧ Hid (wx.ownsRow w.heap.size 42 2 (.slice (some ⟨h, 0, none⟩) n cr) n (rowsV2 L')) ∧ Hid (Below w.heap.size w wx))
     case first =>
      go_region
      go_wp2_with fail
      go_meet
      exact ⟨rfl, Lib.hid ((show Blk W.drew N _ _ from BNW.out).setF (p := ⟨h, r * 2 + 1, none⟩) hneN _), Lib.hid ((show Blk W.drew _ _ _ from BRW.out).setF (p := ⟨h, r * 2 + 1, none⟩) hneR _), by rw [hset.out]; exact Lib.hid ((show W.drew.ownsRow _ _ _ _ _ _ from hrW.out).stored (r * 2 + 1) _).1, Lib.hid (hbW.out.drew.setCell (p := ⟨h, r * 2 + 1, none⟩) hge _)⟩
     case rest =>
      obtain ⟨rfl, BN5, BR5, hr5, hb5⟩ := hcut
      obtain ⟨w5, hw5⟩ : ∃ x : World, x = wc := ⟨_, rfl⟩
      subst hw5
      obtain ⟨p0, p1, p2⟩ := BN5.out.q3
      clear HWN
      go_wp2_with fail
      refine (isFrame_any u lo (some ⟨h, 0, none⟩) n cr L' _ hn (Reads.of_own hr5.out)).mono ?_
      cases hgd : frB u lo L'
      · rintro e w6 ⟨rfl, hb⟩
        have BR6 := Lib.hid (BR5.out.ext hb)
        have hb6 := Lib.hid (ext_trans hb5.out hb)
        obtain ⟨s0, s1, s2⟩ := BR6.out.q3
        obtain ⟨z0, z1, z2⟩ := BR6.out.z3
        have hRl := BR6.out.lt
        clear hb p0 p1 p2
        go_wp2
        refine bodyPost_ret (v := .tuple #[frV 0 0 none 0 0, .bool false]) (by simp [results, Try.results79, go_sem, *]) rfl ?_
        rw [HY.out, if_neg (by rw [hgd]; decide), hgd]
        exact ⟨none, 0, rfl, World.ownsRow_nil _ _ _ _, fill_below hb6.out hle2⟩
      · rintro e w6 ⟨rfl, hb⟩
        have BR6 := Lib.hid (BR5.out.ext hb)
        have hr6 := Lib.hid (own_ext hr5.out hb)
        have hb6 := Lib.hid (ext_trans hb5.out hb)
        obtain ⟨p0, p1, p2⟩ := (BN5.out.ext hb).q3
        obtain ⟨s0, s1, s2⟩ := BR6.out.q3
        obtain ⟨z0, z1, z2⟩ := BR6.out.z3
        have hRl := BR6.out.lt
        clear hb
        go_wp2
        refine bodyPost_ret (v := .tuple #[frV u lo (some ⟨h, 0, none⟩) n cr, .bool true]) (by simp [results, Try.results79, go_sem, *]) rfl ?_
        rw [HY.out, if_pos hgd, hgd]
        refine ⟨some ⟨h, 0, none⟩, cr, by dsimp only; rw [hL'l], ?_, fill_below hb6.out hle2⟩
        dsimp only
        rw [hL'l]
        exact fill_own' hr6.out (own_nbT hr6.out BR6.out (by decide))
 · have hdec : decide ((r : Int) < l.length) = false := by rw [hl]; simpa using hr
   have EB : mvB u lo l ⟨(r : Int), mb, mc⟩ = false := by unfold mvB; dsimp only; rw [hdec, Bool.false_and]
   rw [EB, show mvF u lo l ⟨(r : Int), mb, mc⟩ = (0, 0, []) by unfold mvF; rw [EB]; rfl]
   clear EB hdec hl hf
   have hrb : inB (r : Int) 0 ((n : Int) - 1) = false := inB_no.2 (by omega)
   go_enter Try.func79, Try.ntmps79
   go_wp2_with fail
   refine (hasRod_c u lo A n c r _ _ hn hrb).mono ?_
   rintro e w1 ⟨rfl, hb1⟩
   have BR1 := Lib.hid (BR0.out.ext hb1)
   have hb2 := Lib.hid (ext_trans hbx.out hb1)
   obtain ⟨s0, s1, s2⟩ := BR1.out.q3
   obtain ⟨z0, z1, z2⟩ := BR1.out.z3
   have hRl := BR1.out.lt
   clear hb1
   go_wp2
   refine bodyPost_ret (v := .tuple #[frV 0 0 none 0 0, .bool false]) (by simp [results, Try.results79, go_sem, *]) rfl ?_
   exact ⟨none, 0, rfl, World.ownsRow_nil _ _ _ _, fill_below hb2.out hle2⟩
end Go.Proofs.Ytaghjaiaoajpiaa
