/- The drawing of frames. -/
import Derived.Maps.AppendAt
import Derived.Test.YtaghjaiaoajpiaaVFdA
namespace Go.Proofs.Ytaghjaiaoajpiaa
open Go.RowKit
set_option linter.unusedVariables false
set_option linter.unusedSimpArgs false
/-- numbers that a drawn frame has -/
def FrIn (u lo : Int) (l : List R2) : Prop := 0 ≤ u ∧ u ≤ 3 ∧ 3 ≤ lo ∧ lo ≤ 6 ∧ 1 ≤ l.length ∧ l.length ≤ 9 ∧ ∀ r ∈ l, -1 ≤ r.a ∧ r.a ≤ 9 ∧ -1 ≤ r.b ∧ r.b ≤ 9
/-- a frame is drawn: it is the call's own -/
def DrawFr (g a K : Nat) (w : World) (e : Ending) (w' : World) : Prop := ∃ (u lo : Int) (l : List R2) (A : Option Addr) (c a' : Nat), e = .returned (frV u lo A l.length c) ∧ FrIn u lo l ∧ a' ≤ a + K ∧ w'.ownsRow w.heap.size 42 2 (.slice A l.length c) l.length (rowsV2 l) ∧ CurAt w' g a' ∧ Gr g w w'
set_option maxRecDepth 100000 in
set_option maxHeartbeats 16000000 in
theorem frame_any (g a : Nat) (w : World) (h : CurAt w g a) (ha : a ≤ 500000000000) :
 Calls Try.prog 56 #[.pointer (some ⟨g, 0, none⟩)] w (DrawFr g a 400 w) := by
 obtain ⟨i0, hi0, hz0, hz1, hz2⟩ := info_parts info_rod
 have hgS : g < w.heap.size := h.lt
 have BR0 := Lib.hid (Blk.born w #[.int .i64 0, .int .i64 0, .slice none 0 0] 26 (H := w.heap.size) rfl)
 have HC0 := Lib.hid (h.ext (ext_alloc (ext_refl w) (.cells #[.int .i64 0, .int .i64 0, .slice none 0 0] 26)))
 have HG0 := Lib.hid (Gr.alloc g w (.cells #[.int .i64 0, .int .i64 0, .slice none 0 0] 26))
 clear h
 go_enter Try.func56, Try.ntmps56
 go_wp2_with fail
 refine (pick_any g a 2 _ HC0.out (by omega) (by omega) (by omega)).mono ?_
 rintro e w1 ⟨pu, a1, rfl, pu0, pu1, ha1, hc1, hg1⟩
 have HC1 := Lib.hid hc1
 have HG1 := Lib.hid (HG0.out.trans hg1)
 have BR1 := Lib.hid (BR0.out.gr hg1 (by omega))
 clear hc1 hg1 HC0 HG0 BR0
 go_wp2_with fail
 refine (pick_any g a1 2 _ HC1.out (by omega) (by omega) (by omega)).mono ?_
 rintro e w2 ⟨pl, a2, rfl, pl0, pl1, ha2, hc2, hg2⟩
 have HC2 := Lib.hid hc2
 have HG2 := Lib.hid (HG1.out.trans hg2)
 have BR2 := Lib.hid (BR1.out.gr hg2 (by omega))
 clear hc2 hg2 HC1 HG1 BR1
 obtain ⟨un, hun⟩ := Int.eq_ofNat_of_zero_le (show 0 ≤ 1 + pu by omega)
 obtain ⟨lon, hlon⟩ := Int.eq_ofNat_of_zero_le (show 0 ≤ 4 + pl by omega)
 have hun2 : un ≤ 2 := by omega
 have hlon2 : lon ≤ 5 := by omega
 have hlon4 : 4 ≤ lon := by omega
 obtain ⟨N, hN⟩ : ∃ N, N = w2.heap.size + 1 := ⟨_, rfl⟩
 obtain ⟨W, hW⟩ : ∃ y : World, y = (w2.alloc (.cells #[] 42)).alloc (.cells #[.int .i64 (un : Int), .int .i64 (lon : Int), .slice (some ⟨w2.heap.size, 0, none⟩) 0 0] 26) := ⟨_, rfl⟩
 have hs2 := HG2.out.size
 have BN3 := Lib.hid (show Blk W N 26 #[.int .i64 (un : Int), .int .i64 (lon : Int), .slice (some ⟨w2.heap.size, 0, none⟩) 0 0] by rw [hW]; exact Blk.born (w2.alloc (.cells #[] 42)) _ 26 (H := N) (by rw [hN]; simp))
 have HR3 := Lib.hid (show W.ownsRow w.heap.size 42 2 (.slice (some ⟨w2.heap.size, 0, none⟩) 0 0) 0 (rowsV2 []) by rw [hW]; exact (own_base (own_lit0 w2 42 2) hs2).alloc _)
 have BR3 := Lib.hid (show Blk W w.heap.size 26 #[.int .i64 0, .int .i64 0, .slice none 0 0] by rw [hW]; exact (BR2.out.al _).al _)
 have HC3 := Lib.hid (show CurAt W g a2 by rw [hW]; exact (HC2.out.ext (ext_alloc (ext_refl _) _)).ext (ext_alloc (ext_refl _) _))
 have HG3 := Lib.hid (show Gr g w W by rw [hW]; exact (HG2.out.trans (Gr.alloc _ _ _)).trans (Gr.alloc _ _ _))
 have hgN : g < N := by omega
 have hwN : w.heap.size ≤ N := by omega
 have hlR := BR2.out.lt
 have hNR : N ≠ w.heap.size := by omega
 have hRg : w.heap.size ≠ g := by omega
 have hNg : N ≠ g := by omega
 have hwR : w.heap.size ≤ w.heap.size := Nat.le_refl _
 have HUN := Lib.hid (And.intro hun2 (And.intro hlon2 hlon4))
 go_upto_region 2 with fail
 rw [← hN, ← hW]
 clear hun hlon pu0 pu1 pl0 pl1 hN hW HC2 HG2 BR2 hs2 hlR
 go_wp2_with fail
 refine (pick_any g a2 5 _ HC3.out (by omega) (by omega) (by omega)).mono ?_
 rintro e w4 ⟨pk, a4, rfl, pk0, pk1, ha4, hc4, hg4⟩
 have HC4 := Lib.hid hc4
 have HG4 := Lib.hid (HG3.out.trans hg4)
 have BN4 := Lib.hid (BN3.out.gr hg4 hNg)
 have HR4 := Lib.hid (own_gr HR3.out hg4 hgS)
 have BR4 := Lib.hid (BR3.out.gr hg4 hRg)
 obtain ⟨kn, hkn⟩ := Int.eq_ofNat_of_zero_le (show 0 ≤ 1 + pk by omega)
 have hkn5 : kn ≤ 5 := by omega
 have hkn1 : 1 ≤ kn := by omega
 have hA2 : a2 ≤ a + 4 := by omega
 clear hc4 hg4 HC3 HG3 BN3 HR3 BR3 ha1 ha2
 go_wp2_with fail
 clear hkn pk0 pk1
 go_loopw [4] (fun v wr => ∃ (k len c : Nat) (A : Option Addr) (l : List R2) (a3 : Nat), v = .int .i64 k ∧ k + len = kn ∧ Hid (l.length = len) ∧ Hid (∀ x ∈ l, -1 ≤ x.a ∧ x.a ≤ 9 ∧ -1 ≤ x.b ∧ x.b ≤ 9) ∧ a3 ≤ a + 6 + 34 * len ∧ Hid (CurAt wr g a3) ∧ Hid (Gr g w wr) ∧ Hid (Blk wr N 26 #[.int .i64 (un : Int), .int .i64 (lon : Int), .slice A len c]) ∧ Hid (wr.ownsRow w.heap.size 42 2 (.slice A len c) len (rowsV2 l)) ∧ Hid (Blk wr w.heap.size 26 #[.int .i64 0, .int .i64 0, .slice none 0 0])) (fun v _ => (intOf v).toNat)
 case atStart => exact ⟨kn, 0, 0, _, [], a4, rfl, rfl, Lib.hid rfl, Lib.hid (by intro x hx; cases hx), by omega, HC4, HG4, BN4, HR4, BR4⟩
 case round =>
  clear HC4 HG4 BN4 HR4 BR4
  obtain ⟨k, len, c, A, l, a3, rfl, hkl, HL, HIN, ha3, HCr, HGr, BNr, HR, BRr⟩ := hrel
  obtain ⟨W0, hW0e⟩ : ∃ y : World, y = wr := ⟨_, rfl⟩
  subst hW0e
  have hW0 := HGr.out.size
  obtain ⟨d0, d1, d2⟩ := BNr.out.q3
  obtain ⟨z0, z1, z2⟩ := BNr.out.z3
  obtain ⟨r0, r1, r2⟩ := BRr.out.q3
  obtain ⟨y0, y1, y2⟩ := BRr.out.z3
  have ln := BNr.out.lt
  have lr := BRr.out.lt
  by_cases hk : 0 < k
  · have e1 : (0 : Int) < (k : Int) := by omega
    have hlen5 : len ≤ 5 := by omega
    go_upto_region 5 with fail
    refine wp_region_m (by kernel_rfl) (by kernel_rfl) [20, 21, 22, 23, 24, 25, 26, 27, 28, 29, 30, 31, 32, 33, 34, 35] FrAU (by kernel_rfl) (by decide) 36 (by kernel_rfl) (by simp) (fun ra0 => ra0.eval (.tmp 0) = .pointer (some ⟨g, 0, none⟩) ∧ ra0.eval (.tmp 3) = .pointer (some ⟨N, 0, none⟩)) ⟨by kernel_rfl, by kernel_rfl⟩ FrAP (by kernel_rfl) (ICur 2 g a3 w W0 14 16 (fun wx => Blk wx N 26 #[.int .i64 (un : Int), .int .i64 (lon : Int), .slice A len c] ∧ Blk wx w.heap.size 26 #[.int .i64 0, .int .i64 0, .slice none 0 0])) (FrAR g N w.heap.size un lon A len c l) (fun jN vs wx => FrA w.heap.size g N w.heap.size un lon A len c l vs wx jN) ⟨a3, by omega, (HCr.out).ext (ext_drew (ext_refl _)), (HGr.out).trans (Gr.of_ext (ext_drew (ext_refl _))), Nat.le_refl _, fun _ => Gr.of_ext (ext_drew (ext_refl _)), fun _ => ⟨BNr.out, BRr.out⟩⟩ (fun _ _ _ _ _ _ h0 hd h1 h2 h3 => FrA_keep hgS h0 hd h1 h2 h3) ?_ ?_
    · intro ra0 hE ri ro ho Qx vs wx rb KX kk rL hI hkk hnl hLt hcl hdep rb0 rbk HK
      repeat (rename_i hz9; clear hz9)
      obtain ⟨rq0, rq3⟩ := hE
      have hi : ri < 17 := by
       rcases Nat.lt_or_ge ri 17 with h | h
       · exact h
       · rw [Array.getElem?_eq_none (by simpa using h)] at ho; cases ho
      have hkk : kk < 17 := by simpa using hkk
      obtain ⟨ax, hax, hcx, hGw, hsz, hpre, hBx⟩ := hI
      have HQ : ∀ w' a2, CurAt w' g a2 → a2 ≤ ax + 2 → Gr g wx w' → ICur 2 g a3 w W0 14 16 (fun wx => Blk wx N 26 #[.int .i64 (un : Int), .int .i64 (lon : Int), .slice A len c] ∧ Blk wx w.heap.size 26 #[.int .i64 0, .int .i64 0, .slice none 0 0]) (kk + 1) (fun j => j = ri ∨ rL j) w' := fun w' a2 h1 h2 h3 => ⟨a2, by omega, h1, hGw.trans h3, Nat.le_trans hsz h3.size, fun hn => (hpre (fun x => hn (.inr x))).trans h3, fun hn => (fun hB => ⟨hB.1.gr h3 hNg, hB.2.gr h3 hRg⟩) (hBx (fun x => hn (.inr x)))⟩
      have HQX := Lib.hid HQ
      have HCX := Lib.hid hcx
      have HGW := Lib.hid hGw
      have HPRE := Lib.hid hpre
      have HBX := Lib.hid hBx
      have HCL := Lib.hid hcl
      clear HQ hcx hGw hpre hBx hcl
      rcases (show ri = 0 ∨ ri = 1 ∨ ri = 2 ∨ ri = 3 ∨ ri = 4 ∨ ri = 5 ∨ ri = 6 ∨ ri = 7 ∨ ri = 8 ∨ ri = 9 ∨ ri = 10 ∨ ri = 11 ∨ ri = 12 ∨ ri = 13 ∨ ri = 14 ∨ ri = 15 ∨ ri = 16 by omega) with rfl | rfl | rfl | rfl | rfl | rfl | rfl | rfl | rfl | rfl | rfl | rfl | rfl | rfl | rfl | rfl | rfl
      · simp only [List.getElem?_toArray, List.getElem?_cons_succ, List.getElem?_cons_zero, Option.some.injEq] at ho
        subst ho
        have HKX := Lib.hid HK
        clear HK
        have p3 := (rb0 3 (by decide)).trans rq3
        clear rb0 rbk hdep
        go_simp
        exact HKX.out _ _ (HQX.out _ ax HCX.out (by omega) (Gr.refl _ _)) (by unfold FrAR; rw [if_neg (by decide)]; rw [if_neg (by decide)]; exact Gr.refl _ _) (upd_same _ _ _)
      · simp only [List.getElem?_toArray, List.getElem?_cons_succ, List.getElem?_cons_zero, Option.some.injEq] at ho
        subst ho
        have HKX := Lib.hid HK
        clear HK
        have e0 : vs 20 = .pointer (some ⟨N, 2, none⟩) := (hdep 0 (by kernel_rfl)).2
        have rr0 := (rbk 20 (by decide)).trans e0
        have E0 := Lib.hid e0
        clear e0
        have hNL : ¬ rL 14 := fun h => hnl (HCL.out 14 _ 1 rfl h (by kernel_rfl))
        have HGP := Lib.hid (HPRE.out hNL)
        obtain ⟨dx0, dx1, dx2⟩ := (BNr.out.gr HGP.out hNg).q3
        have lnx := (BNr.out.gr HGP.out hNg).lt
        have hSx : w.heap.size ≤ wx.heap.size := Nat.le_trans hW0 hsz
        have hNx : Value.ownBlock (.slice A len c) ≠ some wx.heap.size := fun e => absurd ((HR.out.lt _ e).2) (by omega)
        clear rb0 rbk hdep
        go_simp
        exact HKX.out _ _ (HQX.out _ ax HCX.out (by omega) (Gr.refl _ _)) (by unfold FrAR; rw [if_neg (by decide)]; rw [if_neg (by decide)]; exact Gr.refl _ _) (upd_same _ _ _)
      · simp only [List.getElem?_toArray, List.getElem?_cons_succ, List.getElem?_cons_zero, Option.some.injEq] at ho
        subst ho
        have HKX := Lib.hid HK
        clear HK
        have p0 := (rb0 0 (by decide)).trans rq0
        clear rb0 rbk hdep
        go_simp
        exact HKX.out _ _ (HQX.out _ ax HCX.out (by omega) (Gr.refl _ _)) (by unfold FrAR; rw [if_neg (by decide)]; rw [if_neg (by decide)]; exact Gr.refl _ _) (upd_same _ _ _)
      · simp only [List.getElem?_toArray, List.getElem?_cons_succ, List.getElem?_cons_zero, Option.some.injEq] at ho
        subst ho
        have HKX := Lib.hid HK
        clear HK
        have p3 := (rb0 3 (by decide)).trans rq3
        clear rb0 rbk hdep
        go_simp
        exact HKX.out _ _ (HQX.out _ ax HCX.out (by omega) (Gr.refl _ _)) (by unfold FrAR; rw [if_neg (by decide)]; rw [if_neg (by decide)]; exact Gr.refl _ _) (upd_same _ _ _)
      · simp only [List.getElem?_toArray, List.getElem?_cons_succ, List.getElem?_cons_zero, Option.some.injEq] at ho
        subst ho
        have HKX := Lib.hid HK
        clear HK
        have e3 : vs 23 = .pointer (some ⟨N, 0, none⟩) := (hdep 3 (by kernel_rfl)).2
        have rr3 := (rbk 23 (by decide)).trans e3
        have E3 := Lib.hid e3
        clear e3
        have hNL : ¬ rL 14 := fun h => hnl (HCL.out 5 _ 4 rfl (HCL.out 6 _ 5 rfl (HCL.out 12 _ 6 rfl (HCL.out 13 _ 12 rfl (HCL.out 14 _ 13 rfl h (by kernel_rfl)) (by kernel_rfl)) (by kernel_rfl)) (by kernel_rfl)) (by kernel_rfl))
        have HGP := Lib.hid (HPRE.out hNL)
        obtain ⟨dx0, dx1, dx2⟩ := (BNr.out.gr HGP.out hNg).q3
        have lnx := (BNr.out.gr HGP.out hNg).lt
        have hSx : w.heap.size ≤ wx.heap.size := Nat.le_trans hW0 hsz
        have hNx : Value.ownBlock (.slice A len c) ≠ some wx.heap.size := fun e => absurd ((HR.out.lt _ e).2) (by omega)
        clear rb0 rbk hdep
        go_simp
        exact HKX.out _ _ (HQX.out _ ax HCX.out (by omega) (Gr.refl _ _)) (by unfold FrAR; rw [if_neg (by decide)]; rw [if_neg (by decide)]; exact Gr.refl _ _) (upd_same _ _ _)
      · simp only [List.getElem?_toArray, List.getElem?_cons_succ, List.getElem?_cons_zero, Option.some.injEq] at ho
        subst ho
        have HKX := Lib.hid HK
        clear HK
        have e4 : vs 24 = .int .i64 (un : Int) := (hdep 4 (by kernel_rfl)).2
        have rr4 := (rbk 24 (by decide)).trans e4
        have E4 := Lib.hid e4
        clear e4
        clear rb0 rbk hdep
        go_simp
        rw [show IntKind.i64.wrap ((un : Int) + 1) = ((un + 1 : Nat) : Int) from by rw [IntKind.wrap_i64]; omega]
        exact HKX.out _ _ (HQX.out _ ax HCX.out (by omega) (Gr.refl _ _)) (by unfold FrAR; rw [if_neg (by decide)]; rw [if_neg (by decide)]; exact Gr.refl _ _) (upd_same _ _ _)
      · simp only [List.getElem?_toArray, List.getElem?_cons_succ, List.getElem?_cons_zero, Option.some.injEq] at ho
        subst ho
        have HKX := Lib.hid HK
        clear HK
        have e2 : vs 22 = .pointer (some ⟨g, 0, none⟩) := (hdep 2 (by kernel_rfl)).2
        have rr2 := (rbk 22 (by decide)).trans e2
        have E2 := Lib.hid e2
        clear e2
        have e5 : vs 25 = .int .i64 ((un + 1 : Nat) : Int) := (hdep 5 (by kernel_rfl)).2
        have rr5 := (rbk 25 (by decide)).trans e5
        have E5 := Lib.hid e5
        clear e5
        clear rb0 rbk hdep
        go_simp
        refine (pick_any g ax (un + 1) _ HCX.out (by omega) (by omega) (by omega)).mono ?_
        rintro e w' ⟨p, a2, rfl, nF0, nF1', ha2, hc2, hg2⟩
        have nF1 : p ≤ un := by push_cast at nF1'; omega
        go_simp
        exact HKX.out _ _ (HQX.out _ a2 hc2 (by omega) hg2) (by unfold FrAR; rw [if_neg (by decide)]; rw [if_neg (by decide)]; exact hg2) (⟨p, upd_same _ _ _, nF0, nF1⟩)
      · simp only [List.getElem?_toArray, List.getElem?_cons_succ, List.getElem?_cons_zero, Option.some.injEq] at ho
        subst ho
        have HKX := Lib.hid HK
        clear HK
        have p0 := (rb0 0 (by decide)).trans rq0
        clear rb0 rbk hdep
        go_simp
        exact HKX.out _ _ (HQX.out _ ax HCX.out (by omega) (Gr.refl _ _)) (by unfold FrAR; rw [if_neg (by decide)]; rw [if_neg (by decide)]; exact Gr.refl _ _) (upd_same _ _ _)
      · simp only [List.getElem?_toArray, List.getElem?_cons_succ, List.getElem?_cons_zero, Option.some.injEq] at ho
        subst ho
        have HKX := Lib.hid HK
        clear HK
        have p3 := (rb0 3 (by decide)).trans rq3
        clear rb0 rbk hdep
        go_simp
        exact HKX.out _ _ (HQX.out _ ax HCX.out (by omega) (Gr.refl _ _)) (by unfold FrAR; rw [if_neg (by decide)]; rw [if_neg (by decide)]; exact Gr.refl _ _) (upd_same _ _ _)
      · simp only [List.getElem?_toArray, List.getElem?_cons_succ, List.getElem?_cons_zero, Option.some.injEq] at ho
        subst ho
        have HKX := Lib.hid HK
        clear HK
        have e8 : vs 28 = .pointer (some ⟨N, 1, none⟩) := (hdep 8 (by kernel_rfl)).2
        have rr8 := (rbk 28 (by decide)).trans e8
        have E8 := Lib.hid e8
        clear e8
        have hNL : ¬ rL 14 := fun h => hnl (HCL.out 10 _ 9 rfl (HCL.out 11 _ 10 rfl (HCL.out 12 _ 11 rfl (HCL.out 13 _ 12 rfl (HCL.out 14 _ 13 rfl h (by kernel_rfl)) (by kernel_rfl)) (by kernel_rfl)) (by kernel_rfl)) (by kernel_rfl))
        have HGP := Lib.hid (HPRE.out hNL)
        obtain ⟨dx0, dx1, dx2⟩ := (BNr.out.gr HGP.out hNg).q3
        have lnx := (BNr.out.gr HGP.out hNg).lt
        have hSx : w.heap.size ≤ wx.heap.size := Nat.le_trans hW0 hsz
        have hNx : Value.ownBlock (.slice A len c) ≠ some wx.heap.size := fun e => absurd ((HR.out.lt _ e).2) (by omega)
        clear rb0 rbk hdep
        go_simp
        exact HKX.out _ _ (HQX.out _ ax HCX.out (by omega) (Gr.refl _ _)) (by unfold FrAR; rw [if_neg (by decide)]; rw [if_neg (by decide)]; exact Gr.refl _ _) (upd_same _ _ _)
      · simp only [List.getElem?_toArray, List.getElem?_cons_succ, List.getElem?_cons_zero, Option.some.injEq] at ho
        subst ho
        have HKX := Lib.hid HK
        clear HK
        have e9 : vs 29 = .int .i64 (lon : Int) := (hdep 9 (by kernel_rfl)).2
        have rr9 := (rbk 29 (by decide)).trans e9
        have E9 := Lib.hid e9
        clear e9
        clear rb0 rbk hdep
        go_simp
        rw [show IntKind.i64.wrap ((lon : Int) + 1) = ((lon + 1 : Nat) : Int) from by rw [IntKind.wrap_i64]; omega]
        exact HKX.out _ _ (HQX.out _ ax HCX.out (by omega) (Gr.refl _ _)) (by unfold FrAR; rw [if_neg (by decide)]; rw [if_neg (by decide)]; exact Gr.refl _ _) (upd_same _ _ _)
      · simp only [List.getElem?_toArray, List.getElem?_cons_succ, List.getElem?_cons_zero, Option.some.injEq] at ho
        subst ho
        have HKX := Lib.hid HK
        clear HK
        have e7 : vs 27 = .pointer (some ⟨g, 0, none⟩) := (hdep 7 (by kernel_rfl)).2
        have rr7 := (rbk 27 (by decide)).trans e7
        have E7 := Lib.hid e7
        clear e7
        have e10 : vs 30 = .int .i64 ((lon + 1 : Nat) : Int) := (hdep 10 (by kernel_rfl)).2
        have rr10 := (rbk 30 (by decide)).trans e10
        have E10 := Lib.hid e10
        clear e10
        clear rb0 rbk hdep
        go_simp
        refine (pick_any g ax (lon + 1) _ HCX.out (by omega) (by omega) (by omega)).mono ?_
        rintro e w' ⟨r, a2, rfl, nF0, nF1', ha2, hc2, hg2⟩
        have nF1 : r ≤ lon := by push_cast at nF1'; omega
        go_simp
        exact HKX.out _ _ (HQX.out _ a2 hc2 (by omega) hg2) (by unfold FrAR; rw [if_neg (by decide)]; rw [if_neg (by decide)]; exact hg2) (⟨r, upd_same _ _ _, nF0, nF1⟩)
      · simp only [List.getElem?_toArray, List.getElem?_cons_succ, List.getElem?_cons_zero, Option.some.injEq] at ho
        subst ho
        have HKX := Lib.hid HK
        clear HK
        obtain ⟨p, e6, k6_0, k6_1⟩ := (hdep 6 (by kernel_rfl)).2
        have rr6 := (rbk 26 (by decide)).trans e6
        have E6 := Lib.hid e6
        clear e6
        obtain ⟨r, e11, k11_0, k11_1⟩ := (hdep 11 (by kernel_rfl)).2
        have rr11 := (rbk 31 (by decide)).trans e11
        have E11 := Lib.hid e11
        clear e11
        clear rb0 rbk hdep
        go_simp
        exact HKX.out _ _ (HQX.out _ ax HCX.out (by omega) (Gr.refl _ _)) (by unfold FrAR; rw [if_neg (by decide)]; rw [if_neg (by decide)]; exact Gr.refl _ _) (⟨p, r, upd_same _ _ _, k6_0, k6_1, k11_0, k11_1⟩)
      · simp only [List.getElem?_toArray, List.getElem?_cons_succ, List.getElem?_cons_zero, Option.some.injEq] at ho
        subst ho
        have HKX := Lib.hid HK
        clear HK
        obtain ⟨p, r, e12, k12_0, k12_1, k12_2, k12_3⟩ := (hdep 12 (by kernel_rfl)).2
        have rr12 := (rbk 32 (by decide)).trans e12
        have E12 := Lib.hid e12
        clear e12
        have hNL : ¬ rL 14 := fun h => hnl (HCL.out 14 _ 13 rfl h (by kernel_rfl))
        have HGP := Lib.hid (HPRE.out hNL)
        obtain ⟨dx0, dx1, dx2⟩ := (BNr.out.gr HGP.out hNg).q3
        have lnx := (BNr.out.gr HGP.out hNg).lt
        have hSx : w.heap.size ≤ wx.heap.size := Nat.le_trans hW0 hsz
        have hNx : Value.ownBlock (.slice A len c) ≠ some wx.heap.size := fun e => absurd ((HR.out.lt _ e).2) (by omega)
        clear rb0 rbk hdep
        go_simp
        exact HKX.out _ _ (HQX.out _ ax (HCX.out.ext (ext_alloc (ext_refl _) _)) (by omega) (Gr.alloc _ _ _)) (by unfold FrAR; rw [if_neg (by decide)]; rw [if_neg (by decide)]; exact Gr.alloc _ _ _) ⟨p, r, wx.heap.size, upd_same _ _ _, k12_0, k12_1, k12_2, k12_3, hSx, hNx, Blk.born _ _ _ rfl⟩
      · simp only [List.getElem?_toArray, List.getElem?_cons_succ, List.getElem?_cons_zero, Option.some.injEq] at ho
        subst ho
        have HKX := Lib.hid HK
        clear HK
        have e1 : vs 21 = .slice A len c := (hdep 1 (by kernel_rfl)).2
        have rr1 := (rbk 21 (by decide)).trans e1
        have E1 := Lib.hid e1
        clear e1
        obtain ⟨p, r, x, e13, k13_0, k13_1, k13_2, k13_3, k13_4, k13_5, k13_6⟩ := (hdep 13 (by kernel_rfl)).2
        have rr13 := (rbk 33 (by decide)).trans e13
        have E13 := Lib.hid e13
        clear e13
        have K13_5 := Lib.hid k13_5
        clear k13_5
        have K13_6 := Lib.hid k13_6
        clear k13_6
        have hNL : ¬ rL 14 := hnl
        have HGP := Lib.hid (HPRE.out hNL)
        obtain ⟨dx0, dx1, dx2⟩ := (BNr.out.gr HGP.out hNg).q3
        have lnx := (BNr.out.gr HGP.out hNg).lt
        have hSx : w.heap.size ≤ wx.heap.size := Nat.le_trans hW0 hsz
        have hNx : Value.ownBlock (.slice A len c) ≠ some wx.heap.size := fun e => absurd ((HR.out.lt _ e).2) (by omega)
        clear rb0 rbk hdep
        have HO := Lib.hid (own_gr HR.out HGP.out hgS)
        have HS13 := Lib.hid (own_blk2 K13_6.out k13_4)
        refine step_appO rfl (.tmp 21) (.tmp 33) 24 rfl w.heap.size 42 i0 _ 2 16 Try.underlying24 hi0 hz0 hz1 hz2 rfl (by decide) (.slice A len c) len (rowsV2 l) ((Array.getD_eq_getD_getElem? ..).trans rr1) HO.out (some ⟨x, 0, none⟩) 1 1 [.int .i64 p, .int .i64 r] ((Array.getD_eq_getD_getElem? ..).trans rr13) w.heap.size HS13.out (by intro u hu; rcases List.mem_cons.1 hu with rfl | hu; rfl; rcases List.mem_cons.1 hu with rfl | hu; rfl; cases hu) (by unfold maxLen; omega) (by omega) (Nat.le_trans hW0 hsz) ?_
        intro A2 c2 w' hown hgr
        have hblk : ∀ q, Value.ownBlock (.slice A len c) = some q → w.heap.size ≤ q := fun q hq => (HO.out.lt q hq).1
        exact HKX.out _ _ ⟨ax, by omega, HCX.out.grown hgr (fun q hq => Nat.lt_of_lt_of_le hgS (hblk q hq)), HGW.out.grown hgr hblk, Nat.le_trans hsz hgr.size, fun hn => absurd (.inl rfl) hn, fun hn => ⟨(HBX.out (fun x => hn (.inr x))).1.grownF hgr (own_nbT HO.out (HBX.out (fun x => hn (.inr x))).1 (by decide)), (HBX.out (fun x => hn (.inr x))).2.grownF hgr (own_nbT HO.out (HBX.out (fun x => hn (.inr x))).2 (by decide))⟩⟩ (by unfold FrAR; rw [if_pos rfl]; exact hgr) ⟨A2, c2, p, r, upd_same _ _ _, k13_0, k13_1, k13_2, k13_3, by have h9 := hown; rwa [show rowsV2 l ++ [Value.int .i64 p, Value.int .i64 r] = rowsV2 (l ++ [⟨p, r⟩]) by simp [rowsV2, R2.cells]] at h9⟩
      · simp only [List.getElem?_toArray, List.getElem?_cons_succ, List.getElem?_cons_zero, Option.some.injEq] at ho
        subst ho
        have HKX := Lib.hid HK
        clear HK
        have p3 := (rb0 3 (by decide)).trans rq3
        clear rb0 rbk hdep
        go_simp
        exact HKX.out _ _ (HQX.out _ ax HCX.out (by omega) (Gr.refl _ _)) (by unfold FrAR; rw [if_neg (by decide)]; rw [if_neg (by decide)]; exact Gr.refl _ _) (upd_same _ _ _)
      · simp only [List.getElem?_toArray, List.getElem?_cons_succ, List.getElem?_cons_zero, Option.some.injEq] at ho
        subst ho
        have HKX := Lib.hid HK
        clear HK
        obtain ⟨A2, c2, p, r, e14, k14_0, k14_1, k14_2, k14_3, k14_4⟩ := (hdep 14 (by kernel_rfl)).2
        have rr14 := (rbk 34 (by decide)).trans e14
        have E14 := Lib.hid e14
        clear e14
        have K14_4 := Lib.hid k14_4
        clear k14_4
        have e15 : vs 35 = .pointer (some ⟨N, 2, none⟩) := (hdep 15 (by kernel_rfl)).2
        have rr15 := (rbk 35 (by decide)).trans e15
        have E15 := Lib.hid e15
        clear e15
        have h14 := (hdep 14 (by kernel_rfl)).1
        have HBF := Lib.hid (HBX.out hnl)
        clear rb0 rbk hdep
        obtain ⟨yB0, yB1, yB2⟩ := HBF.out.1.q3
        obtain ⟨zB0, zB1, zB2⟩ := HBF.out.1.z3
        have hlN := HBF.out.1.lt
        go_simp
        exact HKX.out undef _ ⟨ax, by omega, HCX.out.far (p := ⟨N, 2, none⟩) hgN _, HGW.out.setNew (p := ⟨N, 2, none⟩) hwN _, by simpa using hsz, fun hn => (hn (.inr h14)).elim, fun hn => (hn (.inl rfl)).elim⟩ (by unfold FrAR; rw [if_neg (by decide), if_pos rfl]; exact (KeepW.refl _ _).set HBF.out.1 2 _) ⟨A2, c2, p, r, k14_0, k14_1, k14_2, k14_3, own_setF (p := ⟨N, 2, none⟩) K14_4.out (own_nbT K14_4.out HBF.out.1 (by decide)) _, HBF.out.1.set_ 2 _, HBF.out.2.setF (p := ⟨N, 2, none⟩) hNR _, hwN, hwR⟩
    intro vs wx kk rL hI hkk hLt hall
    obtain ⟨_, A2, c2, p, r, p0, p1, r0', r1', hr2, hB2, hBR2, _, _⟩ := hall 16 (by decide)
    obtain ⟨a5, ha5, hc5, hg5, _, _, _⟩ := hI
    have HR5 := Lib.hid hr2
    have BN5 := Lib.hid hB2
    have BR5 := Lib.hid hBR2
    have HC5 := Lib.hid hc5
    have HG5 := Lib.hid hg5
    have hkk : kk ≤ 17 := by simpa using hkk
    have HIN5 := Lib.hid (show ∀ x ∈ l ++ [(⟨p, r⟩ : R2)], -1 ≤ x.a ∧ x.a ≤ 9 ∧ -1 ≤ x.b ∧ x.b ≤ 9 by
     intro x hx
     rcases List.mem_append.1 hx with hx | hx
     · exact HIN.out x hx
     · rw [List.mem_singleton] at hx
       subst hx
       have := HUN.out
       dsimp only
       omega)
    have HL5 := Lib.hid (show (l ++ [(⟨p, r⟩ : R2)]).length = len + 1 by rw [List.length_append, HL.out]; rfl)
    clear hLt hall hr2 hB2 hBR2 hc5 hg5 d0 d1 d2 z0 z1 z2 r0 r1 r2 y0 y1 y2 ln lr
    simp only [sl]
    go_wp2
    go_roundw
    case rel => exact ⟨k - 1, len + 1, c2, A2, l ++ [⟨p, r⟩], a5, by go_num, by omega, HL5, HIN5, by omega, HC5, HG5, BN5, HR5, BR5⟩
    case measure => simp [intOf]; omega
  · have hk0 : k = 0 := by omega
    subst hk0
    have e1 : ¬ ((0 : Nat) : Int) > 0 := by omega
    go_wp2_with fail
    refine (pick_any g a3 32 _ HCr.out (by omega) (by omega) (by omega)).mono ?_
    rintro e w5 ⟨z, a5, rfl, zz0, zz1, ha5, hc5, hg5⟩
    have HC5 := Lib.hid hc5
    have HG5 := Lib.hid (HGr.out.trans hg5)
    have BN5 := Lib.hid (BNr.out.gr hg5 hNg)
    have HR5 := Lib.hid (own_gr HR.out hg5 hgS)
    have BR5 := Lib.hid (BRr.out.gr hg5 hRg)
    have hA5 : a5 ≤ a + 200 := by omega
    have hlk : len = kn := by omega
    subst hlk
    clear hc5 hg5 HCr HGr BNr HR BRr d0 d1 d2 z0 z1 z2 r0 r1 r2 y0 y1 y2 ln lr hW0 ha3 ha5 hkl ha4 hA2
    obtain ⟨d0, d1, d2⟩ := BN5.out.q3
    obtain ⟨z0, z1, z2⟩ := BN5.out.z3
    obtain ⟨r0, r1, r2⟩ := BR5.out.q3
    obtain ⟨y0, y1, y2⟩ := BR5.out.z3
    have ln := BN5.out.lt
    have lr := BR5.out.lt
    rcases (show z = 0 ∨ z = 1 ∨ z = 2 ∨ z = 3 ∨ (z ≠ 0 ∧ z ≠ 1 ∧ z ≠ 2 ∧ z ≠ 3) by omega) with rfl | rfl | rfl | rfl | ⟨h0, h1, h2, h3⟩
    · obtain ⟨LL, c', hv, _, _⟩ := HR5.out.form (by omega)
      injection hv with hv _ hv2
      subst hv hv2
      have hwL : w.heap.size ≤ LL := (HR5.out.lt _ rfl).1
      have hgL : g < LL := by omega
      have hLN : LL ≠ N := fun e => own_nbT HR5.out BN5.out (by decide) (by rw [← e]; rfl)
      have hLR : LL ≠ w.heap.size := fun e => own_nbT HR5.out BR5.out (by decide) (by rw [e]; rfl)
      have hl0 : 0 < l.length := by rw [HL.out]; omega
      have hW5 := HG5.out.size
      have hl01 : (0 : Int) < (len : Int) := by omega
      go_upto_region 8 with fail
      refine wp_region_m (by kernel_rfl) (by kernel_rfl) [40, 41, 42, 43, 44, 45, 46, 47, 48, 49] FrBU (by kernel_rfl) (by decide) 50 (by kernel_rfl) (by simp) (fun ra0 => ra0.eval (.tmp 0) = .pointer (some ⟨g, 0, none⟩) ∧ ra0.eval (.tmp 3) = .pointer (some ⟨N, 0, none⟩)) ⟨by kernel_rfl, by kernel_rfl⟩ FrBP (by kernel_rfl) (ICur 2 g a5 w w5 10 10 (fun wx => Blk wx N 26 #[.int .i64 (un : Int), .int .i64 (lon : Int), .slice (some ⟨LL, 0, none⟩) len c] ∧ Blk wx w.heap.size 26 #[.int .i64 0, .int .i64 0, .slice none 0 0])) (FrBR g N w.heap.size un lon LL len c l) (fun jN vs wx => FrB w.heap.size g N w.heap.size un lon LL len c l vs wx jN) ⟨a5, by omega, (HC5.out).ext (ext_drew (ext_refl _)), (HG5.out).trans (Gr.of_ext (ext_drew (ext_refl _))), Nat.le_refl _, fun _ => Gr.of_ext (ext_drew (ext_refl _)), fun _ => ⟨BN5.out, BR5.out⟩⟩ (fun _ _ _ _ _ _ h0 hd h1 h2 h3 => FrB_keep hgS h0 hd h1 h2 h3) ?_ ?_
      · intro ra0 hE ri ro ho Qx vs wx rb KX kk rL hI hkk hnl hLt hcl hdep rb0 rbk HK
        repeat (rename_i hz9; clear hz9)
        obtain ⟨rq0, rq3⟩ := hE
        have hi : ri < 11 := by
         rcases Nat.lt_or_ge ri 11 with h | h
         · exact h
         · rw [Array.getElem?_eq_none (by simpa using h)] at ho; cases ho
        have hkk : kk < 11 := by simpa using hkk
        obtain ⟨ax, hax, hcx, hGw, hsz, hpre, hBx⟩ := hI
        have HQ : ∀ w' a2, CurAt w' g a2 → a2 ≤ ax + 2 → Gr g wx w' → ICur 2 g a5 w w5 10 10 (fun wx => Blk wx N 26 #[.int .i64 (un : Int), .int .i64 (lon : Int), .slice (some ⟨LL, 0, none⟩) len c] ∧ Blk wx w.heap.size 26 #[.int .i64 0, .int .i64 0, .slice none 0 0]) (kk + 1) (fun j => j = ri ∨ rL j) w' := fun w' a2 h1 h2 h3 => ⟨a2, by omega, h1, hGw.trans h3, Nat.le_trans hsz h3.size, fun hn => (hpre (fun x => hn (.inr x))).trans h3, fun hn => (fun hB => ⟨hB.1.gr h3 hNg, hB.2.gr h3 hRg⟩) (hBx (fun x => hn (.inr x)))⟩
        have HQX := Lib.hid HQ
        have HCX := Lib.hid hcx
        have HGW := Lib.hid hGw
        have HPRE := Lib.hid hpre
        have HBX := Lib.hid hBx
        have HCL := Lib.hid hcl
        clear HQ hcx hGw hpre hBx hcl
        rcases (show ri = 0 ∨ ri = 1 ∨ ri = 2 ∨ ri = 3 ∨ ri = 4 ∨ ri = 5 ∨ ri = 6 ∨ ri = 7 ∨ ri = 8 ∨ ri = 9 ∨ ri = 10 by omega) with rfl | rfl | rfl | rfl | rfl | rfl | rfl | rfl | rfl | rfl | rfl
        · simp only [List.getElem?_toArray, List.getElem?_cons_succ, List.getElem?_cons_zero, Option.some.injEq] at ho
          subst ho
          have HKX := Lib.hid HK
          clear HK
          have p3 := (rb0 3 (by decide)).trans rq3
          clear rb0 rbk hdep
          go_simp
          exact HKX.out _ _ (HQX.out _ ax HCX.out (by omega) (Gr.refl _ _)) (by unfold FrBR; rw [if_neg (by decide)]; exact Gr.refl _ _) (upd_same _ _ _)
        · simp only [List.getElem?_toArray, List.getElem?_cons_succ, List.getElem?_cons_zero, Option.some.injEq] at ho
          subst ho
          have HKX := Lib.hid HK
          clear HK
          have e0 : vs 40 = .pointer (some ⟨N, 2, none⟩) := (hdep 0 (by kernel_rfl)).2
          have rr0 := (rbk 40 (by decide)).trans e0
          have E0 := Lib.hid e0
          clear e0
          have hNL : ¬ rL 10 := fun h => hnl (HCL.out 9 _ 1 rfl (HCL.out 10 _ 9 rfl h (by kernel_rfl)) (by kernel_rfl))
          have HGP := Lib.hid (HPRE.out hNL)
          obtain ⟨dx0, dx1, dx2⟩ := (BN5.out.gr HGP.out hNg).q3
          have lnx := (BN5.out.gr HGP.out hNg).lt
          clear rb0 rbk hdep
          go_simp
          exact HKX.out _ _ (HQX.out _ ax HCX.out (by omega) (Gr.refl _ _)) (by unfold FrBR; rw [if_neg (by decide)]; exact Gr.refl _ _) (upd_same _ _ _)
        · simp only [List.getElem?_toArray, List.getElem?_cons_succ, List.getElem?_cons_zero, Option.some.injEq] at ho
          subst ho
          have HKX := Lib.hid HK
          clear HK
          have p0 := (rb0 0 (by decide)).trans rq0
          clear rb0 rbk hdep
          go_simp
          exact HKX.out _ _ (HQX.out _ ax HCX.out (by omega) (Gr.refl _ _)) (by unfold FrBR; rw [if_neg (by decide)]; exact Gr.refl _ _) (upd_same _ _ _)
        · simp only [List.getElem?_toArray, List.getElem?_cons_succ, List.getElem?_cons_zero, Option.some.injEq] at ho
          subst ho
          have HKX := Lib.hid HK
          clear HK
          have hSx : w.heap.size ≤ wx.heap.size := HGW.out.size
          clear rb0 rbk hdep
          go_simp
          exact HKX.out _ _ (HQX.out _ ax (HCX.out.ext (ext_alloc (ext_refl _) _)) (by omega) (Gr.alloc _ _ _)) (by unfold FrBR; rw [if_neg (by decide)]; exact Gr.alloc _ _ _) ⟨wx.heap.size, upd_same _ _ _, hSx, Blk.born _ _ _ rfl⟩
        · simp only [List.getElem?_toArray, List.getElem?_cons_succ, List.getElem?_cons_zero, Option.some.injEq] at ho
          subst ho
          have HKX := Lib.hid HK
          clear HK
          have e2 : vs 42 = .pointer (some ⟨g, 0, none⟩) := (hdep 2 (by kernel_rfl)).2
          have rr2 := (rbk 42 (by decide)).trans e2
          have E2 := Lib.hid e2
          clear e2
          obtain ⟨x, e3, k3_0, k3_1⟩ := (hdep 3 (by kernel_rfl)).2
          have rr3 := (rbk 43 (by decide)).trans e3
          have E3 := Lib.hid e3
          clear e3
          have K3_1 := Lib.hid k3_1
          clear k3_1
          clear rb0 rbk hdep
          go_simp
          refine (among_any g ax _ 3 _ (-1) 3 _ HCX.out (by omega) (by decide) (by decide) (allAt_blk (l := [-1, 0, 3]) K3_1.out rfl rfl (by omega) (by decide))).mono ?_
          rintro e w' ⟨p, a2, rfl, nF0, nF1, ha2, hc2, hg2⟩
          go_simp
          exact HKX.out _ _ (HQX.out _ a2 hc2 (by omega) hg2) (by unfold FrBR; rw [if_neg (by decide)]; exact hg2) (⟨p, upd_same _ _ _, nF0, nF1⟩)
        · simp only [List.getElem?_toArray, List.getElem?_cons_succ, List.getElem?_cons_zero, Option.some.injEq] at ho
          subst ho
          have HKX := Lib.hid HK
          clear HK
          have p0 := (rb0 0 (by decide)).trans rq0
          clear rb0 rbk hdep
          go_simp
          exact HKX.out _ _ (HQX.out _ ax HCX.out (by omega) (Gr.refl _ _)) (by unfold FrBR; rw [if_neg (by decide)]; exact Gr.refl _ _) (upd_same _ _ _)
        · simp only [List.getElem?_toArray, List.getElem?_cons_succ, List.getElem?_cons_zero, Option.some.injEq] at ho
          subst ho
          have HKX := Lib.hid HK
          clear HK
          have hSx : w.heap.size ≤ wx.heap.size := HGW.out.size
          clear rb0 rbk hdep
          go_simp
          exact HKX.out _ _ (HQX.out _ ax (HCX.out.ext (ext_alloc (ext_refl _) _)) (by omega) (Gr.alloc _ _ _)) (by unfold FrBR; rw [if_neg (by decide)]; exact Gr.alloc _ _ _) ⟨wx.heap.size, upd_same _ _ _, hSx, Blk.born _ _ _ rfl⟩
        · simp only [List.getElem?_toArray, List.getElem?_cons_succ, List.getElem?_cons_zero, Option.some.injEq] at ho
          subst ho
          have HKX := Lib.hid HK
          clear HK
          have e5 : vs 45 = .pointer (some ⟨g, 0, none⟩) := (hdep 5 (by kernel_rfl)).2
          have rr5 := (rbk 45 (by decide)).trans e5
          have E5 := Lib.hid e5
          clear e5
          obtain ⟨x, e6, k6_0, k6_1⟩ := (hdep 6 (by kernel_rfl)).2
          have rr6 := (rbk 46 (by decide)).trans e6
          have E6 := Lib.hid e6
          clear e6
          have K6_1 := Lib.hid k6_1
          clear k6_1
          clear rb0 rbk hdep
          go_simp
          refine (among_any g ax _ 3 _ (-1) 6 _ HCX.out (by omega) (by decide) (by decide) (allAt_blk (l := [-1, 0, 6]) K6_1.out rfl rfl (by omega) (by decide))).mono ?_
          rintro e w' ⟨r, a2, rfl, nF0, nF1, ha2, hc2, hg2⟩
          go_simp
          exact HKX.out _ _ (HQX.out _ a2 hc2 (by omega) hg2) (by unfold FrBR; rw [if_neg (by decide)]; exact hg2) (⟨r, upd_same _ _ _, nF0, nF1⟩)
        · simp only [List.getElem?_toArray, List.getElem?_cons_succ, List.getElem?_cons_zero, Option.some.injEq] at ho
          subst ho
          have HKX := Lib.hid HK
          clear HK
          obtain ⟨p, e4, k4_0, k4_1⟩ := (hdep 4 (by kernel_rfl)).2
          have rr4 := (rbk 44 (by decide)).trans e4
          have E4 := Lib.hid e4
          clear e4
          obtain ⟨r, e7, k7_0, k7_1⟩ := (hdep 7 (by kernel_rfl)).2
          have rr7 := (rbk 47 (by decide)).trans e7
          have E7 := Lib.hid e7
          clear e7
          clear rb0 rbk hdep
          go_simp
          exact HKX.out _ _ (HQX.out _ ax HCX.out (by omega) (Gr.refl _ _)) (by unfold FrBR; rw [if_neg (by decide)]; exact Gr.refl _ _) (⟨p, r, upd_same _ _ _, k4_0, k4_1, k7_0, k7_1⟩)
        · simp only [List.getElem?_toArray, List.getElem?_cons_succ, List.getElem?_cons_zero, Option.some.injEq] at ho
          subst ho
          have HKX := Lib.hid HK
          clear HK
          have e1 : vs 41 = .slice (some ⟨LL, 0, none⟩) len c := (hdep 1 (by kernel_rfl)).2
          have rr1 := (rbk 41 (by decide)).trans e1
          have E1 := Lib.hid e1
          clear e1
          clear rb0 rbk hdep
          go_simp
          rw [if_pos (show 0 < len by omega)]
          go_simp
          exact HKX.out _ _ (HQX.out _ ax HCX.out (by omega) (Gr.refl _ _)) (by unfold FrBR; rw [if_neg (by decide)]; exact Gr.refl _ _) (upd_same _ _ _)
        · simp only [List.getElem?_toArray, List.getElem?_cons_succ, List.getElem?_cons_zero, Option.some.injEq] at ho
          subst ho
          have HKX := Lib.hid HK
          clear HK
          obtain ⟨p, r, e8, k8_0, k8_1, k8_2, k8_3⟩ := (hdep 8 (by kernel_rfl)).2
          have rr8 := (rbk 48 (by decide)).trans e8
          have E8 := Lib.hid e8
          clear e8
          have e9 : vs 49 = .pointer (some ⟨LL, 0, none⟩) := (hdep 9 (by kernel_rfl)).2
          have rr9 := (rbk 49 (by decide)).trans e9
          have E9 := Lib.hid e9
          clear e9
          have hNL : ¬ rL 10 := hnl
          have HGP := Lib.hid (HPRE.out hNL)
          obtain ⟨dx0, dx1, dx2⟩ := (BN5.out.gr HGP.out hNg).q3
          have lnx := (BN5.out.gr HGP.out hNg).lt
          have HBF := Lib.hid (HBX.out hnl)
          have HO := Lib.hid (own_gr HR5.out HGP.out hgS)
          have hlL : LL < wx.heap.size := (HO.out.lt _ rfl).2
          obtain ⟨x0, hx0⟩ : ∃ u, wx.cell? ⟨LL, 0, none⟩ = some u := by rw [HO.out.cellAt 0 (by omega)]; exact list_split (by have := HO.out.1; omega)
          obtain ⟨x1, hx1⟩ : ∃ u, wx.cell? ⟨LL, 1, none⟩ = some u := by rw [HO.out.cellAt 1 (by omega)]; exact list_split (by have := HO.out.1; omega)
          have hf0 := HO.out.frozenAt 0
          have hf1 := HO.out.frozenAt 1
          obtain ⟨cs, hcs⟩ := own_blkF HO.out
          have HCS := Lib.hid hcs
          have HS1 := Lib.hid (((HO.out.stored 0 (.int .i64 p)).1.stored 1 (.int .i64 r)).1)
          clear rb0 rbk hdep hcs
          go_simp
          exact HKX.out undef _ ⟨ax, by omega, (HCX.out.far (p := ⟨LL, 0, none⟩) hgL _).far (p := ⟨LL, 1, none⟩) hgL _, (HGW.out.setNew (p := ⟨LL, 0, none⟩) hwL _).setNew (p := ⟨LL, 1, none⟩) hwL _, by simpa using hsz, fun hn => (hn (.inl rfl)).elim, fun hn => (hn (.inl rfl)).elim⟩ (by unfold FrBR; rw [if_pos rfl]; exact ((KeepW.refl _ _).set HCS.out 0 _).set (HCS.out.set_ 0 _) 1 _) ⟨p, r, k8_0, k8_1, k8_2, k8_3, by rw [rowsV2_set l 0 ⟨p, r⟩ hl0]; exact HS1.out, (HBF.out.1.setF (p := ⟨LL, 0, none⟩) hLN _).setF (p := ⟨LL, 1, none⟩) hLN _, (HBF.out.2.setF (p := ⟨LL, 0, none⟩) hLR _).setF (p := ⟨LL, 1, none⟩) hLR _, hwN, hwR⟩
      intro vs wx kk rL hI hkk hLt hall
      obtain ⟨_, p, r, p0, p1, r0', r1', hr2, hB2, hBR2, _, _⟩ := hall 10 (by decide)
      obtain ⟨a6, ha6, hc6, hg6, _, _, _⟩ := hI
      have hkk : kk ≤ 11 := by simpa using hkk
      have HR6 := Lib.hid hr2
      have BN6 := Lib.hid hB2
      have BR6 := Lib.hid hBR2
      have HC6 := Lib.hid hc6
      have HG6 := Lib.hid hg6
      have HL6 := Lib.hid (show (l.set 0 (⟨p, r⟩ : R2)).length = len by rw [List.length_set]; exact HL.out)
      have HIN6 := Lib.hid (show ∀ x ∈ l.set 0 (⟨p, r⟩ : R2), -1 ≤ x.a ∧ x.a ≤ 9 ∧ -1 ≤ x.b ∧ x.b ≤ 9 by
       intro x hx
       rcases List.mem_or_eq_of_mem_set hx with hx | rfl
       · exact HIN.out x hx
       · dsimp only
         omega)
      clear hLt hall hr2 hB2 hBR2 hc6 hg6 d0 d1 d2 z0 z1 z2 r0 r1 r2 y0 y1 y2 ln lr
      obtain ⟨d0, d1, d2⟩ := BN6.out.q3
      obtain ⟨z0, z1, z2⟩ := BN6.out.z3
      obtain ⟨r0, r1, r2⟩ := BR6.out.q3
      obtain ⟨y0, y1, y2⟩ := BR6.out.z3
      have ln := BN6.out.lt
      have lr := BR6.out.lt
      simp only [sl]
      go_wp2
      refine bodyPost_ret (v := frV un lon (some ⟨LL, 0, none⟩) len c) (by simp [results, Try.results56, go_sem, *]) rfl ?_
      refine ⟨un, lon, (l.set 0 ⟨p, r⟩), (some ⟨LL, 0, none⟩), c, a6, by rw [HL6.out], ⟨by have := HUN.out; omega, by have := HUN.out; omega, by have := HUN.out; omega, by have := HUN.out; omega, by rw [HL6.out]; omega, by rw [HL6.out]; omega, HIN6.out⟩, by omega, ?_, ((((HC6.out).far (p := ⟨w.heap.size, 0, none⟩) hgS _).far (p := ⟨w.heap.size, 1, none⟩) hgS _).far (p := ⟨w.heap.size, 2, none⟩) hgS _), ((((HG6.out).setNew (p := ⟨w.heap.size, 0, none⟩) (Nat.le_refl _) _).setNew (p := ⟨w.heap.size, 1, none⟩) (Nat.le_refl _) _).setNew (p := ⟨w.heap.size, 2, none⟩) (Nat.le_refl _) _)⟩
      rw [HL6.out]
      exact fill_own' (HR6.out) (own_nbT (HR6.out) BR6.out (by decide))
    · go_wp2_with fail
      refine (among_lit g a5 0 3 [0, 3] 3 w5 HC5.out (by omega) (by decide) (by decide) (by decide) _ rfl rfl).mono ?_
      rintro e w6 ⟨v, a6, rfl, v0, v1, ha6, hc6, hg6⟩
      have HC6 := Lib.hid hc6
      have HG6 := Lib.hid (HG5.out.trans hg6)
      have BN6 := Lib.hid (BN5.out.gr hg6 hNg)
      have HR6 := Lib.hid (own_gr HR5.out hg6 hgS)
      have BR6 := Lib.hid (BR5.out.gr hg6 hRg)
      clear hc6 hg6 HC5 HG5 BN5 HR5 BR5 d0 d1 d2 z0 z1 z2 r0 r1 r2 y0 y1 y2 ln lr
      obtain ⟨d0, d1, d2⟩ := BN6.out.q3
      obtain ⟨z0, z1, z2⟩ := BN6.out.z3
      obtain ⟨r0, r1, r2⟩ := BR6.out.q3
      obtain ⟨y0, y1, y2⟩ := BR6.out.z3
      have ln := BN6.out.lt
      have lr := BR6.out.lt
      have BR7 := Lib.hid (BR6.out.setF (p := ⟨N, 0, none⟩) hNR (.int .i64 v))
      go_wp2
      refine bodyPost_ret (v := frV v lon A len c) (by simp [results, Try.results56, go_sem, *]) rfl ?_
      refine ⟨v, lon, l, A, c, a6, by rw [HL.out], ⟨by have := HUN.out; omega, by have := HUN.out; omega, by have := HUN.out; omega, by have := HUN.out; omega, by rw [HL.out]; omega, by rw [HL.out]; omega, HIN.out⟩, by omega, ?_, ((((HC6.out.far (p := ⟨N, 0, none⟩) hgN _).far (p := ⟨w.heap.size, 0, none⟩) hgS _).far (p := ⟨w.heap.size, 1, none⟩) hgS _).far (p := ⟨w.heap.size, 2, none⟩) hgS _), ((((HG6.out.setNew (p := ⟨N, 0, none⟩) hwN _).setNew (p := ⟨w.heap.size, 0, none⟩) (Nat.le_refl _) _).setNew (p := ⟨w.heap.size, 1, none⟩) (Nat.le_refl _) _).setNew (p := ⟨w.heap.size, 2, none⟩) (Nat.le_refl _) _)⟩
      rw [HL.out]
      exact fill_own' (own_setF (p := ⟨N, 0, none⟩) HR6.out (own_nbT HR6.out BN6.out (by decide)) _) (own_nbT (own_setF (p := ⟨N, 0, none⟩) HR6.out (own_nbT HR6.out BN6.out (by decide)) _) BR7.out (by decide))
    · go_wp2_with fail
      refine (among_lit g a5 3 6 [3, 6] 3 w5 HC5.out (by omega) (by decide) (by decide) (by decide) _ rfl rfl).mono ?_
      rintro e w6 ⟨v, a6, rfl, v0, v1, ha6, hc6, hg6⟩
      have HC6 := Lib.hid hc6
      have HG6 := Lib.hid (HG5.out.trans hg6)
      have BN6 := Lib.hid (BN5.out.gr hg6 hNg)
      have HR6 := Lib.hid (own_gr HR5.out hg6 hgS)
      have BR6 := Lib.hid (BR5.out.gr hg6 hRg)
      clear hc6 hg6 HC5 HG5 BN5 HR5 BR5 d0 d1 d2 z0 z1 z2 r0 r1 r2 y0 y1 y2 ln lr
      obtain ⟨d0, d1, d2⟩ := BN6.out.q3
      obtain ⟨z0, z1, z2⟩ := BN6.out.z3
      obtain ⟨r0, r1, r2⟩ := BR6.out.q3
      obtain ⟨y0, y1, y2⟩ := BR6.out.z3
      have ln := BN6.out.lt
      have lr := BR6.out.lt
      have BR7 := Lib.hid (BR6.out.setF (p := ⟨N, 1, none⟩) hNR (.int .i64 v))
      go_wp2
      refine bodyPost_ret (v := frV un v A len c) (by simp [results, Try.results56, go_sem, *]) rfl ?_
      refine ⟨un, v, l, A, c, a6, by rw [HL.out], ⟨by have := HUN.out; omega, by have := HUN.out; omega, by have := HUN.out; omega, by have := HUN.out; omega, by rw [HL.out]; omega, by rw [HL.out]; omega, HIN.out⟩, by omega, ?_, ((((HC6.out.far (p := ⟨N, 1, none⟩) hgN _).far (p := ⟨w.heap.size, 0, none⟩) hgS _).far (p := ⟨w.heap.size, 1, none⟩) hgS _).far (p := ⟨w.heap.size, 2, none⟩) hgS _), ((((HG6.out.setNew (p := ⟨N, 1, none⟩) hwN _).setNew (p := ⟨w.heap.size, 0, none⟩) (Nat.le_refl _) _).setNew (p := ⟨w.heap.size, 1, none⟩) (Nat.le_refl _) _).setNew (p := ⟨w.heap.size, 2, none⟩) (Nat.le_refl _) _)⟩
      rw [HL.out]
      exact fill_own' (own_setF (p := ⟨N, 1, none⟩) HR6.out (own_nbT HR6.out BN6.out (by decide)) _) (own_nbT (own_setF (p := ⟨N, 1, none⟩) HR6.out (own_nbT HR6.out BN6.out (by decide)) _) BR7.out (by decide))
    · have hlenK : len ≤ 9 := by omega
      go_wp2_with fail
      go_loopw [64] (fun _ wr => ∃ (len c : Nat) (A : Option Addr) (l : List R2) (a6 : Nat), 1 ≤ len ∧ len ≤ 9 ∧ Hid (l.length = len) ∧ Hid (∀ x ∈ l, -1 ≤ x.a ∧ x.a ≤ 9 ∧ -1 ≤ x.b ∧ x.b ≤ 9) ∧ a6 ≤ a + 200 + 14 * len ∧ Hid (CurAt wr g a6) ∧ Hid (Gr g w wr) ∧ Hid (Blk wr N 26 #[.int .i64 (un : Int), .int .i64 (lon : Int), .slice A len c]) ∧ Hid (wr.ownsRow w.heap.size 42 2 (.slice A len c) len (rowsV2 l)) ∧ Hid (Blk wr w.heap.size 26 #[.int .i64 0, .int .i64 0, .slice none 0 0])) (fun _ wr => 9 - lenAt wr N 2)
      case atStart => exact ⟨len, c, A, l, a5, hkn1, hlenK, HL, HIN, by omega, HC5, HG5, BN5, HR5, BR5⟩
      case round =>
       clear HC5 HG5 BN5 HR5 BR5 d0 d1 d2 z0 z1 z2 r0 r1 r2 y0 y1 y2 ln lr HL HIN hkn1 hkn5 hlenK hA5
       obtain ⟨len, c, A, l, a6, hl1, hl9, HL, HIN, ha6, HC5, HG5, BN5, HR5, BR5⟩ := hrel
       obtain ⟨W5, hW5e⟩ : ∃ y : World, y = wr := ⟨_, rfl⟩
       subst hW5e
       have hW5 := HG5.out.size
       go_upto_region 14 with fail
       refine wp_region_m (by kernel_rfl) (by kernel_rfl) [64, 65, 66, 67, 68, 69, 70] FrCU (by kernel_rfl) (by decide) 71 (by kernel_rfl) (by simp) (fun ra0 => ra0.eval (.tmp 0) = .pointer (some ⟨g, 0, none⟩) ∧ ra0.eval (.tmp 3) = .pointer (some ⟨N, 0, none⟩)) ⟨by kernel_rfl, by kernel_rfl⟩ FrCP (by kernel_rfl) (ICur 2 g a6 w W5 99 99 (fun wx => Blk wx N 26 #[.int .i64 (un : Int), .int .i64 (lon : Int), .slice A len c] ∧ Blk wx w.heap.size 26 #[.int .i64 0, .int .i64 0, .slice none 0 0])) (FrCR g N w.heap.size un lon A len c) (fun jN vs wx => FrC w.heap.size g N w.heap.size un lon A len c vs wx jN) ⟨a6, by omega, (HC5.out).ext (ext_drew (ext_refl _)), (HG5.out).trans (Gr.of_ext (ext_drew (ext_refl _))), Nat.le_refl _, fun _ => Gr.of_ext (ext_drew (ext_refl _)), fun _ => ⟨BN5.out, BR5.out⟩⟩ (fun _ _ _ _ _ _ h0 hd h1 h2 h3 => FrC_keep hgS h0 hd h1 h2 h3) ?_ ?_
       · intro ra0 hE ri ro ho Qx vs wx rb KX kk rL hI hkk hnl hLt hcl hdep rb0 rbk HK
         repeat (rename_i hz9; clear hz9)
         obtain ⟨rq0, rq3⟩ := hE
         have hi : ri < 7 := by
          rcases Nat.lt_or_ge ri 7 with h | h
          · exact h
          · rw [Array.getElem?_eq_none (by simpa using h)] at ho; cases ho
         have hkk : kk < 7 := by simpa using hkk
         obtain ⟨ax, hax, hcx, hGw, hsz, hpre, hBx⟩ := hI
         have HQ : ∀ w' a2, CurAt w' g a2 → a2 ≤ ax + 2 → Gr g wx w' → ICur 2 g a6 w W5 99 99 (fun wx => Blk wx N 26 #[.int .i64 (un : Int), .int .i64 (lon : Int), .slice A len c] ∧ Blk wx w.heap.size 26 #[.int .i64 0, .int .i64 0, .slice none 0 0]) (kk + 1) (fun j => j = ri ∨ rL j) w' := fun w' a2 h1 h2 h3 => ⟨a2, by omega, h1, hGw.trans h3, Nat.le_trans hsz h3.size, fun hn => (hpre (fun x => hn (.inr x))).trans h3, fun hn => (fun hB => ⟨hB.1.gr h3 hNg, hB.2.gr h3 hRg⟩) (hBx (fun x => hn (.inr x)))⟩
         have HQX := Lib.hid HQ
         have HCX := Lib.hid hcx
         have HGW := Lib.hid hGw
         have HPRE := Lib.hid hpre
         have HBX := Lib.hid hBx
         have HCL := Lib.hid hcl
         clear HQ hcx hGw hpre hBx hcl
         rcases (show ri = 0 ∨ ri = 1 ∨ ri = 2 ∨ ri = 3 ∨ ri = 4 ∨ ri = 5 ∨ ri = 6 by omega) with rfl | rfl | rfl | rfl | rfl | rfl | rfl
         · simp only [List.getElem?_toArray, List.getElem?_cons_succ, List.getElem?_cons_zero, Option.some.injEq] at ho
           subst ho
           have HKX := Lib.hid HK
           clear HK
           have p3 := (rb0 3 (by decide)).trans rq3
           clear rb0 rbk hdep
           go_simp
           exact HKX.out _ _ (HQX.out _ ax HCX.out (by omega) (Gr.refl _ _)) (by unfold FrCR; exact Gr.refl _ _) (upd_same _ _ _)
         · simp only [List.getElem?_toArray, List.getElem?_cons_succ, List.getElem?_cons_zero, Option.some.injEq] at ho
           subst ho
           have HKX := Lib.hid HK
           clear HK
           have e0 : vs 64 = .pointer (some ⟨N, 2, none⟩) := (hdep 0 (by kernel_rfl)).2
           have rr0 := (rbk 64 (by decide)).trans e0
           have E0 := Lib.hid e0
           clear e0
           have hNL : ¬ rL 99 := fun h => absurd (hLt _ h) (by simp)
           have HGP := Lib.hid (HPRE.out hNL)
           obtain ⟨dx0, dx1, dx2⟩ := (BN5.out.gr HGP.out hNg).q3
           have lnx := (BN5.out.gr HGP.out hNg).lt
           clear rb0 rbk hdep
           go_simp
           exact HKX.out _ _ (HQX.out _ ax HCX.out (by omega) (Gr.refl _ _)) (by unfold FrCR; exact Gr.refl _ _) (upd_same _ _ _)
         · simp only [List.getElem?_toArray, List.getElem?_cons_succ, List.getElem?_cons_zero, Option.some.injEq] at ho
           subst ho
           have HKX := Lib.hid HK
           clear HK
           have e1 : vs 65 = .slice A len c := (hdep 1 (by kernel_rfl)).2
           have rr1 := (rbk 65 (by decide)).trans e1
           have E1 := Lib.hid e1
           clear e1
           clear rb0 rbk hdep
           go_simp
           exact HKX.out _ _ (HQX.out _ ax HCX.out (by omega) (Gr.refl _ _)) (by unfold FrCR; exact Gr.refl _ _) (upd_same _ _ _)
         · simp only [List.getElem?_toArray, List.getElem?_cons_succ, List.getElem?_cons_zero, Option.some.injEq] at ho
           subst ho
           have HKX := Lib.hid HK
           clear HK
           have p0 := (rb0 0 (by decide)).trans rq0
           clear rb0 rbk hdep
           go_simp
           exact HKX.out _ _ (HQX.out _ ax HCX.out (by omega) (Gr.refl _ _)) (by unfold FrCR; exact Gr.refl _ _) (upd_same _ _ _)
         · simp only [List.getElem?_toArray, List.getElem?_cons_succ, List.getElem?_cons_zero, Option.some.injEq] at ho
           subst ho
           have HKX := Lib.hid HK
           clear HK
           have e3 : vs 67 = .pointer (some ⟨g, 0, none⟩) := (hdep 3 (by kernel_rfl)).2
           have rr3 := (rbk 67 (by decide)).trans e3
           have E3 := Lib.hid e3
           clear e3
           clear rb0 rbk hdep
           go_simp
           refine (pick_any g ax 2 _ HCX.out (by omega) (by omega) (by omega)).mono ?_
           rintro e w' ⟨p, a2, rfl, nF0, nF1, ha2, hc2, hg2⟩
           have nF1 : p ≤ 1 := by omega
           go_simp
           exact HKX.out _ _ (HQX.out _ a2 hc2 (by omega) hg2) (by unfold FrCR; exact hg2) (⟨p, upd_same _ _ _, nF0, nF1⟩)
         · simp only [List.getElem?_toArray, List.getElem?_cons_succ, List.getElem?_cons_zero, Option.some.injEq] at ho
           subst ho
           have HKX := Lib.hid HK
           clear HK
           obtain ⟨p, e4, k4_0, k4_1⟩ := (hdep 4 (by kernel_rfl)).2
           have rr4 := (rbk 68 (by decide)).trans e4
           have E4 := Lib.hid e4
           clear e4
           clear rb0 rbk hdep
           go_simp
           rw [show IntKind.i64.wrap (8 + p) = 8 + p from by rw [IntKind.wrap_i64]; omega]
           exact HKX.out _ _ (HQX.out _ ax HCX.out (by omega) (Gr.refl _ _)) (by unfold FrCR; exact Gr.refl _ _) (⟨p, upd_same _ _ _, k4_0, k4_1⟩)
         · simp only [List.getElem?_toArray, List.getElem?_cons_succ, List.getElem?_cons_zero, Option.some.injEq] at ho
           subst ho
           have HKX := Lib.hid HK
           clear HK
           have e2 : vs 66 = .int .i64 (len : Int) := (hdep 2 (by kernel_rfl)).2
           have rr2 := (rbk 66 (by decide)).trans e2
           have E2 := Lib.hid e2
           clear e2
           obtain ⟨p, e5, k5_0, k5_1⟩ := (hdep 5 (by kernel_rfl)).2
           have rr5 := (rbk 69 (by decide)).trans e5
           have E5 := Lib.hid e5
           clear e5
           clear rb0 rbk hdep
           go_simp
           exact HKX.out _ _ (HQX.out _ ax HCX.out (by omega) (Gr.refl _ _)) (by unfold FrCR; exact Gr.refl _ _) (⟨p, upd_same _ _ _, k5_0, k5_1⟩)
       intro vs wx kk rL hI hkk hLt hall
       obtain ⟨_, p, e70, p0, p1⟩ := hall 6 (by decide)
       obtain ⟨a7, ha7, hc7, hg7, _, hpre, hB7⟩ := hI
       have hn99 : ¬ rL 99 := fun h => absurd (hLt _ h) (by simp)
       have hkk : kk ≤ 7 := by simpa using hkk
       have hgx := hpre hn99
       have HC7 := Lib.hid hc7
       have HG7 := Lib.hid hg7
       have BN7 := Lib.hid (hB7 hn99).1
       have BR7 := Lib.hid (hB7 hn99).2
       have HR7 := Lib.hid (own_gr HR5.out hgx hgS)
       have HLN := Lib.hid (lenAt_of (BN5.out.q3.2.2))
       simp only [sl]
       rw [e70]
       simp only [Act.put, List.setIfInBounds_toArray, List.set_cons_succ, List.set_cons_zero]
       clear hall e70 hc7 hg7 hpre hB7 hgx hLt hn99
       obtain ⟨d0, d1, d2⟩ := BN7.out.q3
       obtain ⟨z0, z1, z2⟩ := BN7.out.z3
       obtain ⟨r0, r1, r2⟩ := BR7.out.q3
       obtain ⟨y0, y1, y2⟩ := BR7.out.z3
       have ln := BN7.out.lt
       have lr := BR7.out.lt
       by_cases hlt : (len : Int) < 8 + p
       · rw [decide_eq_true hlt]
         have m1 : len + 1 ≤ maxLen := by unfold maxLen; omega
         have m2 : (len + 1) * 16 ≤ 140737488355328 := by omega
         go_wp2_with (at_builtin; refine wpList_append_own_at _ rfl (.tmp 72) (.tmp 74) 24 rfl w.heap.size 42 i0 _ 2 16 Try.underlying24 hi0 hz0 hz1 hz2 rfl (by decide) (.slice A len c) len (rowsV2 l) rfl (HR7.out.alloc (.cells #[.int .i64 1, .int .i64 4] 42)) _ 1 1 [.int .i64 1, .int .i64 4] rfl rfl (cells_new_at _ [.int .i64 1, .int .i64 4] _ (by simp)) (by simp [Value.oneCell']) m1 m2 (by simp; omega) ?_; intro v' w8 hown hgrow _ hat; obtain ⟨g8, cap8, hv8, _, _⟩ := hown.form (by omega); subst hv8; have BN8 := Blk.grownF (BN7.out.al (.cells #[.int .i64 1, .int .i64 4] 42)) hgrow (own_nbT (HR7.out.alloc (.cells #[.int .i64 1, .int .i64 4] 42)) (BN7.out.al (.cells #[.int .i64 1, .int .i64 4] 42)) (by decide)); obtain ⟨e0, e1, e2⟩ := BN8.q3; obtain ⟨f0, f1, f2⟩ := BN8.z3; have sN8 := BN8.lt; have HGR := Lib.hid hgrow; have HOW := Lib.hid hown; have BN8 := Lib.hid BN8; clear hown hgrow hat)
         have hbl : ∀ q, Value.ownBlock (.slice A len c) = some q → w.heap.size ≤ q := fun q hq => (HR7.out.lt q hq).1
         have BR8 := Lib.hid (Blk.grownF (BR7.out.al (.cells #[.int .i64 1, .int .i64 4] 42)) HGR.out (own_nbT (HR7.out.alloc (.cells #[.int .i64 1, .int .i64 4] 42)) (BR7.out.al (.cells #[.int .i64 1, .int .i64 4] 42)) (by decide)))
         have HC8 := Lib.hid ((HC7.out.ext (ext_alloc (ext_refl _) (.cells #[.int .i64 1, .int .i64 4] 42))).grown HGR.out (fun q hq => Nat.lt_of_lt_of_le hgS (hbl q hq)))
         have HG8 := Lib.hid ((HG7.out.trans (Gr.alloc _ _ (.cells #[.int .i64 1, .int .i64 4] 42))).grown HGR.out hbl)
         have HO8 := Lib.hid (show w8.ownsRow w.heap.size 42 2 (.slice (some ⟨g8, 0, none⟩) (len + 1) cap8) (len + 1) (rowsV2 (l ++ [⟨1, 4⟩])) by have h9 := HOW.out; rwa [show rowsV2 l ++ [Value.int .i64 1, Value.int .i64 4] = rowsV2 (l ++ [⟨1, 4⟩]) by simp [rowsV2, R2.cells]] at h9)
         have HL8 := Lib.hid (show (l ++ [(⟨1, 4⟩ : R2)]).length = len + 1 by rw [List.length_append, HL.out]; rfl)
         have HIN8 := Lib.hid (show ∀ x ∈ l ++ [(⟨1, 4⟩ : R2)], -1 ≤ x.a ∧ x.a ≤ 9 ∧ -1 ≤ x.b ∧ x.b ≤ 9 by
          intro x hx
          rcases List.mem_append.1 hx with hx | hx
          · exact HIN.out x hx
          · rw [List.mem_singleton] at hx
            subst hx
            decide)
         go_roundw
         case rel => exact ⟨len + 1, cap8, _, l ++ [⟨1, 4⟩], a7, by omega, by omega, HL8, HIN8, by omega, Lib.hid (HC8.out.far (p := ⟨N, 2, none⟩) hgN _), Lib.hid (HG8.out.setNew (p := ⟨N, 2, none⟩) hwN _), Lib.hid (BN8.out.set_ 2 _), Lib.hid (own_setF (p := ⟨N, 2, none⟩) HO8.out (own_nbT HO8.out BN8.out (by decide)) _), Lib.hid (BR8.out.setF (p := ⟨N, 2, none⟩) hNR _)⟩
         case measure =>
          rw [HLN.out, lenAt_of ((BN8.out.set_ 2 (.slice (some ⟨g8, 0, none⟩) (len + 1) cap8)).q3.2.2)]
          omega
       · rw [decide_eq_false hlt]
         go_wp2
         refine bodyPost_ret (v := frV un lon A len c) (by simp [results, Try.results56, go_sem, *]) rfl ?_
         refine ⟨un, lon, l, A, c, a7, by rw [HL.out], ⟨by have := HUN.out; omega, by have := HUN.out; omega, by have := HUN.out; omega, by have := HUN.out; omega, by rw [HL.out]; omega, by rw [HL.out]; omega, HIN.out⟩, by omega, ?_, ((((HC7.out).far (p := ⟨w.heap.size, 0, none⟩) hgS _).far (p := ⟨w.heap.size, 1, none⟩) hgS _).far (p := ⟨w.heap.size, 2, none⟩) hgS _), ((((HG7.out).setNew (p := ⟨w.heap.size, 0, none⟩) (Nat.le_refl _) _).setNew (p := ⟨w.heap.size, 1, none⟩) (Nat.le_refl _) _).setNew (p := ⟨w.heap.size, 2, none⟩) (Nat.le_refl _) _)⟩
         rw [HL.out]
         exact fill_own' (HR7.out) (own_nbT (HR7.out) BR7.out (by decide))
    · have b0 : (z == 0) = false := by simpa using h0
      have b1 : (z == 1) = false := by simpa using h1
      have b2 : (z == 2) = false := by simpa using h2
      have b3 : (z == 3) = false := by simpa using h3
      clear h0 h1 h2 h3
      go_wp2
      refine bodyPost_ret (v := frV un lon A len c) (by simp [results, Try.results56, go_sem, *]) rfl ?_
      refine ⟨un, lon, l, A, c, a5, by rw [HL.out], ⟨by have := HUN.out; omega, by have := HUN.out; omega, by have := HUN.out; omega, by have := HUN.out; omega, by rw [HL.out]; omega, by rw [HL.out]; omega, HIN.out⟩, by omega, ?_, ((((HC5.out).far (p := ⟨w.heap.size, 0, none⟩) hgS _).far (p := ⟨w.heap.size, 1, none⟩) hgS _).far (p := ⟨w.heap.size, 2, none⟩) hgS _), ((((HG5.out).setNew (p := ⟨w.heap.size, 0, none⟩) (Nat.le_refl _) _).setNew (p := ⟨w.heap.size, 1, none⟩) (Nat.le_refl _) _).setNew (p := ⟨w.heap.size, 2, none⟩) (Nat.le_refl _) _)⟩
      rw [HL.out]
      exact fill_own' (HR5.out) (own_nbT (HR5.out) BR5.out (by decide))

end Go.Proofs.Ytaghjaiaoajpiaa
