/- rightMoves: a right list is drawn. -/
import Derived.Deep.CutBlock
import Derived.Test.YtphhelmcaehclaaVWsR
import Derived.Test.YtphhelmcaehclaaVAdB
import Derived.Test.YtphhelmcaehclaaVFdC
import Derived.Test.YtphhelmcaehclaaVM6
import Derived.Test.YtphhelmcaehclaaVM5
namespace Go.Proofs.Ytphhelmcaehclaa
open Go.RowKit
set_option linter.unusedVariables false
set_option linter.unusedSimpArgs false
def RgT (S g : Nat) (u lo : Int) (A : Option Addr) (c : Nat) (l : List R2) (vs : Nat → Value) (wx : World) : Nat → Prop
 | 0 => vs 9 = frV u lo A l.length c
 | 1 => vs 10 = .pointer (some ⟨g, 0, none⟩)
 | 2 => vs 11 = frV u lo A l.length c
 | 3 => ∃ (z : Int), vs 12 = .int .i64 z
 | 4 => ∃ (ms : List R3) (B : Option Addr) (cb : Nat) (ok : Bool), vs 13 = .tuple #[.slice B ms.length cb, .bool ok] ∧ (ms.length ≤ 61) ∧ (wx.ownsRow S 75 3 (.slice B ms.length cb) ms.length (rowsV3 ms))
 | 5 => ∃ (ms : List R3) (B : Option Addr) (cb : Nat) (ok : Bool), vs 8 = .tuple #[.slice B ms.length cb, .bool ok] ∧ (ms.length ≤ 61) ∧ (wx.ownsRow S 75 3 (.slice B ms.length cb) ms.length (rowsV3 ms))
 | 6 => ∃ (ms : List R3) (B : Option Addr) (cb : Nat) (ok : Bool), vs 14 = .slice B ms.length cb ∧ (ms.length ≤ 61) ∧ (wx.ownsRow S 75 3 (.slice B ms.length cb) ms.length (rowsV3 ms))
 | 7 => ∃ (ms : List R3) (B : Option Addr) (cb : Nat) (ok : Bool), vs 15 = .bool ok
 | 8 => ∃ (ms : List R3) (B : Option Addr) (cb : Nat) (ok : Bool), vs 4 = .slice B ms.length cb ∧ (ms.length ≤ 61) ∧ (wx.ownsRow S 75 3 (.slice B ms.length cb) ms.length (rowsV3 ms))
 | 9 => ∃ (ms : List R3) (B : Option Addr) (cb : Nat) (ok : Bool), vs 5 = .bool ok
 | _ => True
def RgTU : Nat → List Nat
 | 0 => [9]
 | 1 => [10]
 | 2 => [11]
 | 3 => [12]
 | 4 => [13]
 | 5 => [8]
 | 6 => [14]
 | 7 => [15]
 | 8 => [4]
 | 9 => [5]
 | _ => []
def RgTR (g : Nat) (u lo : Int) (A : Option Addr) (c : Nat) (l : List R2) (i : Nat) (wx wy : World) : Prop := Gr g wx wy
theorem RgT_gr {S g : Nat} {u lo : Int} {A : Option Addr} {c : Nat} {l : List R2} (hgS : g < S) {vs us : Nat → Value} {wx wy : World} {jN : Nat} (hGG : RgT S g u lo A c l vs wx jN) (haG : ∀ d ∈ RgTU jN, us d = vs d) (hbG : Gr g wx wy) : RgT S g u lo A c l us wy jN := by
 match jN, hGG, haG with
 | 0, hGG, haG =>
   exact (haG 9 (by simp [RgTU])).trans hGG
 | 1, hGG, haG =>
   exact (haG 10 (by simp [RgTU])).trans hGG
 | 2, hGG, haG =>
   exact (haG 11 (by simp [RgTU])).trans hGG
 | 3, hGG, haG =>
   obtain ⟨xG0, eG⟩ := hGG
   exact ⟨xG0, (haG 12 (by simp [RgTU])).trans eG⟩
 | 4, hGG, haG =>
   obtain ⟨xG0, xG1, xG2, xG3, eG, fG0, fG1⟩ := hGG
   exact ⟨xG0, xG1, xG2, xG3, (haG 13 (by simp [RgTU])).trans eG, fG0, own_gr fG1 hbG hgS⟩
 | 5, hGG, haG =>
   obtain ⟨xG0, xG1, xG2, xG3, eG, fG0, fG1⟩ := hGG
   exact ⟨xG0, xG1, xG2, xG3, (haG 8 (by simp [RgTU])).trans eG, fG0, own_gr fG1 hbG hgS⟩
 | 6, hGG, haG =>
   obtain ⟨xG0, xG1, xG2, xG3, eG, fG0, fG1⟩ := hGG
   exact ⟨xG0, xG1, xG2, xG3, (haG 14 (by simp [RgTU])).trans eG, fG0, own_gr fG1 hbG hgS⟩
 | 7, hGG, haG =>
   obtain ⟨xG0, xG1, xG2, xG3, eG⟩ := hGG
   exact ⟨xG0, xG1, xG2, xG3, (haG 15 (by simp [RgTU])).trans eG⟩
 | 8, hGG, haG =>
   obtain ⟨xG0, xG1, xG2, xG3, eG, fG0, fG1⟩ := hGG
   exact ⟨xG0, xG1, xG2, xG3, (haG 4 (by simp [RgTU])).trans eG, fG0, own_gr fG1 hbG hgS⟩
 | 9, hGG, haG =>
   obtain ⟨xG0, xG1, xG2, xG3, eG⟩ := hGG
   exact ⟨xG0, xG1, xG2, xG3, (haG 5 (by simp [RgTU])).trans eG⟩
 | jN + 10, _, _ => trivial
def RgTP (j i : Nat) : Bool := false
theorem RgT_keep {S g : Nat} {u lo : Int} {A : Option Addr} {c : Nat} {l : List R2} (hgS : g < S) {vs us : Nat → Value} {wx wy : World} {iN jN : Nat} (hneG : iN ≠ jN) (hdpG : RgTP jN iN = false) (hGG : RgT S g u lo A c l vs wx jN) (haG : ∀ d ∈ RgTU jN, us d = vs d) (hbG : RgTR g u lo A c l iN wx wy) : RgT S g u lo A c l us wy jN := by
 unfold RgTR at hbG
 exact RgT_gr hgS hGG haG hbG
set_option maxRecDepth 100000 in
set_option maxHeartbeats 8000000 in
theorem rightMoves_any (g a : Nat) (w : World) (h : CurAt w g a) (ha : a ≤ 300000000000) :
 Calls Try.prog 51 #[.pointer (some ⟨g, 0, none⟩)] w (DrawMvs g a 4000 w) := by
 have hgw : g < w.heap.size := h.lt
 have HC0 := Lib.hid h
 clear h
 go_enter Try.func51, Try.ntmps51
 go_wp2_with fail
 refine (stdFrame_any g a _ HC0.out (by omega)).mono ?_
 rintro e w1 ⟨u, lo, l, A, c, a1, rfl, hIN, ha1, hr1, hc1, hg1⟩
 have HIN := Lib.hid hIN
 have hl9 : l.length ≤ 9 := hIN.2.2.2.2.2.1
 have hs1 := hg1.size
 clear hIN
 obtain ⟨NM, hNM⟩ : ∃ N, N = w1.heap.size := ⟨_, rfl⟩
 obtain ⟨W, hW⟩ : ∃ y : World, y = w1.alloc (.cells #[.int .i64 u, .int .i64 lo, .slice A l.length c] 26) := ⟨_, rfl⟩
 have hgl : g < NM := by have := hc1.lt; omega
 have hNg : NM ≠ g := by omega
 have BN1 := Lib.hid (show Blk W NM 26 #[.int .i64 u, .int .i64 lo, .slice A l.length c] by rw [hW]; exact Blk.born w1 _ 26 (H := NM) hNM)
 have HR1 := Lib.hid (show W.ownsRow w.heap.size 96 2 (.slice A l.length c) l.length (rowsV2 l) by rw [hW]; exact hr1.alloc _)
 have HC1 := Lib.hid (show CurAt W g a1 by rw [hW]; exact hc1.ext (ext_alloc (ext_refl _) _))
 have HG1 := Lib.hid (show Gr g w W by rw [hW]; exact hg1.trans (Gr.alloc _ _ _))
 have hW0 : g + 1 ≤ W.heap.size := HC1.out.lt
 have HAN := Lib.hid (fun (w : World) (z : Int) h => specAddNumberMoves_any u lo A l.length c l z w (by omega) h)
 go_upto_region 2 with fail
 rw [← hNM, ← hW]
 clear hNM hW hr1 hc1 hg1 HC0 hs1
 obtain ⟨m0, m1, m2⟩ := BN1.out.q3
 have lm := BN1.out.lt
 refine wp_region_m (by kernel_rfl) (by kernel_rfl) [4, 5, 8, 9, 10, 11, 12, 13, 14, 15] RgTU (by kernel_rfl) (by decide) 32 (by kernel_rfl) (by simp) (fun ra0 => ra0.eval (.tmp 0) = .pointer (some ⟨g, 0, none⟩) ∧ ra0.eval (.tmp 3) = .pointer (some ⟨NM, 0, none⟩)) ⟨by kernel_rfl, by kernel_rfl⟩ RgTP (by kernel_rfl) (ICur 60 g a1 w W 10 10 (fun wx => Blk wx NM 26 #[.int .i64 u, .int .i64 lo, .slice A l.length c])) (RgTR g u lo A c l) (fun jN vs wx => RgT w.heap.size g u lo A c l vs wx jN) ⟨a1, by omega, (HC1.out).ext (ext_drew (ext_refl _)), (HG1.out).trans (Gr.of_ext (ext_drew (ext_refl _))), Nat.le_refl _, fun _ => Gr.of_ext (ext_drew (ext_refl _)), fun _ => BN1.out⟩ (fun _ _ _ _ _ _ h0 hd h1 h2 h3 => RgT_keep hgw h0 hd h1 h2 h3) ?_ ?_
 · intro ra0 hE ri ro ho Qx vs wx rb KX kk rL hI hkk hnl hLt hcl hdep rb0 rbk HK
   repeat (rename_i hz9; clear hz9)
   obtain ⟨rq0, rq3⟩ := hE
   have hi : ri < 10 := by
    rcases Nat.lt_or_ge ri 10 with h | h
    · exact h
    · rw [Array.getElem?_eq_none (by simpa using h)] at ho; cases ho
   have hkk : kk < 10 := by simpa using hkk
   obtain ⟨ax, hax, hcx, hGw, hsz, hpre, hBx⟩ := hI
   have HQ : ∀ w' a2, CurAt w' g a2 → a2 ≤ ax + 60 → Gr g wx w' → ICur 60 g a1 w W 10 10 (fun wx => Blk wx NM 26 #[.int .i64 u, .int .i64 lo, .slice A l.length c]) (kk + 1) (fun j => j = ri ∨ rL j) w' := fun w' a2 h1 h2 h3 => ⟨a2, by omega, h1, hGw.trans h3, Nat.le_trans hsz h3.size, fun hn => (hpre (fun x => hn (.inr x))).trans h3, fun hn => (fun hB => hB.gr h3 hNg) (hBx (fun x => hn (.inr x)))⟩
   have HQX := Lib.hid HQ
   have HCX := Lib.hid hcx
   have HGW := Lib.hid hGw
   have HPRE := Lib.hid hpre
   have HBX := Lib.hid hBx
   have HCL := Lib.hid hcl
   clear HQ hcx hGw hpre hBx hcl
   rcases (show ri = 0 ∨ ri = 1 ∨ ri = 2 ∨ ri = 3 ∨ ri = 4 ∨ ri = 5 ∨ ri = 6 ∨ ri = 7 ∨ ri = 8 ∨ ri = 9 by omega) with rfl | rfl | rfl | rfl | rfl | rfl | rfl | rfl | rfl | rfl
   · simp only [List.getElem?_toArray, List.getElem?_cons_succ, List.getElem?_cons_zero, Option.some.injEq] at ho
     subst ho
     have HKX := Lib.hid HK
     clear HK
     have p3 := (rb0 3 (by decide)).trans rq3
     have hNL : ¬ rL 10 := fun h => absurd (hLt _ h) (by simp)
     have HGP := Lib.hid (HPRE.out hNL)
     obtain ⟨x0, x1, x2⟩ := (BN1.out.gr HGP.out hNg).q3
     have lnx := (BN1.out.gr HGP.out hNg).lt
     clear rb0 rbk hdep
     go_simp
     exact HKX.out _ _ (HQX.out _ ax HCX.out (by omega) (Gr.refl _ _)) (by unfold RgTR; exact Gr.refl _ _) (upd_same _ _ _)
   · simp only [List.getElem?_toArray, List.getElem?_cons_succ, List.getElem?_cons_zero, Option.some.injEq] at ho
     subst ho
     have HKX := Lib.hid HK
     clear HK
     have p0 := (rb0 0 (by decide)).trans rq0
     clear rb0 rbk hdep
     go_simp
     exact HKX.out _ _ (HQX.out _ ax HCX.out (by omega) (Gr.refl _ _)) (by unfold RgTR; exact Gr.refl _ _) (upd_same _ _ _)
   · simp only [List.getElem?_toArray, List.getElem?_cons_succ, List.getElem?_cons_zero, Option.some.injEq] at ho
     subst ho
     have HKX := Lib.hid HK
     clear HK
     have p3 := (rb0 3 (by decide)).trans rq3
     have hNL : ¬ rL 10 := fun h => absurd (hLt _ h) (by simp)
     have HGP := Lib.hid (HPRE.out hNL)
     obtain ⟨x0, x1, x2⟩ := (BN1.out.gr HGP.out hNg).q3
     have lnx := (BN1.out.gr HGP.out hNg).lt
     clear rb0 rbk hdep
     go_simp
     exact HKX.out _ _ (HQX.out _ ax HCX.out (by omega) (Gr.refl _ _)) (by unfold RgTR; exact Gr.refl _ _) (upd_same _ _ _)
   · simp only [List.getElem?_toArray, List.getElem?_cons_succ, List.getElem?_cons_zero, Option.some.injEq] at ho
     subst ho
     have HKX := Lib.hid HK
     clear HK
     have e1 : vs 10 = .pointer (some ⟨g, 0, none⟩) := (hdep 1 (by kernel_rfl)).2
     have rr1 := (rbk 10 (by decide)).trans e1
     have E1 := Lib.hid e1
     clear e1
     have e2 : vs 11 = frV u lo A l.length c := (hdep 2 (by kernel_rfl)).2
     have rr2 := (rbk 11 (by decide)).trans e2
     have E2 := Lib.hid e2
     clear e2
     have hNL : ¬ rL 10 := fun h => absurd (hLt _ h) (by simp)
     have HGP := Lib.hid (HPRE.out hNL)
     obtain ⟨x0, x1, x2⟩ := (BN1.out.gr HGP.out hNg).q3
     have lnx := (BN1.out.gr HGP.out hNg).lt
     clear rb0 rbk hdep
     go_simp
     refine (addend_any g ax w.heap.size u lo A c l _ HCX.out (by omega) hgw (own_gr HR1.out HGP.out hgw) HIN.out).mono ?_
     rintro e w' ⟨z, a2, rfl, nF0, nF1, ha2, hc2, hg2⟩
     go_simp
     exact HKX.out _ _ (HQX.out _ a2 hc2 (by omega) hg2) (by unfold RgTR; exact hg2) (⟨z, upd_same _ _ _⟩)
   · simp only [List.getElem?_toArray, List.getElem?_cons_succ, List.getElem?_cons_zero, Option.some.injEq] at ho
     subst ho
     have HKX := Lib.hid HK
     clear HK
     have e0 : vs 9 = frV u lo A l.length c := (hdep 0 (by kernel_rfl)).2
     have rr0 := (rbk 9 (by decide)).trans e0
     have E0 := Lib.hid e0
     clear e0
     obtain ⟨z, e3⟩ := (hdep 3 (by kernel_rfl)).2
     have rr3 := (rbk 12 (by decide)).trans e3
     have E3 := Lib.hid e3
     clear e3
     have hNL : ¬ rL 10 := fun h => absurd (hLt _ h) (by simp)
     have HGP := Lib.hid (HPRE.out hNL)
     obtain ⟨x0, x1, x2⟩ := (BN1.out.gr HGP.out hNg).q3
     have lnx := (BN1.out.gr HGP.out hNg).lt
     clear rb0 rbk hdep
     go_simp
     have HRx := own_gr HR1.out HGP.out hgw
     have HP := HAN.out wx z (Reads.of_own HRx)
     have hml := addNms_len u lo l z
     obtain ⟨ms, hms⟩ : ∃ o9, addNms u lo l z = o9 := ⟨_, rfl⟩
     obtain ⟨ok, hok⟩ : ∃ o9, addNmok u lo l z = o9 := ⟨_, rfl⟩
     rw [hms, hok] at HP
     rw [hms] at hml
     unfold RetMv RetSliceB at HP
     clear hms hok
     refine HP.mono ?_
     rintro e w' ⟨B, cb, rfl, hon, hb⟩
     have hsx : w.heap.size ≤ wx.heap.size := HGW.out.size
     have hm61 : ms.length ≤ 61 := by omega
     have nF1 := own_base (base' := w.heap.size) hon hsx
     clear hon
     go_simp
     exact HKX.out _ _ (HQX.out _ ax (HCX.out.ext hb) (by omega) (Gr.of_ext hb)) (by unfold RgTR; exact Gr.of_ext hb) (⟨ms, B, cb, ok, upd_same _ _ _, hm61, nF1⟩)
   · simp only [List.getElem?_toArray, List.getElem?_cons_succ, List.getElem?_cons_zero, Option.some.injEq] at ho
     subst ho
     have HKX := Lib.hid HK
     clear HK
     obtain ⟨ms, B, cb, ok, e4, k4_0, k4_1⟩ := (hdep 4 (by kernel_rfl)).2
     have rr4 := (rbk 13 (by decide)).trans e4
     have E4 := Lib.hid e4
     clear e4
     have K4_1 := Lib.hid k4_1
     clear k4_1
     clear rb0 rbk hdep
     go_simp
     exact HKX.out _ _ (HQX.out _ ax HCX.out (by omega) (Gr.refl _ _)) (by unfold RgTR; exact Gr.refl _ _) (⟨ms, B, cb, ok, upd_same _ _ _, k4_0, K4_1.out⟩)
   · simp only [List.getElem?_toArray, List.getElem?_cons_succ, List.getElem?_cons_zero, Option.some.injEq] at ho
     subst ho
     have HKX := Lib.hid HK
     clear HK
     obtain ⟨ms, B, cb, ok, e5, k5_0, k5_1⟩ := (hdep 5 (by kernel_rfl)).2
     have rr5 := (rbk 8 (by decide)).trans e5
     have E5 := Lib.hid e5
     clear e5
     have K5_1 := Lib.hid k5_1
     clear k5_1
     clear rb0 rbk hdep
     go_simp
     exact HKX.out _ _ (HQX.out _ ax HCX.out (by omega) (Gr.refl _ _)) (by unfold RgTR; exact Gr.refl _ _) (⟨ms, B, cb, ok, upd_same _ _ _, k5_0, K5_1.out⟩)
   · simp only [List.getElem?_toArray, List.getElem?_cons_succ, List.getElem?_cons_zero, Option.some.injEq] at ho
     subst ho
     have HKX := Lib.hid HK
     clear HK
     obtain ⟨ms, B, cb, ok, e5, k5_0, k5_1⟩ := (hdep 5 (by kernel_rfl)).2
     have rr5 := (rbk 8 (by decide)).trans e5
     have E5 := Lib.hid e5
     clear e5
     have K5_1 := Lib.hid k5_1
     clear k5_1
     clear rb0 rbk hdep
     go_simp
     exact HKX.out _ _ (HQX.out _ ax HCX.out (by omega) (Gr.refl _ _)) (by unfold RgTR; exact Gr.refl _ _) (⟨ms, B, cb, ok, upd_same _ _ _⟩)
   · simp only [List.getElem?_toArray, List.getElem?_cons_succ, List.getElem?_cons_zero, Option.some.injEq] at ho
     subst ho
     have HKX := Lib.hid HK
     clear HK
     obtain ⟨ms, B, cb, ok, e6, k6_0, k6_1⟩ := (hdep 6 (by kernel_rfl)).2
     have rr6 := (rbk 14 (by decide)).trans e6
     have E6 := Lib.hid e6
     clear e6
     have K6_1 := Lib.hid k6_1
     clear k6_1
     clear rb0 rbk hdep
     go_simp
     exact HKX.out _ _ (HQX.out _ ax HCX.out (by omega) (Gr.refl _ _)) (by unfold RgTR; exact Gr.refl _ _) (⟨ms, B, cb, ok, upd_same _ _ _, k6_0, K6_1.out⟩)
   · simp only [List.getElem?_toArray, List.getElem?_cons_succ, List.getElem?_cons_zero, Option.some.injEq] at ho
     subst ho
     have HKX := Lib.hid HK
     clear HK
     obtain ⟨ms, B, cb, ok, e7⟩ := (hdep 7 (by kernel_rfl)).2
     have rr7 := (rbk 15 (by decide)).trans e7
     have E7 := Lib.hid e7
     clear e7
     clear rb0 rbk hdep
     go_simp
     exact HKX.out _ _ (HQX.out _ ax HCX.out (by omega) (Gr.refl _ _)) (by unfold RgTR; exact Gr.refl _ _) (⟨ms, B, cb, ok, upd_same _ _ _⟩)
 intro vs wx kk rL hI hkk hLt hall
 obtain ⟨_, ms, B, cb, _, e4, hm61, ho⟩ := hall 8 (by decide)
 obtain ⟨_, _, _, _, ok, e5⟩ := hall 9 (by decide)
 obtain ⟨a2, ha2, hc2, hg2, _, _, _⟩ := hI
 have hkk : kk ≤ 10 := by simpa using hkk
 have ha9 : a2 ≤ a + 1300 := by omega
 have HC2 := Lib.hid hc2
 have HG2 := Lib.hid hg2
 have HO2 := Lib.hid ho
 clear hLt hall ho hc2 hg2 m0 m1 m2 lm ha2 hkk HC1 HG1 BN1 HR1 HAN HIN ha1
 simp only [sl]
 rw [e4, e5]
 simp only [Act.put, List.setIfInBounds_toArray, List.set_cons_succ, List.set_cons_zero]
 clear e4 e5
 obtain ⟨w2, hw2⟩ : ∃ y : World, y = wx := ⟨_, rfl⟩
 subst hw2
 go_upto_region 3 with fail
 go_cut [26] (fun s26 wx => ∃ (b : Bool) (a3 : Nat), s26 = .bool b ∧ a3 ≤ a + 1310 ∧ Hid (CurAt wx g a3) ∧ Hid (Gr g w wx) ∧ Hid (wx.ownsRow w.heap.size 75 3 (.slice B ms.length cb) ms.length (rowsV3 ms)))
 case first =>
  cases ok
  · go_wp2_with fail
    go_meet
    exact ⟨false, a2, rfl, by omega, HC2, HG2, HO2⟩
  · by_cases h12 : ms.length ≤ 12
    · have hd : decide ((ms.length : Int) ≤ 12) = true := decide_eq_true (by omega)
      have hd2 : (ms.length : Int) ≤ 12 := by omega
      go_wp2_with fail
      refine (one_any g a2 4 _ HC2.out (by omega) (by omega) (by omega)).mono ?_
      rintro e w4 ⟨b, a3, rfl, ha3, hc3, hg3⟩
      go_wp2_with fail
      go_meet
      exact ⟨!b, a3, rfl, by omega, Lib.hid hc3, Lib.hid (HG2.out.trans hg3), Lib.hid (own_gr HO2.out hg3 hgw)⟩
    · have hd : decide ((ms.length : Int) ≤ 12) = false := decide_eq_false (by omega)
      have hd2 : ¬ (ms.length : Int) ≤ 12 := by omega
      go_wp2_with fail
      go_meet
      exact ⟨false, a2, rfl, by omega, HC2, HG2, HO2⟩
 case rest =>
  clear HC2 HG2 HO2
  obtain ⟨b, a3, rfl, ha3, HC3, HG3, HO3⟩ := hcut
  obtain ⟨w4, hw4⟩ : ∃ y : World, y = wc := ⟨_, rfl⟩
  subst hw4
  cases b
  · go_wp2_with fail
    refine (frame_any g a3 _ HC3.out (by omega)).mono ?_
    rintro e w5 ⟨u5, lo5, l5, A5, c5, a5, rfl, hI5, ha5, hr5, hc5, hg5⟩
    have HC5 := Lib.hid hc5
    have HG5 := Lib.hid (HG3.out.trans hg5)
    have HR5 := Lib.hid (own_base (base' := g + 1) hr5 HC3.out.lt)
    have HI5 := Lib.hid hI5
    clear hc5 hg5 hr5 hI5 HC3 HG3 HO3
    go_wp2_with fail
    refine (beads_any g a5 (g + 1) u5 lo5 A5 c5 l5 _ HC5.out (by omega) (Nat.lt_succ_self g) HR5.out HI5.out).mono ?_
    rintro e w6 ⟨ms6, B6, cb6, a6, rfl, hm6, ho6, ha6, hc6, hg6⟩
    have hs6 := HG5.out.size
    go_wp2
    go_ret
    exact ⟨ms6, B6, cb6, a6, rfl, hm6, own_base ho6 hs6, by omega, hc6, HG5.out.trans hg6⟩
  · go_wp2
    go_ret
    exact ⟨ms, B, cb, a3, rfl, hm61, HO3.out, by omega, HC3.out, HG3.out⟩

end Go.Proofs.Ytphhelmcaehclaa
