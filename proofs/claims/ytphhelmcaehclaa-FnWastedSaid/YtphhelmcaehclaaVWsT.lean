/- What FnWasted draws. -/
import Derived.Deep.CutBlock
import Derived.Test.YtphhelmcaehclaaVWsS
import Derived.Test.YtphhelmcaehclaaVM1
namespace Go.Proofs.Ytphhelmcaehclaa
open Go.RowKit
set_option linter.unusedVariables false
set_option linter.unusedSimpArgs false
def WsQ (S g : Nat) (R0 : Nat) (u lo : Int) (A : Option Addr) (c : Nat) (l : List R2) (vs : Nat → Value) (wx : World) : Nat → Prop
 | 0 => vs 11 = frV u lo A l.length c
 | 1 => vs 12 = .pointer (some ⟨g, 0, none⟩)
 | 2 => vs 13 = frV u lo A l.length c
 | 3 => ∃ (ms : List R3) (B : Option Addr) (cb : Nat), vs 14 = .slice B ms.length cb ∧ (ms.length ≤ 61) ∧ (wx.ownsRow S 75 3 (.slice B ms.length cb) ms.length (rowsV3 ms))
 | 4 => (wx.ownsRow S 96 2 (.slice A l.length c) l.length (rowsV2 l)) ∧ (Blk wx R0 26 #[.int .i64 u, .int .i64 lo, .slice A l.length c]) ∧ (R0 < g)
 | 5 => ∃ (ms : List R3) (B : Option Addr) (cb : Nat), vs 3 = .slice B ms.length cb ∧ (ms.length ≤ 61) ∧ (wx.ownsRow S 75 3 (.slice B ms.length cb) ms.length (rowsV3 ms))
 | _ => True
def WsQU : Nat → List Nat
 | 0 => [11]
 | 1 => [12]
 | 2 => [13]
 | 3 => [14]
 | 4 => []
 | 5 => [3]
 | _ => []
def WsQR (g : Nat) (R0 : Nat) (u lo : Int) (A : Option Addr) (c : Nat) (l : List R2) (i : Nat) (wx wy : World) : Prop := if i = 4 then KeepW 26 wx wy else Gr g wx wy
theorem WsQ_gr {S g : Nat} {R0 : Nat} {u lo : Int} {A : Option Addr} {c : Nat} {l : List R2} (hgS : g < S) {vs us : Nat → Value} {wx wy : World} {jN : Nat} (hGG : WsQ S g R0 u lo A c l vs wx jN) (haG : ∀ d ∈ WsQU jN, us d = vs d) (hbG : Gr g wx wy) : WsQ S g R0 u lo A c l us wy jN := by
 match jN, hGG, haG with
 | 0, hGG, haG =>
   exact (haG 11 (by simp [WsQU])).trans hGG
 | 1, hGG, haG =>
   exact (haG 12 (by simp [WsQU])).trans hGG
 | 2, hGG, haG =>
   exact (haG 13 (by simp [WsQU])).trans hGG
 | 3, hGG, haG =>
   obtain ⟨xG0, xG1, xG2, eG, fG0, fG1⟩ := hGG
   exact ⟨xG0, xG1, xG2, (haG 14 (by simp [WsQU])).trans eG, fG0, own_gr fG1 hbG hgS⟩
 | 4, hGG, haG =>
   obtain ⟨fG0, fG1, fG2⟩ := hGG
   exact ⟨own_gr fG0 hbG hgS, fG1.gr hbG (by omega), fG2⟩
 | 5, hGG, haG =>
   obtain ⟨xG0, xG1, xG2, eG, fG0, fG1⟩ := hGG
   exact ⟨xG0, xG1, xG2, (haG 3 (by simp [WsQU])).trans eG, fG0, own_gr fG1 hbG hgS⟩
 | jN + 6, _, _ => trivial
theorem WsQ_4 {S g : Nat} {R0 : Nat} {u lo : Int} {A : Option Addr} {c : Nat} {l : List R2} (hgS : g < S) {vs us : Nat → Value} {wx wy : World} {jN : Nat} (hneG : jN ≠ 4) (hGG : WsQ S g R0 u lo A c l vs wx jN) (haG : ∀ d ∈ WsQU jN, us d = vs d) (hbG : KeepW 26 wx wy) : WsQ S g R0 u lo A c l us wy jN := by
 match jN, hGG, haG, hneG with
 | 0, hGG, haG, hneG =>
   exact (haG 11 (by simp [WsQU])).trans hGG
 | 1, hGG, haG, hneG =>
   exact (haG 12 (by simp [WsQU])).trans hGG
 | 2, hGG, haG, hneG =>
   exact (haG 13 (by simp [WsQU])).trans hGG
 | 3, hGG, haG, hneG =>
   obtain ⟨xG0, xG1, xG2, eG, fG0, fG1⟩ := hGG
   exact ⟨xG0, xG1, xG2, (haG 14 (by simp [WsQU])).trans eG, fG0, hbG.own fG1 (by decide)⟩
 | 4, hGG, haG, hneG =>
   exact absurd rfl hneG
 | 5, hGG, haG, hneG =>
   obtain ⟨xG0, xG1, xG2, eG, fG0, fG1⟩ := hGG
   exact ⟨xG0, xG1, xG2, (haG 3 (by simp [WsQU])).trans eG, fG0, hbG.own fG1 (by decide)⟩
 | jN + 6, _, _, _ => trivial
def WsQP (j i : Nat) : Bool := false
theorem WsQ_keep {S g : Nat} {R0 : Nat} {u lo : Int} {A : Option Addr} {c : Nat} {l : List R2} (hgS : g < S) {vs us : Nat → Value} {wx wy : World} {iN jN : Nat} (hneG : iN ≠ jN) (hdpG : WsQP jN iN = false) (hGG : WsQ S g R0 u lo A c l vs wx jN) (haG : ∀ d ∈ WsQU jN, us d = vs d) (hbG : WsQR g R0 u lo A c l iN wx wy) : WsQ S g R0 u lo A c l us wy jN := by
 unfold WsQR at hbG
 by_cases h4 : iN = 4
 · rw [if_pos h4] at hbG
   exact WsQ_4 hgS (by omega) hGG haG hbG
 rw [if_neg h4] at hbG
 exact WsQ_gr hgS hGG haG hbG
def DrawWastedBeads (w : World) (e : Ending) (w' : World) : Prop := ∃ (u lo : Int) (l : List R2) (A : Option Addr) (c : Nat) (ms : List R3) (B : Option Addr) (cb : Nat), e = .returned (.tuple #[frV u lo A l.length c, .slice B ms.length cb]) ∧ FrIn u lo l ∧ (ms.length ≤ 61) ∧ (w'.ownsRow w.heap.size 75 3 (.slice B ms.length cb) ms.length (rowsV3 ms)) ∧ w'.ownsRow w.heap.size 96 2 (.slice A l.length c) l.length (rowsV2 l) ∧ Below w.heap.size w w'
set_option maxRecDepth 100000 in
set_option maxHeartbeats 8000000 in
theorem drawWastedBeads_any (Ac : Option Addr) (nc cc : Nat) (w : World) (h : Code w w.heap.size Ac nc) (hn : nc ≤ 65536) :
 Calls Try.prog 6 #[.slice Ac nc cc] w (DrawWastedBeads w) := by
 have HC := Lib.hid (h.cur1 (by omega) cc (.cells #[.int .i64 0, .int .i64 0, .slice none 0 0] 26))
 have BR0 := Lib.hid ((Blk.born w #[.int .i64 0, .int .i64 0, .slice none 0 0] 26 (H := w.heap.size) rfl).al (.cells #[.slice Ac nc cc, .int .i64 0, .int .u64 0] 63))
 have hbx := Lib.hid (ext_alloc (ext_alloc (ext_refl w) (.cells #[.int .i64 0, .int .i64 0, .slice none 0 0] 26)) (.cells #[.slice Ac nc cc, .int .i64 0, .int .u64 0] 63))
 obtain ⟨g, hg⟩ : ∃ g, g = w.heap.size + 1 := ⟨_, rfl⟩
 rw [← hg] at HC
 have hwg : w.heap.size < g := by omega
 clear h
 go_enter Try.func6, Try.ntmps6
 go_wp2_with fail
 rw [← hg]
 have HGE := Lib.hid hg
 clear hg
 refine (frame_any g 0 _ HC.out (by omega)).mono ?_
 rintro e w1 ⟨u, lo, l, A, c, a1, rfl, hIN, ha1, hr1, hc1, hg1⟩
 have HIN := Lib.hid hIN
 have hl1 : 1 ≤ l.length := hIN.2.2.2.2.1
 have hl9 : l.length ≤ 9 := hIN.2.2.2.2.2.1
 have hs1 := hg1.size
 have hs2 := hbx.out.size
 clear hIN
 obtain ⟨NM, hNM⟩ : ∃ N, N = w1.heap.size := ⟨_, rfl⟩
 obtain ⟨W, hW⟩ : ∃ y : World, y = w1.alloc (.cells #[.int .i64 u, .int .i64 lo, .slice A l.length c] 26) := ⟨_, rfl⟩
 have hRg : w.heap.size ≠ g := by omega
 have hgl : g < NM := by have := hc1.lt; omega
 have hNg : NM ≠ g := by omega
 have hNR : NM ≠ w.heap.size := by omega
 have BN1 := Lib.hid (show Blk W NM 26 #[.int .i64 u, .int .i64 lo, .slice A l.length c] by rw [hW]; exact Blk.born w1 _ 26 (H := NM) hNM)
 have BR1 := Lib.hid (show Blk W w.heap.size 26 #[.int .i64 0, .int .i64 0, .slice none 0 0] by rw [hW]; exact (BR0.out.gr hg1 hRg).al _)
 have HR1 := Lib.hid (show W.ownsRow (g + 1) 96 2 (.slice A l.length c) l.length (rowsV2 l) by rw [hW]; exact (own_base hr1 (by rw [HGE.out]; simp <;> omega)).alloc _)
 have HC1 := Lib.hid (show CurAt W g a1 by rw [hW]; exact hc1.ext (ext_alloc (ext_refl _) _))
 have HG1 := Lib.hid (show Gr g w W by rw [hW]; exact ((Gr.of_ext hbx.out).trans hg1).trans (Gr.alloc _ _ _))
 go_upto_region 3 with fail
 rw [← hNM, ← hW]
 clear hNM hW hr1 hc1 hg1 hs1 hs2 HC BR0 hbx HGE
 obtain ⟨m0, m1, m2⟩ := BN1.out.q3
 have lm := BN1.out.lt
 have hlR := BR1.out.lt
 refine wp_region_m (by kernel_rfl) (by kernel_rfl) [3, 11, 12, 13, 14] WsQU (by kernel_rfl) (by decide) 15 (by kernel_rfl) (by simp) (fun ra0 => ra0.eval (.tmp 2) = .pointer (some ⟨w.heap.size, 0, none⟩) ∧ ra0.eval (.tmp 4) = .pointer (some ⟨g, 0, none⟩) ∧ ra0.eval (.tmp 5) = .pointer (some ⟨NM, 0, none⟩)) ⟨by kernel_rfl, by kernel_rfl, by kernel_rfl⟩ WsQP (by kernel_rfl) (ICur 700 g a1 w W 4 4 (fun wx => Blk wx w.heap.size 26 #[.int .i64 0, .int .i64 0, .slice none 0 0])) (WsQR g w.heap.size u lo A c l) (fun jN vs wx => WsQ (g + 1) g w.heap.size u lo A c l vs wx jN) ⟨a1, by omega, (HC1.out).ext (ext_drew (ext_refl _)), (HG1.out).trans (Gr.of_ext (ext_drew (ext_refl _))), Nat.le_refl _, fun _ => Gr.of_ext (ext_drew (ext_refl _)), fun _ => BR1.out⟩ (fun _ _ _ _ _ _ h0 hd h1 h2 h3 => WsQ_keep (Nat.lt_succ_self g) h0 hd h1 h2 h3) ?_ ?_
 · intro ra0 hE ri ro ho Qx vs wx rb KX kk rL hI hkk hnl hLt hcl hdep rb0 rbk HK
   repeat (rename_i hz9; clear hz9)
   obtain ⟨rq2, rq4, rq5⟩ := hE
   have hi : ri < 6 := by
    rcases Nat.lt_or_ge ri 6 with h | h
    · exact h
    · rw [Array.getElem?_eq_none (by simpa using h)] at ho; cases ho
   have hkk : kk < 6 := by simpa using hkk
   obtain ⟨ax, hax, hcx, hGw, hsz, hpre, hBx⟩ := hI
   have HQ : ∀ w' a2, CurAt w' g a2 → a2 ≤ ax + 700 → Gr g wx w' → ICur 700 g a1 w W 4 4 (fun wx => Blk wx w.heap.size 26 #[.int .i64 0, .int .i64 0, .slice none 0 0]) (kk + 1) (fun j => j = ri ∨ rL j) w' := fun w' a2 h1 h2 h3 => ⟨a2, by omega, h1, hGw.trans h3, Nat.le_trans hsz h3.size, fun hn => (hpre (fun x => hn (.inr x))).trans h3, fun hn => (fun hB => hB.gr h3 hRg) (hBx (fun x => hn (.inr x)))⟩
   have HQX := Lib.hid HQ
   have HCX := Lib.hid hcx
   have HGW := Lib.hid hGw
   have HPRE := Lib.hid hpre
   have HBX := Lib.hid hBx
   have HCL := Lib.hid hcl
   clear HQ hcx hGw hpre hBx hcl
   rcases (show ri = 0 ∨ ri = 1 ∨ ri = 2 ∨ ri = 3 ∨ ri = 4 ∨ ri = 5 by omega) with rfl | rfl | rfl | rfl | rfl | rfl
   · simp only [List.getElem?_toArray, List.getElem?_cons_succ, List.getElem?_cons_zero, Option.some.injEq] at ho
     subst ho
     have HKX := Lib.hid HK
     clear HK
     have p5 := (rb0 5 (by decide)).trans rq5
     have hNL : ¬ rL 4 := fun h => hnl (HCL.out 4 _ 0 rfl h (by kernel_rfl))
     have HGP := Lib.hid (HPRE.out hNL)
     obtain ⟨x0, x1, x2⟩ := (BN1.out.gr HGP.out hNg).q3
     have lnx := (BN1.out.gr HGP.out hNg).lt
     clear rb0 rbk hdep
     go_simp
     exact HKX.out _ _ (HQX.out _ ax HCX.out (by omega) (Gr.refl _ _)) (by unfold WsQR; rw [if_neg (by decide)]; exact Gr.refl _ _) (upd_same _ _ _)
   · simp only [List.getElem?_toArray, List.getElem?_cons_succ, List.getElem?_cons_zero, Option.some.injEq] at ho
     subst ho
     have HKX := Lib.hid HK
     clear HK
     have p4 := (rb0 4 (by decide)).trans rq4
     clear rb0 rbk hdep
     go_simp
     exact HKX.out _ _ (HQX.out _ ax HCX.out (by omega) (Gr.refl _ _)) (by unfold WsQR; rw [if_neg (by decide)]; exact Gr.refl _ _) (upd_same _ _ _)
   · simp only [List.getElem?_toArray, List.getElem?_cons_succ, List.getElem?_cons_zero, Option.some.injEq] at ho
     subst ho
     have HKX := Lib.hid HK
     clear HK
     have p5 := (rb0 5 (by decide)).trans rq5
     have hNL : ¬ rL 4 := fun h => hnl (HCL.out 3 _ 2 rfl (HCL.out 4 _ 3 rfl h (by kernel_rfl)) (by kernel_rfl))
     have HGP := Lib.hid (HPRE.out hNL)
     obtain ⟨x0, x1, x2⟩ := (BN1.out.gr HGP.out hNg).q3
     have lnx := (BN1.out.gr HGP.out hNg).lt
     clear rb0 rbk hdep
     go_simp
     exact HKX.out _ _ (HQX.out _ ax HCX.out (by omega) (Gr.refl _ _)) (by unfold WsQR; rw [if_neg (by decide)]; exact Gr.refl _ _) (upd_same _ _ _)
   · simp only [List.getElem?_toArray, List.getElem?_cons_succ, List.getElem?_cons_zero, Option.some.injEq] at ho
     subst ho
     have HKX := Lib.hid HK
     clear HK
     have e1 : vs 12 = .pointer (some ⟨g, 0, none⟩) := (hdep 1 (by kernel_rfl)).2
     have rr1 := (rbk 12 (by decide)).trans e1
     have E1 := Lib.hid e1
     clear e1
     have e2 : vs 13 = frV u lo A l.length c := (hdep 2 (by kernel_rfl)).2
     have rr2 := (rbk 13 (by decide)).trans e2
     have E2 := Lib.hid e2
     clear e2
     have hNL : ¬ rL 4 := fun h => hnl (HCL.out 4 _ 3 rfl h (by kernel_rfl))
     have HGP := Lib.hid (HPRE.out hNL)
     obtain ⟨x0, x1, x2⟩ := (BN1.out.gr HGP.out hNg).q3
     have lnx := (BN1.out.gr HGP.out hNg).lt
     clear rb0 rbk hdep
     go_simp
     refine (beads_any g ax (g + 1) u lo A c l _ HCX.out (by omega) (Nat.lt_succ_self g) (own_gr HR1.out HGP.out (Nat.lt_succ_self g)) HIN.out).mono ?_
     rintro e w' ⟨ms, B, cb, a2, rfl, nF0, hon, ha2, hc2, hg2⟩
     have nF1 := own_base (base' := g + 1) hon HCX.out.lt
     clear hon
     go_simp
     exact HKX.out _ _ (HQX.out _ a2 hc2 (by omega) hg2) (by unfold WsQR; rw [if_neg (by decide)]; exact hg2) (⟨ms, B, cb, upd_same _ _ _, nF0, nF1⟩)
   · simp only [List.getElem?_toArray, List.getElem?_cons_succ, List.getElem?_cons_zero, Option.some.injEq] at ho
     subst ho
     have HKX := Lib.hid HK
     clear HK
     have e0 : vs 11 = frV u lo A l.length c := (hdep 0 (by kernel_rfl)).2
     have rr0 := (rbk 11 (by decide)).trans e0
     have E0 := Lib.hid e0
     clear e0
     obtain ⟨ms, B, cb, e3, k3_0, k3_1⟩ := (hdep 3 (by kernel_rfl)).2
     have rr3 := (rbk 14 (by decide)).trans e3
     have E3 := Lib.hid e3
     clear e3
     have K3_1 := Lib.hid k3_1
     clear k3_1
     have p2 := (rb0 2 (by decide)).trans rq2
     have hNL : ¬ rL 4 := hnl
     have HGP := Lib.hid (HPRE.out hNL)
     obtain ⟨x0, x1, x2⟩ := (BN1.out.gr HGP.out hNg).q3
     have lnx := (BN1.out.gr HGP.out hNg).lt
     have HBF := Lib.hid (HBX.out hnl)
     have HRo := Lib.hid (own_gr HR1.out HGP.out (Nat.lt_succ_self g))
     clear x0 x1 x2 lnx
     obtain ⟨yB0, yB1, yB2⟩ := HBF.out.q3
     obtain ⟨zB0, zB1, zB2⟩ := HBF.out.z3
     have hlr := HBF.out.lt
     clear rb0 rbk hdep
     go_simp
     have HKW := Lib.hid (keep3 (a0 := .int .i64 u) (a1 := .int .i64 lo) (a2 := .slice A l.length c) HBF.out)
     exact HKX.out undef _ ⟨ax, by omega, side3 HCX.out HBF.out hRg (by simp [noU8]) rfl rfl, fill_gr HGW.out (Nat.le_refl _), by simpa using hsz, fun hn => (hn (.inl rfl)).elim, fun hn => (hn (.inl rfl)).elim⟩ (by unfold WsQR; rw [if_pos rfl]; exact HKW.out) ⟨HKW.out.own HRo.out (by decide), fr_put HBF.out, by omega⟩
   · simp only [List.getElem?_toArray, List.getElem?_cons_succ, List.getElem?_cons_zero, Option.some.injEq] at ho
     subst ho
     have HKX := Lib.hid HK
     clear HK
     obtain ⟨ms, B, cb, e3, k3_0, k3_1⟩ := (hdep 3 (by kernel_rfl)).2
     have rr3 := (rbk 14 (by decide)).trans e3
     have E3 := Lib.hid e3
     clear e3
     have K3_1 := Lib.hid k3_1
     clear k3_1
     clear rb0 rbk hdep
     go_simp
     exact HKX.out _ _ (HQX.out _ ax HCX.out (by omega) (Gr.refl _ _)) (by unfold WsQR; rw [if_neg (by decide)]; exact Gr.refl _ _) (⟨ms, B, cb, upd_same _ _ _, k3_0, K3_1.out⟩)
 intro vs wx kk rL hI hkk hLt hall
 obtain ⟨_, hr2, hB2, _⟩ := hall 4 (by decide)
 obtain ⟨_, ms, B, cb, ev5, pf5_0, pf5_1⟩ := hall 5 (by decide)
 obtain ⟨_, _, _, hg2, _, _, _⟩ := hI
 have BR2 := Lib.hid hB2
 have HB2 := Lib.hid (hg2)
 have HR2 := Lib.hid (own_base (base' := w.heap.size) hr2 (by omega))
 clear hLt hall hr2 hB2 hg2 m0 m1 m2 lm
 obtain ⟨r0, r1, r2⟩ := BR2.out.q3
 have lr := BR2.out.lt
 simp only [sl]
 rw [ev5]
 clear ev5
 simp only [Act.put, List.setIfInBounds_toArray, List.set_cons_succ, List.set_cons_zero]
 go_wp2
 refine bodyPost_ret (v := .tuple #[frV u lo A l.length c, .slice B ms.length cb]) (by simp [results, Try.results6, go_sem, *]) rfl ?_
 exact ⟨u, lo, l, A, c, ms, B, cb, rfl, HIN.out, pf5_0, own_base (base' := w.heap.size) pf5_1 (by omega), HR2.out, Gr.below (ext_refl w) HB2.out (by omega)⟩

def DrawRodErrors (w : World) (e : Ending) (w' : World) : Prop := ∃ (ms : List R3) (B : Option Addr) (cb : Nat) (ms2 : List R3) (B2 : Option Addr) (cb2 : Nat) (z : Int), e = .returned (.tuple #[.slice B ms.length cb, .slice B2 ms2.length cb2, .int .i64 z]) ∧ ms.length ≤ 64 ∧ ms2.length ≤ 61 ∧ 0 ≤ z ∧ z ≤ 9 ∧ w'.ownsRow w.heap.size 75 3 (.slice B ms.length cb) ms.length (rowsV3 ms) ∧ w'.ownsRow w.heap.size 75 3 (.slice B2 ms2.length cb2) ms2.length (rowsV3 ms2) ∧ Below w.heap.size w w'
set_option maxRecDepth 100000 in
set_option maxHeartbeats 8000000 in
theorem drawRodErrors_any (Ac : Option Addr) (nc cc : Nat) (w : World) (h : Code w w.heap.size Ac nc) (hn : nc ≤ 65536) :
 Calls Try.prog 13 #[.slice Ac nc cc] w (DrawRodErrors w) := by
 have HC := Lib.hid (h.cur (by omega) cc)
 have hbx := Lib.hid (ext_alloc (ext_refl w) (.cells #[.slice Ac nc cc, .int .i64 0, .int .u64 0] 63))
 obtain ⟨W0, hW0⟩ : ∃ y : World, y = w.alloc (.cells #[.slice Ac nc cc, .int .i64 0, .int .u64 0] 63) := ⟨_, rfl⟩
 obtain ⟨g, hg⟩ : ∃ g, g = w.heap.size := ⟨_, rfl⟩
 clear h
 go_enter Try.func13, Try.ntmps13
 go_wp2_with fail
 rw [← hW0, ← hg]
 rw [← hW0, ← hg] at HC
 rw [← hW0] at hbx
 have HGE := Lib.hid hg
 have hgs : w.heap.size < W0.heap.size := by rw [hW0]; simp
 clear hg hW0
 have hgS : g < W0.heap.size := by rw [HGE.out]; exact hgs
 refine (rightMoves_any g 0 _ HC.out (by omega)).mono ?_
 rintro e w1 ⟨ms2, B2, cb2, a1, rfl, hm2, ho2, ha1, hc1, hg1⟩
 have HC1 := Lib.hid hc1
 have HG1 := Lib.hid ((Gr.of_ext (g := g) hbx.out).trans hg1)
 have HB1 := Lib.hid ho2
 have hs0 := hg1.size
 clear ho2 hc1 hg1 HC hbx
 go_wp2_with fail
 refine (recorded_any g a1 W0.heap.size B2 cb2 ms2 _ HC1.out (by omega) hgS HB1.out hm2).mono ?_
 rintro e w2 ⟨ms, B, cb, a2, rfl, hm, ho, ha2, hc2, hg2⟩
 have HC2 := Lib.hid hc2
 have HG2 := Lib.hid (HG1.out.trans hg2)
 have HB2 := Lib.hid (own_gr HB1.out hg2 hgS)
 have HA2 := Lib.hid ho
 have hs1 := HG1.out.size
 clear ho hc2 hg2 HC1 HG1 HB1
 go_wp2_with fail
 refine (among_lit g a2 0 9 [5, 5, 8, 2, 1, 0, 9] 3 _ HC2.out (by omega) (by decide) (by decide) (by decide) _ rfl (by simp)).mono ?_
 rintro e w3 ⟨z, a3, rfl, z0, z1, ha3, hc3, hg3⟩
 have hgw1 : g < w1.heap.size := by omega
 have HG3 := Lib.hid (HG2.out.trans hg3)
 have HB3 := Lib.hid (own_gr HB2.out hg3 hgS)
 have HA3 := Lib.hid (own_gr HA2.out hg3 hgw1)
 clear hc3 hg3 HC2 HG2 HB2 HA2
 go_wp2
 refine bodyPost_ret (v := .tuple #[.slice B ms.length cb, .slice B2 ms2.length cb2, .int .i64 z]) (by simp [results, Try.results13, go_sem, *]) rfl ?_
 exact ⟨ms, B, cb, ms2, B2, cb2, z, rfl, hm, hm2, z0, z1, own_base HA3.out hs1, own_base HB3.out (by omega), Gr.below (ext_refl w) HG3.out (by rw [HGE.out]; exact Nat.le_refl _)⟩

end Go.Proofs.Ytphhelmcaehclaa
