/- DrawSameResult. -/
import Derived.Deep.CutBlock
import Derived.Test.YtphhelmcaehclaaVWsR
import Derived.Test.YtphhelmcaehclaaVM1
import Derived.Test.YtphhelmcaehclaaVAdB
namespace Go.Proofs.Ytphhelmcaehclaa
open Go.RowKit
set_option linter.unusedVariables false
set_option linter.unusedSimpArgs false
def WsU (S g : Nat) (R0 : Nat) (u lo : Int) (A : Option Addr) (c : Nat) (l : List R2) (B2 : Option Addr) (cb2 : Nat) (ms2 : List R3) (vs : Nat → Value) (wx : World) : Nat → Prop
 | 0 => vs 16 = frV u lo A l.length c
 | 1 => vs 17 = .pointer (some ⟨g, 0, none⟩)
 | 2 => vs 18 = .slice B2 ms2.length cb2
 | 3 => ∃ (ms : List R3) (B : Option Addr) (cb : Nat), vs 19 = .slice B ms.length cb ∧ (ms.length ≤ 64) ∧ (wx.ownsRow S 75 3 (.slice B ms.length cb) ms.length (rowsV3 ms)) ∧ (ms2.length ≤ 61) ∧ (wx.ownsRow S 75 3 (.slice B2 ms2.length cb2) ms2.length (rowsV3 ms2))
 | 4 => vs 20 = .slice B2 ms2.length cb2
 | 5 => (wx.ownsRow S 96 2 (.slice A l.length c) l.length (rowsV2 l)) ∧ (Blk wx R0 26 #[.int .i64 u, .int .i64 lo, .slice A l.length c]) ∧ (R0 < g)
 | 6 => ∃ (ms : List R3) (B : Option Addr) (cb : Nat), vs 3 = .slice B ms.length cb ∧ (ms.length ≤ 64) ∧ (wx.ownsRow S 75 3 (.slice B ms.length cb) ms.length (rowsV3 ms)) ∧ (ms2.length ≤ 61) ∧ (wx.ownsRow S 75 3 (.slice B2 ms2.length cb2) ms2.length (rowsV3 ms2))
 | 7 => vs 4 = .slice B2 ms2.length cb2
 | _ => True
def WsUU : Nat → List Nat
 | 0 => [16]
 | 1 => [17]
 | 2 => [18]
 | 3 => [19]
 | 4 => [20]
 | 5 => []
 | 6 => [3]
 | 7 => [4]
 | _ => []
def WsUR (g : Nat) (R0 : Nat) (u lo : Int) (A : Option Addr) (c : Nat) (l : List R2) (B2 : Option Addr) (cb2 : Nat) (ms2 : List R3) (i : Nat) (wx wy : World) : Prop := if i = 5 then KeepW 26 wx wy else Gr g wx wy
theorem WsU_gr {S g : Nat} {R0 : Nat} {u lo : Int} {A : Option Addr} {c : Nat} {l : List R2} {B2 : Option Addr} {cb2 : Nat} {ms2 : List R3} (hgS : g < S) {vs us : Nat → Value} {wx wy : World} {jN : Nat} (hGG : WsU S g R0 u lo A c l B2 cb2 ms2 vs wx jN) (haG : ∀ d ∈ WsUU jN, us d = vs d) (hbG : Gr g wx wy) : WsU S g R0 u lo A c l B2 cb2 ms2 us wy jN := by
 match jN, hGG, haG with
 | 0, hGG, haG =>
   exact (haG 16 (by simp [WsUU])).trans hGG
 | 1, hGG, haG =>
   exact (haG 17 (by simp [WsUU])).trans hGG
 | 2, hGG, haG =>
   exact (haG 18 (by simp [WsUU])).trans hGG
 | 3, hGG, haG =>
   obtain ⟨xG0, xG1, xG2, eG, fG0, fG1, fG2, fG3⟩ := hGG
   exact ⟨xG0, xG1, xG2, (haG 19 (by simp [WsUU])).trans eG, fG0, own_gr fG1 hbG hgS, fG2, own_gr fG3 hbG hgS⟩
 | 4, hGG, haG =>
   exact (haG 20 (by simp [WsUU])).trans hGG
 | 5, hGG, haG =>
   obtain ⟨fG0, fG1, fG2⟩ := hGG
   exact ⟨own_gr fG0 hbG hgS, fG1.gr hbG (by omega), fG2⟩
 | 6, hGG, haG =>
   obtain ⟨xG0, xG1, xG2, eG, fG0, fG1, fG2, fG3⟩ := hGG
   exact ⟨xG0, xG1, xG2, (haG 3 (by simp [WsUU])).trans eG, fG0, own_gr fG1 hbG hgS, fG2, own_gr fG3 hbG hgS⟩
 | 7, hGG, haG =>
   exact (haG 4 (by simp [WsUU])).trans hGG
 | jN + 8, _, _ => trivial
theorem WsU_5 {S g : Nat} {R0 : Nat} {u lo : Int} {A : Option Addr} {c : Nat} {l : List R2} {B2 : Option Addr} {cb2 : Nat} {ms2 : List R3} (hgS : g < S) {vs us : Nat → Value} {wx wy : World} {jN : Nat} (hneG : jN ≠ 5) (hGG : WsU S g R0 u lo A c l B2 cb2 ms2 vs wx jN) (haG : ∀ d ∈ WsUU jN, us d = vs d) (hbG : KeepW 26 wx wy) : WsU S g R0 u lo A c l B2 cb2 ms2 us wy jN := by
 match jN, hGG, haG, hneG with
 | 0, hGG, haG, hneG =>
   exact (haG 16 (by simp [WsUU])).trans hGG
 | 1, hGG, haG, hneG =>
   exact (haG 17 (by simp [WsUU])).trans hGG
 | 2, hGG, haG, hneG =>
   exact (haG 18 (by simp [WsUU])).trans hGG
 | 3, hGG, haG, hneG =>
   obtain ⟨xG0, xG1, xG2, eG, fG0, fG1, fG2, fG3⟩ := hGG
   exact ⟨xG0, xG1, xG2, (haG 19 (by simp [WsUU])).trans eG, fG0, hbG.own fG1 (by decide), fG2, hbG.own fG3 (by decide)⟩
 | 4, hGG, haG, hneG =>
   exact (haG 20 (by simp [WsUU])).trans hGG
 | 5, hGG, haG, hneG =>
   exact absurd rfl hneG
 | 6, hGG, haG, hneG =>
   obtain ⟨xG0, xG1, xG2, eG, fG0, fG1, fG2, fG3⟩ := hGG
   exact ⟨xG0, xG1, xG2, (haG 3 (by simp [WsUU])).trans eG, fG0, hbG.own fG1 (by decide), fG2, hbG.own fG3 (by decide)⟩
 | 7, hGG, haG, hneG =>
   exact (haG 4 (by simp [WsUU])).trans hGG
 | jN + 8, _, _, _ => trivial
def WsUP (j i : Nat) : Bool := false
theorem WsU_keep {S g : Nat} {R0 : Nat} {u lo : Int} {A : Option Addr} {c : Nat} {l : List R2} {B2 : Option Addr} {cb2 : Nat} {ms2 : List R3} (hgS : g < S) {vs us : Nat → Value} {wx wy : World} {iN jN : Nat} (hneG : iN ≠ jN) (hdpG : WsUP jN iN = false) (hGG : WsU S g R0 u lo A c l B2 cb2 ms2 vs wx jN) (haG : ∀ d ∈ WsUU jN, us d = vs d) (hbG : WsUR g R0 u lo A c l B2 cb2 ms2 iN wx wy) : WsU S g R0 u lo A c l B2 cb2 ms2 us wy jN := by
 unfold WsUR at hbG
 by_cases h5 : iN = 5
 · rw [if_pos h5] at hbG
   exact WsU_5 hgS (by omega) hGG haG hbG
 rw [if_neg h5] at hbG
 exact WsU_gr hgS hGG haG hbG
def DrawSameResult (w : World) (e : Ending) (w' : World) : Prop := ∃ (u lo : Int) (l : List R2) (A : Option Addr) (c : Nat) (ms : List R3) (B : Option Addr) (cb : Nat) (ms2 : List R3) (B2 : Option Addr) (cb2 : Nat), e = .returned (.tuple #[frV u lo A l.length c, .slice B ms.length cb, .slice B2 ms2.length cb2]) ∧ FrIn u lo l ∧ (ms.length ≤ 64) ∧ (w'.ownsRow w.heap.size 75 3 (.slice B ms.length cb) ms.length (rowsV3 ms)) ∧ (ms2.length ≤ 61) ∧ (w'.ownsRow w.heap.size 75 3 (.slice B2 ms2.length cb2) ms2.length (rowsV3 ms2)) ∧ w'.ownsRow w.heap.size 96 2 (.slice A l.length c) l.length (rowsV2 l) ∧ Below w.heap.size w w'
set_option maxRecDepth 100000 in
set_option maxHeartbeats 8000000 in
theorem drawSameResult_any (Ac : Option Addr) (nc cc : Nat) (w : World) (h : Code w w.heap.size Ac nc) (hn : nc ≤ 65536) :
 Calls Try.prog 9 #[.slice Ac nc cc] w (DrawSameResult w) := by
 have HC := Lib.hid (h.cur1 (by omega) cc (.cells #[.int .i64 0, .int .i64 0, .slice none 0 0] 26))
 have BR0 := Lib.hid ((Blk.born w #[.int .i64 0, .int .i64 0, .slice none 0 0] 26 (H := w.heap.size) rfl).al (.cells #[.slice Ac nc cc, .int .i64 0, .int .u64 0] 63))
 have hbx := Lib.hid (ext_alloc (ext_alloc (ext_refl w) (.cells #[.int .i64 0, .int .i64 0, .slice none 0 0] 26)) (.cells #[.slice Ac nc cc, .int .i64 0, .int .u64 0] 63))
 obtain ⟨g, hg⟩ : ∃ g, g = w.heap.size + 1 := ⟨_, rfl⟩
 rw [← hg] at HC
 have hwg : w.heap.size < g := by omega
 clear h
 go_enter Try.func9, Try.ntmps9
 go_wp2_with fail
 rw [← hg]
 have HGE := Lib.hid hg
 clear hg
 refine (frame_any g 0 _ HC.out (by omega)).mono ?_
 rintro e w1 ⟨u, lo, l, A, c, a1, rfl, hIN, ha1, hr1, hc1, hg1⟩
 have HIN := Lib.hid hIN
 have hl1 : 1 ≤ l.length := hIN.2.2.2.2.1
 have hl9 : l.length ≤ 9 := hIN.2.2.2.2.2.1
 have hs1 := hg1.size
 have hs2 := hbx.out.size
 clear hIN
 obtain ⟨NM, hNM⟩ : ∃ N, N = w1.heap.size := ⟨_, rfl⟩
 obtain ⟨W, hW⟩ : ∃ y : World, y = w1.alloc (.cells #[.int .i64 u, .int .i64 lo, .slice A l.length c] 26) := ⟨_, rfl⟩
 have hRg : w.heap.size ≠ g := by omega
 have hgl : g < NM := by have := hc1.lt; omega
 have hNg : NM ≠ g := by omega
 have hNR : NM ≠ w.heap.size := by omega
 have BN1 := Lib.hid (show Blk W NM 26 #[.int .i64 u, .int .i64 lo, .slice A l.length c] by rw [hW]; exact Blk.born w1 _ 26 (H := NM) hNM)
 have BR1 := Lib.hid (show Blk W w.heap.size 26 #[.int .i64 0, .int .i64 0, .slice none 0 0] by rw [hW]; exact (BR0.out.gr hg1 hRg).al _)
 have HR1 := Lib.hid (show W.ownsRow (g + 1) 96 2 (.slice A l.length c) l.length (rowsV2 l) by rw [hW]; exact (own_base hr1 (by rw [HGE.out]; simp <;> omega)).alloc _)
 have HC1 := Lib.hid (show CurAt W g a1 by rw [hW]; exact hc1.ext (ext_alloc (ext_refl _) _))
 have HG1 := Lib.hid (show Gr g w W by rw [hW]; exact ((Gr.of_ext hbx.out).trans hg1).trans (Gr.alloc _ _ _))
 go_upto_region 3 with fail
 rw [← hNM, ← hW]
 clear hNM hW hr1 hc1 hg1 hs1 hs2 HC BR0 hbx HGE
 obtain ⟨b0, b1, b2⟩ := BN1.out.q3
 have lb := BN1.out.lt
 go_wp2_with fail
 refine (beads_any g a1 (g + 1) u lo A c l _ HC1.out (by omega) (Nat.lt_succ_self g) HR1.out HIN.out).mono ?_
 rintro e w2 ⟨ms2, B2, cb2, a2, rfl, hm2, ho2, ha2, hc2, hg2⟩
 have HB2 := Lib.hid (own_base (base' := g + 1) ho2 HC1.out.lt)
 have HC2 := Lib.hid hc2
 have HG2 := Lib.hid (HG1.out.trans hg2)
 have BN2 := Lib.hid (BN1.out.gr hg2 hNg)
 have BR2 := Lib.hid (BR1.out.gr hg2 hRg)
 have HR2 := Lib.hid (own_gr HR1.out hg2 (Nat.lt_succ_self g))
 have ha0 : a2 ≤ 10000 := by omega
 clear b0 b1 b2 lb ho2 hc2 hg2 HC1 HG1 BN1 BR1 HR1 ha1 ha2
 clear a1
 obtain ⟨W0, hW0⟩ : ∃ y : World, y = w2 := ⟨_, rfl⟩
 subst hW0
 obtain ⟨a1, ha1⟩ : ∃ y, y = a2 := ⟨_, rfl⟩
 rw [← ha1] at HC2 ha0
 clear ha1
 have HC1 := HC2
 have HG1 := HG2
 have BN1 := BN2
 have BR1 := BR2
 have HR1 := HR2
 clear HC2 HG2 BN2 BR2 HR2
 go_upto_region 4 with fail

 obtain ⟨m0, m1, m2⟩ := BN1.out.q3
 have lm := BN1.out.lt
 have hlR := BR1.out.lt
 refine wp_region_m (by kernel_rfl) (by kernel_rfl) [3, 4, 16, 17, 18, 19, 20] WsUU (by kernel_rfl) (by decide) 21 (by kernel_rfl) (by simp) (fun ra0 => ra0.eval (.tmp 2) = .pointer (some ⟨w.heap.size, 0, none⟩) ∧ ra0.eval (.tmp 5) = .pointer (some ⟨g, 0, none⟩) ∧ ra0.eval (.tmp 6) = .pointer (some ⟨NM, 0, none⟩) ∧ ra0.eval (.tmp 7) = .slice B2 ms2.length cb2) ⟨by kernel_rfl, by kernel_rfl, by kernel_rfl, by kernel_rfl⟩ WsUP (by kernel_rfl) (ICur 750 g a1 w W0 5 5 (fun wx => Blk wx w.heap.size 26 #[.int .i64 0, .int .i64 0, .slice none 0 0])) (WsUR g w.heap.size u lo A c l B2 cb2 ms2) (fun jN vs wx => WsU (g + 1) g w.heap.size u lo A c l B2 cb2 ms2 vs wx jN) ⟨a1, by omega, (HC1.out).ext (ext_drew (ext_refl _)), (HG1.out).trans (Gr.of_ext (ext_drew (ext_refl _))), Nat.le_refl _, fun _ => Gr.of_ext (ext_drew (ext_refl _)), fun _ => BR1.out⟩ (fun _ _ _ _ _ _ h0 hd h1 h2 h3 => WsU_keep (Nat.lt_succ_self g) h0 hd h1 h2 h3) ?_ ?_
 · intro ra0 hE ri ro ho Qx vs wx rb KX kk rL hI hkk hnl hLt hcl hdep rb0 rbk HK
   repeat (rename_i hz9; clear hz9)
   obtain ⟨rq2, rq5, rq6, rq7⟩ := hE
   have hi : ri < 8 := by
    rcases Nat.lt_or_ge ri 8 with h | h
    · exact h
    · rw [Array.getElem?_eq_none (by simpa using h)] at ho; cases ho
   have hkk : kk < 8 := by simpa using hkk
   obtain ⟨ax, hax, hcx, hGw, hsz, hpre, hBx⟩ := hI
   have HQ : ∀ w' a2, CurAt w' g a2 → a2 ≤ ax + 750 → Gr g wx w' → ICur 750 g a1 w W0 5 5 (fun wx => Blk wx w.heap.size 26 #[.int .i64 0, .int .i64 0, .slice none 0 0]) (kk + 1) (fun j => j = ri ∨ rL j) w' := fun w' a2 h1 h2 h3 => ⟨a2, by omega, h1, hGw.trans h3, Nat.le_trans hsz h3.size, fun hn => (hpre (fun x => hn (.inr x))).trans h3, fun hn => (fun hB => hB.gr h3 hRg) (hBx (fun x => hn (.inr x)))⟩
   have HQX := Lib.hid HQ
   have HCX := Lib.hid hcx
   have HGW := Lib.hid hGw
   have HPRE := Lib.hid hpre
   have HBX := Lib.hid hBx
   have HCL := Lib.hid hcl
   clear HQ hcx hGw hpre hBx hcl
   rcases (show ri = 0 ∨ ri = 1 ∨ ri = 2 ∨ ri = 3 ∨ ri = 4 ∨ ri = 5 ∨ ri = 6 ∨ ri = 7 by omega) with rfl | rfl | rfl | rfl | rfl | rfl | rfl | rfl
   · simp only [List.getElem?_toArray, List.getElem?_cons_succ, List.getElem?_cons_zero, Option.some.injEq] at ho
     subst ho
     have HKX := Lib.hid HK
     clear HK
     have p6 := (rb0 6 (by decide)).trans rq6
     have hNL : ¬ rL 5 := fun h => hnl (HCL.out 5 _ 0 rfl h (by kernel_rfl))
     have HGP := Lib.hid (HPRE.out hNL)
     obtain ⟨x0, x1, x2⟩ := (BN1.out.gr HGP.out hNg).q3
     have lnx := (BN1.out.gr HGP.out hNg).lt
     clear rb0 rbk hdep
     go_simp
     exact HKX.out _ _ (HQX.out _ ax HCX.out (by omega) (Gr.refl _ _)) (by unfold WsUR; rw [if_neg (by decide)]; exact Gr.refl _ _) (upd_same _ _ _)
   · simp only [List.getElem?_toArray, List.getElem?_cons_succ, List.getElem?_cons_zero, Option.some.injEq] at ho
     subst ho
     have HKX := Lib.hid HK
     clear HK
     have p5 := (rb0 5 (by decide)).trans rq5
     clear rb0 rbk hdep
     go_simp
     exact HKX.out _ _ (HQX.out _ ax HCX.out (by omega) (Gr.refl _ _)) (by unfold WsUR; rw [if_neg (by decide)]; exact Gr.refl _ _) (upd_same _ _ _)
   · simp only [List.getElem?_toArray, List.getElem?_cons_succ, List.getElem?_cons_zero, Option.some.injEq] at ho
     subst ho
     have HKX := Lib.hid HK
     clear HK
     have p7 := (rb0 7 (by decide)).trans rq7
     clear rb0 rbk hdep
     go_simp
     exact HKX.out _ _ (HQX.out _ ax HCX.out (by omega) (Gr.refl _ _)) (by unfold WsUR; rw [if_neg (by decide)]; exact Gr.refl _ _) (upd_same _ _ _)
   · simp only [List.getElem?_toArray, List.getElem?_cons_succ, List.getElem?_cons_zero, Option.some.injEq] at ho
     subst ho
     have HKX := Lib.hid HK
     clear HK
     have e1 : vs 17 = .pointer (some ⟨g, 0, none⟩) := (hdep 1 (by kernel_rfl)).2
     have rr1 := (rbk 17 (by decide)).trans e1
     have E1 := Lib.hid e1
     clear e1
     have e2 : vs 18 = .slice B2 ms2.length cb2 := (hdep 2 (by kernel_rfl)).2
     have rr2 := (rbk 18 (by decide)).trans e2
     have E2 := Lib.hid e2
     clear e2
     have hNL : ¬ rL 5 := fun h => hnl (HCL.out 5 _ 3 rfl h (by kernel_rfl))
     have HGP := Lib.hid (HPRE.out hNL)
     obtain ⟨x0, x1, x2⟩ := (BN1.out.gr HGP.out hNg).q3
     have lnx := (BN1.out.gr HGP.out hNg).lt
     clear rb0 rbk hdep
     go_simp
     refine (recorded_any g ax (g + 1) B2 cb2 ms2 _ HCX.out (by omega) (Nat.lt_succ_self g) (own_gr HB2.out HGP.out (Nat.lt_succ_self g)) hm2).mono ?_
     rintro e w' ⟨ms, B, cb, a2, rfl, nF0, hon, ha2, hc2, hg2⟩
     have nF1 := own_base (base' := g + 1) hon HCX.out.lt
     clear hon
     go_simp
     exact HKX.out _ _ (HQX.out _ a2 hc2 (by omega) hg2) (by unfold WsUR; rw [if_neg (by decide)]; exact hg2) (⟨ms, B, cb, upd_same _ _ _, nF0, nF1, hm2, own_gr (own_gr HB2.out HGP.out (Nat.lt_succ_self g)) hg2 (Nat.lt_succ_self g)⟩)
   · simp only [List.getElem?_toArray, List.getElem?_cons_succ, List.getElem?_cons_zero, Option.some.injEq] at ho
     subst ho
     have HKX := Lib.hid HK
     clear HK
     have p7 := (rb0 7 (by decide)).trans rq7
     clear rb0 rbk hdep
     go_simp
     exact HKX.out _ _ (HQX.out _ ax HCX.out (by omega) (Gr.refl _ _)) (by unfold WsUR; rw [if_neg (by decide)]; exact Gr.refl _ _) (upd_same _ _ _)
   · simp only [List.getElem?_toArray, List.getElem?_cons_succ, List.getElem?_cons_zero, Option.some.injEq] at ho
     subst ho
     have HKX := Lib.hid HK
     clear HK
     have e0 : vs 16 = frV u lo A l.length c := (hdep 0 (by kernel_rfl)).2
     have rr0 := (rbk 16 (by decide)).trans e0
     have E0 := Lib.hid e0
     clear e0
     obtain ⟨ms, B, cb, e3, k3_0, k3_1, k3_2, k3_3⟩ := (hdep 3 (by kernel_rfl)).2
     have rr3 := (rbk 19 (by decide)).trans e3
     have E3 := Lib.hid e3
     clear e3
     have K3_1 := Lib.hid k3_1
     clear k3_1
     have K3_3 := Lib.hid k3_3
     clear k3_3
     have p2 := (rb0 2 (by decide)).trans rq2
     have hNL : ¬ rL 5 := hnl
     have HGP := Lib.hid (HPRE.out hNL)
     obtain ⟨x0, x1, x2⟩ := (BN1.out.gr HGP.out hNg).q3
     have lnx := (BN1.out.gr HGP.out hNg).lt
     have HBF := Lib.hid (HBX.out hnl)
     have HRo := Lib.hid (own_gr HR1.out HGP.out (Nat.lt_succ_self g))
     clear x0 x1 x2 lnx
     obtain ⟨yB0, yB1, yB2⟩ := HBF.out.q3
     obtain ⟨zB0, zB1, zB2⟩ := HBF.out.z3
     have hlr := HBF.out.lt
     clear rb0 rbk hdep
     go_simp
     have HKW := Lib.hid (keep3 (a0 := .int .i64 u) (a1 := .int .i64 lo) (a2 := .slice A l.length c) HBF.out)
     exact HKX.out undef _ ⟨ax, by omega, side3 HCX.out HBF.out hRg (by simp [noU8]) rfl rfl, fill_gr HGW.out (Nat.le_refl _), by simpa using hsz, fun hn => (hn (.inl rfl)).elim, fun hn => (hn (.inl rfl)).elim⟩ (by unfold WsUR; rw [if_pos rfl]; exact HKW.out) ⟨HKW.out.own HRo.out (by decide), fr_put HBF.out, by omega⟩
   · simp only [List.getElem?_toArray, List.getElem?_cons_succ, List.getElem?_cons_zero, Option.some.injEq] at ho
     subst ho
     have HKX := Lib.hid HK
     clear HK
     obtain ⟨ms, B, cb, e3, k3_0, k3_1, k3_2, k3_3⟩ := (hdep 3 (by kernel_rfl)).2
     have rr3 := (rbk 19 (by decide)).trans e3
     have E3 := Lib.hid e3
     clear e3
     have K3_1 := Lib.hid k3_1
     clear k3_1
     have K3_3 := Lib.hid k3_3
     clear k3_3
     clear rb0 rbk hdep
     go_simp
     exact HKX.out _ _ (HQX.out _ ax HCX.out (by omega) (Gr.refl _ _)) (by unfold WsUR; rw [if_neg (by decide)]; exact Gr.refl _ _) (⟨ms, B, cb, upd_same _ _ _, k3_0, K3_1.out, k3_2, K3_3.out⟩)
   · simp only [List.getElem?_toArray, List.getElem?_cons_succ, List.getElem?_cons_zero, Option.some.injEq] at ho
     subst ho
     have HKX := Lib.hid HK
     clear HK
     have e4 : vs 20 = .slice B2 ms2.length cb2 := (hdep 4 (by kernel_rfl)).2
     have rr4 := (rbk 20 (by decide)).trans e4
     have E4 := Lib.hid e4
     clear e4
     clear rb0 rbk hdep
     go_simp
     exact HKX.out _ _ (HQX.out _ ax HCX.out (by omega) (Gr.refl _ _)) (by unfold WsUR; rw [if_neg (by decide)]; exact Gr.refl _ _) (upd_same _ _ _)
 intro vs wx kk rL hI hkk hLt hall
 obtain ⟨_, hr2, hB2, _⟩ := hall 5 (by decide)
 obtain ⟨_, ms, B, cb, ev6, pf6_0, pf6_1, pf6_2, pf6_3⟩ := hall 6 (by decide)
 obtain ⟨_, ev7⟩ := hall 7 (by decide)
 obtain ⟨_, _, _, hg2, _, _, _⟩ := hI
 have BR2 := Lib.hid hB2
 have HB2 := Lib.hid (hg2)
 have HR2 := Lib.hid (own_base (base' := w.heap.size) hr2 (by omega))
 clear hLt hall hr2 hB2 hg2 m0 m1 m2 lm
 obtain ⟨r0, r1, r2⟩ := BR2.out.q3
 have lr := BR2.out.lt
 simp only [sl]
 rw [ev6, ev7]
 clear ev6 ev7
 simp only [Act.put, List.setIfInBounds_toArray, List.set_cons_succ, List.set_cons_zero]
 go_wp2
 refine bodyPost_ret (v := .tuple #[frV u lo A l.length c, .slice B ms.length cb, .slice B2 ms2.length cb2]) (by simp [results, Try.results9, go_sem, *]) rfl ?_
 exact ⟨u, lo, l, A, c, ms, B, cb, ms2, B2, cb2, rfl, HIN.out, pf6_0, own_base (base' := w.heap.size) pf6_1 (by omega), pf6_2, own_base (base' := w.heap.size) pf6_3 (by omega), HR2.out, Gr.below (ext_refl w) HB2.out (by omega)⟩

end Go.Proofs.Ytphhelmcaehclaa
