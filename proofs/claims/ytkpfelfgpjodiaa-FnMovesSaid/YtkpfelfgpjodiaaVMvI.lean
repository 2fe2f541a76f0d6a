/- What FnMoves draws: a frame with a move. -/
import Derived.Test.YtkpfelfgpjodiaaVM12
import Derived.Test.YtkpfelfgpjodiaaVAdB
namespace Go.Proofs.Ytkpfelfgpjodiaa
open Go.RowKit
set_option linter.unusedVariables false
set_option linter.unusedSimpArgs false
theorem Code.curB {w : World} {n : Nat} {A : Option Addr} (h : Code w w.heap.size A n) (hn : n ≤ 1000000000) (c : Nat) (o o2 : Obj) : CurAt (((w.alloc o).alloc o2).alloc (.cells #[.slice A n c, .int .i64 0, .int .u64 0] 77)) (w.heap.size + 1 + 1) 0 := by
 have := Code.cur ((h.below (ext_alloc (ext_alloc (ext_refl _) o) o2)).more (B' := ((w.alloc o).alloc o2).heap.size) (by simp; omega)) hn c
 simpa using this
def MdB (S g : Nat) (R0 R1 : Nat) (u lo : Int) (A : Option Addr) (c : Nat) (l : List R2) (vs : Nat → Value) (wx : World) : Nat → Prop
 | 0 => vs 11 = frV u lo A l.length c
 | 1 => vs 12 = .pointer (some ⟨g, 0, none⟩)
 | 2 => vs 13 = frV u lo A l.length c
 | 3 => ∃ (m : R3), vs 14 = m.val
 | 4 => (wx.ownsRow S 115 2 (.slice A l.length c) l.length (rowsV2 l)) ∧ (Blk wx R0 26 #[.int .i64 u, .int .i64 lo, .slice A l.length c]) ∧ (R0 < g)
 | 5 => ∃ (m : R3), (Blk wx R1 41 #[.int .i64 m.a, .int .i64 m.b, .int .i64 m.c]) ∧ (R1 < g)
 | _ => True
def MdBU : Nat → List Nat
 | 0 => [11]
 | 1 => [12]
 | 2 => [13]
 | 3 => [14]
 | 4 => []
 | 5 => []
 | _ => []
def MdBR (g : Nat) (R0 R1 : Nat) (u lo : Int) (A : Option Addr) (c : Nat) (l : List R2) (i : Nat) (wx wy : World) : Prop := if i = 4 then KeepW 26 wx wy else if i = 5 then KeepW 41 wx wy else Gr g wx wy
theorem MdB_gr {S g : Nat} {R0 R1 : Nat} {u lo : Int} {A : Option Addr} {c : Nat} {l : List R2} (hgS : g < S) {vs us : Nat → Value} {wx wy : World} {jN : Nat} (hGG : MdB S g R0 R1 u lo A c l vs wx jN) (haG : ∀ d ∈ MdBU jN, us d = vs d) (hbG : Gr g wx wy) : MdB S g R0 R1 u lo A c l us wy jN := by
 match jN, hGG, haG with
 | 0, hGG, haG =>
   exact (haG 11 (by simp [MdBU])).trans hGG
 | 1, hGG, haG =>
   exact (haG 12 (by simp [MdBU])).trans hGG
 | 2, hGG, haG =>
   exact (haG 13 (by simp [MdBU])).trans hGG
 | 3, hGG, haG =>
   obtain ⟨xG0, eG⟩ := hGG
   exact ⟨xG0, (haG 14 (by simp [MdBU])).trans eG⟩
 | 4, hGG, haG =>
   obtain ⟨fG0, fG1, fG2⟩ := hGG
   exact ⟨own_gr fG0 hbG hgS, fG1.gr hbG (by omega), fG2⟩
 | 5, hGG, haG =>
   obtain ⟨xG0, fG0, fG1⟩ := hGG
   exact ⟨xG0, fG0.gr hbG (by omega), fG1⟩
 | jN + 6, _, _ => trivial
theorem MdB_4 {S g : Nat} {R0 R1 : Nat} {u lo : Int} {A : Option Addr} {c : Nat} {l : List R2} (hgS : g < S) {vs us : Nat → Value} {wx wy : World} {jN : Nat} (hneG : jN ≠ 4) (hGG : MdB S g R0 R1 u lo A c l vs wx jN) (haG : ∀ d ∈ MdBU jN, us d = vs d) (hbG : KeepW 26 wx wy) : MdB S g R0 R1 u lo A c l us wy jN := by
 match jN, hGG, haG, hneG with
 | 0, hGG, haG, hneG =>
   exact (haG 11 (by simp [MdBU])).trans hGG
 | 1, hGG, haG, hneG =>
   exact (haG 12 (by simp [MdBU])).trans hGG
 | 2, hGG, haG, hneG =>
   exact (haG 13 (by simp [MdBU])).trans hGG
 | 3, hGG, haG, hneG =>
   obtain ⟨xG0, eG⟩ := hGG
   exact ⟨xG0, (haG 14 (by simp [MdBU])).trans eG⟩
 | 4, hGG, haG, hneG =>
   exact absurd rfl hneG
 | 5, hGG, haG, hneG =>
   obtain ⟨xG0, fG0, fG1⟩ := hGG
   exact ⟨xG0, hbG.2.1 _ _ _ fG0 (by decide), fG1⟩
 | jN + 6, _, _, _ => trivial
theorem MdB_5 {S g : Nat} {R0 R1 : Nat} {u lo : Int} {A : Option Addr} {c : Nat} {l : List R2} (hgS : g < S) {vs us : Nat → Value} {wx wy : World} {jN : Nat} (hneG : jN ≠ 5) (hGG : MdB S g R0 R1 u lo A c l vs wx jN) (haG : ∀ d ∈ MdBU jN, us d = vs d) (hbG : KeepW 41 wx wy) : MdB S g R0 R1 u lo A c l us wy jN := by
 match jN, hGG, haG, hneG with
 | 0, hGG, haG, hneG =>
   exact (haG 11 (by simp [MdBU])).trans hGG
 | 1, hGG, haG, hneG =>
   exact (haG 12 (by simp [MdBU])).trans hGG
 | 2, hGG, haG, hneG =>
   exact (haG 13 (by simp [MdBU])).trans hGG
 | 3, hGG, haG, hneG =>
   obtain ⟨xG0, eG⟩ := hGG
   exact ⟨xG0, (haG 14 (by simp [MdBU])).trans eG⟩
 | 4, hGG, haG, hneG =>
   obtain ⟨fG0, fG1, fG2⟩ := hGG
   exact ⟨hbG.own fG0 (by decide), hbG.2.1 _ _ _ fG1 (by decide), fG2⟩
 | 5, hGG, haG, hneG =>
   exact absurd rfl hneG
 | jN + 6, _, _, _ => trivial
def MdBP (j i : Nat) : Bool := false
theorem MdB_keep {S g : Nat} {R0 R1 : Nat} {u lo : Int} {A : Option Addr} {c : Nat} {l : List R2} (hgS : g < S) {vs us : Nat → Value} {wx wy : World} {iN jN : Nat} (hneG : iN ≠ jN) (hdpG : MdBP jN iN = false) (hGG : MdB S g R0 R1 u lo A c l vs wx jN) (haG : ∀ d ∈ MdBU jN, us d = vs d) (hbG : MdBR g R0 R1 u lo A c l iN wx wy) : MdB S g R0 R1 u lo A c l us wy jN := by
 unfold MdBR at hbG
 by_cases h4 : iN = 4
 · rw [if_pos h4] at hbG
   exact MdB_4 hgS (by omega) hGG haG hbG
 rw [if_neg h4] at hbG
 by_cases h5 : iN = 5
 · rw [if_pos h5] at hbG
   exact MdB_5 hgS (by omega) hGG haG hbG
 rw [if_neg h5] at hbG
 exact MdB_gr hgS hGG haG hbG
def DrawMoveBeads (w : World) (e : Ending) (w' : World) : Prop := ∃ (u lo : Int) (l : List R2) (A : Option Addr) (c : Nat) (m : R3), e = .returned (.tuple #[frV u lo A l.length c, m.val]) ∧ FrIn u lo l ∧ w'.ownsRow w.heap.size 115 2 (.slice A l.length c) l.length (rowsV2 l) ∧ Below w.heap.size w w'
set_option maxRecDepth 100000 in
set_option maxHeartbeats 8000000 in
theorem drawMoveBeads_any (Ac : Option Addr) (nc cc : Nat) (w : World) (h : Code w w.heap.size Ac nc) (hn : nc ≤ 65536) :
 Calls Try.prog 17 #[.slice Ac nc cc] w (DrawMoveBeads w) := by
 obtain ⟨W0, hW0⟩ : ∃ y9 : World, y9 = ((w.alloc (.cells #[.int .i64 0, .int .i64 0, .slice none 0 0] 26)).alloc (.cells #[.int .i64 0, .int .i64 0, .int .i64 0] 41)).alloc (.cells #[.slice Ac nc cc, .int .i64 0, .int .u64 0] 77) := ⟨_, rfl⟩
 have hbx := Lib.hid (show Below w.heap.size w W0 by rw [hW0]; exact ext_alloc (ext_alloc (ext_alloc (ext_refl w) (.cells #[.int .i64 0, .int .i64 0, .slice none 0 0] 26)) (.cells #[.int .i64 0, .int .i64 0, .int .i64 0] 41)) (.cells #[.slice Ac nc cc, .int .i64 0, .int .u64 0] 77))
 obtain ⟨g, hg⟩ : ∃ g, g = w.heap.size + 1 + 1 := ⟨_, rfl⟩
 have HC := Lib.hid (show CurAt W0 g 0 by rw [hW0, hg]; exact h.curB (by omega) cc (.cells #[.int .i64 0, .int .i64 0, .slice none 0 0] 26) (.cells #[.int .i64 0, .int .i64 0, .int .i64 0] 41))
 have BR0 := Lib.hid (show Blk W0 w.heap.size 26 #[.int .i64 0, .int .i64 0, .slice none 0 0] by rw [hW0]; exact ((Blk.born w #[.int .i64 0, .int .i64 0, .slice none 0 0] 26 (H := w.heap.size) rfl).al _).al _)
 have BM0 := Lib.hid (show Blk W0 (w.heap.size + 1) 41 #[.int .i64 0, .int .i64 0, .int .i64 0] by rw [hW0]; exact (Blk.born _ #[.int .i64 0, .int .i64 0, .int .i64 0] 41 (H := w.heap.size + 1) (by simp)).al _)
 have hwg : w.heap.size < g := by omega
 clear h
 go_enter Try.func17, Try.ntmps17
 go_wp2_with fail
 rw [← hW0]
 rw [← hg]
 have HGE := Lib.hid hg
 clear hg hW0
 refine (frame_any g 0 _ HC.out (by omega)).mono ?_
 rintro e w1 ⟨u, lo, l, A, c, a1, rfl, hIN, ha1, hr1, hc1, hg1⟩
 have HIN := Lib.hid hIN
 have hl1 : 1 ≤ l.length := hIN.2.2.2.2.1
 have hl9 : l.length ≤ 9 := hIN.2.2.2.2.2.1
 have hs1 := hg1.size
 have hs2 := hbx.out.size
 clear hIN
 obtain ⟨NM, hNM⟩ : ∃ N, N = w1.heap.size := ⟨_, rfl⟩
 obtain ⟨W, hW⟩ : ∃ y : World, y = w1.alloc (.cells #[.int .i64 u, .int .i64 lo, .slice A l.length c] 26) := ⟨_, rfl⟩
 have hRg : w.heap.size ≠ g := by omega
 have hRh : w.heap.size + 1 ≠ g := by have := HGE.out; omega
 have hRl : w.heap.size + 1 < g := by have := HGE.out; omega
 have hgl : g < NM := by have := hc1.lt; omega
 have hNg : NM ≠ g := by omega
 have hNR : NM ≠ w.heap.size := by omega
 have BN1 := Lib.hid (show Blk W NM 26 #[.int .i64 u, .int .i64 lo, .slice A l.length c] by rw [hW]; exact Blk.born w1 _ 26 (H := NM) hNM)
 have BR1 := Lib.hid (show Blk W w.heap.size 26 #[.int .i64 0, .int .i64 0, .slice none 0 0] by rw [hW]; exact (BR0.out.gr hg1 hRg).al _)
 have BM1 := Lib.hid (show Blk W (w.heap.size + 1) 41 #[.int .i64 0, .int .i64 0, .int .i64 0] by rw [hW]; exact (BM0.out.gr hg1 hRh).al _)
 have HR1 := Lib.hid (show W.ownsRow (g + 1) 115 2 (.slice A l.length c) l.length (rowsV2 l) by rw [hW]; exact (own_base hr1 HC.out.lt).alloc _)
 have HC1 := Lib.hid (show CurAt W g a1 by rw [hW]; exact hc1.ext (ext_alloc (ext_refl _) _))
 have HG1 := Lib.hid (show Gr g w W by rw [hW]; exact ((Gr.of_ext hbx.out).trans hg1).trans (Gr.alloc _ _ _))
 go_upto_region 3 with fail
 rw [← hNM, ← hW]
 clear hNM hW hr1 hc1 hg1 hs1 hs2 HC BR0 BM0 hbx
 obtain ⟨m0, m1, m2⟩ := BN1.out.q3
 have lm := BN1.out.lt
 have hlR := BR1.out.lt
 refine wp_region_m (by kernel_rfl) (by kernel_rfl) [11, 12, 13, 14] MdBU (by kernel_rfl) (by decide) 15 (by kernel_rfl) (by simp) (fun ra0 => ra0.eval (.tmp 2) = .pointer (some ⟨w.heap.size, 0, none⟩) ∧ ra0.eval (.tmp 3) = .pointer (some ⟨w.heap.size + 1, 0, none⟩) ∧ ra0.eval (.tmp 4) = .pointer (some ⟨g, 0, none⟩) ∧ ra0.eval (.tmp 5) = .pointer (some ⟨NM, 0, none⟩)) ⟨by kernel_rfl, by kernel_rfl, by kernel_rfl, by kernel_rfl⟩ MdBP (by kernel_rfl) (ICur 60 g a1 w W 4 5 (fun wx => Blk wx (w.heap.size + 1) 41 #[.int .i64 0, .int .i64 0, .int .i64 0] ∧ ∃ c0 c1 c2 : Value, Blk wx w.heap.size 26 #[c0, c1, c2] ∧ (#[c0, c1, c2] : Array Value).all noU8 = true)) (MdBR g w.heap.size (w.heap.size + 1) u lo A c l) (fun jN vs wx => MdB (g + 1) g w.heap.size (w.heap.size + 1) u lo A c l vs wx jN) ⟨a1, by omega, (HC1.out).ext (ext_drew (ext_refl _)), (HG1.out).trans (Gr.of_ext (ext_drew (ext_refl _))), Nat.le_refl _, fun _ => Gr.of_ext (ext_drew (ext_refl _)), fun _ => ⟨BM1.out, _, _, _, BR1.out, by simp [noU8]⟩⟩ (fun _ _ _ _ _ _ h0 hd h1 h2 h3 => MdB_keep (Nat.lt_succ_self g) h0 hd h1 h2 h3) ?_ ?_
 · intro ra0 hE ri ro ho Qx vs wx rb KX kk rL hI hkk hnl hLt hcl hdep rb0 rbk HK
   repeat (rename_i hz9; clear hz9)
   obtain ⟨rq2, rq3, rq4, rq5⟩ := hE
   have hi : ri < 6 := by
    rcases Nat.lt_or_ge ri 6 with h | h
    · exact h
    · rw [Array.getElem?_eq_none (by simpa using h)] at ho; cases ho
   have hkk : kk < 6 := by simpa using hkk
   obtain ⟨ax, hax, hcx, hGw, hsz, hpre, hBx⟩ := hI
   have HQ : ∀ w' a2, CurAt w' g a2 → a2 ≤ ax + 60 → Gr g wx w' → ICur 60 g a1 w W 4 5 (fun wx => Blk wx (w.heap.size + 1) 41 #[.int .i64 0, .int .i64 0, .int .i64 0] ∧ ∃ c0 c1 c2 : Value, Blk wx w.heap.size 26 #[c0, c1, c2] ∧ (#[c0, c1, c2] : Array Value).all noU8 = true) (kk + 1) (fun j => j = ri ∨ rL j) w' := fun w' a2 h1 h2 h3 => ⟨a2, by omega, h1, hGw.trans h3, Nat.le_trans hsz h3.size, fun hn => (hpre (fun x => hn (.inr x))).trans h3, fun hn => (fun hB => ⟨hB.1.gr h3 hRh, (fun ⟨c0, c1, c2, h8, h9⟩ => ⟨c0, c1, c2, h8.gr h3 hRg, h9⟩) hB.2⟩) (hBx (fun x => hn (.inr x)))⟩
   have HQX := Lib.hid HQ
   have HCX := Lib.hid hcx
   have HGW := Lib.hid hGw
   have HPRE := Lib.hid hpre
   have HBX := Lib.hid hBx
   have HCL := Lib.hid hcl
   clear HQ hcx hGw hpre hBx hcl
   rcases (show ri = 0 ∨ ri = 1 ∨ ri = 2 ∨ ri = 3 ∨ ri = 4 ∨ ri = 5 by omega) with rfl | rfl | rfl | rfl | rfl | rfl
   · simp only [List.getElem?_toArray, List.getElem?_cons_succ, List.getElem?_cons_zero, Option.some.injEq] at ho
     subst ho
     have HKX := Lib.hid HK
     clear HK
     have p5 := (rb0 5 (by decide)).trans rq5
     have hNL : ¬ rL 4 := fun h => hnl (HCL.out 4 _ 0 rfl h (by kernel_rfl))
     have HGP := Lib.hid (HPRE.out hNL)
     obtain ⟨x0, x1, x2⟩ := (BN1.out.gr HGP.out hNg).q3
     have lnx := (BN1.out.gr HGP.out hNg).lt
     clear rb0 rbk hdep
     go_simp
     exact HKX.out _ _ (HQX.out _ ax HCX.out (by omega) (Gr.refl _ _)) (by unfold MdBR; rw [if_neg (by decide)]; rw [if_neg (by decide)]; exact Gr.refl _ _) (upd_same _ _ _)
   · simp only [List.getElem?_toArray, List.getElem?_cons_succ, List.getElem?_cons_zero, Option.some.injEq] at ho
     subst ho
     have HKX := Lib.hid HK
     clear HK
     have p4 := (rb0 4 (by decide)).trans rq4
     clear rb0 rbk hdep
     go_simp
     exact HKX.out _ _ (HQX.out _ ax HCX.out (by omega) (Gr.refl _ _)) (by unfold MdBR; rw [if_neg (by decide)]; rw [if_neg (by decide)]; exact Gr.refl _ _) (upd_same _ _ _)
   · simp only [List.getElem?_toArray, List.getElem?_cons_succ, List.getElem?_cons_zero, Option.some.injEq] at ho
     subst ho
     have HKX := Lib.hid HK
     clear HK
     have p5 := (rb0 5 (by decide)).trans rq5
     have hNL : ¬ rL 4 := fun h => hnl (HCL.out 3 _ 2 rfl (HCL.out 4 _ 3 rfl h (by kernel_rfl)) (by kernel_rfl))
     have HGP := Lib.hid (HPRE.out hNL)
     obtain ⟨x0, x1, x2⟩ := (BN1.out.gr HGP.out hNg).q3
     have lnx := (BN1.out.gr HGP.out hNg).lt
     clear rb0 rbk hdep
     go_simp
     exact HKX.out _ _ (HQX.out _ ax HCX.out (by omega) (Gr.refl _ _)) (by unfold MdBR; rw [if_neg (by decide)]; rw [if_neg (by decide)]; exact Gr.refl _ _) (upd_same _ _ _)
   · simp only [List.getElem?_toArray, List.getElem?_cons_succ, List.getElem?_cons_zero, Option.some.injEq] at ho
     subst ho
     have HKX := Lib.hid HK
     clear HK
     have e1 : vs 12 = .pointer (some ⟨g, 0, none⟩) := (hdep 1 (by kernel_rfl)).2
     have rr1 := (rbk 12 (by decide)).trans e1
     have E1 := Lib.hid e1
     clear e1
     have e2 : vs 13 = frV u lo A l.length c := (hdep 2 (by kernel_rfl)).2
     have rr2 := (rbk 13 (by decide)).trans e2
     have E2 := Lib.hid e2
     clear e2
     have hNL : ¬ rL 4 := fun h => hnl (HCL.out 4 _ 3 rfl h (by kernel_rfl))
     have HGP := Lib.hid (HPRE.out hNL)
     obtain ⟨x0, x1, x2⟩ := (BN1.out.gr HGP.out hNg).q3
     have lnx := (BN1.out.gr HGP.out hNg).lt
     clear rb0 rbk hdep
     go_simp
     refine (bead_any g ax (g + 1) u lo A c l _ HCX.out (by omega) (Nat.lt_succ_self g) (own_gr HR1.out HGP.out (Nat.lt_succ_self g)) HIN.out).mono ?_
     rintro e w' ⟨m, a2, rfl, nF0, nF1, nF2, ha2, hc2, hg2⟩
     go_simp
     exact HKX.out _ _ (HQX.out _ a2 hc2 (by omega) hg2) (by unfold MdBR; rw [if_neg (by decide)]; rw [if_neg (by decide)]; exact hg2) (⟨m, upd_same _ _ _⟩)
   · simp only [List.getElem?_toArray, List.getElem?_cons_succ, List.getElem?_cons_zero, Option.some.injEq] at ho
     subst ho
     have HKX := Lib.hid HK
     clear HK
     have e0 : vs 11 = frV u lo A l.length c := (hdep 0 (by kernel_rfl)).2
     have rr0 := (rbk 11 (by decide)).trans e0
     have E0 := Lib.hid e0
     clear e0
     obtain ⟨m, e3⟩ := (hdep 3 (by kernel_rfl)).2
     have rr3 := (rbk 14 (by decide)).trans e3
     have E3 := Lib.hid e3
     clear e3
     have p2 := (rb0 2 (by decide)).trans rq2
     have hNL : ¬ rL 4 := hnl
     have HGP := Lib.hid (HPRE.out hNL)
     obtain ⟨x0, x1, x2⟩ := (BN1.out.gr HGP.out hNg).q3
     have lnx := (BN1.out.gr HGP.out hNg).lt
     have hb5 := HBX.out (fun h => hnl (HCL.out 5 _ 4 rfl h (by kernel_rfl)))
     obtain ⟨hM9, c0, c1, c2, hF9, hz9⟩ := hb5
     have HBF := Lib.hid hF9
     have HBM := Lib.hid hM9
     have HZ9 := Lib.hid hz9
     have HRo := Lib.hid (own_gr HR1.out HGP.out (Nat.lt_succ_self g))
     clear x0 x1 x2 lnx hM9 hF9 hz9
     obtain ⟨yB0, yB1, yB2⟩ := HBF.out.q3
     obtain ⟨zB0, zB1, zB2⟩ := HBF.out.z3
     have hlr := HBF.out.lt
     clear rb0 rbk hdep
     go_simp
     have HKW := Lib.hid (keep3 (a0 := .int .i64 u) (a1 := .int .i64 lo) (a2 := .slice A l.length c) HBF.out)
     exact HKX.out undef _ ⟨ax, by omega, side3 HCX.out HBF.out hRg HZ9.out rfl rfl, fill_gr HGW.out (Nat.le_refl _), by simpa using hsz, fun hn => (hn (.inl rfl)).elim, fun hn => ⟨HKW.out.2.1 _ _ _ HBM.out (by decide), _, _, _, fr_put HBF.out, by simp [noU8]⟩⟩ (by unfold MdBR; rw [if_pos rfl]; exact HKW.out) ⟨HKW.out.own HRo.out (by decide), fr_put HBF.out, by omega⟩
   · simp only [List.getElem?_toArray, List.getElem?_cons_succ, List.getElem?_cons_zero, Option.some.injEq] at ho
     subst ho
     have HKX := Lib.hid HK
     clear HK
     obtain ⟨m, e3⟩ := (hdep 3 (by kernel_rfl)).2
     have rr3 := (rbk 14 (by decide)).trans e3
     have E3 := Lib.hid e3
     clear e3
     obtain ⟨k4_0, k4_1, k4_2⟩ := (hdep 4 (by kernel_rfl)).2
     have K4_0 := Lib.hid k4_0
     clear k4_0
     have K4_1 := Lib.hid k4_1
     clear k4_1
     have p3 := (rb0 3 (by decide)).trans rq3
     have hb5 := HBX.out hnl
     obtain ⟨hM9, c0, c1, c2, hF9, hz9⟩ := hb5
     have HBM := Lib.hid hM9
     clear hM9 hF9 hz9
     have hL4 := (hdep 4 (by kernel_rfl)).1
     obtain ⟨yB0, yB1, yB2⟩ := HBM.out.q3
     obtain ⟨zB0, zB1, zB2⟩ := HBM.out.z3
     have hlr := HBM.out.lt
     clear rb0 rbk hdep
     go_simp
     have HKW := Lib.hid (keep3 (a0 := .int .i64 m.a) (a1 := .int .i64 m.b) (a2 := .int .i64 m.c) HBM.out)
     exact HKX.out undef _ ⟨ax, by omega, side3 HCX.out HBM.out hRh (by simp [noU8]) rfl rfl, fill_gr HGW.out (Nat.le_succ _), by simpa using hsz, fun hn => (hn (.inr hL4)).elim, fun hn => (hn (.inl rfl)).elim⟩ (by unfold MdBR; rw [if_neg (by decide), if_pos rfl]; exact HKW.out) ⟨m, ((HBM.out.set_ 0 _).set_ 1 _).set_ 2 _, by omega⟩
 intro vs wx kk rL hI hkk hLt hall
 obtain ⟨_, hr2, hB2, _⟩ := hall 4 (by decide)
 obtain ⟨_, m, hM2, _⟩ := hall 5 (by decide)
 obtain ⟨_, _, _, hg2, _, _, _⟩ := hI
 have BR2 := Lib.hid hB2
 have BM2 := Lib.hid hM2
 have HB2 := Lib.hid hg2
 have HR2 := Lib.hid (own_base (base' := w.heap.size) hr2 (by omega))
 clear hLt hall hr2 hB2 hM2 hg2 m0 m1 m2 lm
 obtain ⟨r0, r1, r2⟩ := BR2.out.q3
 have lr := BR2.out.lt
 obtain ⟨p0, p1, p2⟩ := BM2.out.q3
 have lp := BM2.out.lt
 simp only [sl]
 simp only [Act.put, List.setIfInBounds_toArray, List.set_cons_succ, List.set_cons_zero]
 go_wp2
 refine bodyPost_ret (v := .tuple #[frV u lo A l.length c, .agg #[.int .i64 m.a, .int .i64 m.b, .int .i64 m.c]]) (by simp [results, Try.results17, go_sem, *]) rfl ?_
 exact ⟨u, lo, l, A, c, m, rfl, HIN.out, HR2.out, Gr.below (ext_refl w) HB2.out (by omega)⟩

end Go.Proofs.Ytkpfelfgpjodiaa
