/- Drawing a frame and numbers beside it. -/
import Derived.Test.YtphhelmcaehclaaVAdA
import Derived.Test.YtphhelmcaehclaaVM3
import Derived.Test.YtphhelmcaehclaaVM1
namespace Go.Proofs.Ytphhelmcaehclaa
open Go.RowKit
set_option linter.unusedVariables false
set_option linter.unusedSimpArgs false
theorem fill_gr {w0 w : World} {g b : Nat} {u0 u1 u2 : Value} (h : Gr g w0 w) (hb : w0.heap.size ≤ b) : Gr g w0 (((w.setCell ⟨b, 0, none⟩ u0).setCell ⟨b, 1, none⟩ u1).setCell ⟨b, 2, none⟩ u2) := ((h.setNew (p := ⟨b, 0, none⟩) hb u0).setNew (p := ⟨b, 1, none⟩) hb u1).setNew (p := ⟨b, 2, none⟩) hb u2
def noU8 : Value → Bool
 | .int .u8 _ => false
 | _ => true
/-- a store into a block that holds no bytes: the cursor stays -/
theorem CurAt.side {w : World} {g a b k : Nat} {T : TypeId} {cs : Array Value} {u : Value} (h : CurAt w g a) (hB : Blk w b T cs) (hne : b ≠ g) (hcs : cs.all noU8 = true) : CurAt (w.setCell ⟨b, k, none⟩ u) g a := by
 obtain ⟨A, n, c, s, h1, h2, h3⟩ := h
 refine ⟨A, n, c, s, h1.setF (p := ⟨b, k, none⟩) hne u, h2, fun hn => ?_⟩
 obtain ⟨b', o, e, hlt, hc⟩ := h3 hn
 refine ⟨b', o, e, hlt, fun i hi => ?_⟩
 obtain ⟨z, hz, h01⟩ := hc i hi
 have hbb : b ≠ b' := by
  intro e
  subst e
  rw [hB.cell] at hz
  obtain ⟨hlt', hv⟩ := Array.getElem?_eq_some_iff.1 hz
  have := Array.all_eq_true.1 hcs (o + i) hlt'
  rw [hv] at this
  cases this
 exact ⟨z, (World.cell?_setCell_far w ⟨b, k, none⟩ ⟨b', o + i, none⟩ u hbb).trans hz, h01⟩
theorem side2 {w : World} {g a b : Nat} {T : TypeId} {u0 u1 c0 c1 : Value} (h : CurAt w g a) (hB : Blk w b T #[c0, c1]) (hne : b ≠ g) (hcs : (#[c0, c1] : Array Value).all noU8 = true) (h0 : noU8 u0 = true) : CurAt ((w.setCell ⟨b, 0, none⟩ u0).setCell ⟨b, 1, none⟩ u1) g a := by
 have hc : noU8 c0 = true ∧ noU8 c1 = true := by simpa using hcs
 obtain ⟨q0, q1⟩ := hc
 have C1 := CurAt.side (k := 0) (u := u0) h hB hne (by simp [q0, q1])
 have B1 : Blk (w.setCell ⟨b, 0, none⟩ u0) b T #[u0, c1] := hB.set_ 0 u0
 have C2 := CurAt.side (k := 1) (u := u1) C1 B1 hne (by simp [h0, q1])
 exact C2
theorem side3 {w : World} {g a b : Nat} {T : TypeId} {u0 u1 u2 c0 c1 c2 : Value} (h : CurAt w g a) (hB : Blk w b T #[c0, c1, c2]) (hne : b ≠ g) (hcs : (#[c0, c1, c2] : Array Value).all noU8 = true) (h0 : noU8 u0 = true) (h1 : noU8 u1 = true) : CurAt (((w.setCell ⟨b, 0, none⟩ u0).setCell ⟨b, 1, none⟩ u1).setCell ⟨b, 2, none⟩ u2) g a := by
 have hc : noU8 c0 = true ∧ noU8 c1 = true ∧ noU8 c2 = true := by simpa using hcs
 obtain ⟨q0, q1, q2⟩ := hc
 have C1 := CurAt.side (k := 0) (u := u0) h hB hne (by simp [q0, q1, q2])
 have B1 : Blk (w.setCell ⟨b, 0, none⟩ u0) b T #[u0, c1, c2] := hB.set_ 0 u0
 have C2 := CurAt.side (k := 1) (u := u1) C1 B1 hne (by simp [h0, q1, q2])
 have B2 : Blk ((w.setCell ⟨b, 0, none⟩ u0).setCell ⟨b, 1, none⟩ u1) b T #[u0, u1, c2] := B1.set_ 1 u1
 have C3 := CurAt.side (k := 2) (u := u2) C2 B2 hne (by simp [h0, h1, q2])
 exact C3
def AdN (S g : Nat) (R0 : Nat) (u lo : Int) (A : Option Addr) (c : Nat) (l : List R2) (vs : Nat → Value) (wx : World) : Nat → Prop
 | 0 => vs 11 = frV u lo A l.length c
 | 1 => vs 12 = .pointer (some ⟨g, 0, none⟩)
 | 2 => vs 13 = frV u lo A l.length c
 | 3 => ∃ (z : Int), vs 14 = .int .i64 z ∧ (-1 ≤ z) ∧ (z ≤ 100000001)
 | 4 => (wx.ownsRow S 96 2 (.slice A l.length c) l.length (rowsV2 l)) ∧ (Blk wx R0 26 #[.int .i64 u, .int .i64 lo, .slice A l.length c]) ∧ (R0 < g)
 | 5 => ∃ (z : Int), vs 3 = .int .i64 z ∧ (-1 ≤ z) ∧ (z ≤ 100000001)
 | _ => True
def AdNU : Nat → List Nat
 | 0 => [11]
 | 1 => [12]
 | 2 => [13]
 | 3 => [14]
 | 4 => []
 | 5 => [3]
 | _ => []
def AdNR (g : Nat) (R0 : Nat) (u lo : Int) (A : Option Addr) (c : Nat) (l : List R2) (i : Nat) (wx wy : World) : Prop := if i = 4 then KeepW 26 wx wy else Gr g wx wy
theorem AdN_gr {S g : Nat} {R0 : Nat} {u lo : Int} {A : Option Addr} {c : Nat} {l : List R2} (hgS : g < S) {vs us : Nat → Value} {wx wy : World} {jN : Nat} (hGG : AdN S g R0 u lo A c l vs wx jN) (haG : ∀ d ∈ AdNU jN, us d = vs d) (hbG : Gr g wx wy) : AdN S g R0 u lo A c l us wy jN := by
 match jN, hGG, haG with
 | 0, hGG, haG =>
   exact (haG 11 (by simp [AdNU])).trans hGG
 | 1, hGG, haG =>
   exact (haG 12 (by simp [AdNU])).trans hGG
 | 2, hGG, haG =>
   exact (haG 13 (by simp [AdNU])).trans hGG
 | 3, hGG, haG =>
   obtain ⟨xG0, eG, fG0, fG1⟩ := hGG
   exact ⟨xG0, (haG 14 (by simp [AdNU])).trans eG, fG0, fG1⟩
 | 4, hGG, haG =>
   obtain ⟨fG0, fG1, fG2⟩ := hGG
   exact ⟨own_gr fG0 hbG hgS, fG1.gr hbG (by omega), fG2⟩
 | 5, hGG, haG =>
   obtain ⟨xG0, eG, fG0, fG1⟩ := hGG
   exact ⟨xG0, (haG 3 (by simp [AdNU])).trans eG, fG0, fG1⟩
 | jN + 6, _, _ => trivial
theorem AdN_4 {S g : Nat} {R0 : Nat} {u lo : Int} {A : Option Addr} {c : Nat} {l : List R2} (hgS : g < S) {vs us : Nat → Value} {wx wy : World} {jN : Nat} (hneG : jN ≠ 4) (hGG : AdN S g R0 u lo A c l vs wx jN) (haG : ∀ d ∈ AdNU jN, us d = vs d) (hbG : KeepW 26 wx wy) : AdN S g R0 u lo A c l us wy jN := by
 match jN, hGG, haG, hneG with
 | 0, hGG, haG, hneG =>
   exact (haG 11 (by simp [AdNU])).trans hGG
 | 1, hGG, haG, hneG =>
   exact (haG 12 (by simp [AdNU])).trans hGG
 | 2, hGG, haG, hneG =>
   exact (haG 13 (by simp [AdNU])).trans hGG
 | 3, hGG, haG, hneG =>
   obtain ⟨xG0, eG, fG0, fG1⟩ := hGG
   exact ⟨xG0, (haG 14 (by simp [AdNU])).trans eG, fG0, fG1⟩
 | 4, hGG, haG, hneG =>
   exact absurd rfl hneG
 | 5, hGG, haG, hneG =>
   obtain ⟨xG0, eG, fG0, fG1⟩ := hGG
   exact ⟨xG0, (haG 3 (by simp [AdNU])).trans eG, fG0, fG1⟩
 | jN + 6, _, _, _ => trivial
def AdNP (j i : Nat) : Bool := false
theorem AdN_keep {S g : Nat} {R0 : Nat} {u lo : Int} {A : Option Addr} {c : Nat} {l : List R2} (hgS : g < S) {vs us : Nat → Value} {wx wy : World} {iN jN : Nat} (hneG : iN ≠ jN) (hdpG : AdNP jN iN = false) (hGG : AdN S g R0 u lo A c l vs wx jN) (haG : ∀ d ∈ AdNU jN, us d = vs d) (hbG : AdNR g R0 u lo A c l iN wx wy) : AdN S g R0 u lo A c l us wy jN := by
 unfold AdNR at hbG
 by_cases h4 : iN = 4
 · rw [if_pos h4] at hbG
   exact AdN_4 hgS (by omega) hGG haG hbG
 rw [if_neg h4] at hbG
 exact AdN_gr hgS hGG haG hbG
def DrawAddNumber (w : World) (e : Ending) (w' : World) : Prop := ∃ (u lo : Int) (l : List R2) (A : Option Addr) (c : Nat) (z : Int), e = .returned (.tuple #[frV u lo A l.length c, .int .i64 z]) ∧ FrIn u lo l ∧ (-1 ≤ z) ∧ (z ≤ 100000001) ∧ w'.ownsRow w.heap.size 96 2 (.slice A l.length c) l.length (rowsV2 l) ∧ Below w.heap.size w w'
set_option maxRecDepth 100000 in
set_option maxHeartbeats 8000000 in
theorem drawAddNumber_any (Ac : Option Addr) (nc cc : Nat) (w : World) (h : Code w w.heap.size Ac nc) (hn : nc ≤ 65536) :
 Calls Try.prog 19 #[.slice Ac nc cc] w (DrawAddNumber w) := by
 have HC := Lib.hid (h.cur1 (by omega) cc (.cells #[.int .i64 0, .int .i64 0, .slice none 0 0] 26))
 have BR0 := Lib.hid ((Blk.born w #[.int .i64 0, .int .i64 0, .slice none 0 0] 26 (H := w.heap.size) rfl).al (.cells #[.slice Ac nc cc, .int .i64 0, .int .u64 0] 63))
 have hbx := Lib.hid (ext_alloc (ext_alloc (ext_refl w) (.cells #[.int .i64 0, .int .i64 0, .slice none 0 0] 26)) (.cells #[.slice Ac nc cc, .int .i64 0, .int .u64 0] 63))
 obtain ⟨g, hg⟩ : ∃ g, g = w.heap.size + 1 := ⟨_, rfl⟩
 rw [← hg] at HC
 have hwg : w.heap.size < g := by omega
 clear h
 go_enter Try.func19, Try.ntmps19
 go_wp2_with fail
 rw [← hg]
 have HGE := Lib.hid hg
 clear hg
 refine (stdFrame_any g 0 _ HC.out (by omega)).mono ?_
 rintro e w1 ⟨u, lo, l, A, c, a1, rfl, hIN, ha1, hr1, hc1, hg1⟩
 have HIN := Lib.hid hIN
 have hl1 : 1 ≤ l.length := hIN.2.2.2.2.1
 have hl9 : l.length ≤ 9 := hIN.2.2.2.2.2.1
 have hs1 := hg1.size
 have hs2 := hbx.out.size
 clear hIN
 obtain ⟨NM, hNM⟩ : ∃ N, N = w1.heap.size := ⟨_, rfl⟩
 obtain ⟨W, hW⟩ : ∃ y : World, y = w1.alloc (.cells #[.int .i64 u, .int .i64 lo, .slice A l.length c] 26) := ⟨_, rfl⟩
 have hRg : w.heap.size ≠ g := by omega
 have hgl : g < NM := by have := hc1.lt; omega
 have hNg : NM ≠ g := by omega
 have hNR : NM ≠ w.heap.size := by omega
 have BN1 := Lib.hid (show Blk W NM 26 #[.int .i64 u, .int .i64 lo, .slice A l.length c] by rw [hW]; exact Blk.born w1 _ 26 (H := NM) hNM)
 have BR1 := Lib.hid (show Blk W w.heap.size 26 #[.int .i64 0, .int .i64 0, .slice none 0 0] by rw [hW]; exact (BR0.out.gr hg1 hRg).al _)
 have HR1 := Lib.hid (show W.ownsRow (g + 1) 96 2 (.slice A l.length c) l.length (rowsV2 l) by rw [hW]; exact (own_base hr1 (by rw [HGE.out]; simp <;> omega)).alloc _)
 have HC1 := Lib.hid (show CurAt W g a1 by rw [hW]; exact hc1.ext (ext_alloc (ext_refl _) _))
 have HG1 := Lib.hid (show Gr g w W by rw [hW]; exact ((Gr.of_ext hbx.out).trans hg1).trans (Gr.alloc _ _ _))
 go_upto_region 3 with fail
 rw [← hNM, ← hW]
 clear hNM hW hr1 hc1 hg1 hs1 hs2 HC BR0 hbx HGE
 obtain ⟨m0, m1, m2⟩ := BN1.out.q3
 have lm := BN1.out.lt
 have hlR := BR1.out.lt
 refine wp_region_m (by kernel_rfl) (by kernel_rfl) [3, 11, 12, 13, 14] AdNU (by kernel_rfl) (by decide) 15 (by kernel_rfl) (by simp) (fun ra0 => ra0.eval (.tmp 2) = .pointer (some ⟨w.heap.size, 0, none⟩) ∧ ra0.eval (.tmp 4) = .pointer (some ⟨g, 0, none⟩) ∧ ra0.eval (.tmp 5) = .pointer (some ⟨NM, 0, none⟩)) ⟨by kernel_rfl, by kernel_rfl, by kernel_rfl⟩ AdNP (by kernel_rfl) (ICur 60 g a1 w W 4 4 (fun wx => Blk wx w.heap.size 26 #[.int .i64 0, .int .i64 0, .slice none 0 0])) (AdNR g w.heap.size u lo A c l) (fun jN vs wx => AdN (g + 1) g w.heap.size u lo A c l vs wx jN) ⟨a1, by omega, (HC1.out).ext (ext_drew (ext_refl _)), (HG1.out).trans (Gr.of_ext (ext_drew (ext_refl _))), Nat.le_refl _, fun _ => Gr.of_ext (ext_drew (ext_refl _)), fun _ => BR1.out⟩ (fun _ _ _ _ _ _ h0 hd h1 h2 h3 => AdN_keep (Nat.lt_succ_self g) h0 hd h1 h2 h3) ?_ ?_
 · intro ra0 hE ri ro ho Qx vs wx rb KX kk rL hI hkk hnl hLt hcl hdep rb0 rbk HK
   repeat (rename_i hz9; clear hz9)
   obtain ⟨rq2, rq4, rq5⟩ := hE
   have hi : ri < 6 := by
    rcases Nat.lt_or_ge ri 6 with h | h
    · exact h
    · rw [Array.getElem?_eq_none (by simpa using h)] at ho; cases ho
   have hkk : kk < 6 := by simpa using hkk
   obtain ⟨ax, hax, hcx, hGw, hsz, hpre, hBx⟩ := hI
   have HQ : ∀ w' a2, CurAt w' g a2 → a2 ≤ ax + 60 → Gr g wx w' → ICur 60 g a1 w W 4 4 (fun wx => Blk wx w.heap.size 26 #[.int .i64 0, .int .i64 0, .slice none 0 0]) (kk + 1) (fun j => j = ri ∨ rL j) w' := fun w' a2 h1 h2 h3 => ⟨a2, by omega, h1, hGw.trans h3, Nat.le_trans hsz h3.size, fun hn => (hpre (fun x => hn (.inr x))).trans h3, fun hn => (fun hB => hB.gr h3 hRg) (hBx (fun x => hn (.inr x)))⟩
   have HQX := Lib.hid HQ
   have HCX := Lib.hid hcx
   have HGW := Lib.hid hGw
   have HPRE := Lib.hid hpre
   have HBX := Lib.hid hBx
   have HCL := Lib.hid hcl
   clear HQ hcx hGw hpre hBx hcl
   rcases (show ri = 0 ∨ ri = 1 ∨ ri = 2 ∨ ri = 3 ∨ ri = 4 ∨ ri = 5 by omega) with rfl | rfl | rfl | rfl | rfl | rfl
   · simp only [List.getElem?_toArray, List.getElem?_cons_succ, List.getElem?_cons_zero, Option.some.injEq] at ho
     subst ho
     have HKX := Lib.hid HK
     clear HK
     have p5 := (rb0 5 (by decide)).trans rq5
     have hNL : ¬ rL 4 := fun h => hnl (HCL.out 4 _ 0 rfl h (by kernel_rfl))
     have HGP := Lib.hid (HPRE.out hNL)
     obtain ⟨x0, x1, x2⟩ := (BN1.out.gr HGP.out hNg).q3
     have lnx := (BN1.out.gr HGP.out hNg).lt
     clear rb0 rbk hdep
     go_simp
     exact HKX.out _ _ (HQX.out _ ax HCX.out (by omega) (Gr.refl _ _)) (by unfold AdNR; rw [if_neg (by decide)]; exact Gr.refl _ _) (upd_same _ _ _)
   · simp only [List.getElem?_toArray, List.getElem?_cons_succ, List.getElem?_cons_zero, Option.some.injEq] at ho
     subst ho
     have HKX := Lib.hid HK
     clear HK
     have p4 := (rb0 4 (by decide)).trans rq4
     clear rb0 rbk hdep
     go_simp
     exact HKX.out _ _ (HQX.out _ ax HCX.out (by omega) (Gr.refl _ _)) (by unfold AdNR; rw [if_neg (by decide)]; exact Gr.refl _ _) (upd_same _ _ _)
   · simp only [List.getElem?_toArray, List.getElem?_cons_succ, List.getElem?_cons_zero, Option.some.injEq] at ho
     subst ho
     have HKX := Lib.hid HK
     clear HK
     have p5 := (rb0 5 (by decide)).trans rq5
     have hNL : ¬ rL 4 := fun h => hnl (HCL.out 3 _ 2 rfl (HCL.out 4 _ 3 rfl h (by kernel_rfl)) (by kernel_rfl))
     have HGP := Lib.hid (HPRE.out hNL)
     obtain ⟨x0, x1, x2⟩ := (BN1.out.gr HGP.out hNg).q3
     have lnx := (BN1.out.gr HGP.out hNg).lt
     clear rb0 rbk hdep
     go_simp
     exact HKX.out _ _ (HQX.out _ ax HCX.out (by omega) (Gr.refl _ _)) (by unfold AdNR; rw [if_neg (by decide)]; exact Gr.refl _ _) (upd_same _ _ _)
   · simp only [List.getElem?_toArray, List.getElem?_cons_succ, List.getElem?_cons_zero, Option.some.injEq] at ho
     subst ho
     have HKX := Lib.hid HK
     clear HK
     have e1 : vs 12 = .pointer (some ⟨g, 0, none⟩) := (hdep 1 (by kernel_rfl)).2
     have rr1 := (rbk 12 (by decide)).trans e1
     have E1 := Lib.hid e1
     clear e1
     have e2 : vs 13 = frV u lo A l.length c := (hdep 2 (by kernel_rfl)).2
     have rr2 := (rbk 13 (by decide)).trans e2
     have E2 := Lib.hid e2
     clear e2
     have hNL : ¬ rL 4 := fun h => hnl (HCL.out 4 _ 3 rfl h (by kernel_rfl))
     have HGP := Lib.hid (HPRE.out hNL)
     obtain ⟨x0, x1, x2⟩ := (BN1.out.gr HGP.out hNg).q3
     have lnx := (BN1.out.gr HGP.out hNg).lt
     clear rb0 rbk hdep
     go_simp
     refine (addend_any g ax (g + 1) u lo A c l _ HCX.out (by omega) (Nat.lt_succ_self g) (own_gr HR1.out HGP.out (Nat.lt_succ_self g)) HIN.out).mono ?_
     rintro e w' ⟨z, a2, rfl, nF0, nF1, ha2, hc2, hg2⟩
     go_simp
     exact HKX.out _ _ (HQX.out _ a2 hc2 (by omega) hg2) (by unfold AdNR; rw [if_neg (by decide)]; exact hg2) (⟨z, upd_same _ _ _, nF0, nF1⟩)
   · simp only [List.getElem?_toArray, List.getElem?_cons_succ, List.getElem?_cons_zero, Option.some.injEq] at ho
     subst ho
     have HKX := Lib.hid HK
     clear HK
     have e0 : vs 11 = frV u lo A l.length c := (hdep 0 (by kernel_rfl)).2
     have rr0 := (rbk 11 (by decide)).trans e0
     have E0 := Lib.hid e0
     clear e0
     obtain ⟨z, e3, k3_0, k3_1⟩ := (hdep 3 (by kernel_rfl)).2
     have rr3 := (rbk 14 (by decide)).trans e3
     have E3 := Lib.hid e3
     clear e3
     have p2 := (rb0 2 (by decide)).trans rq2
     have hNL : ¬ rL 4 := hnl
     have HGP := Lib.hid (HPRE.out hNL)
     obtain ⟨x0, x1, x2⟩ := (BN1.out.gr HGP.out hNg).q3
     have lnx := (BN1.out.gr HGP.out hNg).lt
     have HBF := Lib.hid (HBX.out hnl)
     have HRo := Lib.hid (own_gr HR1.out HGP.out (Nat.lt_succ_self g))
     clear x0 x1 x2 lnx
     obtain ⟨yB0, yB1, yB2⟩ := HBF.out.q3
     obtain ⟨zB0, zB1, zB2⟩ := HBF.out.z3
     have hlr := HBF.out.lt
     clear rb0 rbk hdep
     go_simp
     have HKW := Lib.hid (keep3 (a0 := .int .i64 u) (a1 := .int .i64 lo) (a2 := .slice A l.length c) HBF.out)
     exact HKX.out undef _ ⟨ax, by omega, side3 HCX.out HBF.out hRg (by simp [noU8]) rfl rfl, fill_gr HGW.out (Nat.le_refl _), by simpa using hsz, fun hn => (hn (.inl rfl)).elim, fun hn => (hn (.inl rfl)).elim⟩ (by unfold AdNR; rw [if_pos rfl]; exact HKW.out) ⟨HKW.out.own HRo.out (by decide), fr_put HBF.out, by omega⟩
   · simp only [List.getElem?_toArray, List.getElem?_cons_succ, List.getElem?_cons_zero, Option.some.injEq] at ho
     subst ho
     have HKX := Lib.hid HK
     clear HK
     obtain ⟨z, e3, k3_0, k3_1⟩ := (hdep 3 (by kernel_rfl)).2
     have rr3 := (rbk 14 (by decide)).trans e3
     have E3 := Lib.hid e3
     clear e3
     clear rb0 rbk hdep
     go_simp
     exact HKX.out _ _ (HQX.out _ ax HCX.out (by omega) (Gr.refl _ _)) (by unfold AdNR; rw [if_neg (by decide)]; exact Gr.refl _ _) (⟨z, upd_same _ _ _, k3_0, k3_1⟩)
 intro vs wx kk rL hI hkk hLt hall
 obtain ⟨_, hr2, hB2, _⟩ := hall 4 (by decide)
 obtain ⟨_, z, ev5, pf5_0, pf5_1⟩ := hall 5 (by decide)
 obtain ⟨_, _, _, hg2, _, _, _⟩ := hI
 have BR2 := Lib.hid hB2
 have HB2 := Lib.hid (hg2)
 have HR2 := Lib.hid (own_base (base' := w.heap.size) hr2 (by omega))
 clear hLt hall hr2 hB2 hg2 m0 m1 m2 lm
 obtain ⟨r0, r1, r2⟩ := BR2.out.q3
 have lr := BR2.out.lt
 simp only [sl]
 rw [ev5]
 clear ev5
 simp only [Act.put, List.setIfInBounds_toArray, List.set_cons_succ, List.set_cons_zero]
 go_wp2
 refine bodyPost_ret (v := .tuple #[frV u lo A l.length c, .int .i64 z]) (by simp [results, Try.results19, go_sem, *]) rfl ?_
 exact ⟨u, lo, l, A, c, z, rfl, HIN.out, pf5_0, pf5_1, HR2.out, Gr.below (ext_refl w) HB2.out (by omega)⟩

def AdT (S g : Nat) (R0 : Nat) (u lo : Int) (A : Option Addr) (c : Nat) (l : List R2) (vs : Nat → Value) (wx : World) : Nat → Prop
 | 0 => vs 11 = frV u lo A l.length c
 | 1 => vs 12 = .pointer (some ⟨g, 0, none⟩)
 | 2 => vs 13 = frV u lo A l.length c
 | 3 => ∃ (z : Int), vs 14 = .int .i64 z ∧ (-1 ≤ z) ∧ (z ≤ 200000001)
 | 4 => (wx.ownsRow S 96 2 (.slice A l.length c) l.length (rowsV2 l)) ∧ (Blk wx R0 26 #[.int .i64 u, .int .i64 lo, .slice A l.length c]) ∧ (R0 < g)
 | 5 => ∃ (z : Int), vs 3 = .int .i64 z ∧ (-1 ≤ z) ∧ (z ≤ 200000001)
 | _ => True
def AdTU : Nat → List Nat
 | 0 => [11]
 | 1 => [12]
 | 2 => [13]
 | 3 => [14]
 | 4 => []
 | 5 => [3]
 | _ => []
def AdTR (g : Nat) (R0 : Nat) (u lo : Int) (A : Option Addr) (c : Nat) (l : List R2) (i : Nat) (wx wy : World) : Prop := if i = 4 then KeepW 26 wx wy else Gr g wx wy
theorem AdT_gr {S g : Nat} {R0 : Nat} {u lo : Int} {A : Option Addr} {c : Nat} {l : List R2} (hgS : g < S) {vs us : Nat → Value} {wx wy : World} {jN : Nat} (hGG : AdT S g R0 u lo A c l vs wx jN) (haG : ∀ d ∈ AdTU jN, us d = vs d) (hbG : Gr g wx wy) : AdT S g R0 u lo A c l us wy jN := by
 match jN, hGG, haG with
 | 0, hGG, haG =>
   exact (haG 11 (by simp [AdTU])).trans hGG
 | 1, hGG, haG =>
   exact (haG 12 (by simp [AdTU])).trans hGG
 | 2, hGG, haG =>
   exact (haG 13 (by simp [AdTU])).trans hGG
 | 3, hGG, haG =>
   obtain ⟨xG0, eG, fG0, fG1⟩ := hGG
   exact ⟨xG0, (haG 14 (by simp [AdTU])).trans eG, fG0, fG1⟩
 | 4, hGG, haG =>
   obtain ⟨fG0, fG1, fG2⟩ := hGG
   exact ⟨own_gr fG0 hbG hgS, fG1.gr hbG (by omega), fG2⟩
 | 5, hGG, haG =>
   obtain ⟨xG0, eG, fG0, fG1⟩ := hGG
   exact ⟨xG0, (haG 3 (by simp [AdTU])).trans eG, fG0, fG1⟩
 | jN + 6, _, _ => trivial
theorem AdT_4 {S g : Nat} {R0 : Nat} {u lo : Int} {A : Option Addr} {c : Nat} {l : List R2} (hgS : g < S) {vs us : Nat → Value} {wx wy : World} {jN : Nat} (hneG : jN ≠ 4) (hGG : AdT S g R0 u lo A c l vs wx jN) (haG : ∀ d ∈ AdTU jN, us d = vs d) (hbG : KeepW 26 wx wy) : AdT S g R0 u lo A c l us wy jN := by
 match jN, hGG, haG, hneG with
 | 0, hGG, haG, hneG =>
   exact (haG 11 (by simp [AdTU])).trans hGG
 | 1, hGG, haG, hneG =>
   exact (haG 12 (by simp [AdTU])).trans hGG
 | 2, hGG, haG, hneG =>
   exact (haG 13 (by simp [AdTU])).trans hGG
 | 3, hGG, haG, hneG =>
   obtain ⟨xG0, eG, fG0, fG1⟩ := hGG
   exact ⟨xG0, (haG 14 (by simp [AdTU])).trans eG, fG0, fG1⟩
 | 4, hGG, haG, hneG =>
   exact absurd rfl hneG
 | 5, hGG, haG, hneG =>
   obtain ⟨xG0, eG, fG0, fG1⟩ := hGG
   exact ⟨xG0, (haG 3 (by simp [AdTU])).trans eG, fG0, fG1⟩
 | jN + 6, _, _, _ => trivial
def AdTP (j i : Nat) : Bool := false
theorem AdT_keep {S g : Nat} {R0 : Nat} {u lo : Int} {A : Option Addr} {c : Nat} {l : List R2} (hgS : g < S) {vs us : Nat → Value} {wx wy : World} {iN jN : Nat} (hneG : iN ≠ jN) (hdpG : AdTP jN iN = false) (hGG : AdT S g R0 u lo A c l vs wx jN) (haG : ∀ d ∈ AdTU jN, us d = vs d) (hbG : AdTR g R0 u lo A c l iN wx wy) : AdT S g R0 u lo A c l us wy jN := by
 unfold AdTR at hbG
 by_cases h4 : iN = 4
 · rw [if_pos h4] at hbG
   exact AdT_4 hgS (by omega) hGG haG hbG
 rw [if_neg h4] at hbG
 exact AdT_gr hgS hGG haG hbG
def DrawTakeNumber (w : World) (e : Ending) (w' : World) : Prop := ∃ (u lo : Int) (l : List R2) (A : Option Addr) (c : Nat) (z : Int), e = .returned (.tuple #[frV u lo A l.length c, .int .i64 z]) ∧ FrIn u lo l ∧ (-1 ≤ z) ∧ (z ≤ 200000001) ∧ w'.ownsRow w.heap.size 96 2 (.slice A l.length c) l.length (rowsV2 l) ∧ Below w.heap.size w w'
def AdD (S g : Nat) (R0 : Nat) (u lo : Int) (A : Option Addr) (c : Nat) (l : List R2) (vs : Nat → Value) (wx : World) : Nat → Prop
 | 0 => vs 12 = frV u lo A l.length c
 | 1 => vs 13 = .pointer (some ⟨g, 0, none⟩)
 | 2 => vs 14 = frV u lo A l.length c
 | 3 => ∃ (z : Int), vs 15 = .int .i64 z ∧ (-1 ≤ z) ∧ (z ≤ 9)
 | 4 => vs 16 = .pointer (some ⟨g, 0, none⟩)
 | 5 => ∃ (p : Int), vs 17 = .int .i64 p ∧ (0 ≤ p) ∧ (p ≤ 10)
 | 6 => vs 18 = .pointer (some ⟨g, 0, none⟩)
 | 7 => ∃ (q : Int), vs 19 = .int .i64 q ∧ (0 ≤ q) ∧ (q ≤ 16)
 | 8 => ∃ (y : Int), vs 20 = .int .i64 y ∧ (0 ≤ y) ∧ (y ≤ 1)
 | 9 => ∃ (d : Int), vs 21 = .int .i64 d ∧ (-1 ≤ d) ∧ (d ≤ 10)
 | 10 => (wx.ownsRow S 96 2 (.slice A l.length c) l.length (rowsV2 l)) ∧ (Blk wx R0 26 #[.int .i64 u, .int .i64 lo, .slice A l.length c]) ∧ (R0 < g)
 | 11 => ∃ (z : Int), vs 3 = .int .i64 z ∧ (-1 ≤ z) ∧ (z ≤ 9)
 | 12 => ∃ (d : Int), vs 4 = .int .i64 d ∧ (-1 ≤ d) ∧ (d ≤ 10)
 | _ => True
def AdDU : Nat → List Nat
 | 0 => [12]
 | 1 => [13]
 | 2 => [14]
 | 3 => [15]
 | 4 => [16]
 | 5 => [17]
 | 6 => [18]
 | 7 => [19]
 | 8 => [20]
 | 9 => [21]
 | 10 => []
 | 11 => [3]
 | 12 => [4]
 | _ => []
def AdDR (g : Nat) (R0 : Nat) (u lo : Int) (A : Option Addr) (c : Nat) (l : List R2) (i : Nat) (wx wy : World) : Prop := if i = 10 then KeepW 26 wx wy else Gr g wx wy
theorem AdD_gr {S g : Nat} {R0 : Nat} {u lo : Int} {A : Option Addr} {c : Nat} {l : List R2} (hgS : g < S) {vs us : Nat → Value} {wx wy : World} {jN : Nat} (hGG : AdD S g R0 u lo A c l vs wx jN) (haG : ∀ d ∈ AdDU jN, us d = vs d) (hbG : Gr g wx wy) : AdD S g R0 u lo A c l us wy jN := by
 match jN, hGG, haG with
 | 0, hGG, haG =>
   exact (haG 12 (by simp [AdDU])).trans hGG
 | 1, hGG, haG =>
   exact (haG 13 (by simp [AdDU])).trans hGG
 | 2, hGG, haG =>
   exact (haG 14 (by simp [AdDU])).trans hGG
 | 3, hGG, haG =>
   obtain ⟨xG0, eG, fG0, fG1⟩ := hGG
   exact ⟨xG0, (haG 15 (by simp [AdDU])).trans eG, fG0, fG1⟩
 | 4, hGG, haG =>
   exact (haG 16 (by simp [AdDU])).trans hGG
 | 5, hGG, haG =>
   obtain ⟨xG0, eG, fG0, fG1⟩ := hGG
   exact ⟨xG0, (haG 17 (by simp [AdDU])).trans eG, fG0, fG1⟩
 | 6, hGG, haG =>
   exact (haG 18 (by simp [AdDU])).trans hGG
 | 7, hGG, haG =>
   obtain ⟨xG0, eG, fG0, fG1⟩ := hGG
   exact ⟨xG0, (haG 19 (by simp [AdDU])).trans eG, fG0, fG1⟩
 | 8, hGG, haG =>
   obtain ⟨xG0, eG, fG0, fG1⟩ := hGG
   exact ⟨xG0, (haG 20 (by simp [AdDU])).trans eG, fG0, fG1⟩
 | 9, hGG, haG =>
   obtain ⟨xG0, eG, fG0, fG1⟩ := hGG
   exact ⟨xG0, (haG 21 (by simp [AdDU])).trans eG, fG0, fG1⟩
 | 10, hGG, haG =>
   obtain ⟨fG0, fG1, fG2⟩ := hGG
   exact ⟨own_gr fG0 hbG hgS, fG1.gr hbG (by omega), fG2⟩
 | 11, hGG, haG =>
   obtain ⟨xG0, eG, fG0, fG1⟩ := hGG
   exact ⟨xG0, (haG 3 (by simp [AdDU])).trans eG, fG0, fG1⟩
 | 12, hGG, haG =>
   obtain ⟨xG0, eG, fG0, fG1⟩ := hGG
   exact ⟨xG0, (haG 4 (by simp [AdDU])).trans eG, fG0, fG1⟩
 | jN + 13, _, _ => trivial
theorem AdD_10 {S g : Nat} {R0 : Nat} {u lo : Int} {A : Option Addr} {c : Nat} {l : List R2} (hgS : g < S) {vs us : Nat → Value} {wx wy : World} {jN : Nat} (hneG : jN ≠ 10) (hGG : AdD S g R0 u lo A c l vs wx jN) (haG : ∀ d ∈ AdDU jN, us d = vs d) (hbG : KeepW 26 wx wy) : AdD S g R0 u lo A c l us wy jN := by
 match jN, hGG, haG, hneG with
 | 0, hGG, haG, hneG =>
   exact (haG 12 (by simp [AdDU])).trans hGG
 | 1, hGG, haG, hneG =>
   exact (haG 13 (by simp [AdDU])).trans hGG
 | 2, hGG, haG, hneG =>
   exact (haG 14 (by simp [AdDU])).trans hGG
 | 3, hGG, haG, hneG =>
   obtain ⟨xG0, eG, fG0, fG1⟩ := hGG
   exact ⟨xG0, (haG 15 (by simp [AdDU])).trans eG, fG0, fG1⟩
 | 4, hGG, haG, hneG =>
   exact (haG 16 (by simp [AdDU])).trans hGG
 | 5, hGG, haG, hneG =>
   obtain ⟨xG0, eG, fG0, fG1⟩ := hGG
   exact ⟨xG0, (haG 17 (by simp [AdDU])).trans eG, fG0, fG1⟩
 | 6, hGG, haG, hneG =>
   exact (haG 18 (by simp [AdDU])).trans hGG
 | 7, hGG, haG, hneG =>
   obtain ⟨xG0, eG, fG0, fG1⟩ := hGG
   exact ⟨xG0, (haG 19 (by simp [AdDU])).trans eG, fG0, fG1⟩
 | 8, hGG, haG, hneG =>
   obtain ⟨xG0, eG, fG0, fG1⟩ := hGG
   exact ⟨xG0, (haG 20 (by simp [AdDU])).trans eG, fG0, fG1⟩
 | 9, hGG, haG, hneG =>
   obtain ⟨xG0, eG, fG0, fG1⟩ := hGG
   exact ⟨xG0, (haG 21 (by simp [AdDU])).trans eG, fG0, fG1⟩
 | 10, hGG, haG, hneG =>
   exact absurd rfl hneG
 | 11, hGG, haG, hneG =>
   obtain ⟨xG0, eG, fG0, fG1⟩ := hGG
   exact ⟨xG0, (haG 3 (by simp [AdDU])).trans eG, fG0, fG1⟩
 | 12, hGG, haG, hneG =>
   obtain ⟨xG0, eG, fG0, fG1⟩ := hGG
   exact ⟨xG0, (haG 4 (by simp [AdDU])).trans eG, fG0, fG1⟩
 | jN + 13, _, _, _ => trivial
def AdDP (j i : Nat) : Bool := false
theorem AdD_keep {S g : Nat} {R0 : Nat} {u lo : Int} {A : Option Addr} {c : Nat} {l : List R2} (hgS : g < S) {vs us : Nat → Value} {wx wy : World} {iN jN : Nat} (hneG : iN ≠ jN) (hdpG : AdDP jN iN = false) (hGG : AdD S g R0 u lo A c l vs wx jN) (haG : ∀ d ∈ AdDU jN, us d = vs d) (hbG : AdDR g R0 u lo A c l iN wx wy) : AdD S g R0 u lo A c l us wy jN := by
 unfold AdDR at hbG
 by_cases h10 : iN = 10
 · rw [if_pos h10] at hbG
   exact AdD_10 hgS (by omega) hGG haG hbG
 rw [if_neg h10] at hbG
 exact AdD_gr hgS hGG haG hbG
def DrawAddDigit (w : World) (e : Ending) (w' : World) : Prop := ∃ (u lo : Int) (l : List R2) (A : Option Addr) (c : Nat) (z : Int) (d : Int), e = .returned (.tuple #[frV u lo A l.length c, .int .i64 z, .int .i64 d]) ∧ FrIn u lo l ∧ (-1 ≤ z) ∧ (z ≤ 9) ∧ (-1 ≤ d) ∧ (d ≤ 10) ∧ w'.ownsRow w.heap.size 96 2 (.slice A l.length c) l.length (rowsV2 l) ∧ Below w.heap.size w w'
set_option maxRecDepth 100000 in
set_option maxHeartbeats 8000000 in
theorem drawAddDigit_any (Ac : Option Addr) (nc cc : Nat) (w : World) (h : Code w w.heap.size Ac nc) (hn : nc ≤ 65536) :
 Calls Try.prog 29 #[.slice Ac nc cc] w (DrawAddDigit w) := by
 have HC := Lib.hid (h.cur1 (by omega) cc (.cells #[.int .i64 0, .int .i64 0, .slice none 0 0] 26))
 have BR0 := Lib.hid ((Blk.born w #[.int .i64 0, .int .i64 0, .slice none 0 0] 26 (H := w.heap.size) rfl).al (.cells #[.slice Ac nc cc, .int .i64 0, .int .u64 0] 63))
 have hbx := Lib.hid (ext_alloc (ext_alloc (ext_refl w) (.cells #[.int .i64 0, .int .i64 0, .slice none 0 0] 26)) (.cells #[.slice Ac nc cc, .int .i64 0, .int .u64 0] 63))
 obtain ⟨g, hg⟩ : ∃ g, g = w.heap.size + 1 := ⟨_, rfl⟩
 rw [← hg] at HC
 have hwg : w.heap.size < g := by omega
 clear h
 go_enter Try.func29, Try.ntmps29
 go_wp2_with fail
 rw [← hg]
 have HGE := Lib.hid hg
 clear hg
 refine (stdFrame_any g 0 _ HC.out (by omega)).mono ?_
 rintro e w1 ⟨u, lo, l, A, c, a1, rfl, hIN, ha1, hr1, hc1, hg1⟩
 have HIN := Lib.hid hIN
 have hl1 : 1 ≤ l.length := hIN.2.2.2.2.1
 have hl9 : l.length ≤ 9 := hIN.2.2.2.2.2.1
 have hs1 := hg1.size
 have hs2 := hbx.out.size
 clear hIN
 obtain ⟨NM, hNM⟩ : ∃ N, N = w1.heap.size := ⟨_, rfl⟩
 obtain ⟨W, hW⟩ : ∃ y : World, y = w1.alloc (.cells #[.int .i64 u, .int .i64 lo, .slice A l.length c] 26) := ⟨_, rfl⟩
 have hRg : w.heap.size ≠ g := by omega
 have hgl : g < NM := by have := hc1.lt; omega
 have hNg : NM ≠ g := by omega
 have hNR : NM ≠ w.heap.size := by omega
 have BN1 := Lib.hid (show Blk W NM 26 #[.int .i64 u, .int .i64 lo, .slice A l.length c] by rw [hW]; exact Blk.born w1 _ 26 (H := NM) hNM)
 have BR1 := Lib.hid (show Blk W w.heap.size 26 #[.int .i64 0, .int .i64 0, .slice none 0 0] by rw [hW]; exact (BR0.out.gr hg1 hRg).al _)
 have HR1 := Lib.hid (show W.ownsRow (g + 1) 96 2 (.slice A l.length c) l.length (rowsV2 l) by rw [hW]; exact (own_base hr1 (by rw [HGE.out]; simp <;> omega)).alloc _)
 have HC1 := Lib.hid (show CurAt W g a1 by rw [hW]; exact hc1.ext (ext_alloc (ext_refl _) _))
 have HG1 := Lib.hid (show Gr g w W by rw [hW]; exact ((Gr.of_ext hbx.out).trans hg1).trans (Gr.alloc _ _ _))
 go_upto_region 3 with fail
 rw [← hNM, ← hW]
 clear hNM hW hr1 hc1 hg1 hs1 hs2 HC BR0 hbx HGE
 obtain ⟨m0, m1, m2⟩ := BN1.out.q3
 have lm := BN1.out.lt
 have hlR := BR1.out.lt
 refine wp_region_m (by kernel_rfl) (by kernel_rfl) [3, 4, 12, 13, 14, 15, 16, 17, 18, 19, 20, 21] AdDU (by kernel_rfl) (by decide) 22 (by kernel_rfl) (by simp) (fun ra0 => ra0.eval (.tmp 2) = .pointer (some ⟨w.heap.size, 0, none⟩) ∧ ra0.eval (.tmp 5) = .pointer (some ⟨g, 0, none⟩) ∧ ra0.eval (.tmp 6) = .pointer (some ⟨NM, 0, none⟩)) ⟨by kernel_rfl, by kernel_rfl, by kernel_rfl⟩ AdDP (by kernel_rfl) (ICur 60 g a1 w W 10 10 (fun wx => Blk wx w.heap.size 26 #[.int .i64 0, .int .i64 0, .slice none 0 0])) (AdDR g w.heap.size u lo A c l) (fun jN vs wx => AdD (g + 1) g w.heap.size u lo A c l vs wx jN) ⟨a1, by omega, (HC1.out).ext (ext_drew (ext_refl _)), (HG1.out).trans (Gr.of_ext (ext_drew (ext_refl _))), Nat.le_refl _, fun _ => Gr.of_ext (ext_drew (ext_refl _)), fun _ => BR1.out⟩ (fun _ _ _ _ _ _ h0 hd h1 h2 h3 => AdD_keep (Nat.lt_succ_self g) h0 hd h1 h2 h3) ?_ ?_
 · intro ra0 hE ri ro ho Qx vs wx rb KX kk rL hI hkk hnl hLt hcl hdep rb0 rbk HK
   repeat (rename_i hz9; clear hz9)
   obtain ⟨rq2, rq5, rq6⟩ := hE
   have hi : ri < 13 := by
    rcases Nat.lt_or_ge ri 13 with h | h
    · exact h
    · rw [Array.getElem?_eq_none (by simpa using h)] at ho; cases ho
   have hkk : kk < 13 := by simpa using hkk
   obtain ⟨ax, hax, hcx, hGw, hsz, hpre, hBx⟩ := hI
   have HQ : ∀ w' a2, CurAt w' g a2 → a2 ≤ ax + 60 → Gr g wx w' → ICur 60 g a1 w W 10 10 (fun wx => Blk wx w.heap.size 26 #[.int .i64 0, .int .i64 0, .slice none 0 0]) (kk + 1) (fun j => j = ri ∨ rL j) w' := fun w' a2 h1 h2 h3 => ⟨a2, by omega, h1, hGw.trans h3, Nat.le_trans hsz h3.size, fun hn => (hpre (fun x => hn (.inr x))).trans h3, fun hn => (fun hB => hB.gr h3 hRg) (hBx (fun x => hn (.inr x)))⟩
   have HQX := Lib.hid HQ
   have HCX := Lib.hid hcx
   have HGW := Lib.hid hGw
   have HPRE := Lib.hid hpre
   have HBX := Lib.hid hBx
   have HCL := Lib.hid hcl
   clear HQ hcx hGw hpre hBx hcl
   rcases (show ri = 0 ∨ ri = 1 ∨ ri = 2 ∨ ri = 3 ∨ ri = 4 ∨ ri = 5 ∨ ri = 6 ∨ ri = 7 ∨ ri = 8 ∨ ri = 9 ∨ ri = 10 ∨ ri = 11 ∨ ri = 12 by omega) with rfl | rfl | rfl | rfl | rfl | rfl | rfl | rfl | rfl | rfl | rfl | rfl | rfl
   · simp only [List.getElem?_toArray, List.getElem?_cons_succ, List.getElem?_cons_zero, Option.some.injEq] at ho
     subst ho
     have HKX := Lib.hid HK
     clear HK
     have p6 := (rb0 6 (by decide)).trans rq6
     have hNL : ¬ rL 10 := fun h => hnl (HCL.out 10 _ 0 rfl h (by kernel_rfl))
     have HGP := Lib.hid (HPRE.out hNL)
     obtain ⟨x0, x1, x2⟩ := (BN1.out.gr HGP.out hNg).q3
     have lnx := (BN1.out.gr HGP.out hNg).lt
     clear rb0 rbk hdep
     go_simp
     exact HKX.out _ _ (HQX.out _ ax HCX.out (by omega) (Gr.refl _ _)) (by unfold AdDR; rw [if_neg (by decide)]; exact Gr.refl _ _) (upd_same _ _ _)
   · simp only [List.getElem?_toArray, List.getElem?_cons_succ, List.getElem?_cons_zero, Option.some.injEq] at ho
     subst ho
     have HKX := Lib.hid HK
     clear HK
     have p5 := (rb0 5 (by decide)).trans rq5
     clear rb0 rbk hdep
     go_simp
     exact HKX.out _ _ (HQX.out _ ax HCX.out (by omega) (Gr.refl _ _)) (by unfold AdDR; rw [if_neg (by decide)]; exact Gr.refl _ _) (upd_same _ _ _)
   · simp only [List.getElem?_toArray, List.getElem?_cons_succ, List.getElem?_cons_zero, Option.some.injEq] at ho
     subst ho
     have HKX := Lib.hid HK
     clear HK
     have p6 := (rb0 6 (by decide)).trans rq6
     have hNL : ¬ rL 10 := fun h => hnl (HCL.out 3 _ 2 rfl (HCL.out 5 _ 3 rfl (HCL.out 7 _ 5 rfl (HCL.out 10 _ 7 rfl h (by kernel_rfl)) (by kernel_rfl)) (by kernel_rfl)) (by kernel_rfl))
     have HGP := Lib.hid (HPRE.out hNL)
     obtain ⟨x0, x1, x2⟩ := (BN1.out.gr HGP.out hNg).q3
     have lnx := (BN1.out.gr HGP.out hNg).lt
     clear rb0 rbk hdep
     go_simp
     exact HKX.out _ _ (HQX.out _ ax HCX.out (by omega) (Gr.refl _ _)) (by unfold AdDR; rw [if_neg (by decide)]; exact Gr.refl _ _) (upd_same _ _ _)
   · simp only [List.getElem?_toArray, List.getElem?_cons_succ, List.getElem?_cons_zero, Option.some.injEq] at ho
     subst ho
     have HKX := Lib.hid HK
     clear HK
     have e1 : vs 13 = .pointer (some ⟨g, 0, none⟩) := (hdep 1 (by kernel_rfl)).2
     have rr1 := (rbk 13 (by decide)).trans e1
     have E1 := Lib.hid e1
     clear e1
     have e2 : vs 14 = frV u lo A l.length c := (hdep 2 (by kernel_rfl)).2
     have rr2 := (rbk 14 (by decide)).trans e2
     have E2 := Lib.hid e2
     clear e2
     have hNL : ¬ rL 10 := fun h => hnl (HCL.out 5 _ 3 rfl (HCL.out 7 _ 5 rfl (HCL.out 10 _ 7 rfl h (by kernel_rfl)) (by kernel_rfl)) (by kernel_rfl))
     have HGP := Lib.hid (HPRE.out hNL)
     obtain ⟨x0, x1, x2⟩ := (BN1.out.gr HGP.out hNg).q3
     have lnx := (BN1.out.gr HGP.out hNg).lt
     clear rb0 rbk hdep
     go_simp
     refine (crodOf_any g ax (g + 1) u lo A c l _ HCX.out (by omega) (Nat.lt_succ_self g) (own_gr HR1.out HGP.out (Nat.lt_succ_self g)) HIN.out).mono ?_
     rintro e w' ⟨z, a2, rfl, nF0, nF1, ha2, hc2, hg2⟩
     go_simp
     exact HKX.out _ _ (HQX.out _ a2 hc2 (by omega) hg2) (by unfold AdDR; rw [if_neg (by decide)]; exact hg2) (⟨z, upd_same _ _ _, nF0, nF1⟩)
   · simp only [List.getElem?_toArray, List.getElem?_cons_succ, List.getElem?_cons_zero, Option.some.injEq] at ho
     subst ho
     have HKX := Lib.hid HK
     clear HK
     have p5 := (rb0 5 (by decide)).trans rq5
     clear rb0 rbk hdep
     go_simp
     exact HKX.out _ _ (HQX.out _ ax HCX.out (by omega) (Gr.refl _ _)) (by unfold AdDR; rw [if_neg (by decide)]; exact Gr.refl _ _) (upd_same _ _ _)
   · simp only [List.getElem?_toArray, List.getElem?_cons_succ, List.getElem?_cons_zero, Option.some.injEq] at ho
     subst ho
     have HKX := Lib.hid HK
     clear HK
     have e4 : vs 16 = .pointer (some ⟨g, 0, none⟩) := (hdep 4 (by kernel_rfl)).2
     have rr4 := (rbk 16 (by decide)).trans e4
     have E4 := Lib.hid e4
     clear e4
     obtain ⟨z, e3, k3_0, k3_1⟩ := (hdep 3 (by kernel_rfl)).2
     have rr3 := (rbk 15 (by decide)).trans e3
     have E3 := Lib.hid e3
     clear e3
     clear rb0 rbk hdep
     go_simp
     refine (pick_any g ax 11 _ HCX.out (by omega) (by omega) (by omega)).mono ?_
     rintro e w' ⟨p, a2, rfl, nF0, nF1, ha2, hc2, hg2⟩
     go_simp
     exact HKX.out _ _ (HQX.out _ a2 hc2 (by omega) hg2) (by unfold AdDR; rw [if_neg (by decide)]; exact hg2) (⟨p, upd_same _ _ _, nF0, by omega⟩)
   · simp only [List.getElem?_toArray, List.getElem?_cons_succ, List.getElem?_cons_zero, Option.some.injEq] at ho
     subst ho
     have HKX := Lib.hid HK
     clear HK
     have p5 := (rb0 5 (by decide)).trans rq5
     clear rb0 rbk hdep
     go_simp
     exact HKX.out _ _ (HQX.out _ ax HCX.out (by omega) (Gr.refl _ _)) (by unfold AdDR; rw [if_neg (by decide)]; exact Gr.refl _ _) (upd_same _ _ _)
   · simp only [List.getElem?_toArray, List.getElem?_cons_succ, List.getElem?_cons_zero, Option.some.injEq] at ho
     subst ho
     have HKX := Lib.hid HK
     clear HK
     have e6 : vs 18 = .pointer (some ⟨g, 0, none⟩) := (hdep 6 (by kernel_rfl)).2
     have rr6 := (rbk 18 (by decide)).trans e6
     have E6 := Lib.hid e6
     clear e6
     obtain ⟨p, e5, k5_0, k5_1⟩ := (hdep 5 (by kernel_rfl)).2
     have rr5 := (rbk 17 (by decide)).trans e5
     have E5 := Lib.hid e5
     clear e5
     clear rb0 rbk hdep
     go_simp
     refine (pick_any g ax 17 _ HCX.out (by omega) (by omega) (by omega)).mono ?_
     rintro e w' ⟨q, a2, rfl, nF0, nF1, ha2, hc2, hg2⟩
     go_simp
     exact HKX.out _ _ (HQX.out _ a2 hc2 (by omega) hg2) (by unfold AdDR; rw [if_neg (by decide)]; exact hg2) (⟨q, upd_same _ _ _, nF0, by omega⟩)
   · simp only [List.getElem?_toArray, List.getElem?_cons_succ, List.getElem?_cons_zero, Option.some.injEq] at ho
     subst ho
     have HKX := Lib.hid HK
     clear HK
     obtain ⟨q, e7, k7_0, k7_1⟩ := (hdep 7 (by kernel_rfl)).2
     have rr7 := (rbk 19 (by decide)).trans e7
     have E7 := Lib.hid e7
     clear e7
     clear rb0 rbk hdep
     go_simp
     have hy16 : 0 ≤ q / 16 ∧ q / 16 ≤ 1 := by omega
     have htd : q.tdiv 16 = q / 16 := Int.tdiv_eq_ediv_of_nonneg (by omega)
     have hwq : IntKind.i64.wrap (q.tdiv 16) = q / 16 := by rw [htd, IntKind.wrap_i64]; omega
     (try rw [hwq])
     obtain ⟨y, hy⟩ : ∃ y, q / 16 = y := ⟨_, rfl⟩
     (try rw [htd])
     (try rw [hy])
     rw [hy] at hy16
     exact HKX.out _ _ (HQX.out _ ax HCX.out (by omega) (Gr.refl _ _)) (by unfold AdDR; rw [if_neg (by decide)]; exact Gr.refl _ _) (⟨y, upd_same _ _ _, hy16.1, hy16.2⟩)
   · simp only [List.getElem?_toArray, List.getElem?_cons_succ, List.getElem?_cons_zero, Option.some.injEq] at ho
     subst ho
     have HKX := Lib.hid HK
     clear HK
     obtain ⟨p, e5, k5_0, k5_1⟩ := (hdep 5 (by kernel_rfl)).2
     have rr5 := (rbk 17 (by decide)).trans e5
     have E5 := Lib.hid e5
     clear e5
     obtain ⟨y, e8, k8_0, k8_1⟩ := (hdep 8 (by kernel_rfl)).2
     have rr8 := (rbk 20 (by decide)).trans e8
     have E8 := Lib.hid e8
     clear e8
     clear rb0 rbk hdep
     go_simp
     (try rw [show IntKind.i64.wrap (p - y) = p - y from by rw [IntKind.wrap_i64]; omega])
     obtain ⟨d, hd⟩ : ∃ d, p - y = d := ⟨_, rfl⟩
     (try rw [hd])
     exact HKX.out _ _ (HQX.out _ ax HCX.out (by omega) (Gr.refl _ _)) (by unfold AdDR; rw [if_neg (by decide)]; exact Gr.refl _ _) (⟨d, upd_same _ _ _, by omega, by omega⟩)
   · simp only [List.getElem?_toArray, List.getElem?_cons_succ, List.getElem?_cons_zero, Option.some.injEq] at ho
     subst ho
     have HKX := Lib.hid HK
     clear HK
     have e0 : vs 12 = frV u lo A l.length c := (hdep 0 (by kernel_rfl)).2
     have rr0 := (rbk 12 (by decide)).trans e0
     have E0 := Lib.hid e0
     clear e0
     obtain ⟨q, e7, k7_0, k7_1⟩ := (hdep 7 (by kernel_rfl)).2
     have rr7 := (rbk 19 (by decide)).trans e7
     have E7 := Lib.hid e7
     clear e7
     have p2 := (rb0 2 (by decide)).trans rq2
     have hNL : ¬ rL 10 := hnl
     have HGP := Lib.hid (HPRE.out hNL)
     obtain ⟨x0, x1, x2⟩ := (BN1.out.gr HGP.out hNg).q3
     have lnx := (BN1.out.gr HGP.out hNg).lt
     have HBF := Lib.hid (HBX.out hnl)
     have HRo := Lib.hid (own_gr HR1.out HGP.out (Nat.lt_succ_self g))
     clear x0 x1 x2 lnx
     obtain ⟨yB0, yB1, yB2⟩ := HBF.out.q3
     obtain ⟨zB0, zB1, zB2⟩ := HBF.out.z3
     have hlr := HBF.out.lt
     clear rb0 rbk hdep
     go_simp
     have HKW := Lib.hid (keep3 (a0 := .int .i64 u) (a1 := .int .i64 lo) (a2 := .slice A l.length c) HBF.out)
     exact HKX.out undef _ ⟨ax, by omega, side3 HCX.out HBF.out hRg (by simp [noU8]) rfl rfl, fill_gr HGW.out (Nat.le_refl _), by simpa using hsz, fun hn => (hn (.inl rfl)).elim, fun hn => (hn (.inl rfl)).elim⟩ (by unfold AdDR; rw [if_pos rfl]; exact HKW.out) ⟨HKW.out.own HRo.out (by decide), fr_put HBF.out, by omega⟩
   · simp only [List.getElem?_toArray, List.getElem?_cons_succ, List.getElem?_cons_zero, Option.some.injEq] at ho
     subst ho
     have HKX := Lib.hid HK
     clear HK
     obtain ⟨z, e3, k3_0, k3_1⟩ := (hdep 3 (by kernel_rfl)).2
     have rr3 := (rbk 15 (by decide)).trans e3
     have E3 := Lib.hid e3
     clear e3
     clear rb0 rbk hdep
     go_simp
     exact HKX.out _ _ (HQX.out _ ax HCX.out (by omega) (Gr.refl _ _)) (by unfold AdDR; rw [if_neg (by decide)]; exact Gr.refl _ _) (⟨z, upd_same _ _ _, k3_0, k3_1⟩)
   · simp only [List.getElem?_toArray, List.getElem?_cons_succ, List.getElem?_cons_zero, Option.some.injEq] at ho
     subst ho
     have HKX := Lib.hid HK
     clear HK
     obtain ⟨d, e9, k9_0, k9_1⟩ := (hdep 9 (by kernel_rfl)).2
     have rr9 := (rbk 21 (by decide)).trans e9
     have E9 := Lib.hid e9
     clear e9
     clear rb0 rbk hdep
     go_simp
     exact HKX.out _ _ (HQX.out _ ax HCX.out (by omega) (Gr.refl _ _)) (by unfold AdDR; rw [if_neg (by decide)]; exact Gr.refl _ _) (⟨d, upd_same _ _ _, k9_0, k9_1⟩)
 intro vs wx kk rL hI hkk hLt hall
 obtain ⟨_, hr2, hB2, _⟩ := hall 10 (by decide)
 obtain ⟨_, z, ev11, pf11_0, pf11_1⟩ := hall 11 (by decide)
 obtain ⟨_, d, ev12, pf12_0, pf12_1⟩ := hall 12 (by decide)
 obtain ⟨_, _, _, hg2, _, _, _⟩ := hI
 have BR2 := Lib.hid hB2
 have HB2 := Lib.hid (hg2)
 have HR2 := Lib.hid (own_base (base' := w.heap.size) hr2 (by omega))
 clear hLt hall hr2 hB2 hg2 m0 m1 m2 lm
 obtain ⟨r0, r1, r2⟩ := BR2.out.q3
 have lr := BR2.out.lt
 simp only [sl]
 rw [ev11, ev12]
 clear ev11 ev12
 simp only [Act.put, List.setIfInBounds_toArray, List.set_cons_succ, List.set_cons_zero]
 go_wp2
 refine bodyPost_ret (v := .tuple #[frV u lo A l.length c, .int .i64 z, .int .i64 d]) (by simp [results, Try.results29, go_sem, *]) rfl ?_
 exact ⟨u, lo, l, A, c, z, d, rfl, HIN.out, pf11_0, pf11_1, pf12_0, pf12_1, HR2.out, Gr.below (ext_refl w) HB2.out (by omega)⟩

end Go.Proofs.Ytphhelmcaehclaa
