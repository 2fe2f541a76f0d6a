/- The drawing of standard frames. -/
import Derived.Test.YtaghjaiaoajpiaaVFdB
import Derived.Test.YtaghjaiaoajpiaaVM4
namespace Go.Proofs.Ytaghjaiaoajpiaa
open Go.RowKit
set_option linter.unusedVariables false
set_option linter.unusedSimpArgs false
theorem l2Digit_d (d : Int) (w : World) (h0 : 0 ≤ d) (h1 : d ≤ 1000) :
 Calls Try.prog 67 #[.int .i64 d] w fun e w' => e = .returned (.agg #[.int .i64 (d / 5), .int .i64 (d % 5)]) ∧ Below w.heap.size w w' := l2Digit_any d w h0 h1
def FrD (S g : Nat) (N RB LL len c i : Nat) (u lo : Int) (l : List R2) (vs : Nat → Value) (wx : World) : Nat → Prop
 | 0 => vs 17 = .pointer (some ⟨N, 2, none⟩)
 | 1 => vs 18 = .slice (some ⟨LL, 0, none⟩) len c
 | 2 => vs 19 = .int .i64 (i : Int)
 | 3 => vs 20 = .pointer (some ⟨g, 0, none⟩)
 | 4 => ∃ (x : Nat), vs 21 = .slice (some ⟨x, 0, none⟩) 8 8 ∧ (S ≤ x) ∧ (Blk wx x 3 #[.int .i64 0, .int .i64 1, .int .i64 3, .int .i64 4, .int .i64 5, .int .i64 8, .int .i64 9, .int .i64 9])
 | 5 => ∃ (p : Int), vs 22 = .int .i64 p ∧ (0 ≤ p) ∧ (p ≤ 9)
 | 6 => ∃ (p : Int), vs 23 = .agg #[.int .i64 (p / 5), .int .i64 (p % 5)] ∧ (0 ≤ p) ∧ (p ≤ 9)
 | 7 => vs 24 = .pointer (some ⟨LL, i * 2, none⟩)
 | 8 => ∃ (p : Int), (0 ≤ p) ∧ (p ≤ 9) ∧ (wx.ownsRow S 42 2 (.slice (some ⟨LL, 0, none⟩) len c) len (rowsV2 (l.set i ⟨p / 5, p % 5⟩))) ∧ (Blk wx N 26 #[.int .i64 u, .int .i64 lo, .slice (some ⟨LL, 0, none⟩) len c]) ∧ (Blk wx RB 26 #[.int .i64 0, .int .i64 0, .slice none 0 0]) ∧ (S ≤ N) ∧ (S ≤ RB)
 | _ => True
def FrDU : Nat → List Nat
 | 0 => [17]
 | 1 => [18]
 | 2 => [19]
 | 3 => [20]
 | 4 => [21]
 | 5 => [22]
 | 6 => [23]
 | 7 => [24]
 | 8 => []
 | _ => []
def FrDR (g : Nat) (N RB LL len c i : Nat) (u lo : Int) (l : List R2) (i : Nat) (wx wy : World) : Prop := if i = 8 then KeepW 42 wx wy else Gr g wx wy
theorem FrD_gr {S g : Nat} {N RB LL len c i : Nat} {u lo : Int} {l : List R2} (hgS : g < S) {vs us : Nat → Value} {wx wy : World} {jN : Nat} (hGG : FrD S g N RB LL len c i u lo l vs wx jN) (haG : ∀ d ∈ FrDU jN, us d = vs d) (hbG : Gr g wx wy) : FrD S g N RB LL len c i u lo l us wy jN := by
 match jN, hGG, haG with
 | 0, hGG, haG =>
   exact (haG 17 (by simp [FrDU])).trans hGG
 | 1, hGG, haG =>
   exact (haG 18 (by simp [FrDU])).trans hGG
 | 2, hGG, haG =>
   exact (haG 19 (by simp [FrDU])).trans hGG
 | 3, hGG, haG =>
   exact (haG 20 (by simp [FrDU])).trans hGG
 | 4, hGG, haG =>
   obtain ⟨xG0, eG, fG0, fG1⟩ := hGG
   exact ⟨xG0, (haG 21 (by simp [FrDU])).trans eG, fG0, fG1.gr hbG (by omega)⟩
 | 5, hGG, haG =>
   obtain ⟨xG0, eG, fG0, fG1⟩ := hGG
   exact ⟨xG0, (haG 22 (by simp [FrDU])).trans eG, fG0, fG1⟩
 | 6, hGG, haG =>
   obtain ⟨xG0, eG, fG0, fG1⟩ := hGG
   exact ⟨xG0, (haG 23 (by simp [FrDU])).trans eG, fG0, fG1⟩
 | 7, hGG, haG =>
   exact (haG 24 (by simp [FrDU])).trans hGG
 | 8, hGG, haG =>
   obtain ⟨xG0, fG0, fG1, fG2, fG3, fG4, fG5, fG6⟩ := hGG
   exact ⟨xG0, fG0, fG1, own_gr fG2 hbG hgS, fG3.gr hbG (by omega), fG4.gr hbG (by omega), fG5, fG6⟩
 | jN + 9, _, _ => trivial
theorem FrD_8 {S g : Nat} {N RB LL len c i : Nat} {u lo : Int} {l : List R2} (hgS : g < S) {vs us : Nat → Value} {wx wy : World} {jN : Nat} (hneG : jN ≠ 8) (hGG : FrD S g N RB LL len c i u lo l vs wx jN) (haG : ∀ d ∈ FrDU jN, us d = vs d) (hbG : KeepW 42 wx wy) : FrD S g N RB LL len c i u lo l us wy jN := by
 match jN, hGG, haG, hneG with
 | 0, hGG, haG, hneG =>
   exact (haG 17 (by simp [FrDU])).trans hGG
 | 1, hGG, haG, hneG =>
   exact (haG 18 (by simp [FrDU])).trans hGG
 | 2, hGG, haG, hneG =>
   exact (haG 19 (by simp [FrDU])).trans hGG
 | 3, hGG, haG, hneG =>
   exact (haG 20 (by simp [FrDU])).trans hGG
 | 4, hGG, haG, hneG =>
   obtain ⟨xG0, eG, fG0, fG1⟩ := hGG
   exact ⟨xG0, (haG 21 (by simp [FrDU])).trans eG, fG0, hbG.2.1 _ _ _ fG1 (by decide)⟩
 | 5, hGG, haG, hneG =>
   obtain ⟨xG0, eG, fG0, fG1⟩ := hGG
   exact ⟨xG0, (haG 22 (by simp [FrDU])).trans eG, fG0, fG1⟩
 | 6, hGG, haG, hneG =>
   obtain ⟨xG0, eG, fG0, fG1⟩ := hGG
   exact ⟨xG0, (haG 23 (by simp [FrDU])).trans eG, fG0, fG1⟩
 | 7, hGG, haG, hneG =>
   exact (haG 24 (by simp [FrDU])).trans hGG
 | 8, hGG, haG, hneG =>
   exact absurd rfl hneG
 | jN + 9, _, _, _ => trivial
def FrDP (j i : Nat) : Bool := false
theorem FrD_keep {S g : Nat} {N RB LL len c i : Nat} {u lo : Int} {l : List R2} (hgS : g < S) {vs us : Nat → Value} {wx wy : World} {iN jN : Nat} (hneG : iN ≠ jN) (hdpG : FrDP jN iN = false) (hGG : FrD S g N RB LL len c i u lo l vs wx jN) (haG : ∀ d ∈ FrDU jN, us d = vs d) (hbG : FrDR g N RB LL len c i u lo l iN wx wy) : FrD S g N RB LL len c i u lo l us wy jN := by
 unfold FrDR at hbG
 by_cases h8 : iN = 8
 · rw [if_pos h8] at hbG
   exact FrD_8 hgS (by omega) hGG haG hbG
 rw [if_neg h8] at hbG
 exact FrD_gr hgS hGG haG hbG
set_option maxRecDepth 100000 in
set_option maxHeartbeats 16000000 in
theorem stdFrame_any (g a : Nat) (w : World) (h : CurAt w g a) (ha : a ≤ 400000000000) :
 Calls Try.prog 44 #[.pointer (some ⟨g, 0, none⟩)] w (DrawFr g a 600 w) := by
 have hgS : g < w.heap.size := h.lt
 have BR0 := Lib.hid (Blk.born w #[.int .i64 0, .int .i64 0, .slice none 0 0] 26 (H := w.heap.size) rfl)
 have HC0 := Lib.hid (h.ext (ext_alloc (ext_refl w) (.cells #[.int .i64 0, .int .i64 0, .slice none 0 0] 26)))
 have HG0 := Lib.hid (Gr.alloc g w (.cells #[.int .i64 0, .int .i64 0, .slice none 0 0] 26))
 clear h
 go_enter Try.func44, Try.ntmps44
 go_wp2_with fail
 refine (frame_any g a _ HC0.out (by omega)).mono ?_
 rintro e w1 ⟨u, lo, l, A, c, a1, rfl, hIN, ha1, ho1, hc1, hg1⟩
 obtain ⟨hu0, hu3, hlo3, hlo6, hl1, hl9, hIN⟩ := hIN
 obtain ⟨len, hlen⟩ : ∃ n, l.length = n := ⟨_, rfl⟩
 rw [hlen] at ho1 hl1 hl9
 obtain ⟨LL, c', hv, hLw, hLl⟩ := ho1.form (by omega)
 injection hv with hv _ hv2
 subst hv hv2
 rw [hlen]
 have HL := Lib.hid hlen
 have HIN := Lib.hid hIN
 obtain ⟨N, hN⟩ : ∃ N, N = w1.heap.size := ⟨_, rfl⟩
 obtain ⟨W, hW⟩ : ∃ y : World, y = w1.alloc (.cells #[.int .i64 u, .int .i64 lo, .slice (some ⟨LL, 0, none⟩) len c] 26) := ⟨_, rfl⟩
 have hs1 : w.heap.size < w1.heap.size := (BR0.out.gr hg1 (by omega)).lt
 have BN1 := Lib.hid (show Blk W N 26 #[.int .i64 u, .int .i64 lo, .slice (some ⟨LL, 0, none⟩) len c] by rw [hW]; exact Blk.born w1 _ 26 (H := N) hN)
 have BR1 := Lib.hid (show Blk W w.heap.size 26 #[.int .i64 0, .int .i64 0, .slice none 0 0] by rw [hW]; exact (BR0.out.gr hg1 (by omega)).al _)
 have HR1 := Lib.hid (show W.ownsRow w.heap.size 42 2 (.slice (some ⟨LL, 0, none⟩) len c) len (rowsV2 l) by rw [hW]; exact (own_base ho1 (by simp)).alloc _)
 have HC1 := Lib.hid (show CurAt W g a1 by rw [hW]; exact hc1.ext (ext_alloc (ext_refl _) _))
 have HG1 := Lib.hid (show Gr g w W by rw [hW]; exact (HG0.out.trans hg1).trans (Gr.alloc _ _ _))
 have hgN : g < N := by omega
 have hwN : w.heap.size ≤ N := by omega
 have hNR : N ≠ w.heap.size := by omega
 have hRg : w.heap.size ≠ g := by omega
 have hNg : N ≠ g := by omega
 have hwR : w.heap.size ≤ w.heap.size := Nat.le_refl _
 have hwL : w.heap.size ≤ LL := (HR1.out.lt _ rfl).1
 have hgL : g < LL := by omega
 have hLN : LL ≠ N := fun e => own_nbT HR1.out BN1.out (by decide) (by rw [← e]; rfl)
 have hLR : LL ≠ w.heap.size := fun e => own_nbT HR1.out BR1.out (by decide) (by rw [e]; rfl)
 go_upto_region 2 with fail
 rw [← hN, ← hW]
 clear hN hW HC0 HG0 BR0 ho1 hc1 hg1 hlen hIN hLw hLl hs1
 go_wp2_with fail
 refine (one_any g a1 12 _ HC1.out (by omega) (by omega) (by omega)).mono ?_
 rintro e w2 ⟨B, a2, rfl, ha2, hc2, hg2⟩
 have HC2 := Lib.hid hc2
 have HG2 := Lib.hid (HG1.out.trans hg2)
 have BN2 := Lib.hid (BN1.out.gr hg2 hNg)
 have HR2 := Lib.hid (own_gr HR1.out hg2 hgS)
 have BR2 := Lib.hid (BR1.out.gr hg2 hRg)
 clear hc2 hg2 HC1 HG1 BN1 HR1 BR1
 cases B
 · go_wp2_with fail
   go_loopw [4] (fun v wr => ∃ (i a3 : Nat) (l : List R2), v = .int .i64 i ∧ i ≤ len ∧ Hid (l.length = len) ∧ Hid (∀ x ∈ l, -1 ≤ x.a ∧ x.a ≤ 9 ∧ -1 ≤ x.b ∧ x.b ≤ 9) ∧ a3 ≤ a + 402 + 18 * i ∧ Hid (CurAt wr g a3) ∧ Hid (Gr g w wr) ∧ Hid (Blk wr N 26 #[.int .i64 u, .int .i64 lo, .slice (some ⟨LL, 0, none⟩) len c]) ∧ Hid (wr.ownsRow w.heap.size 42 2 (.slice (some ⟨LL, 0, none⟩) len c) len (rowsV2 l)) ∧ Hid (Blk wr w.heap.size 26 #[.int .i64 0, .int .i64 0, .slice none 0 0])) (fun v _ => len - (intOf v).toNat)
   case atStart => exact ⟨0, a2, l, rfl, Nat.zero_le _, HL, HIN, by omega, HC2, HG2, BN2, HR2, BR2⟩
   case round =>
    clear HC2 HG2 BN2 HR2 BR2 HL HIN ha1 ha2
    obtain ⟨i, a3, l, rfl, hi, HL, HIN, ha3, HC5, HG5, BN5, HR5, BR5⟩ := hrel
    obtain ⟨W5, hW5e⟩ : ∃ y : World, y = wr := ⟨_, rfl⟩
    subst hW5e
    obtain ⟨d0, d1, d2⟩ := BN5.out.q3
    obtain ⟨z0, z1, z2⟩ := BN5.out.z3
    obtain ⟨r0, r1, r2⟩ := BR5.out.q3
    obtain ⟨y0, y1, y2⟩ := BR5.out.z3
    have ln := BN5.out.lt
    have lr := BR5.out.lt
    by_cases hlt : i < len
    · have e1 : (i : Int) < (len : Int) := by omega
      have hli : i < l.length := by rw [HL.out]; exact hlt
      go_upto_region 7 with fail
      refine wp_region_m (by kernel_rfl) (by kernel_rfl) [17, 18, 19, 20, 21, 22, 23, 24] FrDU (by kernel_rfl) (by decide) 25 (by kernel_rfl) (by simp) (fun ra0 => ra0.eval (.tmp 0) = .pointer (some ⟨g, 0, none⟩) ∧ ra0.eval (.tmp 3) = .pointer (some ⟨N, 0, none⟩) ∧ ra0.eval (.tmp 4) = .int .i64 (i : Int)) ⟨by kernel_rfl, by kernel_rfl, by kernel_rfl⟩ FrDP (by kernel_rfl) (ICur 2 g a3 w W5 8 8 (fun wx => Blk wx N 26 #[.int .i64 u, .int .i64 lo, .slice (some ⟨LL, 0, none⟩) len c] ∧ Blk wx w.heap.size 26 #[.int .i64 0, .int .i64 0, .slice none 0 0])) (FrDR g N w.heap.size LL len c i u lo l) (fun jN vs wx => FrD w.heap.size g N w.heap.size LL len c i u lo l vs wx jN) ⟨a3, by omega, (HC5.out).ext (ext_drew (ext_refl _)), (HG5.out).trans (Gr.of_ext (ext_drew (ext_refl _))), Nat.le_refl _, fun _ => Gr.of_ext (ext_drew (ext_refl _)), fun _ => ⟨BN5.out, BR5.out⟩⟩ (fun _ _ _ _ _ _ h0 hd h1 h2 h3 => FrD_keep hgS h0 hd h1 h2 h3) ?_ ?_
      · intro ra0 hE ri ro ho Qx vs wx rb KX kk rL hI hkk hnl hLt hcl hdep rb0 rbk HK
        repeat (rename_i hz9; clear hz9)
        obtain ⟨rq0, rq3, rq4⟩ := hE
        have hi : ri < 9 := by
         rcases Nat.lt_or_ge ri 9 with h | h
         · exact h
         · rw [Array.getElem?_eq_none (by simpa using h)] at ho; cases ho
        have hkk : kk < 9 := by simpa using hkk
        obtain ⟨ax, hax, hcx, hGw, hsz, hpre, hBx⟩ := hI
        have HQ : ∀ w' a2, CurAt w' g a2 → a2 ≤ ax + 2 → Gr g wx w' → ICur 2 g a3 w W5 8 8 (fun wx => Blk wx N 26 #[.int .i64 u, .int .i64 lo, .slice (some ⟨LL, 0, none⟩) len c] ∧ Blk wx w.heap.size 26 #[.int .i64 0, .int .i64 0, .slice none 0 0]) (kk + 1) (fun j => j = ri ∨ rL j) w' := fun w' a2 h1 h2 h3 => ⟨a2, by omega, h1, hGw.trans h3, Nat.le_trans hsz h3.size, fun hn => (hpre (fun x => hn (.inr x))).trans h3, fun hn => (fun hB => ⟨hB.1.gr h3 hNg, hB.2.gr h3 hRg⟩) (hBx (fun x => hn (.inr x)))⟩
        have HQX := Lib.hid HQ
        have HCX := Lib.hid hcx
        have HGW := Lib.hid hGw
        have HPRE := Lib.hid hpre
        have HBX := Lib.hid hBx
        have HCL := Lib.hid hcl
        clear HQ hcx hGw hpre hBx hcl
        rcases (show ri = 0 ∨ ri = 1 ∨ ri = 2 ∨ ri = 3 ∨ ri = 4 ∨ ri = 5 ∨ ri = 6 ∨ ri = 7 ∨ ri = 8 by omega) with rfl | rfl | rfl | rfl | rfl | rfl | rfl | rfl | rfl
        · simp only [List.getElem?_toArray, List.getElem?_cons_succ, List.getElem?_cons_zero, Option.some.injEq] at ho
          subst ho
          have HKX := Lib.hid HK
          clear HK
          have p3 := (rb0 3 (by decide)).trans rq3
          clear rb0 rbk hdep
          go_simp
          exact HKX.out _ _ (HQX.out _ ax HCX.out (by omega) (Gr.refl _ _)) (by unfold FrDR; rw [if_neg (by decide)]; exact Gr.refl _ _) (upd_same _ _ _)
        · simp only [List.getElem?_toArray, List.getElem?_cons_succ, List.getElem?_cons_zero, Option.some.injEq] at ho
          subst ho
          have HKX := Lib.hid HK
          clear HK
          have e0 : vs 17 = .pointer (some ⟨N, 2, none⟩) := (hdep 0 (by kernel_rfl)).2
          have rr0 := (rbk 17 (by decide)).trans e0
          have E0 := Lib.hid e0
          clear e0
          have hNL : ¬ rL 8 := fun h => hnl (HCL.out 7 _ 1 rfl (HCL.out 8 _ 7 rfl h (by kernel_rfl)) (by kernel_rfl))
          have HGP := Lib.hid (HPRE.out hNL)
          obtain ⟨dx0, dx1, dx2⟩ := (BN5.out.gr HGP.out hNg).q3
          have lnx := (BN5.out.gr HGP.out hNg).lt
          clear rb0 rbk hdep
          go_simp
          exact HKX.out _ _ (HQX.out _ ax HCX.out (by omega) (Gr.refl _ _)) (by unfold FrDR; rw [if_neg (by decide)]; exact Gr.refl _ _) (upd_same _ _ _)
        · simp only [List.getElem?_toArray, List.getElem?_cons_succ, List.getElem?_cons_zero, Option.some.injEq] at ho
          subst ho
          have HKX := Lib.hid HK
          clear HK
          have p4 := (rb0 4 (by decide)).trans rq4
          clear rb0 rbk hdep
          go_simp
          exact HKX.out _ _ (HQX.out _ ax HCX.out (by omega) (Gr.refl _ _)) (by unfold FrDR; rw [if_neg (by decide)]; exact Gr.refl _ _) (upd_same _ _ _)
        · simp only [List.getElem?_toArray, List.getElem?_cons_succ, List.getElem?_cons_zero, Option.some.injEq] at ho
          subst ho
          have HKX := Lib.hid HK
          clear HK
          have p0 := (rb0 0 (by decide)).trans rq0
          clear rb0 rbk hdep
          go_simp
          exact HKX.out _ _ (HQX.out _ ax HCX.out (by omega) (Gr.refl _ _)) (by unfold FrDR; rw [if_neg (by decide)]; exact Gr.refl _ _) (upd_same _ _ _)
        · simp only [List.getElem?_toArray, List.getElem?_cons_succ, List.getElem?_cons_zero, Option.some.injEq] at ho
          subst ho
          have HKX := Lib.hid HK
          clear HK
          have hSx : w.heap.size ≤ wx.heap.size := HGW.out.size
          clear rb0 rbk hdep
          go_simp
          exact HKX.out _ _ (HQX.out _ ax (HCX.out.ext (ext_alloc (ext_refl _) _)) (by omega) (Gr.alloc _ _ _)) (by unfold FrDR; rw [if_neg (by decide)]; exact Gr.alloc _ _ _) ⟨wx.heap.size, upd_same _ _ _, hSx, Blk.born _ _ _ rfl⟩
        · simp only [List.getElem?_toArray, List.getElem?_cons_succ, List.getElem?_cons_zero, Option.some.injEq] at ho
          subst ho
          have HKX := Lib.hid HK
          clear HK
          have e3 : vs 20 = .pointer (some ⟨g, 0, none⟩) := (hdep 3 (by kernel_rfl)).2
          have rr3 := (rbk 20 (by decide)).trans e3
          have E3 := Lib.hid e3
          clear e3
          obtain ⟨x, e4, k4_0, k4_1⟩ := (hdep 4 (by kernel_rfl)).2
          have rr4 := (rbk 21 (by decide)).trans e4
          have E4 := Lib.hid e4
          clear e4
          have K4_1 := Lib.hid k4_1
          clear k4_1
          clear rb0 rbk hdep
          go_simp
          refine (among_any g ax _ 8 _ (0) 9 _ HCX.out (by omega) (by decide) (by decide) (allAt_blk (l := [0, 1, 3, 4, 5, 8, 9, 9]) K4_1.out rfl rfl (by omega) (by decide))).mono ?_
          rintro e w' ⟨p, a2, rfl, nF0, nF1, ha2, hc2, hg2⟩
          go_simp
          exact HKX.out _ _ (HQX.out _ a2 hc2 (by omega) hg2) (by unfold FrDR; rw [if_neg (by decide)]; exact hg2) (⟨p, upd_same _ _ _, nF0, nF1⟩)
        · simp only [List.getElem?_toArray, List.getElem?_cons_succ, List.getElem?_cons_zero, Option.some.injEq] at ho
          subst ho
          have HKX := Lib.hid HK
          clear HK
          obtain ⟨p, e5, k5_0, k5_1⟩ := (hdep 5 (by kernel_rfl)).2
          have rr5 := (rbk 22 (by decide)).trans e5
          have E5 := Lib.hid e5
          clear e5
          clear rb0 rbk hdep
          go_simp
          refine (l2Digit_d p _ k5_0 (by omega)).mono ?_
          rintro e w' ⟨rfl, hb⟩
          go_simp
          exact HKX.out _ _ (HQX.out _ ax (HCX.out.ext hb) (by omega) (Gr.of_ext hb)) (by unfold FrDR; rw [if_neg (by decide)]; exact Gr.of_ext hb) (⟨p, upd_same _ _ _, k5_0, k5_1⟩)
        · simp only [List.getElem?_toArray, List.getElem?_cons_succ, List.getElem?_cons_zero, Option.some.injEq] at ho
          subst ho
          have HKX := Lib.hid HK
          clear HK
          have e1 : vs 18 = .slice (some ⟨LL, 0, none⟩) len c := (hdep 1 (by kernel_rfl)).2
          have rr1 := (rbk 18 (by decide)).trans e1
          have E1 := Lib.hid e1
          clear e1
          have e2 : vs 19 = .int .i64 (i : Int) := (hdep 2 (by kernel_rfl)).2
          have rr2 := (rbk 19 (by decide)).trans e2
          have E2 := Lib.hid e2
          clear e2
          clear rb0 rbk hdep
          go_simp
          exact HKX.out _ _ (HQX.out _ ax HCX.out (by omega) (Gr.refl _ _)) (by unfold FrDR; rw [if_neg (by decide)]; exact Gr.refl _ _) (upd_same _ _ _)
        · simp only [List.getElem?_toArray, List.getElem?_cons_succ, List.getElem?_cons_zero, Option.some.injEq] at ho
          subst ho
          have HKX := Lib.hid HK
          clear HK
          obtain ⟨p, e6, k6_0, k6_1⟩ := (hdep 6 (by kernel_rfl)).2
          have rr6 := (rbk 23 (by decide)).trans e6
          have E6 := Lib.hid e6
          clear e6
          have e7 : vs 24 = .pointer (some ⟨LL, i * 2, none⟩) := (hdep 7 (by kernel_rfl)).2
          have rr7 := (rbk 24 (by decide)).trans e7
          have E7 := Lib.hid e7
          clear e7
          have hNL : ¬ rL 8 := hnl
          have HGP := Lib.hid (HPRE.out hNL)
          obtain ⟨dx0, dx1, dx2⟩ := (BN5.out.gr HGP.out hNg).q3
          have lnx := (BN5.out.gr HGP.out hNg).lt
          have HBF := Lib.hid (HBX.out hnl)
          have HO := Lib.hid (own_gr HR5.out HGP.out hgS)
          have hlL : LL < wx.heap.size := (HO.out.lt _ rfl).2
          obtain ⟨x0, hx0⟩ : ∃ u, wx.cell? ⟨LL, i * 2, none⟩ = some u := by rw [HO.out.cellAt (i * 2) (by omega)]; exact list_split (by have := HO.out.1; omega)
          obtain ⟨x1, hx1⟩ : ∃ u, wx.cell? ⟨LL, i * 2 + 1, none⟩ = some u := by rw [HO.out.cellAt (i * 2 + 1) (by omega)]; exact list_split (by have := HO.out.1; omega)
          have hf0 := HO.out.frozenAt (i * 2)
          have hf1 := HO.out.frozenAt (i * 2 + 1)
          obtain ⟨cs, hcs⟩ := own_blkF HO.out
          have HCS := Lib.hid hcs
          have HS1 := Lib.hid (((HO.out.stored (i * 2) (.int .i64 (p / 5))).1.stored (i * 2 + 1) (.int .i64 (p % 5))).1)
          clear rb0 rbk hdep hcs
          go_simp
          exact HKX.out undef _ ⟨ax, by omega, (HCX.out.far (p := ⟨LL, i * 2, none⟩) hgL _).far (p := ⟨LL, i * 2 + 1, none⟩) hgL _, (HGW.out.setNew (p := ⟨LL, i * 2, none⟩) hwL _).setNew (p := ⟨LL, i * 2 + 1, none⟩) hwL _, by simpa using hsz, fun hn => (hn (.inl rfl)).elim, fun hn => (hn (.inl rfl)).elim⟩ (by unfold FrDR; rw [if_pos rfl]; exact ((KeepW.refl _ _).set HCS.out (i * 2) _).set (HCS.out.set_ (i * 2) _) (i * 2 + 1) _) ⟨p, k6_0, k6_1, by rw [rowsV2_set l i ⟨p / 5, p % 5⟩ hli]; exact HS1.out, (HBF.out.1.setF (p := ⟨LL, i * 2, none⟩) hLN _).setF (p := ⟨LL, i * 2 + 1, none⟩) hLN _, (HBF.out.2.setF (p := ⟨LL, i * 2, none⟩) hLR _).setF (p := ⟨LL, i * 2 + 1, none⟩) hLR _, hwN, hwR⟩
      intro vs wx kk rL hI hkk hLt hall
      obtain ⟨_, p, p0, p1, hr2, hB2, hBR2, _, _⟩ := hall 8 (by decide)
      obtain ⟨a6, ha6, hc6, hg6, _, _, _⟩ := hI
      have hkk : kk ≤ 9 := by simpa using hkk
      have HR6 := Lib.hid hr2
      have BN6 := Lib.hid hB2
      have BR6 := Lib.hid hBR2
      have HC6 := Lib.hid hc6
      have HG6 := Lib.hid hg6
      have HL6 := Lib.hid (show (l.set i (⟨p / 5, p % 5⟩ : R2)).length = len by rw [List.length_set]; exact HL.out)
      have HIN6 := Lib.hid (show ∀ x ∈ l.set i (⟨p / 5, p % 5⟩ : R2), -1 ≤ x.a ∧ x.a ≤ 9 ∧ -1 ≤ x.b ∧ x.b ≤ 9 by
       intro x hx
       rcases List.mem_or_eq_of_mem_set hx with hx | rfl
       · exact HIN.out x hx
       · dsimp only
         omega)
      clear hLt hall hr2 hB2 hBR2 hc6 hg6 d0 d1 d2 z0 z1 z2 r0 r1 r2 y0 y1 y2 ln lr
      simp only [sl]
      simp only [Act.put, List.setIfInBounds_toArray, List.set_cons_succ, List.set_cons_zero]
      go_wp2
      go_roundw
      case rel => exact ⟨i + 1, a6, l.set i ⟨p / 5, p % 5⟩, by go_num, by omega, HL6, HIN6, by omega, HC6, HG6, BN6, HR6, BR6⟩
      case measure => simp [intOf]; omega
    · obtain rfl : i = len := by omega
      go_wp2
      refine bodyPost_ret (v := frV u lo (some ⟨LL, 0, none⟩) i c) (by simp [results, Try.results44, go_sem, *]) rfl ?_
      refine ⟨u, lo, l, (some ⟨LL, 0, none⟩), c, a3, by rw [HL.out], ⟨hu0, hu3, hlo3, hlo6, by rw [HL.out]; omega, by rw [HL.out]; omega, HIN.out⟩, by omega, ?_, ((((HC5.out).far (p := ⟨w.heap.size, 0, none⟩) hgS _).far (p := ⟨w.heap.size, 1, none⟩) hgS _).far (p := ⟨w.heap.size, 2, none⟩) hgS _), ((((HG5.out).setNew (p := ⟨w.heap.size, 0, none⟩) (Nat.le_refl _) _).setNew (p := ⟨w.heap.size, 1, none⟩) (Nat.le_refl _) _).setNew (p := ⟨w.heap.size, 2, none⟩) (Nat.le_refl _) _)⟩
      rw [HL.out]
      exact fill_own' (HR5.out) (own_nbT (HR5.out) BR5.out (by decide))
 · obtain ⟨d0, d1, d2⟩ := BN2.out.q3
   obtain ⟨z0, z1, z2⟩ := BN2.out.z3
   obtain ⟨r0, r1, r2⟩ := BR2.out.q3
   obtain ⟨y0, y1, y2⟩ := BR2.out.z3
   have ln := BN2.out.lt
   have lr := BR2.out.lt
   go_wp2
   refine bodyPost_ret (v := frV u lo (some ⟨LL, 0, none⟩) len c) (by simp [results, Try.results44, go_sem, *]) rfl ?_
   refine ⟨u, lo, l, (some ⟨LL, 0, none⟩), c, a2, by rw [HL.out], ⟨hu0, hu3, hlo3, hlo6, by rw [HL.out]; omega, by rw [HL.out]; omega, HIN.out⟩, by omega, ?_, ((((HC2.out).far (p := ⟨w.heap.size, 0, none⟩) hgS _).far (p := ⟨w.heap.size, 1, none⟩) hgS _).far (p := ⟨w.heap.size, 2, none⟩) hgS _), ((((HG2.out).setNew (p := ⟨w.heap.size, 0, none⟩) (Nat.le_refl _) _).setNew (p := ⟨w.heap.size, 1, none⟩) (Nat.le_refl _) _).setNew (p := ⟨w.heap.size, 2, none⟩) (Nat.le_refl _) _)⟩
   rw [HL.out]
   exact fill_own' (HR2.out) (own_nbT (HR2.out) BR2.out (by decide))

end Go.Proofs.Ytaghjaiaoajpiaa
