/- DrawProductOn. -/
import Derived.Test.YtfechhacmkajdaaVM7
import Derived.Test.YtfechhacmkajdaaVAdB
import Derived.Test.YtfechhacmkajdaaVFdD
namespace Go.Proofs.Ytfechhacmkajdaa
open Go.RowKit
set_option linter.unusedVariables false
set_option linter.unusedSimpArgs false
theorem for_in8 (k : Nat) (z : Int) (hk : 1 ≤ k) (hk8 : k ≤ 8) : FrIn 1 4 (forL k z k) := by
 unfold FrIn
 refine ⟨by omega, by omega, by omega, by omega, by simp [forL]; omega, by simp [forL]; omega, fun x hx => ?_⟩
 unfold forL at hx
 obtain ⟨j, _, rfl⟩ := List.mem_map.1 hx
 have hd := dg_bounds k z j
 unfold rodD
 dsimp only
 omega

def TmQ (S g : Nat) (R0 : Nat) (u lo : Int) (A : Option Addr) (c : Nat) (l : List R2) (vs : Nat → Value) (wx : World) : Nat → Prop
 | 0 => vs 21 = frV u lo A l.length c
 | 1 => vs 22 = .pointer (some ⟨g, 0, none⟩)
 | 2 => ∃ (x : Int), vs 23 = .int .i64 x ∧ (-1 ≤ x) ∧ (x ≤ 10000)
 | 3 => vs 24 = .pointer (some ⟨g, 0, none⟩)
 | 4 => ∃ (y : Int), vs 25 = .int .i64 y ∧ (-1 ≤ y) ∧ (y ≤ 10000)
 | 5 => (wx.ownsRow S 54 2 (.slice A l.length c) l.length (rowsV2 l)) ∧ (Blk wx R0 42 #[.int .i64 u, .int .i64 lo, .slice A l.length c]) ∧ (R0 < g)
 | 6 => ∃ (x : Int), vs 3 = .int .i64 x ∧ (-1 ≤ x) ∧ (x ≤ 10000)
 | 7 => ∃ (y : Int), vs 4 = .int .i64 y ∧ (-1 ≤ y) ∧ (y ≤ 10000)
 | _ => True
def TmQU : Nat → List Nat
 | 0 => [21]
 | 1 => [22]
 | 2 => [23]
 | 3 => [24]
 | 4 => [25]
 | 5 => []
 | 6 => [3]
 | 7 => [4]
 | _ => []
def TmQR (g : Nat) (R0 : Nat) (u lo : Int) (A : Option Addr) (c : Nat) (l : List R2) (i : Nat) (wx wy : World) : Prop := if i = 5 then KeepW 42 wx wy else Gr g wx wy
theorem TmQ_gr {S g : Nat} {R0 : Nat} {u lo : Int} {A : Option Addr} {c : Nat} {l : List R2} (hgS : g < S) {vs us : Nat → Value} {wx wy : World} {jN : Nat} (hGG : TmQ S g R0 u lo A c l vs wx jN) (haG : ∀ d ∈ TmQU jN, us d = vs d) (hbG : Gr g wx wy) : TmQ S g R0 u lo A c l us wy jN := by
 match jN, hGG, haG with
 | 0, hGG, haG =>
   exact (haG 21 (by simp [TmQU])).trans hGG
 | 1, hGG, haG =>
   exact (haG 22 (by simp [TmQU])).trans hGG
 | 2, hGG, haG =>
   obtain ⟨xG0, eG, fG0, fG1⟩ := hGG
   exact ⟨xG0, (haG 23 (by simp [TmQU])).trans eG, fG0, fG1⟩
 | 3, hGG, haG =>
   exact (haG 24 (by simp [TmQU])).trans hGG
 | 4, hGG, haG =>
   obtain ⟨xG0, eG, fG0, fG1⟩ := hGG
   exact ⟨xG0, (haG 25 (by simp [TmQU])).trans eG, fG0, fG1⟩
 | 5, hGG, haG =>
   obtain ⟨fG0, fG1, fG2⟩ := hGG
   exact ⟨own_gr fG0 hbG hgS, fG1.gr hbG (by omega), fG2⟩
 | 6, hGG, haG =>
   obtain ⟨xG0, eG, fG0, fG1⟩ := hGG
   exact ⟨xG0, (haG 3 (by simp [TmQU])).trans eG, fG0, fG1⟩
 | 7, hGG, haG =>
   obtain ⟨xG0, eG, fG0, fG1⟩ := hGG
   exact ⟨xG0, (haG 4 (by simp [TmQU])).trans eG, fG0, fG1⟩
 | jN + 8, _, _ => trivial
theorem TmQ_5 {S g : Nat} {R0 : Nat} {u lo : Int} {A : Option Addr} {c : Nat} {l : List R2} (hgS : g < S) {vs us : Nat → Value} {wx wy : World} {jN : Nat} (hneG : jN ≠ 5) (hGG : TmQ S g R0 u lo A c l vs wx jN) (haG : ∀ d ∈ TmQU jN, us d = vs d) (hbG : KeepW 42 wx wy) : TmQ S g R0 u lo A c l us wy jN := by
 match jN, hGG, haG, hneG with
 | 0, hGG, haG, hneG =>
   exact (haG 21 (by simp [TmQU])).trans hGG
 | 1, hGG, haG, hneG =>
   exact (haG 22 (by simp [TmQU])).trans hGG
 | 2, hGG, haG, hneG =>
   obtain ⟨xG0, eG, fG0, fG1⟩ := hGG
   exact ⟨xG0, (haG 23 (by simp [TmQU])).trans eG, fG0, fG1⟩
 | 3, hGG, haG, hneG =>
   exact (haG 24 (by simp [TmQU])).trans hGG
 | 4, hGG, haG, hneG =>
   obtain ⟨xG0, eG, fG0, fG1⟩ := hGG
   exact ⟨xG0, (haG 25 (by simp [TmQU])).trans eG, fG0, fG1⟩
 | 5, hGG, haG, hneG =>
   exact absurd rfl hneG
 | 6, hGG, haG, hneG =>
   obtain ⟨xG0, eG, fG0, fG1⟩ := hGG
   exact ⟨xG0, (haG 3 (by simp [TmQU])).trans eG, fG0, fG1⟩
 | 7, hGG, haG, hneG =>
   obtain ⟨xG0, eG, fG0, fG1⟩ := hGG
   exact ⟨xG0, (haG 4 (by simp [TmQU])).trans eG, fG0, fG1⟩
 | jN + 8, _, _, _ => trivial
def TmQP (j i : Nat) : Bool := false
theorem TmQ_keep {S g : Nat} {R0 : Nat} {u lo : Int} {A : Option Addr} {c : Nat} {l : List R2} (hgS : g < S) {vs us : Nat → Value} {wx wy : World} {iN jN : Nat} (hneG : iN ≠ jN) (hdpG : TmQP jN iN = false) (hGG : TmQ S g R0 u lo A c l vs wx jN) (haG : ∀ d ∈ TmQU jN, us d = vs d) (hbG : TmQR g R0 u lo A c l iN wx wy) : TmQ S g R0 u lo A c l us wy jN := by
 unfold TmQR at hbG
 by_cases h5 : iN = 5
 · rw [if_pos h5] at hbG
   exact TmQ_5 hgS (by omega) hGG haG hbG
 rw [if_neg h5] at hbG
 exact TmQ_gr hgS hGG haG hbG
def DrawProductOn (w : World) (e : Ending) (w' : World) : Prop := ∃ (u lo : Int) (l : List R2) (A : Option Addr) (c : Nat) (x : Int) (y : Int), e = .returned (.tuple #[frV u lo A l.length c, .int .i64 x, .int .i64 y]) ∧ FrIn u lo l ∧ (-1 ≤ x) ∧ (x ≤ 10000) ∧ (-1 ≤ y) ∧ (y ≤ 10000) ∧ w'.ownsRow w.heap.size 54 2 (.slice A l.length c) l.length (rowsV2 l) ∧ Below w.heap.size w w'
set_option maxRecDepth 100000 in
set_option maxHeartbeats 8000000 in
theorem drawProductOn_any (Ac : Option Addr) (nc cc : Nat) (w : World) (h : Code w w.heap.size Ac nc) (hn : nc ≤ 65536) :
 Calls Try.prog 20 #[.slice Ac nc cc] w (DrawProductOn w) := by
 have HC := Lib.hid (h.cur1 (by omega) cc (.cells #[.int .i64 0, .int .i64 0, .slice none 0 0] 42))
 have BR0 := Lib.hid ((Blk.born w #[.int .i64 0, .int .i64 0, .slice none 0 0] 42 (H := w.heap.size) rfl).al (.cells #[.slice Ac nc cc, .int .i64 0, .int .u64 0] 70))
 have hbx := Lib.hid (ext_alloc (ext_alloc (ext_refl w) (.cells #[.int .i64 0, .int .i64 0, .slice none 0 0] 42)) (.cells #[.slice Ac nc cc, .int .i64 0, .int .u64 0] 70))
 obtain ⟨g, hg⟩ : ∃ g, g = w.heap.size + 1 := ⟨_, rfl⟩
 rw [← hg] at HC
 have hwg : w.heap.size < g := by omega
 clear h
 go_enter Try.func20, Try.ntmps20
 go_wp2_with fail
 rw [← hg]
 have HGE := Lib.hid hg
 clear hg
 refine (stdFrame_any g 0 _ HC.out (by omega)).mono ?_
 rintro e w1 ⟨u, lo, l, A, c, a1, rfl, hIN, ha1, hr1, hc1, hg1⟩
 have HIN := Lib.hid hIN
 have hl1 : 1 ≤ l.length := hIN.2.2.2.2.1
 have hl9 : l.length ≤ 9 := hIN.2.2.2.2.2.1
 have hs1 := hg1.size
 have hs2 := hbx.out.size
 clear hIN
 obtain ⟨NM, hNM⟩ : ∃ N, N = w1.heap.size := ⟨_, rfl⟩
 obtain ⟨W, hW⟩ : ∃ y : World, y = w1.alloc (.cells #[.int .i64 u, .int .i64 lo, .slice A l.length c] 42) := ⟨_, rfl⟩
 have hRg : w.heap.size ≠ g := by omega
 have hgl : g < NM := by have := hc1.lt; omega
 have hNg : NM ≠ g := by omega
 have hNR : NM ≠ w.heap.size := by omega
 have BN1 := Lib.hid (show Blk W NM 42 #[.int .i64 u, .int .i64 lo, .slice A l.length c] by rw [hW]; exact Blk.born w1 _ 42 (H := NM) hNM)
 have BR1 := Lib.hid (show Blk W w.heap.size 42 #[.int .i64 0, .int .i64 0, .slice none 0 0] by rw [hW]; exact (BR0.out.gr hg1 hRg).al _)
 have HR1 := Lib.hid (show W.ownsRow (g + 1) 54 2 (.slice A l.length c) l.length (rowsV2 l) by rw [hW]; exact (own_base hr1 (by rw [HGE.out]; simp <;> omega)).alloc _)
 have HC1 := Lib.hid (show CurAt W g a1 by rw [hW]; exact hc1.ext (ext_alloc (ext_refl _) _))
 have HG1 := Lib.hid (show Gr g w W by rw [hW]; exact ((Gr.of_ext hbx.out).trans hg1).trans (Gr.alloc _ _ _))
 go_upto_region 3 with fail
 rw [← hNM, ← hW]
 clear hNM hW hr1 hc1 hg1 hs1 hs2 HC BR0 hbx HGE
 obtain ⟨b0, b1, b2⟩ := BN1.out.q3
 have lb := BN1.out.lt
 go_wp2_with fail
 refine (one_any g a1 2 _ HC1.out (by omega) (by omega) (by omega)).mono ?_
 rintro e w2 ⟨B, a2, rfl, ha2, hc, hg⟩
 have HC2 := Lib.hid hc
 have HG2 := Lib.hid (HG1.out.trans hg)
 have BN2 := Lib.hid (BN1.out.gr hg hNg)
 have BR2 := Lib.hid (BR1.out.gr hg hRg)
 have HR2 := Lib.hid (own_gr HR1.out hg (Nat.lt_succ_self g))
 clear hc hg HC1 HG1 BN1 BR1 HR1
 clear b0 b1 b2 lb
 go_upto_if 13 with fail
 go_cut [] (fun wx => ∃ (u' lo' : Int) (l' : List R2) (A' : Option Addr) (c' a' : Nat), Hid (FrIn u' lo' l') ∧ a' ≤ 1000 ∧ Hid (CurAt wx g a') ∧ Hid (Gr g w wx) ∧ Hid (Blk wx NM 42 #[.int .i64 u', .int .i64 lo', .slice A' l'.length c']) ∧ Hid (Blk wx w.heap.size 42 #[.int .i64 0, .int .i64 0, .slice none 0 0]) ∧ Hid (wx.ownsRow (g + 1) 54 2 (.slice A' l'.length c') l'.length (rowsV2 l')))
 case first =>
  cases B
  · go_wp2_with fail
    go_meet
    exact ⟨u, lo, l, A, c, a2, HIN, by omega, HC2, HG2, BN2, BR2, HR2⟩
  · obtain ⟨b0, b1, b2⟩ := BN2.out.q3
    have lb := BN2.out.lt
    go_wp2_with fail
    refine (among_lit g a2 3 8 [3, 5, 8] 3 _ HC2.out (by omega) (by decide) (by decide) (by decide) _ rfl (by simp)).mono ?_
    rintro e w3 ⟨kz, a3, rfl, k0, k1, ha3, hc, hg⟩
    have HC3 := Lib.hid hc
    have HG3 := Lib.hid (HG2.out.trans hg)
    have BN3 := Lib.hid (BN2.out.gr hg hNg)
    have BR3 := Lib.hid (BR2.out.gr hg hRg)
    have HR3 := Lib.hid (own_gr HR2.out hg (Nat.lt_succ_self g))
    clear hc hg HC2 HG2 BN2 BR2 HR2
    clear b0 b1 b2 lb
    obtain ⟨b0, b1, b2⟩ := BN3.out.q3
    have lb := BN3.out.lt
    obtain ⟨k, rfl⟩ := Int.eq_ofNat_of_zero_le (show 0 ≤ kz by omega)
    go_wp2_with fail
    refine (among_lit g a3 0 100 [0, 5, 100] 3 _ HC3.out (by omega) (by decide) (by decide) (by decide) _ rfl (by simp)).mono ?_
    rintro e w4 ⟨z, a4, rfl, z0, z1, ha4, hc, hg⟩
    have HC4 := Lib.hid hc
    have HG4 := Lib.hid (HG3.out.trans hg)
    have BN4 := Lib.hid (BN3.out.gr hg hNg)
    have BR4 := Lib.hid (BR3.out.gr hg hRg)
    have HR4 := Lib.hid (own_gr HR3.out hg (Nat.lt_succ_self g))
    clear hc hg HC3 HG3 BN3 BR3 HR3
    clear b0 b1 b2 lb
    obtain ⟨b0, b1, b2⟩ := BN4.out.q3
    obtain ⟨f0, f1, f2⟩ := BN4.out.z3
    have lb := BN4.out.lt
    have HZ := Lib.hid (for_in8 k z (by omega) (by omega))
    go_wp2_with fail
    refine (l2For_any 1 4 k z _ (by omega) (by omega) (by omega) (by omega)).mono ?_
    rintro e w5 ⟨A5, c5, rfl, ho, hb⟩
    have hs := HC4.out.lt
    have BN5 := Lib.hid (BN4.out.ext hb)
    have BR5 := Lib.hid (BR4.out.ext hb)
    have HC5 := Lib.hid (HC4.out.ext hb)
    have HG5 := Lib.hid (HG4.out.trans (Gr.of_ext hb))
    have HR5 := Lib.hid (own_base (base' := g + 1) ho hs)
    clear b0 b1 b2 f0 f1 f2 lb ho hb HC4 HG4 BN4 BR4 HR4
    obtain ⟨b0, b1, b2⟩ := BN5.out.q3
    obtain ⟨f0, f1, f2⟩ := BN5.out.z3
    have lb := BN5.out.lt
    have hgN : g < NM := hgl
    have hwN : w.heap.size ≤ NM := by omega
    have hNR2 : NM ≠ w.heap.size := hNR
    go_wp2_with fail
    go_meet
    exact ⟨1, 4, forL k z k, A5, c5, a4, HZ, by omega, Lib.hid (((HC5.out.far (p := ⟨NM, 0, none⟩) hgN _).far (p := ⟨NM, 1, none⟩) hgN _).far (p := ⟨NM, 2, none⟩) hgN _), Lib.hid (fill_gr HG5.out hwN), Lib.hid (fr_put BN5.out), Lib.hid (fill_far BR5.out (by omega)), Lib.hid (fill_own' HR5.out (own_nbT HR5.out BN5.out (by decide)))⟩
 case rest =>
  clear HC2 HG2 BN2 BR2 HR2 HIN ha1 ha2 hl1 hl9
  clear l
  obtain ⟨u, lo, l, A, c, a1, HIN, ha1, HC1, HG1, BN1, BR1, HR1⟩ := hcut
  have hl1 : 1 ≤ l.length := HIN.out.2.2.2.2.1
  have hl9 : l.length ≤ 9 := HIN.out.2.2.2.2.2.1
  obtain ⟨W, hW⟩ : ∃ y : World, y = wc := ⟨_, rfl⟩
  subst hW
  go_upto_region 5 with fail
  obtain ⟨m0, m1, m2⟩ := BN1.out.q3
  have lm := BN1.out.lt
  have hlR := BR1.out.lt
  refine wp_region_m (by kernel_rfl) (by kernel_rfl) [3, 4, 21, 22, 23, 24, 25] TmQU (by kernel_rfl) (by decide) 26 (by kernel_rfl) (by simp) (fun ra0 => ra0.eval (.tmp 2) = .pointer (some ⟨w.heap.size, 0, none⟩) ∧ ra0.eval (.tmp 5) = .pointer (some ⟨g, 0, none⟩) ∧ ra0.eval (.tmp 6) = .pointer (some ⟨NM, 0, none⟩)) ⟨by kernel_rfl, by kernel_rfl, by kernel_rfl⟩ TmQP (by kernel_rfl) (ICur 60 g a1 w W 5 5 (fun wx => Blk wx w.heap.size 42 #[.int .i64 0, .int .i64 0, .slice none 0 0])) (TmQR g w.heap.size u lo A c l) (fun jN vs wx => TmQ (g + 1) g w.heap.size u lo A c l vs wx jN) ⟨a1, by omega, (HC1.out).ext (ext_drew (ext_refl _)), (HG1.out).trans (Gr.of_ext (ext_drew (ext_refl _))), Nat.le_refl _, fun _ => Gr.of_ext (ext_drew (ext_refl _)), fun _ => BR1.out⟩ (fun _ _ _ _ _ _ h0 hd h1 h2 h3 => TmQ_keep (Nat.lt_succ_self g) h0 hd h1 h2 h3) ?_ ?_
  · intro ra0 hE ri ro ho Qx vs wx rb KX kk rL hI hkk hnl hLt hcl hdep rb0 rbk HK
    repeat (rename_i hz9; clear hz9)
    obtain ⟨rq2, rq5, rq6⟩ := hE
    have hi : ri < 8 := by
     rcases Nat.lt_or_ge ri 8 with h | h
     · exact h
     · rw [Array.getElem?_eq_none (by simpa using h)] at ho; cases ho
    have hkk : kk < 8 := by simpa using hkk
    obtain ⟨ax, hax, hcx, hGw, hsz, hpre, hBx⟩ := hI
    have HQ : ∀ w' a2, CurAt w' g a2 → a2 ≤ ax + 60 → Gr g wx w' → ICur 60 g a1 w W 5 5 (fun wx => Blk wx w.heap.size 42 #[.int .i64 0, .int .i64 0, .slice none 0 0]) (kk + 1) (fun j => j = ri ∨ rL j) w' := fun w' a2 h1 h2 h3 => ⟨a2, by omega, h1, hGw.trans h3, Nat.le_trans hsz h3.size, fun hn => (hpre (fun x => hn (.inr x))).trans h3, fun hn => (fun hB => hB.gr h3 hRg) (hBx (fun x => hn (.inr x)))⟩
    have HQX := Lib.hid HQ
    have HCX := Lib.hid hcx
    have HGW := Lib.hid hGw
    have HPRE := Lib.hid hpre
    have HBX := Lib.hid hBx
    have HCL := Lib.hid hcl
    clear HQ hcx hGw hpre hBx hcl
    rcases (show ri = 0 ∨ ri = 1 ∨ ri = 2 ∨ ri = 3 ∨ ri = 4 ∨ ri = 5 ∨ ri = 6 ∨ ri = 7 by omega) with rfl | rfl | rfl | rfl | rfl | rfl | rfl | rfl
    · simp only [List.getElem?_toArray, List.getElem?_cons_succ, List.getElem?_cons_zero, Option.some.injEq] at ho
      subst ho
      have HKX := Lib.hid HK
      clear HK
      have p6 := (rb0 6 (by decide)).trans rq6
      have hNL : ¬ rL 5 := fun h => hnl (HCL.out 5 _ 0 rfl h (by kernel_rfl))
      have HGP := Lib.hid (HPRE.out hNL)
      obtain ⟨x0, x1, x2⟩ := (BN1.out.gr HGP.out hNg).q3
      have lnx := (BN1.out.gr HGP.out hNg).lt
      clear rb0 rbk hdep
      go_simp
      exact HKX.out _ _ (HQX.out _ ax HCX.out (by omega) (Gr.refl _ _)) (by unfold TmQR; rw [if_neg (by decide)]; exact Gr.refl _ _) (upd_same _ _ _)
    · simp only [List.getElem?_toArray, List.getElem?_cons_succ, List.getElem?_cons_zero, Option.some.injEq] at ho
      subst ho
      have HKX := Lib.hid HK
      clear HK
      have p5 := (rb0 5 (by decide)).trans rq5
      clear rb0 rbk hdep
      go_simp
      exact HKX.out _ _ (HQX.out _ ax HCX.out (by omega) (Gr.refl _ _)) (by unfold TmQR; rw [if_neg (by decide)]; exact Gr.refl _ _) (upd_same _ _ _)
    · simp only [List.getElem?_toArray, List.getElem?_cons_succ, List.getElem?_cons_zero, Option.some.injEq] at ho
      subst ho
      have HKX := Lib.hid HK
      clear HK
      have e1 : vs 22 = .pointer (some ⟨g, 0, none⟩) := (hdep 1 (by kernel_rfl)).2
      have rr1 := (rbk 22 (by decide)).trans e1
      have E1 := Lib.hid e1
      clear e1
      clear rb0 rbk hdep
      go_simp
      refine (factor_any g ax _ HCX.out (by omega)).mono ?_
      rintro e w' ⟨x, a2, rfl, nF0, nF1, ha2, hc2, hg2⟩
      go_simp
      exact HKX.out _ _ (HQX.out _ a2 hc2 (by omega) hg2) (by unfold TmQR; rw [if_neg (by decide)]; exact hg2) (⟨x, upd_same _ _ _, nF0, nF1⟩)
    · simp only [List.getElem?_toArray, List.getElem?_cons_succ, List.getElem?_cons_zero, Option.some.injEq] at ho
      subst ho
      have HKX := Lib.hid HK
      clear HK
      have p5 := (rb0 5 (by decide)).trans rq5
      clear rb0 rbk hdep
      go_simp
      exact HKX.out _ _ (HQX.out _ ax HCX.out (by omega) (Gr.refl _ _)) (by unfold TmQR; rw [if_neg (by decide)]; exact Gr.refl _ _) (upd_same _ _ _)
    · simp only [List.getElem?_toArray, List.getElem?_cons_succ, List.getElem?_cons_zero, Option.some.injEq] at ho
      subst ho
      have HKX := Lib.hid HK
      clear HK
      have e3 : vs 24 = .pointer (some ⟨g, 0, none⟩) := (hdep 3 (by kernel_rfl)).2
      have rr3 := (rbk 24 (by decide)).trans e3
      have E3 := Lib.hid e3
      clear e3
      obtain ⟨x, e2, k2_0, k2_1⟩ := (hdep 2 (by kernel_rfl)).2
      have rr2 := (rbk 23 (by decide)).trans e2
      have E2 := Lib.hid e2
      clear e2
      clear rb0 rbk hdep
      go_simp
      refine (factor_any g ax _ HCX.out (by omega)).mono ?_
      rintro e w' ⟨y, a2, rfl, nF0, nF1, ha2, hc2, hg2⟩
      go_simp
      exact HKX.out _ _ (HQX.out _ a2 hc2 (by omega) hg2) (by unfold TmQR; rw [if_neg (by decide)]; exact hg2) (⟨y, upd_same _ _ _, nF0, nF1⟩)
    · simp only [List.getElem?_toArray, List.getElem?_cons_succ, List.getElem?_cons_zero, Option.some.injEq] at ho
      subst ho
      have HKX := Lib.hid HK
      clear HK
      have e0 : vs 21 = frV u lo A l.length c := (hdep 0 (by kernel_rfl)).2
      have rr0 := (rbk 21 (by decide)).trans e0
      have E0 := Lib.hid e0
      clear e0
      obtain ⟨y, e4, k4_0, k4_1⟩ := (hdep 4 (by kernel_rfl)).2
      have rr4 := (rbk 25 (by decide)).trans e4
      have E4 := Lib.hid e4
      clear e4
      have p2 := (rb0 2 (by decide)).trans rq2
      have hNL : ¬ rL 5 := hnl
      have HGP := Lib.hid (HPRE.out hNL)
      obtain ⟨x0, x1, x2⟩ := (BN1.out.gr HGP.out hNg).q3
      have lnx := (BN1.out.gr HGP.out hNg).lt
      have HBF := Lib.hid (HBX.out hnl)
      have HRo := Lib.hid (own_gr HR1.out HGP.out (Nat.lt_succ_self g))
      clear x0 x1 x2 lnx
      obtain ⟨yB0, yB1, yB2⟩ := HBF.out.q3
      obtain ⟨zB0, zB1, zB2⟩ := HBF.out.z3
      have hlr := HBF.out.lt
      clear rb0 rbk hdep
      go_simp
      have HKW := Lib.hid (keep3 (a0 := .int .i64 u) (a1 := .int .i64 lo) (a2 := .slice A l.length c) HBF.out)
      exact HKX.out undef _ ⟨ax, by omega, side3 HCX.out HBF.out hRg (by simp [noU8]) rfl rfl, fill_gr HGW.out (Nat.le_refl _), by simpa using hsz, fun hn => (hn (.inl rfl)).elim, fun hn => (hn (.inl rfl)).elim⟩ (by unfold TmQR; rw [if_pos rfl]; exact HKW.out) ⟨HKW.out.own HRo.out (by decide), fr_put HBF.out, by omega⟩
    · simp only [List.getElem?_toArray, List.getElem?_cons_succ, List.getElem?_cons_zero, Option.some.injEq] at ho
      subst ho
      have HKX := Lib.hid HK
      clear HK
      obtain ⟨x, e2, k2_0, k2_1⟩ := (hdep 2 (by kernel_rfl)).2
      have rr2 := (rbk 23 (by decide)).trans e2
      have E2 := Lib.hid e2
      clear e2
      clear rb0 rbk hdep
      go_simp
      exact HKX.out _ _ (HQX.out _ ax HCX.out (by omega) (Gr.refl _ _)) (by unfold TmQR; rw [if_neg (by decide)]; exact Gr.refl _ _) (⟨x, upd_same _ _ _, k2_0, k2_1⟩)
    · simp only [List.getElem?_toArray, List.getElem?_cons_succ, List.getElem?_cons_zero, Option.some.injEq] at ho
      subst ho
      have HKX := Lib.hid HK
      clear HK
      obtain ⟨y, e4, k4_0, k4_1⟩ := (hdep 4 (by kernel_rfl)).2
      have rr4 := (rbk 25 (by decide)).trans e4
      have E4 := Lib.hid e4
      clear e4
      clear rb0 rbk hdep
      go_simp
      exact HKX.out _ _ (HQX.out _ ax HCX.out (by omega) (Gr.refl _ _)) (by unfold TmQR; rw [if_neg (by decide)]; exact Gr.refl _ _) (⟨y, upd_same _ _ _, k4_0, k4_1⟩)
  intro vs wx kk rL hI hkk hLt hall
  obtain ⟨_, hr2, hB2, _⟩ := hall 5 (by decide)
  obtain ⟨_, x, ev6, pf6_0, pf6_1⟩ := hall 6 (by decide)
  obtain ⟨_, y, ev7, pf7_0, pf7_1⟩ := hall 7 (by decide)
  obtain ⟨_, _, _, hg2, _, _, _⟩ := hI
  have BR2 := Lib.hid hB2
  have HB2 := Lib.hid (hg2)
  have HR2 := Lib.hid (own_base (base' := w.heap.size) hr2 (by omega))
  clear hLt hall hr2 hB2 hg2 m0 m1 m2 lm
  obtain ⟨r0, r1, r2⟩ := BR2.out.q3
  have lr := BR2.out.lt
  simp only [sl]
  rw [ev6, ev7]
  clear ev6 ev7
  simp only [Act.put, List.setIfInBounds_toArray, List.set_cons_succ, List.set_cons_zero]
  go_wp2
  refine bodyPost_ret (v := .tuple #[frV u lo A l.length c, .int .i64 x, .int .i64 y]) (by simp [results, Try.results20, go_sem, *]) rfl ?_
  exact ⟨u, lo, l, A, c, x, y, rfl, HIN.out, pf6_0, pf6_1, pf7_0, pf7_1, HR2.out, Gr.below (ext_refl w) HB2.out (by omega)⟩

end Go.Proofs.Ytfechhacmkajdaa
