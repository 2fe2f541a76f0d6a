/- The drawings of the law FnCarries. -/
import Derived.Deep.CutBlock
import Derived.Test.YtajdmeajkgdioaaVAdB
namespace Go.Proofs.Ytajdmeajkgdioaa
open Go.RowKit
set_option linter.unusedVariables false
set_option linter.unusedSimpArgs false
theorem cur0A {w : World} {n : Nat} {A : Option Addr} (h : Code w w.heap.size A n) (hn : n ≤ 65536) (c : Nat) : CurAt (w.alloc (.cells #[.slice A n c, .int .i64 0, .int .u64 0] 59)) w.heap.size 0 := h.cur (by omega) c
set_option maxRecDepth 100000 in
set_option maxHeartbeats 4000000 in
theorem drawCarriesOf_any (Ac : Option Addr) (nc cc : Nat) (w : World) (h : Code w w.heap.size Ac nc) (hn : nc ≤ 65536) :
 Calls Try.prog 35 #[.slice Ac nc cc] w (DrawAddNumber w) := by
 have hbx := Lib.hid (ext_alloc (ext_refl w) (.cells #[.int .i64 0, .int .i64 0, .slice none 0 0] 26))
 have BR0 := Lib.hid (Blk.born w #[.int .i64 0, .int .i64 0, .slice none 0 0] 26 (H := w.heap.size) rfl)
 have HC := Lib.hid ((h.below hbx.out).more hbx.out.size)
 clear h
 go_enter Try.func35, Try.ntmps35
 go_wp2_with fail
 refine (drawAddNumber_any Ac nc cc _ HC.out hn).mono ?_
 rintro e w1 ⟨u, lo, l, A, c, z, rfl, hIN, pf0, pf1, ho1, hb1⟩
 have BR1 := Lib.hid (BR0.out.ext hb1)
 have HR1 := Lib.hid (own_base (base' := w.heap.size) ho1 (by simp <;> omega))
 have HB1 := Lib.hid (ext_trans hbx.out hb1)
 have HIN := Lib.hid hIN
 clear ho1 hb1 hIN
 obtain ⟨r0, r1, r2⟩ := BR1.out.q3
 obtain ⟨y0, y1, y2⟩ := BR1.out.z3
 have lr := BR1.out.lt
 go_wp2
 refine bodyPost_ret (v := .tuple #[frV u lo A l.length c, .int .i64 z]) (by simp [results, Try.results35, go_sem, *]) rfl ?_
 exact ⟨u, lo, l, A, c, z, rfl, HIN.out, pf0, pf1, fill_own' HR1.out (own_nbT HR1.out BR1.out (by decide)), fill_below HB1.out (Nat.le_refl _)⟩
set_option maxRecDepth 100000 in
set_option maxHeartbeats 4000000 in
theorem drawKindOfAdd_any (Ac : Option Addr) (nc cc : Nat) (w : World) (h : Code w w.heap.size Ac nc) (hn : nc ≤ 65536) :
 Calls Try.prog 46 #[.slice Ac nc cc] w fun e w' => ∃ v d : Int, e = .returned (.tuple #[.int .i64 v, .int .i64 d]) ∧ Below w.heap.size w w' := by
 have HC0 := Lib.hid (cur0A h hn cc)
 have hbx := Lib.hid (ext_alloc (ext_refl w) (.cells #[.slice Ac nc cc, .int .i64 0, .int .u64 0] 59))
 clear h
 go_enter Try.func46, Try.ntmps46
 go_wp2_with fail
 refine (pick_any _ 0 11 _ HC0.out (by omega) (by omega) (by omega)).mono ?_
 rintro e w1 ⟨v, a1, rfl, v0, v1, ha1, hc1, hg1⟩
 have HC1 := Lib.hid hc1
 have HB1 := Lib.hid (Gr.below hbx.out hg1 (Nat.le_refl _))
 clear hc1 hg1
 go_wp2_with fail
 refine (pick_any _ a1 17 _ HC1.out (by omega) (by omega) (by omega)).mono ?_
 rintro e w2 ⟨x, a2, rfl, x0, x1, ha2, hc2, hg2⟩
 have HC2 := Lib.hid hc2
 have HB2 := Lib.hid (Gr.below HB1.out hg2 (Nat.le_refl _))
 clear hc2 hg2
 have hx : 0 ≤ x / 16 ∧ x / 16 ≤ 1 := by omega
 have htd : x.tdiv 16 = x / 16 := Int.tdiv_eq_ediv_of_nonneg x0
 go_wp2_with fail
 refine (pick_any _ a2 11 _ HC2.out (by omega) (by omega) (by omega)).mono ?_
 rintro e w3 ⟨d, a3, rfl, d0, d1, ha3, hc3, hg3⟩
 have HB3 := Lib.hid (Gr.below HB2.out hg3 (Nat.le_refl _))
 clear hc3 hg3
 go_wp2
 go_ret2
 exact ⟨_, _, rfl, HB3.out⟩
def AdL (S g : Nat) (R0 : Nat) (u lo : Int) (A : Option Addr) (c : Nat) (l : List R2) (vs : Nat → Value) (wx : World) : Nat → Prop
 | 0 => vs 29 = frV u lo A l.length c
 | 1 => vs 30 = .pointer (some ⟨g, 0, none⟩)
 | 2 => vs 31 = frV u lo A l.length c
 | 3 => ∃ (z : Int), vs 32 = .int .i64 z ∧ (-1 ≤ z) ∧ (z ≤ 9)
 | 4 => (wx.ownsRow S 87 2 (.slice A l.length c) l.length (rowsV2 l)) ∧ (Blk wx R0 26 #[.int .i64 u, .int .i64 lo, .slice A l.length c]) ∧ (R0 < g)
 | 5 => ∃ (z : Int), vs 3 = .int .i64 z ∧ (-1 ≤ z) ∧ (z ≤ 9)
 | _ => True
def AdLU : Nat → List Nat
 | 0 => [29]
 | 1 => [30]
 | 2 => [31]
 | 3 => [32]
 | 4 => []
 | 5 => [3]
 | _ => []
def AdLR (g : Nat) (R0 : Nat) (u lo : Int) (A : Option Addr) (c : Nat) (l : List R2) (i : Nat) (wx wy : World) : Prop := if i = 4 then KeepW 26 wx wy else Gr g wx wy
theorem AdL_gr {S g : Nat} {R0 : Nat} {u lo : Int} {A : Option Addr} {c : Nat} {l : List R2} (hgS : g < S) {vs us : Nat → Value} {wx wy : World} {jN : Nat} (hGG : AdL S g R0 u lo A c l vs wx jN) (haG : ∀ d ∈ AdLU jN, us d = vs d) (hbG : Gr g wx wy) : AdL S g R0 u lo A c l us wy jN := by
 match jN, hGG, haG with
 | 0, hGG, haG =>
   exact (haG 29 (by simp [AdLU])).trans hGG
 | 1, hGG, haG =>
   exact (haG 30 (by simp [AdLU])).trans hGG
 | 2, hGG, haG =>
   exact (haG 31 (by simp [AdLU])).trans hGG
 | 3, hGG, haG =>
   obtain ⟨xG0, eG, fG0, fG1⟩ := hGG
   exact ⟨xG0, (haG 32 (by simp [AdLU])).trans eG, fG0, fG1⟩
 | 4, hGG, haG =>
   obtain ⟨fG0, fG1, fG2⟩ := hGG
   exact ⟨own_gr fG0 hbG hgS, fG1.gr hbG (by omega), fG2⟩
 | 5, hGG, haG =>
   obtain ⟨xG0, eG, fG0, fG1⟩ := hGG
   exact ⟨xG0, (haG 3 (by simp [AdLU])).trans eG, fG0, fG1⟩
 | jN + 6, _, _ => trivial
theorem AdL_4 {S g : Nat} {R0 : Nat} {u lo : Int} {A : Option Addr} {c : Nat} {l : List R2} (hgS : g < S) {vs us : Nat → Value} {wx wy : World} {jN : Nat} (hneG : jN ≠ 4) (hGG : AdL S g R0 u lo A c l vs wx jN) (haG : ∀ d ∈ AdLU jN, us d = vs d) (hbG : KeepW 26 wx wy) : AdL S g R0 u lo A c l us wy jN := by
 match jN, hGG, haG, hneG with
 | 0, hGG, haG, hneG =>
   exact (haG 29 (by simp [AdLU])).trans hGG
 | 1, hGG, haG, hneG =>
   exact (haG 30 (by simp [AdLU])).trans hGG
 | 2, hGG, haG, hneG =>
   exact (haG 31 (by simp [AdLU])).trans hGG
 | 3, hGG, haG, hneG =>
   obtain ⟨xG0, eG, fG0, fG1⟩ := hGG
   exact ⟨xG0, (haG 32 (by simp [AdLU])).trans eG, fG0, fG1⟩
 | 4, hGG, haG, hneG =>
   exact absurd rfl hneG
 | 5, hGG, haG, hneG =>
   obtain ⟨xG0, eG, fG0, fG1⟩ := hGG
   exact ⟨xG0, (haG 3 (by simp [AdLU])).trans eG, fG0, fG1⟩
 | jN + 6, _, _, _ => trivial
def AdLP (j i : Nat) : Bool := false
theorem AdL_keep {S g : Nat} {R0 : Nat} {u lo : Int} {A : Option Addr} {c : Nat} {l : List R2} (hgS : g < S) {vs us : Nat → Value} {wx wy : World} {iN jN : Nat} (hneG : iN ≠ jN) (hdpG : AdLP jN iN = false) (hGG : AdL S g R0 u lo A c l vs wx jN) (haG : ∀ d ∈ AdLU jN, us d = vs d) (hbG : AdLR g R0 u lo A c l iN wx wy) : AdL S g R0 u lo A c l us wy jN := by
 unfold AdLR at hbG
 by_cases h4 : iN = 4
 · rw [if_pos h4] at hbG
   exact AdL_4 hgS (by omega) hGG haG hbG
 rw [if_neg h4] at hbG
 exact AdL_gr hgS hGG haG hbG
def DrawLongestCarry (w : World) (e : Ending) (w' : World) : Prop := ∃ (u lo : Int) (l : List R2) (A : Option Addr) (c : Nat) (z : Int), e = .returned (.tuple #[frV u lo A l.length c, .int .i64 z]) ∧ FrIn u lo l ∧ (-1 ≤ z) ∧ (z ≤ 9) ∧ w'.ownsRow w.heap.size 87 2 (.slice A l.length c) l.length (rowsV2 l) ∧ Below w.heap.size w w'
set_option maxRecDepth 100000 in
set_option maxHeartbeats 8000000 in
theorem drawLongestCarry_any (Ac : Option Addr) (nc cc : Nat) (w : World) (h : Code w w.heap.size Ac nc) (hn : nc ≤ 65536) :
 Calls Try.prog 42 #[.slice Ac nc cc] w (DrawLongestCarry w) := by
 have HC := Lib.hid (h.cur1 (by omega) cc (.cells #[.int .i64 0, .int .i64 0, .slice none 0 0] 26))
 have BR0 := Lib.hid ((Blk.born w #[.int .i64 0, .int .i64 0, .slice none 0 0] 26 (H := w.heap.size) rfl).al (.cells #[.slice Ac nc cc, .int .i64 0, .int .u64 0] 59))
 have hbx := Lib.hid (ext_alloc (ext_alloc (ext_refl w) (.cells #[.int .i64 0, .int .i64 0, .slice none 0 0] 26)) (.cells #[.slice Ac nc cc, .int .i64 0, .int .u64 0] 59))
 obtain ⟨g, hg⟩ : ∃ g, g = w.heap.size + 1 := ⟨_, rfl⟩
 rw [← hg] at HC
 have hwg : w.heap.size < g := by omega
 clear h
 go_enter Try.func42, Try.ntmps42
 go_wp2_with fail
 rw [← hg]
 have HGE := Lib.hid hg
 clear hg
 refine (stdFrame_any g 0 _ HC.out (by omega)).mono ?_
 rintro e w1 ⟨u, lo, l, A, c, a1, rfl, hIN, ha1, hr1, hc1, hg1⟩
 have HIN := Lib.hid hIN
 have hl1 : 1 ≤ l.length := hIN.2.2.2.2.1
 have hl9 : l.length ≤ 9 := hIN.2.2.2.2.2.1
 have hs1 := hg1.size
 have hs2 := hbx.out.size
 clear hIN
 obtain ⟨NM, hNM⟩ : ∃ N, N = w1.heap.size := ⟨_, rfl⟩
 obtain ⟨W, hW⟩ : ∃ y : World, y = w1.alloc (.cells #[.int .i64 u, .int .i64 lo, .slice A l.length c] 26) := ⟨_, rfl⟩
 have hRg : w.heap.size ≠ g := by omega
 have hgl : g < NM := by have := hc1.lt; omega
 have hNg : NM ≠ g := by omega
 have hNR : NM ≠ w.heap.size := by omega
 have BN1 := Lib.hid (show Blk W NM 26 #[.int .i64 u, .int .i64 lo, .slice A l.length c] by rw [hW]; exact Blk.born w1 _ 26 (H := NM) hNM)
 have BR1 := Lib.hid (show Blk W w.heap.size 26 #[.int .i64 0, .int .i64 0, .slice none 0 0] by rw [hW]; exact (BR0.out.gr hg1 hRg).al _)
 have HR1 := Lib.hid (show W.ownsRow (g + 1) 87 2 (.slice A l.length c) l.length (rowsV2 l) by rw [hW]; exact (own_base hr1 (by rw [HGE.out]; simp <;> omega)).alloc _)
 have HC1 := Lib.hid (show CurAt W g a1 by rw [hW]; exact hc1.ext (ext_alloc (ext_refl _) _))
 have HG1 := Lib.hid (show Gr g w W by rw [hW]; exact ((Gr.of_ext hbx.out).trans hg1).trans (Gr.alloc _ _ _))
 go_upto_region 3 with fail
 rw [← hNM, ← hW]
 clear hNM hW hr1 hc1 hg1 hs1 hs2 HC BR0 hbx HGE
 obtain ⟨b0, b1, b2⟩ := BN1.out.q3
 have lb := BN1.out.lt
 have HC1 := HC1
 go_wp2_with fail
 refine (one_any g a1 2 _ HC1.out (by omega) (by omega) (by omega)).mono ?_
 rintro e w2 ⟨B, a2, rfl, ha2, hc2, hg2⟩
 have HC2 := Lib.hid hc2
 have HG2 := Lib.hid (HG1.out.trans hg2)
 have BN2 := Lib.hid (BN1.out.gr hg2 hNg)
 have BR2 := Lib.hid (BR1.out.gr hg2 hRg)
 have HR2 := Lib.hid (own_gr HR1.out hg2 (Nat.lt_succ_self g))
 clear hc2 hg2 HC1 HG1 BN1 BR1 HR1 b0 b1 b2 lb
 obtain ⟨n, hnl⟩ : ∃ n, l.length = n := ⟨_, rfl⟩
 rw [hnl] at BN2 HR2 hl1 hl9
 go_upto_if 13 with fail
 go_cut [] (fun wx => ∃ (l' : List R2) (a' : Nat), Hid (l'.length = n) ∧ Hid (FrIn u lo l') ∧ a' ≤ 1000 ∧ Hid (CurAt wx g a') ∧ Hid (Gr g w wx) ∧ Hid (Blk wx NM 26 #[.int .i64 u, .int .i64 lo, .slice A n c]) ∧ Hid (Blk wx w.heap.size 26 #[.int .i64 0, .int .i64 0, .slice none 0 0]) ∧ Hid (wx.ownsRow (g + 1) 87 2 (.slice A n c) n (rowsV2 l')))
 case first =>
  cases B
  · go_wp2_with fail
    go_meet
    exact ⟨l, a2, Lib.hid hnl, HIN, by omega, HC2, HG2, BN2, BR2, HR2⟩
  · obtain ⟨b0, b1, b2⟩ := BN2.out.q3
    have lb := BN2.out.lt
    go_wp2_with fail
    go_loopw [6] (fun i wr => ∃ (k : Nat) (l' : List R2) (a' : Nat), k ≤ n ∧ i = .int .i64 k ∧ Hid (l'.length = n) ∧ Hid (FrIn u lo l') ∧ a' ≤ a2 + 2 * k ∧ Hid (CurAt wr g a') ∧ Hid (Gr g w wr) ∧ Hid (Blk wr NM 26 #[.int .i64 u, .int .i64 lo, .slice A n c]) ∧ Hid (Blk wr w.heap.size 26 #[.int .i64 0, .int .i64 0, .slice none 0 0]) ∧ Hid (wr.ownsRow (g + 1) 87 2 (.slice A n c) n (rowsV2 l'))) (fun i _ => n - (intOf i).toNat)
    case atStart => exact ⟨0, l, a2, Nat.zero_le _, rfl, Lib.hid hnl, HIN, by omega, HC2, HG2, BN2, BR2, HR2⟩
    case round =>
     clear b0 b1 b2 lb HC2 HG2 BN2 BR2 HR2
     obtain ⟨k, l', a', hk, rfl, HL, HIN', ha', HCr, HGr, BNr, BRr, HRr⟩ := hrel
     obtain ⟨b0, b1, b2⟩ := BNr.out.q3
     have lb := BNr.out.lt
     by_cases hlt : k < n
     · obtain ⟨x, hx⟩ := list_split (l := l') (k := k) (by rw [HL.out]; exact hlt)
       obtain ⟨hh, cp, hA, _, _⟩ := HRr.out.form (by omega)
       injection hA with hA _ hA2
       subst hA hA2
       have k1 : (k : Int) < (n : Int) := by omega
       have k0 : (0 : Int) ≤ (k : Int) := by omega
       have HSET := Lib.hid (rowsV2_set l' k ⟨1, 4⟩ (by rw [HL.out]; exact hlt))
       have HX := Lib.hid hx
       clear hx
       go_wp2_with fail
       refine (one_any g a' 3 _ HCr.out (by omega) (by omega) (by omega)).mono ?_
       rintro e w3 ⟨B3, a3, rfl, ha3, hc3, hg3⟩
       have HC3 := Lib.hid hc3
       have HG3 := Lib.hid (HGr.out.trans hg3)
       have BN3 := Lib.hid (BNr.out.gr hg3 hNg)
       have BR3 := Lib.hid (BRr.out.gr hg3 hRg)
       have HR3 := Lib.hid (own_gr HRr.out hg3 (Nat.lt_succ_self g))
       clear hc3 hg3 HCr HGr BNr BRr HRr b0 b1 b2 lb
       obtain ⟨b0, b1, b2⟩ := BN3.out.q3
       have lb := BN3.out.lt
       obtain ⟨c0, c1, hhl, hge⟩ := rows_cells2 HR3.out HX.out
       have fz0 := own_frozen HR3.out (k * 2)
       have fz1 := own_frozen HR3.out (k * 2 + 1)
       have hneN : hh ≠ NM := fun ee => own_nbT HR3.out BN3.out (by decide) (by rw [ee]; rfl)
       have hneR : hh ≠ w.heap.size := fun ee => own_nbT HR3.out BR3.out (by decide) (by rw [ee]; rfl)
       have hgh : g < hh := by omega
       have hwh : w.heap.size ≤ hh := by omega
       cases B3
       · go_wp2
         go_roundw
         case rel => exact ⟨k + 1, l'.set k ⟨1, 4⟩, a3, by omega, by go_num, Lib.hid (by rw [List.length_set]; exact HL.out), Lib.hid (by
          obtain ⟨f1, f2, f3, f4, f5, f6, f7⟩ := HIN'.out
          refine ⟨f1, f2, f3, f4, by rw [List.length_set]; exact f5, by rw [List.length_set]; exact f6, fun r hr => ?_⟩
          rcases List.mem_or_eq_of_mem_set hr with h | h
          · exact f7 r h
          · subst h; decide), by omega, Lib.hid ((HC3.out.far (p := ⟨hh, k * 2, none⟩) hgh _).far (p := ⟨hh, k * 2 + 1, none⟩) hgh _), Lib.hid ((HG3.out.setNew (p := ⟨hh, k * 2, none⟩) hwh _).setNew (p := ⟨hh, k * 2 + 1, none⟩) hwh _), Lib.hid ((BN3.out.setF (p := ⟨hh, k * 2, none⟩) hneN _).setF (p := ⟨hh, k * 2 + 1, none⟩) hneN _), Lib.hid ((BR3.out.setF (p := ⟨hh, k * 2, none⟩) hneR _).setF (p := ⟨hh, k * 2 + 1, none⟩) hneR _), by rw [HSET.out]; exact Lib.hid ((HR3.out.stored (k * 2) _).1.stored (k * 2 + 1) _).1⟩
         case measure => simp [intOf]; omega
       · go_wp2
         go_roundw
         case rel => exact ⟨k + 1, l', a3, by omega, by go_num, HL, HIN', by omega, HC3, HG3, BN3, BR3, HR3⟩
         case measure => simp [intOf]; omega
     · go_wp2_with fail
       go_meet
       exact ⟨l', a', HL, HIN', by omega, HCr, HGr, BNr, BRr, HRr⟩
 case rest =>
  clear HC2 HG2 BN2 BR2 HR2 hnl HIN ha1 ha2
  clear l
  obtain ⟨l, a1, HL, HIN, ha1, HC1, HG1, BN1, BR1, HR1⟩ := hcut
  obtain ⟨W, hW⟩ : ∃ y : World, y = wc := ⟨_, rfl⟩
  subst hW
  have hL := HL.out
  clear HL
  subst hL
  go_upto_region 9 with fail
  obtain ⟨m0, m1, m2⟩ := BN1.out.q3
  have lm := BN1.out.lt
  have hlR := BR1.out.lt
  refine wp_region_m (by kernel_rfl) (by kernel_rfl) [3, 29, 30, 31, 32] AdLU (by kernel_rfl) (by decide) 33 (by kernel_rfl) (by simp) (fun ra0 => ra0.eval (.tmp 2) = .pointer (some ⟨w.heap.size, 0, none⟩) ∧ ra0.eval (.tmp 4) = .pointer (some ⟨g, 0, none⟩) ∧ ra0.eval (.tmp 5) = .pointer (some ⟨NM, 0, none⟩)) ⟨by kernel_rfl, by kernel_rfl, by kernel_rfl⟩ AdLP (by kernel_rfl) (ICur 60 g a1 w W 4 4 (fun wx => Blk wx w.heap.size 26 #[.int .i64 0, .int .i64 0, .slice none 0 0])) (AdLR g w.heap.size u lo A c l) (fun jN vs wx => AdL (g + 1) g w.heap.size u lo A c l vs wx jN) ⟨a1, by omega, (HC1.out).ext (ext_drew (ext_refl _)), (HG1.out).trans (Gr.of_ext (ext_drew (ext_refl _))), Nat.le_refl _, fun _ => Gr.of_ext (ext_drew (ext_refl _)), fun _ => BR1.out⟩ (fun _ _ _ _ _ _ h0 hd h1 h2 h3 => AdL_keep (Nat.lt_succ_self g) h0 hd h1 h2 h3) ?_ ?_
  · intro ra0 hE ri ro ho Qx vs wx rb KX kk rL hI hkk hnl hLt hcl hdep rb0 rbk HK
    repeat (rename_i hz9; clear hz9)
    obtain ⟨rq2, rq4, rq5⟩ := hE
    have hi : ri < 6 := by
     rcases Nat.lt_or_ge ri 6 with h | h
     · exact h
     · rw [Array.getElem?_eq_none (by simpa using h)] at ho; cases ho
    have hkk : kk < 6 := by simpa using hkk
    obtain ⟨ax, hax, hcx, hGw, hsz, hpre, hBx⟩ := hI
    have HQ : ∀ w' a2, CurAt w' g a2 → a2 ≤ ax + 60 → Gr g wx w' → ICur 60 g a1 w W 4 4 (fun wx => Blk wx w.heap.size 26 #[.int .i64 0, .int .i64 0, .slice none 0 0]) (kk + 1) (fun j => j = ri ∨ rL j) w' := fun w' a2 h1 h2 h3 => ⟨a2, by omega, h1, hGw.trans h3, Nat.le_trans hsz h3.size, fun hn => (hpre (fun x => hn (.inr x))).trans h3, fun hn => (fun hB => hB.gr h3 hRg) (hBx (fun x => hn (.inr x)))⟩
    have HQX := Lib.hid HQ
    have HCX := Lib.hid hcx
    have HGW := Lib.hid hGw
    have HPRE := Lib.hid hpre
    have HBX := Lib.hid hBx
    have HCL := Lib.hid hcl
    clear HQ hcx hGw hpre hBx hcl
    rcases (show ri = 0 ∨ ri = 1 ∨ ri = 2 ∨ ri = 3 ∨ ri = 4 ∨ ri = 5 by omega) with rfl | rfl | rfl | rfl | rfl | rfl
    · simp only [List.getElem?_toArray, List.getElem?_cons_succ, List.getElem?_cons_zero, Option.some.injEq] at ho
      subst ho
      have HKX := Lib.hid HK
      clear HK
      have p5 := (rb0 5 (by decide)).trans rq5
      have hNL : ¬ rL 4 := fun h => hnl (HCL.out 4 _ 0 rfl h (by kernel_rfl))
      have HGP := Lib.hid (HPRE.out hNL)
      obtain ⟨x0, x1, x2⟩ := (BN1.out.gr HGP.out hNg).q3
      have lnx := (BN1.out.gr HGP.out hNg).lt
      clear rb0 rbk hdep
      go_simp
      exact HKX.out _ _ (HQX.out _ ax HCX.out (by omega) (Gr.refl _ _)) (by unfold AdLR; rw [if_neg (by decide)]; exact Gr.refl _ _) (upd_same _ _ _)
    · simp only [List.getElem?_toArray, List.getElem?_cons_succ, List.getElem?_cons_zero, Option.some.injEq] at ho
      subst ho
      have HKX := Lib.hid HK
      clear HK
      have p4 := (rb0 4 (by decide)).trans rq4
      clear rb0 rbk hdep
      go_simp
      exact HKX.out _ _ (HQX.out _ ax HCX.out (by omega) (Gr.refl _ _)) (by unfold AdLR; rw [if_neg (by decide)]; exact Gr.refl _ _) (upd_same _ _ _)
    · simp only [List.getElem?_toArray, List.getElem?_cons_succ, List.getElem?_cons_zero, Option.some.injEq] at ho
      subst ho
      have HKX := Lib.hid HK
      clear HK
      have p5 := (rb0 5 (by decide)).trans rq5
      have hNL : ¬ rL 4 := fun h => hnl (HCL.out 3 _ 2 rfl (HCL.out 4 _ 3 rfl h (by kernel_rfl)) (by kernel_rfl))
      have HGP := Lib.hid (HPRE.out hNL)
      obtain ⟨x0, x1, x2⟩ := (BN1.out.gr HGP.out hNg).q3
      have lnx := (BN1.out.gr HGP.out hNg).lt
      clear rb0 rbk hdep
      go_simp
      exact HKX.out _ _ (HQX.out _ ax HCX.out (by omega) (Gr.refl _ _)) (by unfold AdLR; rw [if_neg (by decide)]; exact Gr.refl _ _) (upd_same _ _ _)
    · simp only [List.getElem?_toArray, List.getElem?_cons_succ, List.getElem?_cons_zero, Option.some.injEq] at ho
      subst ho
      have HKX := Lib.hid HK
      clear HK
      have e1 : vs 30 = .pointer (some ⟨g, 0, none⟩) := (hdep 1 (by kernel_rfl)).2
      have rr1 := (rbk 30 (by decide)).trans e1
      have E1 := Lib.hid e1
      clear e1
      have e2 : vs 31 = frV u lo A l.length c := (hdep 2 (by kernel_rfl)).2
      have rr2 := (rbk 31 (by decide)).trans e2
      have E2 := Lib.hid e2
      clear e2
      have hNL : ¬ rL 4 := fun h => hnl (HCL.out 4 _ 3 rfl h (by kernel_rfl))
      have HGP := Lib.hid (HPRE.out hNL)
      obtain ⟨x0, x1, x2⟩ := (BN1.out.gr HGP.out hNg).q3
      have lnx := (BN1.out.gr HGP.out hNg).lt
      clear rb0 rbk hdep
      go_simp
      refine (crodOf_any g ax (g + 1) u lo A c l _ HCX.out (by omega) (Nat.lt_succ_self g) (own_gr HR1.out HGP.out (Nat.lt_succ_self g)) HIN.out).mono ?_
      rintro e w' ⟨z, a2, rfl, nF0, nF1, ha2, hc2, hg2⟩
      go_simp
      exact HKX.out _ _ (HQX.out _ a2 hc2 (by omega) hg2) (by unfold AdLR; rw [if_neg (by decide)]; exact hg2) (⟨z, upd_same _ _ _, nF0, nF1⟩)
    · simp only [List.getElem?_toArray, List.getElem?_cons_succ, List.getElem?_cons_zero, Option.some.injEq] at ho
      subst ho
      have HKX := Lib.hid HK
      clear HK
      have e0 : vs 29 = frV u lo A l.length c := (hdep 0 (by kernel_rfl)).2
      have rr0 := (rbk 29 (by decide)).trans e0
      have E0 := Lib.hid e0
      clear e0
      obtain ⟨z, e3, k3_0, k3_1⟩ := (hdep 3 (by kernel_rfl)).2
      have rr3 := (rbk 32 (by decide)).trans e3
      have E3 := Lib.hid e3
      clear e3
      have p2 := (rb0 2 (by decide)).trans rq2
      have hNL : ¬ rL 4 := hnl
      have HGP := Lib.hid (HPRE.out hNL)
      obtain ⟨x0, x1, x2⟩ := (BN1.out.gr HGP.out hNg).q3
      have lnx := (BN1.out.gr HGP.out hNg).lt
      have HBF := Lib.hid (HBX.out hnl)
      have HRo := Lib.hid (own_gr HR1.out HGP.out (Nat.lt_succ_self g))
      clear x0 x1 x2 lnx
      obtain ⟨yB0, yB1, yB2⟩ := HBF.out.q3
      obtain ⟨zB0, zB1, zB2⟩ := HBF.out.z3
      have hlr := HBF.out.lt
      clear rb0 rbk hdep
      go_simp
      have HKW := Lib.hid (keep3 (a0 := .int .i64 u) (a1 := .int .i64 lo) (a2 := .slice A l.length c) HBF.out)
      exact HKX.out undef _ ⟨ax, by omega, side3 HCX.out HBF.out hRg (by simp [noU8]) rfl rfl, fill_gr HGW.out (Nat.le_refl _), by simpa using hsz, fun hn => (hn (.inl rfl)).elim, fun hn => (hn (.inl rfl)).elim⟩ (by unfold AdLR; rw [if_pos rfl]; exact HKW.out) ⟨HKW.out.own HRo.out (by decide), fr_put HBF.out, by omega⟩
    · simp only [List.getElem?_toArray, List.getElem?_cons_succ, List.getElem?_cons_zero, Option.some.injEq] at ho
      subst ho
      have HKX := Lib.hid HK
      clear HK
      obtain ⟨z, e3, k3_0, k3_1⟩ := (hdep 3 (by kernel_rfl)).2
      have rr3 := (rbk 32 (by decide)).trans e3
      have E3 := Lib.hid e3
      clear e3
      clear rb0 rbk hdep
      go_simp
      exact HKX.out _ _ (HQX.out _ ax HCX.out (by omega) (Gr.refl _ _)) (by unfold AdLR; rw [if_neg (by decide)]; exact Gr.refl _ _) (⟨z, upd_same _ _ _, k3_0, k3_1⟩)
  intro vs wx kk rL hI hkk hLt hall
  obtain ⟨_, hr2, hB2, _⟩ := hall 4 (by decide)
  obtain ⟨_, z, ev5, pf5_0, pf5_1⟩ := hall 5 (by decide)
  obtain ⟨_, _, _, hg2, _, _, _⟩ := hI
  have BR2 := Lib.hid hB2
  have HB2 := Lib.hid (hg2)
  have HR2 := Lib.hid (own_base (base' := w.heap.size) hr2 (by omega))
  clear hLt hall hr2 hB2 hg2 m0 m1 m2 lm
  obtain ⟨r0, r1, r2⟩ := BR2.out.q3
  have lr := BR2.out.lt
  simp only [sl]
  rw [ev5]
  clear ev5
  simp only [Act.put, List.setIfInBounds_toArray, List.set_cons_succ, List.set_cons_zero]
  go_wp2
  refine bodyPost_ret (v := .tuple #[frV u lo A l.length c, .int .i64 z]) (by simp [results, Try.results42, go_sem, *]) rfl ?_
  exact ⟨u, lo, l, A, c, z, rfl, HIN.out, pf5_0, pf5_1, HR2.out, Gr.below (ext_refl w) HB2.out (by omega)⟩

end Go.Proofs.Ytajdmeajkgdioaa
