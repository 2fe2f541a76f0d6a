/- The drawing of a frame and a number. -/
import Derived.Deep.CutBlock
import Derived.Test.YtmfjaoljeildbaaVFdB
import Derived.Test.YtmfjaoljeildbaaVM1
import Derived.Test.YtmfjaoljeildbaaVAdA
import Derived.Test.YtmfjaoljeildbaaVM4
import Derived.Test.YtmfjaoljeildbaaVM5
namespace Go.Proofs.Ytmfjaoljeildbaa
open Go.RowKit
set_option linter.unusedVariables false
set_option linter.unusedSimpArgs false
def DFrN (w : World) (e : Ending) (w' : World) : Prop := ∃ (u lo : Int) (l : List R2) (A : Option Addr) (c : Nat) (z : Int), e = .returned (.tuple #[frV u lo A l.length c, .int .i64 z]) ∧ FrIn u lo l ∧ -1 ≤ z ∧ z ≤ 200000000 ∧ w'.ownsRow w.heap.size 86 2 (.slice A l.length c) l.length (rowsV2 l) ∧ Below w.heap.size w w'
set_option maxRecDepth 100000 in
set_option maxHeartbeats 8000000 in
theorem shown_any (g a : Nat) (u lo : Int) (A : Option Addr) (n c : Nat) (w : World) (h : CurAt w g a) (ha : a ≤ 400000000000) (hn : 1 ≤ n ∧ n ≤ 9) :
 Calls Try.prog 70 #[.pointer (some ⟨g, 0, none⟩), frV u lo A n c] w (DrawIn g a 410 (-1) 200000000 w) := by
 have hgS := h.lt
 obtain ⟨k8, hk8, HN8⟩ : ∃ k8 : Nat, k8 ≤ 8 ∧ Hid ((if (8 : Int) < (n : Int) then (8 : Int) else (n : Int)) = (k8 : Int)) := by
  by_cases h8 : (8 : Int) < (n : Int)
  · exact ⟨8, by omega, Lib.hid (by rw [if_pos h8]; rfl)⟩
  · exact ⟨n, by omega, Lib.hid (by rw [if_neg h8])⟩
 obtain ⟨W1, hW1⟩ : ∃ y : World, y = w.alloc (.cells #[.int .i64 u, .int .i64 lo, .slice A n c] 26) := ⟨_, rfl⟩
 have BF1 := Lib.hid (show Blk W1 w.heap.size 26 #[.int .i64 u, .int .i64 lo, .slice A n c] by rw [hW1]; exact Blk.born w _ 26 (H := w.heap.size) rfl)
 have HC1 := Lib.hid (show CurAt W1 g a by rw [hW1]; exact h.ext (ext_alloc (ext_refl _) _))
 have HG1 := Lib.hid (show Gr g w W1 by rw [hW1]; exact Gr.alloc _ _ _)
 have hneF : w.heap.size ≠ g := by omega
 clear h
 go_enter Try.func70, Try.ntmps70
 go_upto_region 1 with fail
 rw [← hW1]
 clear hW1
 go_wp2_with fail
 refine (pick_any g a 8 _ HC1.out (by omega) (by omega) (by omega)).mono ?_
 rintro e w2 ⟨z2, a2, rfl, z20, z21, ha2, hc2, hg2⟩
 have BF2 := Lib.hid (BF1.out.gr hg2 hneF)
 have HC2 := Lib.hid hc2
 have HG2 := Lib.hid (HG1.out.trans hg2)
 clear hc2 hg2 BF1 HC1 HG1
 by_cases h0 : z2 = 0
 · subst h0
   go_wp2_with fail
   refine (among_lit g a2 (-1) 200000000 [0, -1, 99999999, 200000000] 3 _ HC2.out (by omega) (by decide) (by decide) (by decide) 4 rfl rfl).mono ?_
   rintro e w3 ⟨z3, a3, rfl, z30, z31, ha3, hc3, hg3⟩
   go_wp2
   go_ret
   exact ⟨z3, a3, rfl, z30, z31, by omega, hc3, HG2.out.trans hg3⟩
 · have h0b : (z2 == 0) = false := by simpa using h0
   by_cases h1 : z2 = 1
   · subst h1
     go_wp2_with fail
     refine (frame_any g a2 _ HC2.out (by omega)).mono ?_
     rintro e w3 ⟨u3, lo3, l3, A3, c3, a3, rfl, hF3, ha3, ho3, hc3, hg3⟩
     have hl9 := hF3.2.2.2.2.2.1
     obtain ⟨N3, hN3⟩ : ∃ o9, l3.length = o9 := ⟨_, rfl⟩
     obtain ⟨NB, hNB⟩ : ∃ o9, w3.heap.size = o9 := ⟨_, rfl⟩
     rw [hN3] at ho3 hl9 ⊢
     obtain ⟨W4, hW4⟩ : ∃ y : World, y = w3.alloc (.cells #[.int .i64 u3, .int .i64 lo3, .slice A3 N3 c3] 26) := ⟨_, rfl⟩
     have BX4 := Lib.hid (show Blk W4 NB 26 #[.int .i64 u3, .int .i64 lo3, .slice A3 N3 c3] by rw [hW4]; exact Blk.born w3 _ 26 hNB.symm)
     have BF4 := Lib.hid (show Blk W4 w.heap.size 26 #[.int .i64 u, .int .i64 lo, .slice A n c] by rw [hW4]; exact (BF2.out.gr hg3 hneF).al _)
     have HC4 := Lib.hid (show CurAt W4 g a3 by rw [hW4]; exact hc3.ext (ext_alloc (ext_refl _) _))
     have HG4 := Lib.hid (show Gr g w W4 by rw [hW4]; exact (HG2.out.trans hg3).trans (Gr.alloc _ _ _))
     have HO4 := Lib.hid (show W4.ownsRow w2.heap.size 86 2 (.slice A3 N3 c3) N3 (rowsV2 l3) by rw [hW4]; exact ho3.alloc _)
     go_upto_region 6 with fail
     rw [← hW4]
     clear hW4 ho3 hc3 hg3 hN3 hNB hF3 BF2 HC2 HG2
     obtain ⟨x0, x1, x2⟩ := BX4.out.q3
     have lX := BX4.out.lt
     go_wp2_with fail
     refine (l2Good_any u3 lo3 A3 N3 c3 l3 _ (by omega) (Reads.of_own HO4.out)).mono ?_
     cases hg9 : frB u3 lo3 l3
     · rintro e w5 ⟨rfl, hb5⟩
       have BF5 := Lib.hid (BF4.out.ext hb5)
       have HC5 := Lib.hid (HC4.out.ext hb5)
       have HG5 := Lib.hid (HG4.out.trans (Gr.of_ext hb5))
       clear hb5 x0 x1 x2 lX hg9 BX4 BF4 HC4 HG4 HO4
       obtain ⟨f0, f1, f2⟩ := BF5.out.q3
       have lF := BF5.out.lt
       go_wp2_with fail
       refine (among_lit g a3 0 1055 [0, 5, 10, 15, 24, 100, 110, 155, 384, 1000, 1055] 3 _ HC5.out (by omega) (by decide) (by decide) (by decide) 11 rfl rfl).mono ?_
       rintro e w9 ⟨z9, a9, rfl, z90, z91, ha9, hc9, hg9⟩
       have BF9 := Lib.hid (BF5.out.gr hg9 (by omega))
       have HC9 := Lib.hid hc9
       have HG9 := Lib.hid (HG5.out.trans hg9)
       clear f0 f1 f2 lF hc9 hg9
       obtain ⟨f0, f1, f2⟩ := BF9.out.q3
       have lF := BF9.out.lt
       go_wp2_with fail
       refine (least_any 8 (n : Int) _).mono ?_
       rw [HN8.out]
       rintro e wL ⟨rfl, hwL⟩
       subst hwL
       go_wp2_with fail
       refine (l2Power_any (k8 : Int) k8 _ rfl hk8).mono ?_
       rintro e wP ⟨rfl, hwP⟩
       subst hwP
       have hp1 := pw_pos k8
       obtain ⟨P, hP⟩ : ∃ o9, pw k8 = o9 := ⟨_, rfl⟩
       rw [hP] at hp1 ⊢
       have hp0 : ¬ P = 0 := by omega
       have hp0b : (P == 0) = false := by simpa using hp0
       have hr0 : 0 ≤ z9.tmod P := Int.tmod_nonneg P z90
       have hr1 : z9.tmod P ≤ 1055 := by
        rw [Int.tmod_eq_emod_of_nonneg z90]
        have h1 := Int.emod_lt_of_pos z9 (show 0 < P by omega)
        by_cases h2 : z9 < P
        · rw [Int.emod_eq_of_lt z90 h2]; omega
        · omega
       obtain ⟨Q, hQ⟩ : ∃ o9, z9.tmod P = o9 := ⟨_, rfl⟩
       rw [hQ] at hr0 hr1
       have hwq : wrap64 Q = Q := by unfold wrap64; omega
       clear hP
       go_wp2
       go_ret
       exact ⟨Q, a9, rfl, by omega, by omega, by omega, HC9.out, HG9.out⟩
     · rintro e w5 ⟨rfl, hb5⟩
       have hl3 := rows_len2 (Reads.of_own HO4.out)
       have hnb := numR_bounds hg9 l3.length
       rw [List.take_of_length_le (Nat.le_refl _)] at hnb
       have HGD := Lib.hid hg9
       have HC5 := Lib.hid (HC4.out.ext hb5)
       have HG5 := Lib.hid (HG4.out.trans (Gr.of_ext hb5))
       have BX5 := Lib.hid (BX4.out.ext hb5)
       have HO5 := Lib.hid (own_ext HO4.out hb5)
       clear hb5 x0 x1 x2 lX hg9 BX4 BF4 HC4 HG4 HO4
       obtain ⟨x0, x1, x2⟩ := BX5.out.q3
       have lX := BX5.out.lt
       go_wp2_with fail
       refine (l2Number_any u3 lo3 A3 N3 c3 l3 _ HGD.out (Reads.of_own HO5.out)).mono ?_
       rintro e w6 ⟨rfl, hb6⟩
       go_wp2
       go_ret
       exact ⟨_, a3, rfl, by omega, by omega, by omega, HC5.out.ext hb6, HG5.out.trans (Gr.of_ext hb6)⟩
   · have h1b : (z2 == 1) = false := by simpa using h1
     obtain ⟨f0, f1, f2⟩ := BF2.out.q3
     have lF := BF2.out.lt
     go_wp2_with fail
     refine (among_lit g a2 0 1055 [0, 5, 10, 15, 24, 100, 110, 155, 384, 1000, 1055] 3 _ HC2.out (by omega) (by decide) (by decide) (by decide) 11 rfl rfl).mono ?_
     rintro e w9 ⟨z9, a9, rfl, z90, z91, ha9, hc9, hg9⟩
     have BF9 := Lib.hid (BF2.out.gr hg9 (by omega))
     have HC9 := Lib.hid hc9
     have HG9 := Lib.hid (HG2.out.trans hg9)
     clear f0 f1 f2 lF hc9 hg9
     obtain ⟨f0, f1, f2⟩ := BF9.out.q3
     have lF := BF9.out.lt
     go_wp2_with fail
     refine (least_any 8 (n : Int) _).mono ?_
     rw [HN8.out]
     rintro e wL ⟨rfl, hwL⟩
     subst hwL
     go_wp2_with fail
     refine (l2Power_any (k8 : Int) k8 _ rfl hk8).mono ?_
     rintro e wP ⟨rfl, hwP⟩
     subst hwP
     have hp1 := pw_pos k8
     obtain ⟨P, hP⟩ : ∃ o9, pw k8 = o9 := ⟨_, rfl⟩
     rw [hP] at hp1 ⊢
     have hp0 : ¬ P = 0 := by omega
     have hp0b : (P == 0) = false := by simpa using hp0
     have hr0 : 0 ≤ z9.tmod P := Int.tmod_nonneg P z90
     have hr1 : z9.tmod P ≤ 1055 := by
      rw [Int.tmod_eq_emod_of_nonneg z90]
      have h1 := Int.emod_lt_of_pos z9 (show 0 < P by omega)
      by_cases h2 : z9 < P
      · rw [Int.emod_eq_of_lt z90 h2]; omega
      · omega
     obtain ⟨Q, hQ⟩ : ∃ o9, z9.tmod P = o9 := ⟨_, rfl⟩
     rw [hQ] at hr0 hr1
     have hwq : wrap64 Q = Q := by unfold wrap64; omega
     clear hP
     go_wp2
     go_ret
     exact ⟨Q, a9, rfl, by omega, by omega, by omega, HC9.out, HG9.out⟩

set_option maxRecDepth 100000 in
set_option maxHeartbeats 8000000 in
theorem drawTargetCount_any (Ac : Option Addr) (nc cc : Nat) (w : World) (h : Code w w.heap.size Ac nc) (hn : nc ≤ 65536) :
 Calls Try.prog 37 #[.slice Ac nc cc] w (DFrN w) := by
 obtain ⟨W0, hW0⟩ : ∃ y9 : World, y9 = (w.alloc (.cells #[.int .i64 0, .int .i64 0, .slice none 0 0] 26)).alloc (.cells #[.slice Ac nc cc, .int .i64 0, .int .u64 0] 72) := ⟨_, rfl⟩
 have hbx := Lib.hid (show Below w.heap.size w W0 by rw [hW0]; exact ext_alloc (ext_alloc (ext_refl w) _) _)
 obtain ⟨g, hg⟩ : ∃ g, g = w.heap.size + 1 := ⟨_, rfl⟩
 have HC := Lib.hid (show CurAt W0 g 0 by rw [hW0, hg]; exact h.cur1 (by omega) cc _)
 have BR0 := Lib.hid (show Blk W0 w.heap.size 26 #[.int .i64 0, .int .i64 0, .slice none 0 0] by rw [hW0]; exact (Blk.born w #[.int .i64 0, .int .i64 0, .slice none 0 0] 26 (H := w.heap.size) rfl).al _)
 have hwg : w.heap.size < g := by omega
 clear h
 go_enter Try.func37, Try.ntmps37
 go_wp2_with fail
 rw [← hW0]
 rw [← hg]
 clear hg hW0
 refine (frame_any g 0 _ HC.out (by omega)).mono ?_
 rintro e w1 ⟨u, lo, l, A, c, a1, rfl, hIN, ha1, hr1, hc1, hg1⟩
 have HIN := Lib.hid hIN
 have hl1 : 1 ≤ l.length := hIN.2.2.2.2.1
 have hl9 : l.length ≤ 9 := hIN.2.2.2.2.2.1
 have hs1 := hg1.size
 have hs2 := hbx.out.size
 clear hIN
 obtain ⟨NM, hNM⟩ : ∃ N, N = w1.heap.size := ⟨_, rfl⟩
 obtain ⟨W, hW⟩ : ∃ y : World, y = w1.alloc (.cells #[.int .i64 u, .int .i64 lo, .slice A l.length c] 26) := ⟨_, rfl⟩
 have hRg : w.heap.size ≠ g := by omega
 have hgl : g < NM := by have := hc1.lt; omega
 have hNg : NM ≠ g := by omega
 have hRN : w.heap.size ≠ NM := by omega
 have BN1 := Lib.hid (show Blk W NM 26 #[.int .i64 u, .int .i64 lo, .slice A l.length c] by rw [hW]; exact Blk.born w1 _ 26 (H := NM) hNM)
 have BR1 := Lib.hid (show Blk W w.heap.size 26 #[.int .i64 0, .int .i64 0, .slice none 0 0] by rw [hW]; exact (BR0.out.gr hg1 hRg).al _)
 have HR1 := Lib.hid (show W.ownsRow (g + 1) 86 2 (.slice A l.length c) l.length (rowsV2 l) by rw [hW]; exact (own_base hr1 HC.out.lt).alloc _)
 have HC1 := Lib.hid (show CurAt W g a1 by rw [hW]; exact hc1.ext (ext_alloc (ext_refl _) _))
 have HG1 := Lib.hid (show Gr g w W by rw [hW]; exact ((Gr.of_ext hbx.out).trans hg1).trans (Gr.alloc _ _ _))
 have HSH := Lib.hid (fun (w : World) h => shown_any g a1 u lo A l.length c w h (by omega) ⟨hl1, hl9⟩)
 unfold DrawIn at HSH
 go_upto_region 3 with fail
 rw [← hNM, ← hW]
 clear hNM hW hr1 hc1 hg1 hs1 hs2 HC BR0 hbx
 obtain ⟨x0, x1, x2⟩ := BN1.out.q3
 have lx := BN1.out.lt
 go_region_held3 (fun w' => w'.cell? ⟨NM, 0, none⟩ = some (.int .i64 u) ∧ w'.cell? ⟨NM, 1, none⟩ = some (.int .i64 lo) ∧ w'.cell? ⟨NM, 2, none⟩ = some (.slice A l.length c)) (first | (go_split_ands; ((repeat' refine And.intro ?_ ?_) <;> with_reducible (repeat (first | assumption | refine cell_drew ?_ | refine cell_set_far hRN ?_))))) (first
  | (go_at_call 70; (with_reducible refine (HSH.out _ ?_).mono ?_); (focus (refine CurAt.ext HC1.out ?_; (repeat (first | (with_reducible exact ext_refl _) | (with_reducible assumption) | (with_reducible refine ext_drew ?_))); done)); rintro e wS ⟨z, a2, rfl, hz0, hz1, ha2, hcS, hgS⟩; refine hv (p := Gr g W wS) ?_ fun hgW => ?_; (focus (refine Gr.trans (Gr.of_ext ?_) hgS; (repeat (first | (with_reducible exact ext_refl _) | (with_reducible assumption) | (with_reducible refine ext_drew ?_))); done)); obtain ⟨x0, x1, x2⟩ := (BN1.out.gr hgW hNg).q3; obtain ⟨y0, y1, y2⟩ := (BR1.out.gr hgW hRg).q3; obtain ⟨r0, r1, r2⟩ := (BR1.out.gr hgW hRg).z3; have lr := (BR1.out.gr hgW hRg).lt))
 all_goals
  go_wp2
  refine bodyPost_ret (v := .tuple #[frV u lo A l.length c, .int .i64 z]) (by simp [results, Try.results37, go_sem, *]) rfl ?_
  exact ⟨u, lo, l, A, c, z, rfl, HIN.out, hz0, hz1, own_base (base' := w.heap.size) (fill_own' (own_gr HR1.out hgW (Nat.lt_succ_self g)) (own_nbT (own_gr HR1.out hgW (Nat.lt_succ_self g)) (BR1.out.gr hgW hRg) (by decide))) (by omega), fill_below (Gr.below (ext_refl w) (HG1.out.trans hgW) (by omega)) (Nat.le_refl _)⟩
set_option maxRecDepth 100000 in
set_option maxHeartbeats 8000000 in
theorem drawNearestTarget_any (Ac : Option Addr) (nc cc : Nat) (w : World) (h : Code w w.heap.size Ac nc) (hn : nc ≤ 65536) :
 Calls Try.prog 6 #[.slice Ac nc cc] w (DFrN w) := by
 obtain ⟨W0, hW0⟩ : ∃ y9 : World, y9 = w.alloc (.cells #[.int .i64 0, .int .i64 0, .slice none 0 0] 26) := ⟨_, rfl⟩
 have hbx := Lib.hid (show Below w.heap.size w W0 by rw [hW0]; exact ext_alloc (ext_refl w) _)
 have BR0 := Lib.hid (show Blk W0 w.heap.size 26 #[.int .i64 0, .int .i64 0, .slice none 0 0] by rw [hW0]; exact Blk.born w #[.int .i64 0, .int .i64 0, .slice none 0 0] 26 (H := w.heap.size) rfl)
 have H0 := Lib.hid (show Code W0 W0.heap.size Ac nc by rw [hW0]; exact (h.below (ext_alloc (ext_refl _) _)).more (by simp))
 go_enter Try.func6, Try.ntmps6
 go_wp2_with fail
 rw [← hW0]
 clear hW0 h
 refine (drawTargetCount_any Ac nc cc _ H0.out hn).mono ?_
 rintro e w1 ⟨u, lo, l, A, c, z, rfl, hIN, hz0, hz1, ho, hb⟩
 have BR1 := Lib.hid (BR0.out.ext hb)
 have HR1 := Lib.hid (own_base (base' := w.heap.size) ho hbx.out.size)
 have HB1 := Lib.hid (ext_trans hbx.out hb)
 have HIN := Lib.hid hIN
 clear ho hb hIN BR0 hbx H0
 obtain ⟨r0, r1, r2⟩ := BR1.out.q3
 obtain ⟨y0, y1, y2⟩ := BR1.out.z3
 have lr := BR1.out.lt
 go_wp2
 refine bodyPost_ret (v := .tuple #[frV u lo A l.length c, .int .i64 z]) (by simp [results, Try.results6, go_sem, *]) rfl ?_
 exact ⟨u, lo, l, A, c, z, rfl, HIN.out, hz0, hz1, fill_own' HR1.out (own_nbT HR1.out BR1.out (by decide)), fill_below HB1.out (Nat.le_refl _)⟩
set_option maxRecDepth 100000 in
set_option maxHeartbeats 8000000 in
theorem drawFewestBeads_any (Ac : Option Addr) (nc cc : Nat) (w : World) (h : Code w w.heap.size Ac nc) (hn : nc ≤ 65536) :
 Calls Try.prog 22 #[.slice Ac nc cc] w (DFrN w) := by
 obtain ⟨W0, hW0⟩ : ∃ y9 : World, y9 = w.alloc (.cells #[.int .i64 0, .int .i64 0, .slice none 0 0] 26) := ⟨_, rfl⟩
 have hbx := Lib.hid (show Below w.heap.size w W0 by rw [hW0]; exact ext_alloc (ext_refl w) _)
 have BR0 := Lib.hid (show Blk W0 w.heap.size 26 #[.int .i64 0, .int .i64 0, .slice none 0 0] by rw [hW0]; exact Blk.born w #[.int .i64 0, .int .i64 0, .slice none 0 0] 26 (H := w.heap.size) rfl)
 have H0 := Lib.hid (show Code W0 W0.heap.size Ac nc by rw [hW0]; exact (h.below (ext_alloc (ext_refl _) _)).more (by simp))
 go_enter Try.func22, Try.ntmps22
 go_wp2_with fail
 rw [← hW0]
 clear hW0 h
 refine (drawTargetCount_any Ac nc cc _ H0.out hn).mono ?_
 rintro e w1 ⟨u, lo, l, A, c, z, rfl, hIN, hz0, hz1, ho, hb⟩
 have BR1 := Lib.hid (BR0.out.ext hb)
 have HR1 := Lib.hid (own_base (base' := w.heap.size) ho hbx.out.size)
 have HB1 := Lib.hid (ext_trans hbx.out hb)
 have HIN := Lib.hid hIN
 clear ho hb hIN BR0 hbx H0
 obtain ⟨r0, r1, r2⟩ := BR1.out.q3
 obtain ⟨y0, y1, y2⟩ := BR1.out.z3
 have lr := BR1.out.lt
 go_wp2
 refine bodyPost_ret (v := .tuple #[frV u lo A l.length c, .int .i64 z]) (by simp [results, Try.results22, go_sem, *]) rfl ?_
 exact ⟨u, lo, l, A, c, z, rfl, HIN.out, hz0, hz1, fill_own' HR1.out (own_nbT HR1.out BR1.out (by decide)), fill_below HB1.out (Nat.le_refl _)⟩
set_option maxRecDepth 100000 in
set_option maxHeartbeats 8000000 in
theorem drawSavedMoves_any (Ac : Option Addr) (nc cc : Nat) (w : World) (h : Code w w.heap.size Ac nc) (hn : nc ≤ 65536) :
 Calls Try.prog 24 #[.slice Ac nc cc] w (DFrN w) := by
 obtain ⟨W0, hW0⟩ : ∃ y9 : World, y9 = w.alloc (.cells #[.int .i64 0, .int .i64 0, .slice none 0 0] 26) := ⟨_, rfl⟩
 have hbx := Lib.hid (show Below w.heap.size w W0 by rw [hW0]; exact ext_alloc (ext_refl w) _)
 have BR0 := Lib.hid (show Blk W0 w.heap.size 26 #[.int .i64 0, .int .i64 0, .slice none 0 0] by rw [hW0]; exact Blk.born w #[.int .i64 0, .int .i64 0, .slice none 0 0] 26 (H := w.heap.size) rfl)
 have H0 := Lib.hid (show Code W0 W0.heap.size Ac nc by rw [hW0]; exact (h.below (ext_alloc (ext_refl _) _)).more (by simp))
 go_enter Try.func24, Try.ntmps24
 go_wp2_with fail
 rw [← hW0]
 clear hW0 h
 refine (drawTargetCount_any Ac nc cc _ H0.out hn).mono ?_
 rintro e w1 ⟨u, lo, l, A, c, z, rfl, hIN, hz0, hz1, ho, hb⟩
 have BR1 := Lib.hid (BR0.out.ext hb)
 have HR1 := Lib.hid (own_base (base' := w.heap.size) ho hbx.out.size)
 have HB1 := Lib.hid (ext_trans hbx.out hb)
 have HIN := Lib.hid hIN
 clear ho hb hIN BR0 hbx H0
 obtain ⟨r0, r1, r2⟩ := BR1.out.q3
 obtain ⟨y0, y1, y2⟩ := BR1.out.z3
 have lr := BR1.out.lt
 go_wp2
 refine bodyPost_ret (v := .tuple #[frV u lo A l.length c, .int .i64 z]) (by simp [results, Try.results24, go_sem, *]) rfl ?_
 exact ⟨u, lo, l, A, c, z, rfl, HIN.out, hz0, hz1, fill_own' HR1.out (own_nbT HR1.out BR1.out (by decide)), fill_below HB1.out (Nat.le_refl _)⟩

end Go.Proofs.Ytmfjaoljeildbaa
