/- The rods that are remembered wrong: the program's. -/
import Derived.Maps.AppendAt
import Derived.Test.YtlkfffohjeoooaaVM13
import Derived.Test.YtlkfffohjeoooaaVRegL
namespace Go.Proofs.Ytlkfffohjeoooaa
open Go.RowKit
set_option linter.unusedVariables false
set_option linter.unusedSimpArgs false
def wrongL (im ds : List Int) (k : Nat) : List Int := ((List.range k).filter fun i => decide (0 ≤ im.getD i 0) && decide (im.getD i 0 ≠ ds.getD i 0)).map fun (i : Nat) => (i : Int)
theorem wrongL_yes {im ds : List Int} {k : Nat} (h : 0 ≤ im.getD k 0) (h2 : im.getD k 0 ≠ ds.getD k 0) : wrongL im ds (k + 1) = wrongL im ds k ++ [(k : Int)] := by
 unfold wrongL
 rw [List.range_succ, List.filter_append, List.map_append]
 simp [-List.getD_eq_getElem?_getD, h, h2]
theorem wrongL_no {im ds : List Int} {k : Nat} (h : ¬ (0 ≤ im.getD k 0 ∧ im.getD k 0 ≠ ds.getD k 0)) : wrongL im ds (k + 1) = wrongL im ds k := by
 unfold wrongL
 rw [List.range_succ, List.filter_append, List.map_append]
 simp [-List.getD_eq_getElem?_getD]
 intro a
 exact Classical.byContradiction fun b => h ⟨a, b⟩
theorem wrongL_len (im ds : List Int) (n : Nat) : (wrongL im ds n).length ≤ n := by
 unfold wrongL
 have := List.length_filter_le (fun i => decide (0 ≤ im.getD i 0) && decide (im.getD i 0 ≠ ds.getD i 0)) (List.range n)
 rw [List.length_map]
 rw [List.length_range] at this
 exact this
def wrO (q : Md) : List Int := if mdOK q = true then wrongL q.im (dsOf q.l) q.im.length else []
def WrR (S : Nat) (S0 : Nat) (u lo : Int) (A : Option Addr) (n c : Nat) (M : Int) (ds : List Int) (vs : Nat → Value) (wx : World) : Nat → Prop
 | 0 => vs 10 = .pointer (some ⟨S0, 0, none⟩)
 | 1 => vs 11 = .agg #[.int .i64 u, .int .i64 lo, .slice A n c]
 | 2 => vs 12 = .pointer (some ⟨S0, 0, none⟩)
 | 3 => vs 13 = .agg #[.int .i64 u, .int .i64 lo, .slice A n c]
 | 4 => vs 14 = .int .i64 M
 | 5 => ∃ (D : Option Addr) (cd : Nat), vs 15 = .slice D n cd ∧ (wx.ownsRow S 3 1 (.slice D n cd) n (intsV ds))
 | 6 => vs 16 = .int .i64 (n : Int)
 | 7 => vs 17 = .int .i64 0
 | _ => True
def WrRU : Nat → List Nat
 | 0 => [10]
 | 1 => [11]
 | 2 => [12]
 | 3 => [13]
 | 4 => [14]
 | 5 => [15]
 | 6 => [16]
 | 7 => [17]
 | _ => []
theorem WrR_ext {S : Nat} {S0 : Nat} {u lo : Int} {A : Option Addr} {n c : Nat} {M : Int} {ds : List Int} {vs us : Nat → Value} {wx wy : World} {jN : Nat} (hGG : WrR S S0 u lo A n c M ds vs wx jN) (haG : ∀ d ∈ WrRU jN, us d = vs d) (hbG : Below wx.heap.size wx wy) : WrR S S0 u lo A n c M ds us wy jN := by
 match jN, hGG, haG with
 | 0, hGG, haG =>
   exact (haG 10 (by simp [WrRU])).trans hGG
 | 1, hGG, haG =>
   exact (haG 11 (by simp [WrRU])).trans hGG
 | 2, hGG, haG =>
   exact (haG 12 (by simp [WrRU])).trans hGG
 | 3, hGG, haG =>
   exact (haG 13 (by simp [WrRU])).trans hGG
 | 4, hGG, haG =>
   exact (haG 14 (by simp [WrRU])).trans hGG
 | 5, hGG, haG =>
   obtain ⟨xG0, xG1, eG, fG0⟩ := hGG
   exact ⟨xG0, xG1, (haG 15 (by simp [WrRU])).trans eG, own_ext fG0 hbG⟩
 | 6, hGG, haG =>
   exact (haG 16 (by simp [WrRU])).trans hGG
 | 7, hGG, haG =>
   exact (haG 17 (by simp [WrRU])).trans hGG
 | jN + 8, _, _ => trivial
theorem WrR_set {S : Nat} {S0 : Nat} {u lo : Int} {A : Option Addr} {n c : Nat} {M : Int} {ds : List Int} {vs us : Nat → Value} {wx wy : World} {jN : Nat} (hGG : WrR S S0 u lo A n c M ds vs wx jN) (haG : ∀ d ∈ WrRU jN, us d = vs d) (hneG : jN ≠ 8) (hbG : KeepW 47 wx wy) : WrR S S0 u lo A n c M ds us wy jN := by
 match jN, hGG, haG, hneG with
 | 0, hGG, haG, hneG =>
   exact (haG 10 (by simp [WrRU])).trans hGG
 | 1, hGG, haG, hneG =>
   exact (haG 11 (by simp [WrRU])).trans hGG
 | 2, hGG, haG, hneG =>
   exact (haG 12 (by simp [WrRU])).trans hGG
 | 3, hGG, haG, hneG =>
   exact (haG 13 (by simp [WrRU])).trans hGG
 | 4, hGG, haG, hneG =>
   exact (haG 14 (by simp [WrRU])).trans hGG
 | 5, hGG, haG, hneG =>
   obtain ⟨xG0, xG1, eG, fG0⟩ := hGG
   exact ⟨xG0, xG1, (haG 15 (by simp [WrRU])).trans eG, hbG.own fG0 (by decide)⟩
 | 6, hGG, haG, hneG =>
   exact (haG 16 (by simp [WrRU])).trans hGG
 | 7, hGG, haG, hneG =>
   exact (haG 17 (by simp [WrRU])).trans hGG
 | jN + 8, _, _, _ => trivial
set_option maxRecDepth 100000 in
set_option maxHeartbeats 8000000 in
theorem implWrongRods_any (u lo : Int) (A : Option Addr) (n c : Nat) (l : List R2) (K : Option Addr) (k' kc : Nat) (cl : List Int) (I : Option Addr) (m' ic : Nat) (im : List Int) (be gu : Int) (w : World) (hn : n ≤ 1048576) (hk : k' ≤ 1048576) (hm : m' ≤ 1048576) (h : Reads w w.heap.size 2 A n (rowsV2 l)) (hc : Reads w w.heap.size 1 K k' (intsV cl)) (hi : Reads w w.heap.size 1 I m' (intsV im)) :
 Calls Try.prog 72 #[mdV u lo A n c K k' kc I m' ic be gu] w (RetSliceB w 3 1 (wrO ⟨u, lo, l, cl, im, be, gu⟩).length (intsV (wrO ⟨u, lo, l, cl, im, be, gu⟩)) (mdOK ⟨u, lo, l, cl, im, be, gu⟩)) := by
 obtain ⟨i0, hi0, hz0, hz1, hz2⟩ := info_parts info_int
 have him := ints_len hi
 have hl := rows_len2 h
 have H := Lib.hid h
 have HC := Lib.hid hc
 have HI := Lib.hid hi
 have hbx := Lib.hid (ext_alloc (ext_refl w) (.cells (mdC u lo A n c K k' kc I m' ic be gu) 47))
 have BM0 := Lib.hid (Blk.born w (mdC u lo A n c K k' kc I m' ic be gu) 47 (H := w.heap.size) rfl)
 have HM := Lib.hid (fun (w : World) a b d => isMind_any u lo A n c l K k' kc cl I m' ic im be gu w hn hk hm a b d)
 cases hok : mdOK ⟨u, lo, l, cl, im, be, gu⟩
 · rw [show mindB u lo l cl im be gu = false from hok] at HM
   rw [show wrO ⟨u, lo, l, cl, im, be, gu⟩ = [] by unfold wrO; rw [if_neg (by rw [hok]; simp)]]
   clear h hc hi him hl hok
   go_enter Try.func72, Try.ntmps72
   go_wp2_with fail
   refine (HM.out _ (rdx H.out hbx.out) (rdx HC.out hbx.out) (rdx HI.out hbx.out)).mono ?_
   rintro e w1 ⟨rfl, hb⟩
   go_wp2
   go_ret2
   exact ⟨none, 0, rfl, World.ownsRow_nil _ _ _ _, ext_trans hbx.out hb⟩
 · obtain ⟨hgd, h1, h2, _, _, hrow⟩ := mdOK_parts hok
   dsimp only at h1 h2 hgd hrow
   have hfr := good_fr hgd
   obtain ⟨_, _, hn1, hn8⟩ := frB_head hfr
   have hmn : m' = n := by omega
   subst hmn
   have hmb := numR_bounds hfr l.length
   rw [List.take_length] at hmb
   have hdg := digs_rods hgd hl
   have HN := Lib.hid (fun (w : World) h => number_any u lo A m' c l w hfr h)
   have HD := Lib.hid (fun (w : World) => digitsFor_any u lo A m' c (numR l) w (by omega) hmb.1 hmb.2)
   rw [hdg] at HD
   obtain ⟨M, hM⟩ : ∃ M, numR l = M := ⟨_, rfl⟩
   rw [hM] at HN HD
   rw [show wrO ⟨u, lo, l, cl, im, be, gu⟩ = wrongL im (dsOf l) m' by unfold wrO; rw [if_pos hok]; rw [him]]
   rw [show mindB u lo l cl im be gu = true from hok] at HM
   have HIM := Lib.hid him
   have HDL := Lib.hid (show (dsOf l).length = m' by rw [dsOf_len]; exact hl)
   have hm8 : m' ≤ 8 := by omega
   clear h hc hi him hl hok hgd h1 h2 hrow hfr hmb hdg hM hn1 hn8
   go_enter Try.func72, Try.ntmps72
   go_wp2_with fail
   refine (HM.out _ (rdx H.out hbx.out) (rdx HC.out hbx.out) (rdx HI.out hbx.out)).mono ?_
   rintro e w1 ⟨rfl, hb⟩
   have BM1 := Lib.hid (BM0.out.ext hb)
   have HB1 := Lib.hid (ext_trans hbx.out hb)
   clear hb BM0 hbx
   obtain ⟨d0, d1, d2, d3, d4, d5, d6⟩ := BM1.out.q7
   have lm := BM1.out.lt
   go_upto_region 4 with fail
   have hs1 := HB1.out.size
   refine wp_region_left (by kernel_rfl) (by kernel_rfl) [10, 11, 12, 13, 14, 15, 16, 17] WrRU (by kernel_rfl) (by decide) 18 (by kernel_rfl) (by simp) (fun ra0 => ra0.eval (.tmp 1) = .pointer (some ⟨w.heap.size, 0, none⟩)) (by kernel_rfl) (fun _ wx => Below w1.heap.size w1 wx) (fun wx wy => Below wx.heap.size wx wy) 8 (KeepW 47) (fun jN vs wx => WrR w1.heap.size w.heap.size u lo A m' c M (dsOf l) vs wx jN) ((ext_refl w1).drew) (fun _ _ _ _ _ h1 h2 h3 => WrR_ext h1 h2 h3) (fun _ _ _ _ _ h0 h1 h2 h3 => WrR_set h1 h2 h0 h3) ?_ ?_
   · intro ra0 hE ri ro ho Qx vs wx rb KX kk HBw hdep rb0 rbk HK
     repeat (rename_i hz9; clear hz9)
     have rq1 := hE
     have hi : ri < 8 := by
      rcases Nat.lt_or_ge ri 8 with h | h
      · exact h
      · rw [Array.getElem?_eq_none (by simpa using h)] at ho; cases ho
     have HBX := Lib.hid HBw
     have hsz := HBw.size
     clear HBw
     rcases (show ri = 0 ∨ ri = 1 ∨ ri = 2 ∨ ri = 3 ∨ ri = 4 ∨ ri = 5 ∨ ri = 6 ∨ ri = 7 by omega) with rfl | rfl | rfl | rfl | rfl | rfl | rfl | rfl
     · simp only [List.getElem?_toArray, List.getElem?_cons_succ, List.getElem?_cons_zero, Option.some.injEq] at ho
       subst ho
       have HKX := Lib.hid HK
       clear HK
       have p1 := (rb0 1 (by decide)).trans rq1
       obtain ⟨x0, x1, x2, x3, x4, x5, x6⟩ := (BM1.out.ext HBX.out).q7
       have lmx := (BM1.out.ext HBX.out).lt
       clear rb0 rbk hdep
       go_simp
       exact HKX.out _ _ HBX.out (by rw [if_neg (by decide)]; exact ext_refl _) (upd_same _ _ _)
     · simp only [List.getElem?_toArray, List.getElem?_cons_succ, List.getElem?_cons_zero, Option.some.injEq] at ho
       subst ho
       have HKX := Lib.hid HK
       clear HK
       have e0 : vs 10 = .pointer (some ⟨w.heap.size, 0, none⟩) := (hdep 0 (by kernel_rfl))
       have p1 := (rb0 1 (by decide)).trans rq1
       have rr0 := (rbk 10 (by decide)).trans e0
       have E0 := Lib.hid e0
       clear e0
       obtain ⟨x0, x1, x2, x3, x4, x5, x6⟩ := (BM1.out.ext HBX.out).q7
       have lmx := (BM1.out.ext HBX.out).lt
       clear rb0 rbk hdep
       go_simp
       exact HKX.out _ _ HBX.out (by rw [if_neg (by decide)]; exact ext_refl _) (upd_same _ _ _)
     · simp only [List.getElem?_toArray, List.getElem?_cons_succ, List.getElem?_cons_zero, Option.some.injEq] at ho
       subst ho
       have HKX := Lib.hid HK
       clear HK
       have p1 := (rb0 1 (by decide)).trans rq1
       obtain ⟨x0, x1, x2, x3, x4, x5, x6⟩ := (BM1.out.ext HBX.out).q7
       have lmx := (BM1.out.ext HBX.out).lt
       clear rb0 rbk hdep
       go_simp
       exact HKX.out _ _ HBX.out (by rw [if_neg (by decide)]; exact ext_refl _) (upd_same _ _ _)
     · simp only [List.getElem?_toArray, List.getElem?_cons_succ, List.getElem?_cons_zero, Option.some.injEq] at ho
       subst ho
       have HKX := Lib.hid HK
       clear HK
       have e2 : vs 12 = .pointer (some ⟨w.heap.size, 0, none⟩) := (hdep 2 (by kernel_rfl))
       have p1 := (rb0 1 (by decide)).trans rq1
       have rr2 := (rbk 12 (by decide)).trans e2
       have E2 := Lib.hid e2
       clear e2
       obtain ⟨x0, x1, x2, x3, x4, x5, x6⟩ := (BM1.out.ext HBX.out).q7
       have lmx := (BM1.out.ext HBX.out).lt
       clear rb0 rbk hdep
       go_simp
       exact HKX.out _ _ HBX.out (by rw [if_neg (by decide)]; exact ext_refl _) (upd_same _ _ _)
     · simp only [List.getElem?_toArray, List.getElem?_cons_succ, List.getElem?_cons_zero, Option.some.injEq] at ho
       subst ho
       have HKX := Lib.hid HK
       clear HK
       have e3 : vs 13 = .agg #[.int .i64 u, .int .i64 lo, .slice A m' c] := (hdep 3 (by kernel_rfl))
       have rr3 := (rbk 13 (by decide)).trans e3
       have E3 := Lib.hid e3
       clear e3
       clear rb0 rbk hdep
       go_simp
       refine (HN.out _ (rdx H.out (ext_trans HB1.out HBX.out))).mono ?_
       rintro e w' ⟨rfl, hb⟩
       go_simp
       exact HKX.out _ _ (ext_trans HBX.out hb) (by rw [if_neg (by decide)]; exact hb) (upd_same _ _ _)
     · simp only [List.getElem?_toArray, List.getElem?_cons_succ, List.getElem?_cons_zero, Option.some.injEq] at ho
       subst ho
       have HKX := Lib.hid HK
       clear HK
       have e1 : vs 11 = .agg #[.int .i64 u, .int .i64 lo, .slice A m' c] := (hdep 1 (by kernel_rfl))
       have e4 : vs 14 = .int .i64 M := (hdep 4 (by kernel_rfl))
       have rr1 := (rbk 11 (by decide)).trans e1
       have rr4 := (rbk 14 (by decide)).trans e4
       have E1 := Lib.hid e1
       clear e1
       have E4 := Lib.hid e4
       clear e4
       clear rb0 rbk hdep
       go_simp
       refine (HD.out _).mono ?_
       rintro e w' ⟨D, cd, rfl, nF0, hb⟩
       go_simp
       exact HKX.out _ _ (ext_trans HBX.out hb) (by rw [if_neg (by decide)]; exact hb) (⟨D, cd, upd_same _ _ _, own_base nF0 hsz⟩)
     · simp only [List.getElem?_toArray, List.getElem?_cons_succ, List.getElem?_cons_zero, Option.some.injEq] at ho
       subst ho
       have HKX := Lib.hid HK
       clear HK
       obtain ⟨D, cd, e5, k5_0⟩ := (hdep 5 (by kernel_rfl))
       have rr5 := (rbk 15 (by decide)).trans e5
       have E5 := Lib.hid e5
       clear e5
       have K5_0 := Lib.hid k5_0
       clear k5_0
       clear rb0 rbk hdep
       go_simp
       exact HKX.out _ _ HBX.out (by rw [if_neg (by decide)]; exact ext_refl _) (upd_same _ _ _)
     · simp only [List.getElem?_toArray, List.getElem?_cons_succ, List.getElem?_cons_zero, Option.some.injEq] at ho
       subst ho
       have HKX := Lib.hid HK
       clear HK
       clear rb0 rbk hdep
       go_simp
       exact HKX.out _ _ HBX.out (by rw [if_neg (by decide)]; exact ext_refl _) (upd_same _ _ _)
   intro vs wx kk hb hall
   obtain ⟨D, cd, e15, hD⟩ := hall 5 (by decide)
   have e16 : vs 16 = .int .i64 (m' : Int) := hall 6 (by decide)
   have e17 : vs 17 = .int .i64 0 := hall 7 (by decide)
   have HB2 := Lib.hid (ext_trans HB1.out hb)
   have BM2 := Lib.hid (BM1.out.ext hb)
   have HDS := Lib.hid (own_base (base' := w.heap.size) hD hs1)
   clear hall hD hb d0 d1 d2 d3 d4 d5 d6 lm BM1 hs1
   simp only [sl]
   rw [e15, e16, e17]
   simp only [Act.put, List.setIfInBounds_toArray, List.set_cons_succ, List.set_cons_zero]
   clear e15 e16 e17
   go_wp2_with fail
   go_loopw [4, 17] (fun v ii wr => ∃ (j cb : Nat) (B : Option Addr), j ≤ m' ∧ ii = .int .i64 j ∧ v = .slice B (wrongL im (dsOf l) j).length cb ∧ Hid (wr.ownsRow wx.heap.size 3 1 (.slice B (wrongL im (dsOf l) j).length cb) (wrongL im (dsOf l) j).length (intsV (wrongL im (dsOf l) j))) ∧ Hid (Below wx.heap.size wx wr)) (fun _ ii _ => m' - (intOf ii).toNat)
   case atStart => exact ⟨0, 0, none, Nat.zero_le _, rfl, rfl, Lib.hid (World.ownsRow_nil _ _ _ _), Lib.hid (ext_refl _)⟩
   case round =>
    obtain ⟨j, cb, B, hj, rfl, rfl, HO, HX⟩ := hrel
    have HBr := Lib.hid (ext_trans HB2.out HX.out)
    have BMr := Lib.hid (BM2.out.ext HX.out)
    have HDr := Lib.hid (rdx (Reads.of_own HDS.out) HX.out)
    have hsX := HB2.out.size
    obtain ⟨d0, d1, d2, d3, d4, d5, d6⟩ := BMr.out.q7
    have lm := BMr.out.lt
    have hsr := HBr.out.size
    have hlen := wrongL_len im (dsOf l) j
    by_cases hlt : j < m'
    · obtain ⟨x, hx⟩ := list_split (l := im) (k := j) (by rw [HIM.out]; exact hlt)
      obtain ⟨y, hy⟩ := list_split (l := dsOf l) (k := j) (by rw [HDL.out]; exact hlt)
      obtain ⟨b, o, hI', hb, c0⟩ := ints_at (rdx HI.out HBr.out) hx
      obtain ⟨b2, o2, hD', hb2, c1⟩ := ints_at HDr.out hy
      subst hI' hD'
      have e2 : (j : Int) < (m' : Int) := by omega
      by_cases hw : 0 ≤ x ∧ x ≠ y
      · have e3 : decide (0 ≤ x) = true := by simpa using hw.1
        have e4 : (x != y) = true := by simpa using hw.2
        have HY := Lib.hid (wrongL_yes (im := im) (ds := dsOf l) (k := j) (by rw [getD_of hx]; exact hw.1) (by rw [getD_of hx, getD_of hy]; exact hw.2))
        have hL1 : (wrongL im (dsOf l) j).length + 1 ≤ maxLen := by unfold maxLen; omega
        have hL2 : ((wrongL im (dsOf l) j).length + 1) * 8 ≤ 140737488355328 := by omega
        have HLN := Lib.hid (show (wrongL im (dsOf l) (j + 1)).length = (wrongL im (dsOf l) j).length + 1 by rw [HY.out]; simp)
        obtain ⟨W, hW⟩ : ∃ W, wrongL im (dsOf l) j = W := ⟨_, rfl⟩
        rw [hW] at HO HY HLN hL1 hL2 ⊢
        clear hx hy hw hlen hW
        go_wp2_with (at_builtin; refine wpList_append_own_at _ rfl (.tmp 37) (.tmp 39) 40 rfl wx.heap.size 3 i0 _ 1 8 Try.underlying40 hi0 hz0 hz1 hz2 rfl (by decide) (.slice B W.length cb) W.length (intsV W) rfl (HO.out.alloc (.cells #[.int .i64 (j : Int)] 3)) _ 1 1 [.int .i64 (j : Int)] rfl rfl (cells_new_at _ [.int .i64 (j : Int)] _ (by simp)) (by simp [Value.oneCell']) hL1 hL2 (by have h0 := HX.out.size; simp; omega) ?_; intro v' w8 hown hgrow _ hat; have HGR := Lib.hid hgrow; have HOW := Lib.hid hown; clear hown hgrow hat)
        obtain ⟨g8, cap8, hv8, _, _⟩ := HOW.out.form (by omega)
        subst hv8
        have HX8 := Lib.hid (below_grown' (HO.out.alloc (.cells #[.int .i64 (j : Int)] 3)) (Nat.le_refl _) (ext_alloc HX.out (.cells #[.int .i64 (j : Int)] 3)) HGR.out)
        go_roundw
        case rel => exact ⟨j + 1, cap8, some ⟨g8, 0, none⟩, by omega, by go_num, by rw [HLN.out], Lib.hid (by rw [HLN.out, HY.out]; have h9 := HOW.out; simpa [intsV] using h9), HX8⟩
        case measure => simp [intOf]; omega
      · have HNo := Lib.hid (wrongL_no (im := im) (ds := dsOf l) (k := j) (by rw [getD_of hx, getD_of hy]; exact hw))
        by_cases hx0 : 0 ≤ x
        · have hxy : x = y := Classical.byContradiction fun e => hw ⟨hx0, e⟩
          have e3 : decide (0 ≤ x) = true := by simpa using hx0
          have e4 : (x != y) = false := by simp [hxy]
          clear hx hy hw hlen hxy
          go_wp2
          go_roundw
          case rel => exact ⟨j + 1, cb, B, by omega, by go_num, by rw [HNo.out], by rw [HNo.out]; exact HO, HX⟩
          case measure => simp [intOf]; omega
        · have e3 : decide (0 ≤ x) = false := by simpa using hx0
          clear hx hy hw hlen
          go_wp2
          go_roundw
          case rel => exact ⟨j + 1, cb, B, by omega, by go_num, by rw [HNo.out], by rw [HNo.out]; exact HO, HX⟩
          case measure => simp [intOf]; omega
    · obtain rfl : j = m' := by omega
      go_wp2
      go_ret2
      exact ⟨B, cb, rfl, own_base HO.out hsX, HBr.out⟩

end Go.Proofs.Ytlkfffohjeoooaa
