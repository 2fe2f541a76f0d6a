/- MoveDistance: the program's. -/
import Derived.Test.YtphhelmcaehclaaVM12
import Derived.Test.YtphhelmcaehclaaVWsD
namespace Go.Proofs.Ytphhelmcaehclaa
open Go.RowKit
set_option linter.unusedVariables false
set_option linter.unusedSimpArgs false
/-- the first j numbers are laid -/
def pfx (f : Nat → Int) (N j : Nat) : List Int := (List.range j).map f ++ List.replicate (N - j) 0
theorem pfx_len {f : Nat → Int} {N j : Nat} (h : j ≤ N) : (pfx f N j).length = N := by simp [pfx]; omega
theorem pfx_zero (f : Nat → Int) (N : Nat) : pfx f N 0 = List.replicate N 0 := by simp [pfx]
theorem pfx_get {f : Nat → Int} {N j i : Nat} (h : i < j) : (pfx f N j)[i]? = some (f i) := by
 unfold pfx
 rw [List.getElem?_append_left (by simpa using h)]
 simp [h]
theorem pfx_last {f : Nat → Int} {N j : Nat} (h : j < N) : (pfx f N j)[j]? = some 0 := by
 unfold pfx
 rw [List.getElem?_append_right (by simp)]
 simp only [List.length_map, List.length_range, Nat.sub_self]
 rw [List.getElem?_replicate, if_pos (by omega)]
theorem pfx_set {f : Nat → Int} {N j : Nat} (h : j < N) : (pfx f N j).set j (f j) = pfx f N (j + 1) := by
 unfold pfx
 rw [List.set_append_right _ _ (by simp)]
 simp only [List.length_map, List.length_range, Nat.sub_self]
 rw [show N - j = (N - (j + 1)) + 1 by omega, List.replicate_succ, List.set_cons_zero, List.range_succ, List.map_append, List.append_assoc]
 rfl
def mdV (a b : List R3) : Int := if rcdB a && rcdB b then mE a b a.length b.length else 0
theorem min3 (x y z : Int) : min (min x y) z = if (if x ≤ y then x else y) ≤ z then (if x ≤ y then x else y) else z := by
 simp only [Int.min_def]
set_option maxRecDepth 100000 in
set_option maxHeartbeats 8000000 in
theorem moveDistance_any (A : Option Addr) (n c : Nat) (a : List R3) (B : Option Addr) (K cb : Nat) (b : List R3) (w : World) (hn : n ≤ 12) (hK : K ≤ 12) (ha : Reads w w.heap.size 3 A n (rowsV3 a)) (hb : Reads w w.heap.size 3 B K (rowsV3 b)) :
 Calls Try.prog 56 #[.slice A n c, .slice B K cb] w (RetV (.int .i64 (mE a b n K)) w) := by
 obtain ⟨i0, hi, hz0, hz1, hz2⟩ := info_parts info_int
 have HAL := Lib.hid (rows_len3 ha)
 have HBL := Lib.hid (rows_len3 hb)
 have HA := Lib.hid ha
 have HB := Lib.hid hb
 clear ha hb
 go_enter Try.func56, Try.ntmps56
 go_wp2_with (at_make; refine wpList_make_full _ rfl _ _ 39 rfl w.heap.size 3 i0 _ 1 Try.underlying39 hi hz0 hz1 .i64 .i64 _ _ (K + 1) rfl rfl (by omega) (by omega) (by rw [hz2]; omega) (by unfold maxLen; omega) (Nat.le_refl _) ?_; intro w1 hown2 hgrow2; rw [made_ints] at hown2; have hb1 := Lib.hid ((ext_refl w).grown hgrow2 (Nat.le_refl _) (fun _ h => by cases h)); have HC1 := Lib.hid hown2; clear hown2 hgrow2)
 obtain ⟨G, hG⟩ : ∃ o9, w.heap.size = o9 := ⟨_, rfl⟩
 have HO1 := Lib.hid (show w1.ownsRow w.heap.size 3 1 (.slice (some ⟨G, 0, none⟩) (K + 1) (K + 1)) (K + 1) (intsV (pfx (mE a b 0) (K + 1) 0)) by rw [pfx_zero, ← hG]; exact HC1.out)
 have hwn : ∀ (j : Nat), j ≤ 30 → wrap64 (2 * (j : Int)) = 2 * (j : Int) := fun j hj => by unfold wrap64; omega
 rw [hG]
 clear HC1
 have hGe : w.heap.size ≤ G := by omega
 clear hG
 go_loopw [18] (fun i wr => ∃ j : Nat, j ≤ K + 1 ∧ i = .int .i64 j ∧ Hid (wr.ownsRow w.heap.size 3 1 (.slice (some ⟨G, 0, none⟩) (K + 1) (K + 1)) (K + 1) (intsV (pfx (mE a b 0) (K + 1) j))) ∧ Hid (Below w.heap.size w wr)) (fun i _ => (K + 1) - (intOf i).toNat)
 case atStart => exact ⟨0, Nat.zero_le _, rfl, HO1, hb1⟩
 case round =>
  clear HO1 hb1
  obtain ⟨j, hj, rfl, HO, hbl⟩ := hrel
  obtain ⟨V, hV⟩ : ∃ y : World, y = wr := ⟨_, rfl⟩
  subst hV
  by_cases hlt : j < K + 1
  · have q0 := int_cell HO.out (pfx_last hlt)
    have f0 := own_frozen HO.out j
    have hgr : G < V.heap.size := (HO.out.lt _ rfl).2
    have hj1 : (j : Int) < (K : Int) + 1 := by omega
    have hj0 : (0 : Int) ≤ (j : Int) := by omega
    have ww := hwn j (by omega)
    have HST := Lib.hid (pfx_set (f := mE a b 0) hlt)
    have HO4 := Lib.hid (show (V.setCell ⟨G, j, none⟩ (.int .i64 (2 * (j : Int)))).ownsRow w.heap.size 3 1 (.slice (some ⟨G, 0, none⟩) (K + 1) (K + 1)) (K + 1) (intsV (pfx (mE a b 0) (K + 1) (j + 1))) by rw [← HST.out, mE]; exact int_set HO.out)
    have hb4 := Lib.hid (show Below w.heap.size w (V.setCell ⟨G, j, none⟩ (.int .i64 (2 * (j : Int)))) from Below.setCell hbl.out (p := ⟨G, j, none⟩) hGe _)
    go_wp2
    go_roundw
    case rel => exact ⟨j + 1, by omega, by go_num, HO4, hb4⟩
    case measure => simp [intOf]; omega
  · have hjK : j = K + 1 := by omega
    have HO := Lib.hid (show V.ownsRow w.heap.size 3 1 (.slice (some ⟨G, 0, none⟩) (K + 1) (K + 1)) (K + 1) (intsV (pfx (mE a b 0) (K + 1) (K + 1))) by have h9 := HO.out; rw [hjK] at h9; exact h9)
    have hnl : ¬ (j : Int) < (K : Int) + 1 := by omega
    clear hjK hlt hj
    go_wp2
    clear hnl
    go_loopw [5, 29] (fun v i wr => ∃ (j G : Nat), j ≤ n ∧ w.heap.size ≤ G ∧ v = .slice (some ⟨G, 0, none⟩) (K + 1) (K + 1) ∧ i = .int .i64 j ∧ Hid (wr.ownsRow w.heap.size 3 1 (.slice (some ⟨G, 0, none⟩) (K + 1) (K + 1)) (K + 1) (intsV (pfx (mE a b j) (K + 1) (K + 1)))) ∧ Hid (Below w.heap.size w wr)) (fun _ i _ => n - (intOf i).toNat)
    case atStart => exact ⟨0, G, Nat.zero_le _, hGe, rfl, rfl, HO, hbl⟩
    case round =>
     clear HO hbl hGe
     obtain ⟨i, G, hi9, hGe, rfl, rfl, HO, hbl⟩ := hrel
     obtain ⟨V, hV⟩ : ∃ y : World, y = wr := ⟨_, rfl⟩
     subst hV
     by_cases hlt : i < n
     · obtain ⟨x, hx⟩ := list_split (l := a) (k := i) (by rw [HAL.out]; exact hlt)
       obtain ⟨ba, oa, rfl, hba, c0, c1, c2⟩ := rows_at3 (rdx HA.out hbl.out) hx
       obtain ⟨xa, xb, xc⟩ := x
       dsimp only at c0 c1 c2
       have hxD := Lib.hid (show a.getD i ⟨0, 0, 0⟩ = ⟨xa, xb, xc⟩ by rw [List.getD_eq_getElem?_getD, hx, Option.getD_some])
       have hgr : G < V.heap.size := (HO.out.lt _ rfl).2
       have hsz := hbl.out.size
       have hbaV : ba < V.heap.size := by omega
       have hi1 : (i : Int) < (n : Int) := by omega
       have hi0 : (0 : Int) ≤ (i : Int) := by omega
       have ww : wrap64 (2 * ((i : Int) + 1)) = 2 * ((i : Int) + 1) := by unfold wrap64; omega
       obtain ⟨V1, hV1⟩ : ∃ y : World, y = V.alloc (.cells #[.int .i64 xa, .int .i64 xb, .int .i64 xc] 75) := ⟨_, rfl⟩
       obtain ⟨NB, hNB⟩ : ∃ o9, V.heap.size = o9 := ⟨_, rfl⟩
       have HO1 := Lib.hid (show V1.ownsRow w.heap.size 3 1 (.slice (some ⟨G, 0, none⟩) (K + 1) (K + 1)) (K + 1) (intsV (pfx (mE a b i) (K + 1) (K + 1))) by rw [hV1]; exact HO.out.alloc _)
       have hb1 := Lib.hid (show Below w.heap.size w V1 by rw [hV1]; exact ext_alloc hbl.out _)
       have BX1 := Lib.hid (show Blk V1 NB 75 #[.int .i64 xa, .int .i64 xb, .int .i64 xc] by rw [hV1]; exact Blk.born V _ _ hNB.symm)
       clear hx
       go_upto_region 10 with fail
       rw [← hV1]
       have hNBl := BX1.out.lt
       have hgr1 : G < V1.heap.size := (HO1.out.lt _ rfl).2
       have hs1 := hb1.out.size
       clear hNB hV1 HO hbl c0 c1 c2 hba hbaV hsz hgr
       go_wp2_with (at_make; refine wpList_make_full _ rfl _ _ 39 rfl V1.heap.size 3 i0 _ 1 Try.underlying39 hi hz0 hz1 .i64 .i64 _ _ (K + 1) rfl rfl (by omega) (by omega) (by rw [hz2]; omega) (by unfold maxLen; omega) (Nat.le_refl _) ?_; intro V2 hown2 hgrow2; rw [made_ints] at hown2; have hbM := Lib.hid ((ext_refl V1).grown hgrow2 (Nat.le_refl _) (fun _ h => by cases h)); have HCM := Lib.hid hown2; have qM := int_cell hown2 (show (List.replicate (K + 1) (0 : Int))[0]? = some 0 by rw [List.getElem?_replicate, if_pos (by omega)]); have fM := own_frozen hown2 0; have gM := (hown2.lt _ rfl).2; clear hown2 hgrow2)
       obtain ⟨G2, hG2⟩ : ∃ o9, V1.heap.size = o9 := ⟨_, rfl⟩
       have HO2 := Lib.hid (own_ext HO1.out hbM.out)
       have BX2 := Lib.hid (BX1.out.ext hbM.out)
       have hb2 := Lib.hid (ext_trans hb1.out hbM.out)
       have HN2 := Lib.hid (show V2.ownsRow w.heap.size 3 1 (.slice (some ⟨G2, 0, none⟩) (K + 1) (K + 1)) (K + 1) (intsV (pfx (mE a b (i + 1)) (K + 1) 0)) by rw [pfx_zero, ← hG2]; exact own_base HCM.out hs1)
       have hGG : G ≠ G2 := by omega
       have hGN : G2 ≠ NB := by omega
       have hG2w : w.heap.size ≤ G2 := by omega
       rw [hG2] at qM fM gM ⊢
       obtain ⟨V3, hV3⟩ : ∃ y : World, y = V2.setCell ⟨G2, 0, none⟩ (.int .i64 (2 * ((i : Int) + 1))) := ⟨_, rfl⟩
       have HST := Lib.hid (pfx_set (f := mE a b (i + 1)) (N := K + 1) (j := 0) (by omega))
       have HN3 := Lib.hid (show V3.ownsRow w.heap.size 3 1 (.slice (some ⟨G2, 0, none⟩) (K + 1) (K + 1)) (K + 1) (intsV (pfx (mE a b (i + 1)) (K + 1) 1)) by rw [hV3, ← HST.out, mE]; exact int_set HN2.out)
       have HO3 := Lib.hid (show V3.ownsRow w.heap.size 3 1 (.slice (some ⟨G, 0, none⟩) (K + 1) (K + 1)) (K + 1) (intsV (pfx (mE a b i) (K + 1) (K + 1))) by rw [hV3]; exact own_setF (p := ⟨G2, 0, none⟩) HO2.out (by intro e; injection e with e; exact hGG e) _)
       have BX3 := Lib.hid (show Blk V3 NB 75 #[.int .i64 xa, .int .i64 xb, .int .i64 xc] by rw [hV3]; exact BX2.out.setF (p := ⟨G2, 0, none⟩) hGN _)
       have hb3 := Lib.hid (show Below w.heap.size w V3 by rw [hV3]; exact Below.setCell hb2.out (p := ⟨G2, 0, none⟩) hG2w _)
       go_wp2
       rw [← hV3]
       clear hV3 HST HN2 HO2 BX2 hb2 HCM hbM qM fM gM hG2 HO1 hb1 BX1 hNBl hgr1 hs1
       go_loopw [45] (fun v wr => ∃ j : Nat, j ≤ K ∧ v = .int .i64 j ∧ Hid (wr.ownsRow w.heap.size 3 1 (.slice (some ⟨G, 0, none⟩) (K + 1) (K + 1)) (K + 1) (intsV (pfx (mE a b i) (K + 1) (K + 1)))) ∧ Hid (wr.ownsRow w.heap.size 3 1 (.slice (some ⟨G2, 0, none⟩) (K + 1) (K + 1)) (K + 1) (intsV (pfx (mE a b (i + 1)) (K + 1) (j + 1)))) ∧ Hid (Blk wr NB 75 #[.int .i64 xa, .int .i64 xb, .int .i64 xc]) ∧ Hid (Below w.heap.size w wr)) (fun v _ => K - (intOf v).toNat)
       case atStart => exact ⟨0, Nat.zero_le _, rfl, HO3, HN3, BX3, hb3⟩
       case round =>
        clear HO3 HN3 BX3 hb3
        obtain ⟨j, hj, rfl, HO, HN, BX, hbl⟩ := hrel
        obtain ⟨U, hU⟩ : ∃ y : World, y = wr := ⟨_, rfl⟩
        subst hU
        by_cases hjt : j < K
        · obtain ⟨y, hy⟩ := list_split (l := b) (k := j) (by rw [HBL.out]; exact hjt)
          obtain ⟨bb, ob, rfl, hbb, d0, d1, d2⟩ := rows_at3 (rdx HB.out hbl.out) hy
          obtain ⟨ya, yb, yc⟩ := y
          dsimp only at d0 d1 d2
          have hyD := Lib.hid (show b.getD j ⟨0, 0, 0⟩ = ⟨ya, yb, yc⟩ by rw [List.getD_eq_getElem?_getD, hy, Option.getD_some])
          have hsz := hbl.out.size
          have hbbV : bb < U.heap.size := by omega
          have hj1 : (j : Int) < (K : Int) := by omega
          have hj2 : (j : Int) < (K : Int) + 1 := by omega
          have hj3 : (j : Int) + 1 < (K : Int) + 1 := by omega
          have hj0 : (0 : Int) ≤ (j : Int) := by omega
          have hj4 : (0 : Int) ≤ (j : Int) + 1 := by omega
          obtain ⟨U1, hU1⟩ : ∃ y : World, y = U.alloc (.cells #[.int .i64 ya, .int .i64 yb, .int .i64 yc] 75) := ⟨_, rfl⟩
          obtain ⟨NC, hNC⟩ : ∃ o9, U.heap.size = o9 := ⟨_, rfl⟩
          have HO1 := Lib.hid (show U1.ownsRow w.heap.size 3 1 (.slice (some ⟨G, 0, none⟩) (K + 1) (K + 1)) (K + 1) (intsV (pfx (mE a b i) (K + 1) (K + 1))) by rw [hU1]; exact HO.out.alloc _)
          have HN1 := Lib.hid (show U1.ownsRow w.heap.size 3 1 (.slice (some ⟨G2, 0, none⟩) (K + 1) (K + 1)) (K + 1) (intsV (pfx (mE a b (i + 1)) (K + 1) (j + 1))) by rw [hU1]; exact HN.out.alloc _)
          have hb1 := Lib.hid (show Below w.heap.size w U1 by rw [hU1]; exact ext_alloc hbl.out _)
          have BX1 := Lib.hid (show Blk U1 NB 75 #[.int .i64 xa, .int .i64 xb, .int .i64 xc] by rw [hU1]; exact BX.out.al _)
          have BY1 := Lib.hid (show Blk U1 NC 75 #[.int .i64 ya, .int .i64 yb, .int .i64 yc] by rw [hU1]; exact Blk.born U _ _ hNC.symm)
          have hMI := Lib.hid (show mE a b (i + 1) (j + 1) = min (min (mE a b i j + cost3 ⟨xa, xb, xc⟩ ⟨ya, yb, yc⟩) (mE a b i (j + 1) + 2)) (mE a b (i + 1) j + 2) by rw [mE, hxD.out, hyD.out])
          have HST := Lib.hid (pfx_set (f := mE a b (i + 1)) (N := K + 1) (j := j + 1) (by omega))
          have r0 := int_cell HO1.out (pfx_get (f := mE a b i) (N := K + 1) (show j < K + 1 by omega))
          have r1 := int_cell HO1.out (pfx_get (f := mE a b i) (N := K + 1) (show j + 1 < K + 1 by omega))
          have r2 := int_cell HN1.out (pfx_get (f := mE a b (i + 1)) (N := K + 1) (show j < j + 1 by omega))
          have r3 := int_cell HN1.out (pfx_last (f := mE a b (i + 1)) (N := K + 1) (show j + 1 < K + 1 by omega))
          have r4 := own_frozen HN1.out (j + 1)
          have P0 := mE_bound a b i j
          have Q0 := mE_bound a b i (j + 1)
          have R0 := mE_bound a b (i + 1) j
          have C0 := cost_bound ⟨xa, xb, xc⟩ ⟨ya, yb, yc⟩
          have HRC := Lib.hid (fun (w : World) => replaceCost_any xa xb xc ya yb yc w)
          obtain ⟨P, hP⟩ : ∃ o9, mE a b i j = o9 := ⟨_, rfl⟩
          obtain ⟨Q, hQ⟩ : ∃ o9, mE a b i (j + 1) = o9 := ⟨_, rfl⟩
          obtain ⟨R, hR⟩ : ∃ o9, mE a b (i + 1) j = o9 := ⟨_, rfl⟩
          obtain ⟨C, hC⟩ : ∃ o9, cost3 ⟨xa, xb, xc⟩ ⟨ya, yb, yc⟩ = o9 := ⟨_, rfl⟩
          rw [hP] at hMI r0 P0
          rw [hQ] at hMI r1 Q0
          rw [hR] at hMI r2 R0
          rw [hC] at hMI C0 HRC
          obtain ⟨p0, p1, p2⟩ := BX1.out.q3
          obtain ⟨t0, t1, t2⟩ := BY1.out.q3
          have lp := BX1.out.lt
          have lt2 := BY1.out.lt
          have g1 : G < U1.heap.size := (HO1.out.lt _ rfl).2
          have g2 : G2 < U1.heap.size := (HN1.out.lt _ rfl).2
          have wP : wrap64 (P + C) = P + C := by unfold wrap64; omega
          have wQ : wrap64 (Q + 2) = Q + 2 := by unfold wrap64; omega
          have wR : wrap64 (R + 2) = R + 2 := by unfold wrap64; omega
          clear hy hP hQ hR hC
          go_upto_region 15 with fail
          rw [← hU1]
          clear hNC hU1 HO HN BX hbl d0 d1 d2 hbb hbbV hsz
          (refine wp_region_later_tail 24 (by kernel_rfl) (by kernel_rfl) ?_; simp only [List.take_succ_cons, List.take_zero, List.drop_succ_cons, List.drop_zero]; (repeat (go_big_quiet_step (first | (go_at_call 81; with_reducible exact Calls.later_of (HRC.out _))))); refine wpQuiet_nil ?_; intro w1 hw1; obtain ⟨⟨wl, hbL⟩, hw1'⟩ := hw1; simp only at hw1'; subst hw1'; obtain ⟨hcL, hfL⟩ := bcell hbL)
          have HO2 := Lib.hid (own_ext HO1.out hbL)
          have HN2 := Lib.hid (own_ext HN1.out hbL)
          have BX2 := Lib.hid (BX1.out.ext hbL)
          have hb2 := Lib.hid (ext_trans hb1.out hbL)
          have k3 := ext_cell hbL r3
          have k4 := own_frozen HN2.out (j + 1)
          clear HO1 HN1 BX1 hb1 r0 r1 r2 p0 p1 p2 t0 t1 t2
          by_cases m1 : Q + 2 < P + C
          · by_cases m2 : R + 2 < Q + 2
            · have hv : mE a b (i + 1) (j + 1) = R + 2 := by have h9 := hMI.out; omega
              have HN4 := Lib.hid (show (w1.setCell ⟨G2, j + 1, none⟩ (.int .i64 (R + 2))).ownsRow w.heap.size 3 1 (.slice (some ⟨G2, 0, none⟩) (K + 1) (K + 1)) (K + 1) (intsV (pfx (mE a b (i + 1)) (K + 1) (j + 1 + 1))) by rw [← HST.out, hv]; exact int_set HN2.out)
              have HO4 := Lib.hid (show (w1.setCell ⟨G2, j + 1, none⟩ (.int .i64 (R + 2))).ownsRow w.heap.size 3 1 (.slice (some ⟨G, 0, none⟩) (K + 1) (K + 1)) (K + 1) (intsV (pfx (mE a b i) (K + 1) (K + 1))) from own_setF (p := ⟨G2, j + 1, none⟩) HO2.out (by intro e; injection e with e; exact hGG e) _)
              have BX4 := Lib.hid (show Blk (w1.setCell ⟨G2, j + 1, none⟩ (.int .i64 (R + 2))) NB 75 #[.int .i64 xa, .int .i64 xb, .int .i64 xc] from BX2.out.setF (p := ⟨G2, j + 1, none⟩) hGN _)
              have hb4 := Lib.hid (show Below w.heap.size w (w1.setCell ⟨G2, j + 1, none⟩ (.int .i64 (R + 2))) from Below.setCell hb2.out (p := ⟨G2, j + 1, none⟩) hG2w _)
              clear hv HN2 HO2 BX2 hb2 P0 Q0 R0 C0 HST hMI
              go_wp2
              go_roundw
              case rel => exact ⟨j + 1, by omega, by go_num, HO4, HN4, BX4, hb4⟩
              case measure => simp [intOf]; omega
            · have hv : mE a b (i + 1) (j + 1) = Q + 2 := by have h9 := hMI.out; omega
              have HN4 := Lib.hid (show (w1.setCell ⟨G2, j + 1, none⟩ (.int .i64 (Q + 2))).ownsRow w.heap.size 3 1 (.slice (some ⟨G2, 0, none⟩) (K + 1) (K + 1)) (K + 1) (intsV (pfx (mE a b (i + 1)) (K + 1) (j + 1 + 1))) by rw [← HST.out, hv]; exact int_set HN2.out)
              have HO4 := Lib.hid (show (w1.setCell ⟨G2, j + 1, none⟩ (.int .i64 (Q + 2))).ownsRow w.heap.size 3 1 (.slice (some ⟨G, 0, none⟩) (K + 1) (K + 1)) (K + 1) (intsV (pfx (mE a b i) (K + 1) (K + 1))) from own_setF (p := ⟨G2, j + 1, none⟩) HO2.out (by intro e; injection e with e; exact hGG e) _)
              have BX4 := Lib.hid (show Blk (w1.setCell ⟨G2, j + 1, none⟩ (.int .i64 (Q + 2))) NB 75 #[.int .i64 xa, .int .i64 xb, .int .i64 xc] from BX2.out.setF (p := ⟨G2, j + 1, none⟩) hGN _)
              have hb4 := Lib.hid (show Below w.heap.size w (w1.setCell ⟨G2, j + 1, none⟩ (.int .i64 (Q + 2))) from Below.setCell hb2.out (p := ⟨G2, j + 1, none⟩) hG2w _)
              clear hv HN2 HO2 BX2 hb2 P0 Q0 R0 C0 HST hMI
              go_wp2
              go_roundw
              case rel => exact ⟨j + 1, by omega, by go_num, HO4, HN4, BX4, hb4⟩
              case measure => simp [intOf]; omega
          · by_cases m2 : R + 2 < P + C
            · have hv : mE a b (i + 1) (j + 1) = R + 2 := by have h9 := hMI.out; omega
              have HN4 := Lib.hid (show (w1.setCell ⟨G2, j + 1, none⟩ (.int .i64 (R + 2))).ownsRow w.heap.size 3 1 (.slice (some ⟨G2, 0, none⟩) (K + 1) (K + 1)) (K + 1) (intsV (pfx (mE a b (i + 1)) (K + 1) (j + 1 + 1))) by rw [← HST.out, hv]; exact int_set HN2.out)
              have HO4 := Lib.hid (show (w1.setCell ⟨G2, j + 1, none⟩ (.int .i64 (R + 2))).ownsRow w.heap.size 3 1 (.slice (some ⟨G, 0, none⟩) (K + 1) (K + 1)) (K + 1) (intsV (pfx (mE a b i) (K + 1) (K + 1))) from own_setF (p := ⟨G2, j + 1, none⟩) HO2.out (by intro e; injection e with e; exact hGG e) _)
              have BX4 := Lib.hid (show Blk (w1.setCell ⟨G2, j + 1, none⟩ (.int .i64 (R + 2))) NB 75 #[.int .i64 xa, .int .i64 xb, .int .i64 xc] from BX2.out.setF (p := ⟨G2, j + 1, none⟩) hGN _)
              have hb4 := Lib.hid (show Below w.heap.size w (w1.setCell ⟨G2, j + 1, none⟩ (.int .i64 (R + 2))) from Below.setCell hb2.out (p := ⟨G2, j + 1, none⟩) hG2w _)
              clear hv HN2 HO2 BX2 hb2 P0 Q0 R0 C0 HST hMI
              go_wp2
              go_roundw
              case rel => exact ⟨j + 1, by omega, by go_num, HO4, HN4, BX4, hb4⟩
              case measure => simp [intOf]; omega
            · have hv : mE a b (i + 1) (j + 1) = P + C := by have h9 := hMI.out; omega
              have HN4 := Lib.hid (show (w1.setCell ⟨G2, j + 1, none⟩ (.int .i64 (P + C))).ownsRow w.heap.size 3 1 (.slice (some ⟨G2, 0, none⟩) (K + 1) (K + 1)) (K + 1) (intsV (pfx (mE a b (i + 1)) (K + 1) (j + 1 + 1))) by rw [← HST.out, hv]; exact int_set HN2.out)
              have HO4 := Lib.hid (show (w1.setCell ⟨G2, j + 1, none⟩ (.int .i64 (P + C))).ownsRow w.heap.size 3 1 (.slice (some ⟨G, 0, none⟩) (K + 1) (K + 1)) (K + 1) (intsV (pfx (mE a b i) (K + 1) (K + 1))) from own_setF (p := ⟨G2, j + 1, none⟩) HO2.out (by intro e; injection e with e; exact hGG e) _)
              have BX4 := Lib.hid (show Blk (w1.setCell ⟨G2, j + 1, none⟩ (.int .i64 (P + C))) NB 75 #[.int .i64 xa, .int .i64 xb, .int .i64 xc] from BX2.out.setF (p := ⟨G2, j + 1, none⟩) hGN _)
              have hb4 := Lib.hid (show Below w.heap.size w (w1.setCell ⟨G2, j + 1, none⟩ (.int .i64 (P + C))) from Below.setCell hb2.out (p := ⟨G2, j + 1, none⟩) hG2w _)
              clear hv HN2 HO2 BX2 hb2 P0 Q0 R0 C0 HST hMI
              go_wp2
              go_roundw
              case rel => exact ⟨j + 1, by omega, by go_num, HO4, HN4, BX4, hb4⟩
              case measure => simp [intOf]; omega
        · obtain rfl : K = j := by omega
          go_wp2
          go_roundw
          case rel => exact ⟨i + 1, G2, by omega, hG2w, rfl, by go_num, HN, hbl⟩
          case measure => simp [intOf]; omega
     · obtain rfl : n = i := by omega
       have q0 := int_cell HO.out (pfx_get (f := mE a b n) (N := K + 1) (show K < K + 1 by omega))
       have hK1 : (K : Int) < (K : Int) + 1 := by omega
       have hK0 : (0 : Int) ≤ (K : Int) := by omega
       have hgr : G < V.heap.size := (HO.out.lt _ rfl).2
       go_wp2
       go_ret
       exact ⟨rfl, hbl.out⟩
end Go.Proofs.Ytphhelmcaehclaa
