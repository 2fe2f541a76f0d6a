/- RodErrors: the program's. -/
import Derived.Test.YtphhelmcaehclaaVWsD
namespace Go.Proofs.Ytphhelmcaehclaa
open Go.RowKit
set_option linter.unusedVariables false
set_option linter.unusedSimpArgs false
set_option maxRecDepth 100000 in
set_option maxHeartbeats 4000000 in
theorem implRodErrors_any (B : Option Addr) (k cb : Nat) (p : List R3) (D : Option Addr) (m cd : Nat) (q : List R3) (z : Int) (w : World) (hk : k ≤ 1048576) (hm : m ≤ 1048576) (hp : Reads w w.heap.size 3 B k (rowsV3 p)) (hq : Reads w w.heap.size 3 D m (rowsV3 q)) :
 Calls Try.prog 14 #[.slice B k cb, .slice D m cd, .int .i64 z] w (RetSliceB w 3 1 (errL p q z).length (intsV (errL p q z)) (errB p q z)) := by
 obtain ⟨i0, hi, hz0, hz1, hz2⟩ := info_parts info_int
 unfold RetSliceB
 have hkl := rows_len3 hp
 have hml := rows_len3 hq
 have HP := Lib.hid hp
 have HQ := Lib.hid hq
 have HKL := Lib.hid hkl
 have HML := Lib.hid hml
 clear hp hq hkl hml

 cases hrp : rcdB p
 · rw [show errL p q z = [] by unfold errL; rw [if_neg (by simp [errB, hrp])], show errB p q z = false by simp [errB, hrp]]
   rw [List.length_nil]
   have HRP := Lib.hid hrp
   clear hrp
   go_enter Try.func14, Try.ntmps14
   go_wp2_with fail
   refine (areRecorded_any B k cb p _ hk (rdx HP.out (ext_refl w))).mono ?_
   rw [HRP.out]
   rintro e w1 ⟨rfl, hb⟩
   have s1 : w.heap.size ≤ w1.heap.size := (by have := hb.size; (try simp at this); omega)
   have b1 := Lib.hid (ext_trans (ext_refl w) hb)
   have t1 : w.heap.size ≤ w1.heap.size := b1.out.size
   clear hb
   go_wp2
   go_ret2
   exact ⟨none, 0, rfl, World.ownsRow_nil _ _ _ _, b1.out⟩
 cases hrq : rcdB q
 · rw [show errL p q z = [] by unfold errL; rw [if_neg (by simp [errB, hrq])], show errB p q z = false by simp [errB, hrq]]
   rw [List.length_nil]
   have HRP := Lib.hid hrp
   have HRQ := Lib.hid hrq
   clear hrp hrq
   go_enter Try.func14, Try.ntmps14
   go_wp2_with fail
   refine (areRecorded_any B k cb p _ hk (rdx HP.out (ext_refl w))).mono ?_
   rw [HRP.out]
   rintro e w1 ⟨rfl, hb⟩
   have s1 : w.heap.size ≤ w1.heap.size := (by have := hb.size; (try simp at this); omega)
   have b1 := Lib.hid (ext_trans (ext_refl w) hb)
   have t1 : w.heap.size ≤ w1.heap.size := b1.out.size
   clear hb
   go_wp2_with fail
   refine (areRecorded_any D m cd q _ hm (rdx HQ.out b1.out)).mono ?_
   rw [HRQ.out]
   rintro e w2 ⟨rfl, hb⟩
   have s2 : w1.heap.size ≤ w2.heap.size := (by have := hb.size; (try simp at this); omega)
   have b2 := Lib.hid (ext_trans b1.out hb)
   have t2 : w.heap.size ≤ w2.heap.size := b2.out.size
   clear hb
   go_wp2
   go_ret2
   exact ⟨none, 0, rfl, World.ownsRow_nil _ _ _ _, b2.out⟩
 cases hrz : inB z 1 8
 · rw [show errL p q z = [] by unfold errL; rw [if_neg (by simp [errB, hrz])], show errB p q z = false by simp [errB, hrz]]
   rw [List.length_nil]
   have HRP := Lib.hid hrp
   have HRQ := Lib.hid hrq
   have HRZ := Lib.hid hrz
   clear hrp hrq hrz
   go_enter Try.func14, Try.ntmps14
   go_wp2_with fail
   refine (areRecorded_any B k cb p _ hk (rdx HP.out (ext_refl w))).mono ?_
   rw [HRP.out]
   rintro e w1 ⟨rfl, hb⟩
   have s1 : w.heap.size ≤ w1.heap.size := (by have := hb.size; (try simp at this); omega)
   have b1 := Lib.hid (ext_trans (ext_refl w) hb)
   have t1 : w.heap.size ≤ w1.heap.size := b1.out.size
   clear hb
   go_wp2_with fail
   refine (areRecorded_any D m cd q _ hm (rdx HQ.out b1.out)).mono ?_
   rw [HRQ.out]
   rintro e w2 ⟨rfl, hb⟩
   have s2 : w1.heap.size ≤ w2.heap.size := (by have := hb.size; (try simp at this); omega)
   have b2 := Lib.hid (ext_trans b1.out hb)
   have t2 : w.heap.size ≤ w2.heap.size := b2.out.size
   clear hb
   go_wp2_with fail
   refine (inB_within z 1 8 _).mono ?_
   rw [HRZ.out]
   rintro e wz ⟨rfl, rfl⟩
   go_wp2
   go_ret2
   exact ⟨none, 0, rfl, World.ownsRow_nil _ _ _ _, b2.out⟩
 obtain ⟨hpl, hpo⟩ := rcd_parts hrp
 obtain ⟨hql, hqo⟩ := rcd_parts hrq
 have hzz := inB_iff.1 hrz
 obtain ⟨Z, rfl⟩ := Int.eq_ofNat_of_zero_le (show 0 ≤ z by omega)
 have hZ1 : 1 ≤ Z := by omega
 have hZ8 : Z ≤ 8 := by omega
 rw [HKL.out] at hpl
 rw [HML.out] at hql
 have HPO := Lib.hid hpo
 have HQO := Lib.hid hqo
 have HRP := Lib.hid hrp
 have HRQ := Lib.hid hrq
 have HRZ := Lib.hid hrz
 have HBP := Lib.hid (fun (j : Nat) (x : R3) (hx : p[j]? = some x) (hb : (Z : Int) ≤ x.a) => err_badp (q := q) hx hb)
 have HBQ := Lib.hid (fun (j : Nat) (x : R3) (hx : q[j]? = some x) (hb : (Z : Int) ≤ x.a) => err_badq (p := p) hx hb)
 have HGO := Lib.hid (fun (h1 : ∀ x ∈ p, x.a < (Z : Int)) (h2 : ∀ x ∈ q, x.a < (Z : Int)) => err_good hrp hrq hrz h1 h2)
 obtain ⟨EL, hEL⟩ : ∃ o9, errL p q (Z : Int) = o9 := ⟨_, rfl⟩
 obtain ⟨EB, hEB⟩ : ∃ o9, errB p q (Z : Int) = o9 := ⟨_, rfl⟩
 rw [hEL, hEB] at HBP HBQ HGO ⊢
 obtain ⟨N, hN⟩ : ∃ o9, EL.length = o9 := ⟨_, rfl⟩
 rw [hN]
 have HN := Lib.hid hN
 clear hrp hrq hrz hzz hpo hqo hEL hEB hN

 go_enter Try.func14, Try.ntmps14
 go_wp2_with fail
 refine (areRecorded_any B k cb p _ hk (rdx HP.out (ext_refl w))).mono ?_
 rw [HRP.out]
 rintro e w1 ⟨rfl, hb⟩
 have s1 : w.heap.size ≤ w1.heap.size := (by have := hb.size; (try simp at this); omega)
 have b1 := Lib.hid (ext_trans (ext_refl w) hb)
 have t1 : w.heap.size ≤ w1.heap.size := b1.out.size
 clear hb
 go_wp2_with fail
 refine (areRecorded_any D m cd q _ hm (rdx HQ.out b1.out)).mono ?_
 rw [HRQ.out]
 rintro e w2 ⟨rfl, hb⟩
 have s2 : w1.heap.size ≤ w2.heap.size := (by have := hb.size; (try simp at this); omega)
 have b2 := Lib.hid (ext_trans b1.out hb)
 have t2 : w.heap.size ≤ w2.heap.size := b2.out.size
 clear hb
 go_wp2_with fail
 refine (inB_within (Z : Int) 1 8 _).mono ?_
 rw [HRZ.out]
 rintro e wz ⟨rfl, rfl⟩
 have hbG := Lib.hid b2.out
 go_wp2_with (at_make; refine wpList_make_full _ rfl _ _ 39 rfl w2.heap.size 3 i0 _ 1 Try.underlying39 hi hz0 hz1 .i64 .i64 _ _ Z rfl rfl rfl rfl (by rw [hz2]; omega) (by unfold maxLen; omega) (Nat.le_refl _) ?_; intro w5 hown2 hgrow2; rw [made_ints] at hown2; have hbM := Lib.hid ((ext_refl w2).grown hgrow2 (Nat.le_refl _) (fun _ h => by cases h)); have HCM := Lib.hid hown2; clear hown2 hgrow2)
 have hb3 := Lib.hid (ext_trans hbG.out hbM.out)
 have HO3 := Lib.hid (own_base (base' := w.heap.size) HCM.out hbG.out.size)
 obtain ⟨G, hG⟩ : ∃ o9, w2.heap.size = o9 := ⟨_, rfl⟩
 rw [hG] at HO3 ⊢
 clear HCM hbM hbG hG
 clear b1 b2
 obtain ⟨NL, hNL⟩ : ∃ o9, w5.heap.size = o9 := ⟨_, rfl⟩
 obtain ⟨W3, hW3⟩ : ∃ y : World, y = w5.alloc (.cells #[.slice B k cb, .slice D m cd] 27) := ⟨_, rfl⟩
 have HO4 := Lib.hid (show W3.ownsRow w.heap.size 3 1 (.slice (some ⟨G, 0, none⟩) Z Z) Z (intsV (List.replicate Z 0)) by rw [hW3]; exact HO3.out.alloc _)
 have hb4 := Lib.hid (show Below w.heap.size w W3 by rw [hW3]; exact ext_alloc hb3.out _)
 have BL4 := Lib.hid (show Blk W3 NL 27 #[.slice B k cb, .slice D m cd] by rw [hW3]; exact Blk.born w5 _ 27 (H := NL) hNL.symm)
 have hGNL : G ≠ NL := by have h9 : G < w5.heap.size := (HO3.out.lt _ rfl).2; omega
 have hNL2 := BL4.out.lt
 obtain ⟨l0, l1⟩ := BL4.out.q2
 go_wp2
 rw [hNL, ← hW3]
 clear hW3 hNL HO3 hb3
 refine wp_loop_rounds 3 ?_
 rw [rounds_succ]
 go_wp2
 go_loopw [41] (fun i wr => ∃ (j : Nat) (O : List Int), j ≤ k ∧ i = .int .i64 j ∧ Hid (bmps 1 (List.replicate Z 0) (p.take j) = O) ∧ O.length = Z ∧ absS O ≤ 0 + j ∧ Hid (∀ y ∈ p.take j, y.a < (Z : Int)) ∧ Hid (wr.ownsRow w.heap.size 3 1 (.slice (some ⟨G, 0, none⟩) Z Z) Z (intsV O)) ∧ Hid (Below w.heap.size w wr) ∧ Hid (Blk wr NL 27 #[.slice B k cb, .slice D m cd])) (fun i _ => k - (intOf i).toNat)
 case atStart => exact ⟨0, List.replicate Z 0, Nat.zero_le _, rfl, Lib.hid rfl, by simp, by rw [absS_rep]; omega, Lib.hid (fun y hy => by cases hy), HO4, hb4, BL4⟩
 case round =>
  clear HO4 hb4 BL4 l0 l1 hNL2
  obtain ⟨j, O, hj, rfl, HOB, hOl, hOs, HLT, HO, hbl, BL⟩ := hrel
  obtain ⟨W, hW⟩ : ∃ y : World, y = wr := ⟨_, rfl⟩
  subst hW
  by_cases hlt : j < k
  · obtain ⟨x, hx⟩ := list_split (l := p) (k := j) (by rw [HKL.out]; exact hlt)
    obtain ⟨b, o, rfl, hb, c0, c1, c2⟩ := rows_at3 (rdx HP.out hbl.out) hx
    have hxo := (okM_iff.1 (HPO.out x (List.mem_of_getElem? hx))).1
    have hsz := hbl.out.size
    have hbW : b < W.heap.size := by omega
    have hjn : (j : Int) < (k : Int) := by omega
    have hj0 : (0 : Int) ≤ (j : Int) := by omega
    by_cases hbad : (Z : Int) ≤ x.a
    · obtain ⟨rfl, rfl⟩ := HBP.out j x hx hbad
      obtain rfl : N = 0 := HN.out.symm
      have hd : decide ((Z : Int) ≤ x.a) = true := decide_eq_true hbad
      clear hx
      go_wp2
      go_ret2
      exact ⟨none, 0, rfl, World.ownsRow_nil _ _ _ _, ext_alloc hbl.out _⟩
    · have hnb : ¬ (Z : Int) ≤ x.a := hbad
      have hd : decide ((Z : Int) ≤ x.a) = false := decide_eq_false hbad
      obtain ⟨X, hX⟩ := Int.eq_ofNat_of_zero_le hxo.1
      have hXZ : X < Z := by omega
      obtain ⟨v, hv⟩ := list_split (l := O) (k := X) (by omega)
      have hvb := absS_mem (List.mem_of_getElem? hv)
      have hv2 := ab_both hvb
      have hO2 : bmp 1 O x = O.set X (v + 1) := by unfold bmp; rw [hX, Int.toNat_natCast, List.getD_eq_getElem?_getD, hv, Option.getD_some]
      have hs2 := absS_bmp (s := 1) (.inl rfl) (o := O) (m := x) (by rw [hX, Int.toNat_natCast]; omega)
      rw [hO2] at hs2
      have HOB2 := Lib.hid (show bmps 1 (List.replicate Z 0) (p.take (j + 1)) = O.set X (v + 1) by rw [bmps_take hx, HOB.out, hO2])
      have HLT2 := Lib.hid (show ∀ y ∈ p.take (j + 1), y.a < (Z : Int) by
       intro y hy
       rw [List.take_add_one, hx] at hy
       rcases List.mem_append.1 hy with hy | hy
       · exact HLT.out y hy
       · have : y = x := by simpa using hy
         rw [this]; omega)
      have q0 := int_cell HO.out hv
      have f0 := own_frozen HO.out X
      have hgr := (HO.out.lt _ rfl).2
      have hgl := (HO.out.lt _ rfl).1
      have hO2l : (O.set X (v + 1)).length = Z := by rw [List.length_set]; exact hOl
      obtain ⟨xa, xb, xc⟩ := x
      dsimp only at hX c0 c1 c2 hd hnb hxo
      subst hX
      have hX0 : (0 : Int) ≤ (X : Int) := by omega
      have hXZ2 : (X : Int) < (Z : Int) := by omega
      have ww : wrap64 (v + 1) = v + 1 := by unfold wrap64; omega
      have ww2 : IntKind.i64.wrap (v + 1) = v + 1 := by rw [IntKind.wrap_i64]; omega
      clear hx hv hvb hv2 hO2 hbad HOB HLT
      have q1 : (W.alloc (.cells #[.int .i64 (X : Int), .int .i64 xb, .int .i64 xc] 75)).cell? ⟨G, X, none⟩ = some (.int .i64 v) := cell_old q0 _
      have HO4 := Lib.hid (show (W.setCell ⟨G, X, none⟩ (.int .i64 (v + 1))).ownsRow w.heap.size 3 1 (.slice (some ⟨G, 0, none⟩) Z Z) Z (intsV (O.set X (v + 1))) from int_set HO.out)
      have hb4 := Lib.hid (show Below w.heap.size w (W.setCell ⟨G, X, none⟩ (.int .i64 (v + 1))) from Below.setCell hbl.out (p := ⟨G, X, none⟩) hgl _)
      go_wp2
      go_roundw
      case rel => exact ⟨j + 1, O.set X (v + 1), by omega, by go_num, HOB2, by rw [List.length_set]; exact hOl, by omega, HLT2, Lib.hid (HO4.out.alloc _), Lib.hid (ext_alloc hb4.out _), Lib.hid ((BL.out.setF (p := ⟨G, X, none⟩) hGNL _).al _)⟩
      case measure => simp [intOf]; omega
  · obtain rfl : k = j := by omega
    have HOB1 := HOB
    have HLP := Lib.hid (show ∀ y ∈ p, y.a < (Z : Int) by have h9 := HLT.out; rwa [List.take_of_length_le (by rw [HKL.out]; exact Nat.le_refl _)] at h9)
    obtain ⟨O1, hO1⟩ : ∃ o9, O = o9 := ⟨_, rfl⟩
    rw [hO1] at HOB1 HO hOl hOs
    clear HOB HLT hO1
    obtain ⟨l0, l1⟩ := BL.out.q2
    have hNL2 := BL.out.lt
    go_wp2
    rw [rounds_succ]
    go_wp2
    go_loopw [41] (fun i wr => ∃ (j : Nat) (O : List Int), j ≤ m ∧ i = .int .i64 j ∧ Hid (bmps (-1) O1 (q.take j) = O) ∧ O.length = Z ∧ absS O ≤ 12 + j ∧ Hid (∀ y ∈ q.take j, y.a < (Z : Int)) ∧ Hid (wr.ownsRow w.heap.size 3 1 (.slice (some ⟨G, 0, none⟩) Z Z) Z (intsV O)) ∧ Hid (Below w.heap.size w wr) ∧ Hid (Blk wr NL 27 #[.slice B k cb, .slice D m cd])) (fun i _ => m - (intOf i).toNat)
    case atStart => exact ⟨0, O1, Nat.zero_le _, rfl, Lib.hid rfl, hOl, by omega, Lib.hid (fun y hy => by cases hy), HO, hbl, BL⟩
    case round =>
     clear HO hbl hOl hOs BL l0 l1 hNL2
     obtain ⟨j, O, hj, rfl, HOB, hOl, hOs, HLT, HO, hbl, BL⟩ := hrel
     obtain ⟨W, hW⟩ : ∃ y : World, y = wr := ⟨_, rfl⟩
     subst hW
     by_cases hlt : j < m
     · obtain ⟨x, hx⟩ := list_split (l := q) (k := j) (by rw [HML.out]; exact hlt)
       obtain ⟨b, o, rfl, hb, c0, c1, c2⟩ := rows_at3 (rdx HQ.out hbl.out) hx
       have hxo := (okM_iff.1 (HQO.out x (List.mem_of_getElem? hx))).1
       have hsz := hbl.out.size
       have hbW : b < W.heap.size := by omega
       have hjn : (j : Int) < (m : Int) := by omega
       have hj0 : (0 : Int) ≤ (j : Int) := by omega
       by_cases hbad : (Z : Int) ≤ x.a
       · obtain ⟨rfl, rfl⟩ := HBQ.out j x hx hbad
         obtain rfl : N = 0 := HN.out.symm
         have hd : decide ((Z : Int) ≤ x.a) = true := decide_eq_true hbad
         clear hx
         go_wp2
         go_ret2
         exact ⟨none, 0, rfl, World.ownsRow_nil _ _ _ _, ext_alloc hbl.out _⟩
       · have hnb : ¬ (Z : Int) ≤ x.a := hbad
         have hd : decide ((Z : Int) ≤ x.a) = false := decide_eq_false hbad
         obtain ⟨X, hX⟩ := Int.eq_ofNat_of_zero_le hxo.1
         have hXZ : X < Z := by omega
         obtain ⟨v, hv⟩ := list_split (l := O) (k := X) (by omega)
         have hvb := absS_mem (List.mem_of_getElem? hv)
         have hv2 := ab_both hvb
         have hO2 : bmp (-1) O x = O.set X (v + (-1)) := by unfold bmp; rw [hX, Int.toNat_natCast, List.getD_eq_getElem?_getD, hv, Option.getD_some]
         have hs2 := absS_bmp (s := (-1)) (.inr rfl) (o := O) (m := x) (by rw [hX, Int.toNat_natCast]; omega)
         rw [hO2] at hs2
         have HOB2 := Lib.hid (show bmps (-1) O1 (q.take (j + 1)) = O.set X (v + (-1)) by rw [bmps_take hx, HOB.out, hO2])
         have HLT2 := Lib.hid (show ∀ y ∈ q.take (j + 1), y.a < (Z : Int) by
          intro y hy
          rw [List.take_add_one, hx] at hy
          rcases List.mem_append.1 hy with hy | hy
          · exact HLT.out y hy
          · have : y = x := by simpa using hy
            rw [this]; omega)
         have q0 := int_cell HO.out hv
         have f0 := own_frozen HO.out X
         have hgr := (HO.out.lt _ rfl).2
         have hgl := (HO.out.lt _ rfl).1
         have hO2l : (O.set X (v + -1)).length = Z := by rw [List.length_set]; exact hOl
         obtain ⟨xa, xb, xc⟩ := x
         dsimp only at hX c0 c1 c2 hd hnb hxo
         subst hX
         have hX0 : (0 : Int) ≤ (X : Int) := by omega
         have hXZ2 : (X : Int) < (Z : Int) := by omega
         have ww : wrap64 (v + -1) = v + -1 := by unfold wrap64; omega
         have ww2 : IntKind.i64.wrap (v + -1) = v + -1 := by rw [IntKind.wrap_i64]; omega
         clear hx hv hvb hv2 hO2 hbad HOB HLT
         have q1 : (W.alloc (.cells #[.int .i64 (X : Int), .int .i64 xb, .int .i64 xc] 75)).cell? ⟨G, X, none⟩ = some (.int .i64 v) := cell_old q0 _
         have HO4 := Lib.hid (show (W.setCell ⟨G, X, none⟩ (.int .i64 (v + -1))).ownsRow w.heap.size 3 1 (.slice (some ⟨G, 0, none⟩) Z Z) Z (intsV (O.set X (v + (-1)))) from int_set HO.out)
         have hb4 := Lib.hid (show Below w.heap.size w (W.setCell ⟨G, X, none⟩ (.int .i64 (v + -1))) from Below.setCell hbl.out (p := ⟨G, X, none⟩) hgl _)
         go_wp2
         go_roundw
         case rel => exact ⟨j + 1, O.set X (v + (-1)), by omega, by go_num, HOB2, by rw [List.length_set]; exact hOl, by omega, HLT2, Lib.hid (HO4.out.alloc _), Lib.hid (ext_alloc hb4.out _), Lib.hid ((BL.out.setF (p := ⟨G, X, none⟩) hGNL _).al _)⟩
         case measure => simp [intOf]; omega
     · obtain rfl : m = j := by omega
       clear BL
       obtain ⟨rfl, rfl⟩ := HGO.out HLP.out (by have h9 := HLT.out; rwa [List.take_of_length_le (by rw [HML.out]; exact Nat.le_refl _)] at h9)
       have hO2l : (O.map ab).length = Z := by rw [List.length_map]; exact hOl
       have HEW := Lib.hid (errm_eq HOB1.out HOB.out HKL.out HML.out)
       rw [HEW.out] at HN
       obtain rfl : Z = N := by rw [← hO2l]; exact HN.out
       have HO4 := Lib.hid (show W.ownsRow w.heap.size 3 1 (.slice (some ⟨G, 0, none⟩) Z Z) Z (intsV (absTo O 0)) by rw [absTo_zero]; exact HO.out)
       clear HN HGO HLT HO HOB HBP HBQ HLP
       go_wp2
       rw [rounds_succ]
       go_wp2
       go_loopw [63] (fun i wr => ∃ j : Nat, j ≤ Z ∧ i = .int .i64 j ∧ Hid (wr.ownsRow w.heap.size 3 1 (.slice (some ⟨G, 0, none⟩) Z Z) Z (intsV (absTo O j))) ∧ Hid (Below w.heap.size w wr)) (fun i _ => Z - (intOf i).toNat)
       case atStart => exact ⟨0, Nat.zero_le _, rfl, HO4, hbl⟩
       case round =>
        clear HO4 hbl
        obtain ⟨j, hj, rfl, HO, hbl⟩ := hrel
        obtain ⟨V, hV⟩ : ∃ y : World, y = wr := ⟨_, rfl⟩
        subst hV
        by_cases hlt : j < Z
        · obtain ⟨v, hv⟩ := list_split (l := O) (k := j) (by omega)
          have hvb := ab_both (absS_mem (List.mem_of_getElem? hv))
          have hv3 : -1000 ≤ v ∧ v ≤ 1000 := by omega
          have q0 := int_cell HO.out (absTo_get hv)
          have HST := Lib.hid (absTo_set hv)
          have f0 := own_frozen HO.out j
          have hgr := (HO.out.lt _ rfl).2
          have hgl := (HO.out.lt _ rfl).1
          have hjn : (j : Int) < (Z : Int) := by omega
          have hj0 : (0 : Int) ≤ (j : Int) := by omega
          clear hv hvb
          have HO5 := Lib.hid (show (V.setCell ⟨G, j, none⟩ (.int .i64 (ab v))).ownsRow w.heap.size 3 1 (.slice (some ⟨G, 0, none⟩) Z Z) Z (intsV (absTo O (j + 1))) by rw [← HST.out]; exact int_set HO.out)
          have hb5 := Lib.hid (show Below w.heap.size w (V.setCell ⟨G, j, none⟩ (.int .i64 (ab v))) from Below.setCell hbl.out (p := ⟨G, j, none⟩) hgl _)
          go_wp2_with fail
          refine (abs_any v _ hv3).mono ?_
          rintro e w9 ⟨rfl, rfl⟩
          go_wp2
          go_roundw
          case rel => exact ⟨j + 1, by omega, by go_num, HO5, hb5⟩
          case measure => simp [intOf]; omega
        · obtain rfl : j = Z := by omega
          have HAL := Lib.hid (absTo_all O (Nat.le_of_eq hOl))
          rw [HAL.out] at HO
          go_wp2
          go_ret2
          rw [HEW.out]
          exact ⟨_, _, rfl, HO.out, hbl.out⟩
end Go.Proofs.Ytphhelmcaehclaa
