/- RodErrors: the reference's. -/
import Derived.Test.YtphhelmcaehclaaVWsC
import Derived.Test.YtphhelmcaehclaaVM4
import Derived.Test.YtphhelmcaehclaaVM1
namespace Go.Proofs.Ytphhelmcaehclaa
open Go.RowKit
set_option linter.unusedVariables false
set_option linter.unusedSimpArgs false
theorem int_cell {w : World} {B g n c k : Nat} {l : List Int} {z : Int} (h : w.ownsRow B 3 1 (.slice (some ⟨g, 0, none⟩) n c) n (intsV l)) (hz : l[k]? = some z) : w.cell? ⟨g, k, none⟩ = some (.int .i64 z) := by
 have := h.cells rfl k (.int .i64 z) (intsV_get hz)
 rw [add_flat, Nat.zero_add] at this
 exact this
theorem int_set {w : World} {B g n c k : Nat} {l : List Int} {z : Int} (h : w.ownsRow B 3 1 (.slice (some ⟨g, 0, none⟩) n c) n (intsV l)) : (w.setCell ⟨g, k, none⟩ (.int .i64 z)).ownsRow B 3 1 (.slice (some ⟨g, 0, none⟩) n c) n (intsV (l.set k z)) := by
 have := (h.stored k (.int .i64 z)).1
 rw [← intsV_set] at this
 exact this
theorem ab_both {v s : Int} (h : ab v ≤ s) : -s ≤ v ∧ v ≤ s := by unfold ab at h; split at h <;> omega
theorem err_badp {p q : List R3} {z : Int} {j : Nat} {x : R3} (hx : p[j]? = some x) (hb : z ≤ x.a) : errL p q z = [] ∧ errB p q z = false := by
 have e : p.all (fun m => decide (m.a < z)) = false := List.all_eq_false.2 ⟨x, List.mem_of_getElem? hx, by simpa using hb⟩
 have e2 : errB p q z = false := by unfold errB; rw [e]; simp
 exact ⟨by unfold errL; rw [e2]; rfl, e2⟩
theorem err_badq {p q : List R3} {z : Int} {j : Nat} {x : R3} (hx : q[j]? = some x) (hb : z ≤ x.a) : errL p q z = [] ∧ errB p q z = false := by
 have e : q.all (fun m => decide (m.a < z)) = false := List.all_eq_false.2 ⟨x, List.mem_of_getElem? hx, by simpa using hb⟩
 have e2 : errB p q z = false := by unfold errB; rw [e]; simp
 exact ⟨by unfold errL; rw [e2]; rfl, e2⟩
theorem err_good {p q : List R3} {Z : Nat} (h1 : rcdB p = true) (h2 : rcdB q = true) (h3 : inB (Z : Int) 1 8 = true) (h4 : ∀ x ∈ p, x.a < (Z : Int)) (h5 : ∀ x ∈ q, x.a < (Z : Int)) : errL p q (Z : Int) = (bmps (-1) (bmps 1 (List.replicate Z 0) p) q).map ab ∧ errB p q (Z : Int) = true := by
 have e : errB p q (Z : Int) = true := by
  unfold errB
  simp only [Bool.and_eq_true, List.all_eq_true, decide_eq_true_eq]
  exact ⟨⟨⟨⟨h1, h2⟩, h3⟩, h4⟩, h5⟩
 exact ⟨by unfold errL; rw [if_pos e, Int.toNat_natCast], e⟩
theorem errm_eq {p q : List R3} {Z k m : Nat} {O O1 : List Int} (h1 : bmps 1 (List.replicate Z 0) (p.take k) = O1) (h2 : bmps (-1) O1 (q.take m) = O) (hk : p.length = k) (hm : q.length = m) : (bmps (-1) (bmps 1 (List.replicate Z 0) p) q).map ab = O.map ab := by
 rw [List.take_of_length_le (Nat.le_of_eq hk)] at h1
 rw [List.take_of_length_le (Nat.le_of_eq hm)] at h2
 rw [h1, h2]
def absTo (O : List Int) (j : Nat) : List Int := (O.take j).map ab ++ O.drop j
theorem absTo_zero (O : List Int) : absTo O 0 = O := by simp [absTo]
theorem absTo_all (O : List Int) {j : Nat} (h : O.length ≤ j) : absTo O j = O.map ab := by unfold absTo; rw [List.take_of_length_le h, List.drop_eq_nil_of_le h, List.append_nil]
theorem absTo_get {O : List Int} {j : Nat} {v : Int} (h : O[j]? = some v) : (absTo O j)[j]? = some v := by
 have hj := (List.getElem?_eq_some_iff.1 h).1
 unfold absTo
 rw [List.getElem?_append_right (by simp; omega), List.getElem?_drop]
 simp only [List.length_map, List.length_take]
 rw [show j + (j - min j O.length) = j by omega]
 exact h
theorem absTo_set {O : List Int} {j : Nat} {v : Int} (h : O[j]? = some v) : (absTo O j).set j (ab v) = absTo O (j + 1) := by
 obtain ⟨hj, hv⟩ := List.getElem?_eq_some_iff.1 h
 unfold absTo
 have hl : ((O.take j).map ab).length = j := by simp; omega
 rw [List.set_append_right _ _ (by omega), hl, Nat.sub_self, List.drop_eq_getElem_cons hj, List.set_cons_zero, List.take_add_one, h, List.map_append]
 simp
set_option maxRecDepth 100000 in
set_option maxHeartbeats 4000000 in
theorem specRodErrors_any (B : Option Addr) (k cb : Nat) (p : List R3) (D : Option Addr) (m cd : Nat) (q : List R3) (z : Int) (w : World) (hk : k ≤ 1048576) (hm : m ≤ 1048576) (hp : Reads w w.heap.size 3 B k (rowsV3 p)) (hq : Reads w w.heap.size 3 D m (rowsV3 q)) :
 Calls Try.prog 15 #[.slice B k cb, .slice D m cd, .int .i64 z] w (RetSliceB w 3 1 (errL p q z).length (intsV (errL p q z)) (errB p q z)) := by
 obtain ⟨i0, hi, hz0, hz1, hz2⟩ := info_parts info_int
 unfold RetSliceB
 have hkl := rows_len3 hp
 have hml := rows_len3 hq
 have HP := Lib.hid hp
 have HQ := Lib.hid hq
 have HKL := Lib.hid hkl
 have HML := Lib.hid hml
 clear hp hq hkl hml

 cases hrb : rcdB p && rcdB q
 · have e := hrb
   rw [Bool.and_eq_false_iff] at e
   rw [show errL p q z = [] by unfold errL; rw [if_neg (by rcases e with e | e <;> simp [errB, e])], show errB p q z = false by rcases e with e | e <;> simp [errB, e]]
   rw [List.length_nil]
   have HRB := Lib.hid hrb
   clear hrb e
   go_enter Try.func15, Try.ntmps15
   go_wp2_with fail
   refine (l19Both_any B k cb p D m cd q _ hk hm (rdx HP.out (ext_refl w)) (rdx HQ.out (ext_refl w))).mono ?_
   rw [HRB.out]
   rintro e w1 ⟨rfl, hb⟩
   have s1 : w.heap.size ≤ w1.heap.size := (by have := hb.size; (try simp at this); omega)
   have b1 := Lib.hid (ext_trans (ext_refl w) hb)
   have t1 : w.heap.size ≤ w1.heap.size := b1.out.size
   clear hb
   go_wp2
   go_ret2
   exact ⟨_, _, rfl, own_lit_at w1 3 1 (H := w1.heap.size) (B := w.heap.size) rfl (Below.size b1.out), ext_alloc b1.out _⟩
 obtain ⟨hrp, hrq⟩ := (Bool.and_eq_true _ _).mp hrb
 cases hrz : inB z 1 8
 · rw [show errL p q z = [] by unfold errL; rw [if_neg (by simp [errB, hrz])], show errB p q z = false by simp [errB, hrz]]
   rw [List.length_nil]
   have HRB := Lib.hid hrb
   have HRZ := Lib.hid hrz
   clear hrb hrp hrq hrz
   go_enter Try.func15, Try.ntmps15
   go_wp2_with fail
   refine (l19Both_any B k cb p D m cd q _ hk hm (rdx HP.out (ext_refl w)) (rdx HQ.out (ext_refl w))).mono ?_
   rw [HRB.out]
   rintro e w1 ⟨rfl, hb⟩
   have s1 : w.heap.size ≤ w1.heap.size := (by have := hb.size; (try simp at this); omega)
   have b1 := Lib.hid (ext_trans (ext_refl w) hb)
   have t1 : w.heap.size ≤ w1.heap.size := b1.out.size
   clear hb
   go_wp2_with fail
   refine (l1In_c z 1 8 _ _ rfl).mono ?_
   rw [HRZ.out]
   rintro e wz ⟨rfl, rfl⟩
   go_wp2
   go_ret2
   exact ⟨_, _, rfl, own_lit_at w1 3 1 (H := w1.heap.size) (B := w.heap.size) rfl (Below.size b1.out), ext_alloc b1.out _⟩
 have HRB := Lib.hid hrb
 clear hrb
 obtain ⟨hpl, hpo⟩ := rcd_parts hrp
 obtain ⟨hql, hqo⟩ := rcd_parts hrq
 have hzz := inB_iff.1 hrz
 obtain ⟨Z, rfl⟩ := Int.eq_ofNat_of_zero_le (show 0 ≤ z by omega)
 have hZ1 : 1 ≤ Z := by omega
 have hZ8 : Z ≤ 8 := by omega
 rw [HKL.out] at hpl
 rw [HML.out] at hql
 have HPO := Lib.hid hpo
 have HQO := Lib.hid hqo
 have HRP := Lib.hid hrp
 have HRQ := Lib.hid hrq
 have HRZ := Lib.hid hrz
 have HBP := Lib.hid (fun (j : Nat) (x : R3) (hx : p[j]? = some x) (hb : (Z : Int) ≤ x.a) => err_badp (q := q) hx hb)
 have HBQ := Lib.hid (fun (j : Nat) (x : R3) (hx : q[j]? = some x) (hb : (Z : Int) ≤ x.a) => err_badq (p := p) hx hb)
 have HGO := Lib.hid (fun (h1 : ∀ x ∈ p, x.a < (Z : Int)) (h2 : ∀ x ∈ q, x.a < (Z : Int)) => err_good hrp hrq hrz h1 h2)
 obtain ⟨EL, hEL⟩ : ∃ o9, errL p q (Z : Int) = o9 := ⟨_, rfl⟩
 obtain ⟨EB, hEB⟩ : ∃ o9, errB p q (Z : Int) = o9 := ⟨_, rfl⟩
 rw [hEL, hEB] at HBP HBQ HGO ⊢
 obtain ⟨N, hN⟩ : ∃ o9, EL.length = o9 := ⟨_, rfl⟩
 rw [hN]
 have HN := Lib.hid hN
 clear hrp hrq hrz hzz hpo hqo hEL hEB hN

 go_enter Try.func15, Try.ntmps15
 go_wp2_with fail
 refine (l19Both_any B k cb p D m cd q _ hk hm (rdx HP.out (ext_refl w)) (rdx HQ.out (ext_refl w))).mono ?_
 rw [HRB.out]
 rintro e w1 ⟨rfl, hb⟩
 have s1 : w.heap.size ≤ w1.heap.size := (by have := hb.size; (try simp at this); omega)
 have b1 := Lib.hid (ext_trans (ext_refl w) hb)
 have t1 : w.heap.size ≤ w1.heap.size := b1.out.size
 clear hb
 go_wp2_with fail
 refine (l1In_c (Z : Int) 1 8 _ _ rfl).mono ?_
 rw [HRZ.out]
 rintro e wz ⟨rfl, rfl⟩
 have hbG := Lib.hid b1.out
 go_wp2_with (at_make; refine wpList_make_full _ rfl _ _ 39 rfl w1.heap.size 3 i0 _ 1 Try.underlying39 hi hz0 hz1 .i64 .i64 _ _ Z rfl rfl rfl rfl (by rw [hz2]; omega) (by unfold maxLen; omega) (Nat.le_refl _) ?_; intro w5 hown2 hgrow2; rw [made_ints] at hown2; have hbM := Lib.hid ((ext_refl w1).grown hgrow2 (Nat.le_refl _) (fun _ h => by cases h)); have HCM := Lib.hid hown2; clear hown2 hgrow2)
 have hb3 := Lib.hid (ext_trans hbG.out hbM.out)
 have HO3 := Lib.hid (own_base (base' := w.heap.size) HCM.out hbG.out.size)
 obtain ⟨G, hG⟩ : ∃ o9, w1.heap.size = o9 := ⟨_, rfl⟩
 rw [hG] at HO3 ⊢
 clear HCM hbM hbG hG
 clear b1
 go_wp2
 go_loopw [9] (fun i wr => ∃ (j : Nat) (O : List Int), j ≤ k ∧ i = .int .i64 j ∧ Hid (bmps 1 (List.replicate Z 0) (p.take j) = O) ∧ O.length = Z ∧ absS O ≤ 0 + j ∧ Hid (∀ y ∈ p.take j, y.a < (Z : Int)) ∧ Hid (wr.ownsRow w.heap.size 3 1 (.slice (some ⟨G, 0, none⟩) Z Z) Z (intsV O)) ∧ Hid (Below w.heap.size w wr)) (fun i _ => k - (intOf i).toNat)
 case atStart => exact ⟨0, List.replicate Z 0, Nat.zero_le _, rfl, Lib.hid rfl, by simp, by rw [absS_rep]; omega, Lib.hid (fun y hy => by cases hy), HO3, hb3⟩
 case round =>
  clear HO3 hb3
  obtain ⟨j, O, hj, rfl, HOB, hOl, hOs, HLT, HO, hbl⟩ := hrel
  obtain ⟨W, hW⟩ : ∃ y : World, y = wr := ⟨_, rfl⟩
  subst hW
  by_cases hlt : j < k
  · obtain ⟨x, hx⟩ := list_split (l := p) (k := j) (by rw [HKL.out]; exact hlt)
    obtain ⟨b, o, rfl, hb, c0, c1, c2⟩ := rows_at3 (rdx HP.out hbl.out) hx
    have hxo := (okM_iff.1 (HPO.out x (List.mem_of_getElem? hx))).1
    have hsz := hbl.out.size
    have hbW : b < W.heap.size := by omega
    have hjn : (j : Int) < (k : Int) := by omega
    have hj0 : (0 : Int) ≤ (j : Int) := by omega
    by_cases hbad : (Z : Int) ≤ x.a
    · obtain ⟨rfl, rfl⟩ := HBP.out j x hx hbad
      obtain rfl : N = 0 := HN.out.symm
      have hd : decide ((Z : Int) ≤ x.a) = true := decide_eq_true hbad
      clear hx
      go_wp2
      go_ret2
      exact ⟨_, _, rfl, own_lit_at W 3 1 (H := W.heap.size) (B := w.heap.size) rfl hsz, ext_alloc hbl.out _⟩
    · have hnb : ¬ (Z : Int) ≤ x.a := hbad
      have hd : decide ((Z : Int) ≤ x.a) = false := decide_eq_false hbad
      obtain ⟨X, hX⟩ := Int.eq_ofNat_of_zero_le hxo.1
      have hXZ : X < Z := by omega
      obtain ⟨v, hv⟩ := list_split (l := O) (k := X) (by omega)
      have hvb := absS_mem (List.mem_of_getElem? hv)
      have hv2 := ab_both hvb
      have hO2 : bmp 1 O x = O.set X (v + 1) := by unfold bmp; rw [hX, Int.toNat_natCast, List.getD_eq_getElem?_getD, hv, Option.getD_some]
      have hs2 := absS_bmp (s := 1) (.inl rfl) (o := O) (m := x) (by rw [hX, Int.toNat_natCast]; omega)
      rw [hO2] at hs2
      have HOB2 := Lib.hid (show bmps 1 (List.replicate Z 0) (p.take (j + 1)) = O.set X (v + 1) by rw [bmps_take hx, HOB.out, hO2])
      have HLT2 := Lib.hid (show ∀ y ∈ p.take (j + 1), y.a < (Z : Int) by
       intro y hy
       rw [List.take_add_one, hx] at hy
       rcases List.mem_append.1 hy with hy | hy
       · exact HLT.out y hy
       · have : y = x := by simpa using hy
         rw [this]; omega)
      have q0 := int_cell HO.out hv
      have f0 := own_frozen HO.out X
      have hgr := (HO.out.lt _ rfl).2
      have hgl := (HO.out.lt _ rfl).1
      have hO2l : (O.set X (v + 1)).length = Z := by rw [List.length_set]; exact hOl
      obtain ⟨xa, xb, xc⟩ := x
      dsimp only at hX c0 c1 c2 hd hnb hxo
      subst hX
      have hX0 : (0 : Int) ≤ (X : Int) := by omega
      have hXZ2 : (X : Int) < (Z : Int) := by omega
      have ww : wrap64 (v + 1) = v + 1 := by unfold wrap64; omega
      have ww2 : IntKind.i64.wrap (v + 1) = v + 1 := by rw [IntKind.wrap_i64]; omega
      clear hx hv hvb hv2 hO2 hbad HOB HLT
      have HO4 := Lib.hid (show (W.setCell ⟨G, X, none⟩ (.int .i64 (v + 1))).ownsRow w.heap.size 3 1 (.slice (some ⟨G, 0, none⟩) Z Z) Z (intsV (O.set X (v + 1))) from int_set HO.out)
      have hb4 := Lib.hid (show Below w.heap.size w (W.setCell ⟨G, X, none⟩ (.int .i64 (v + 1))) from Below.setCell hbl.out (p := ⟨G, X, none⟩) hgl _)
      go_wp2
      go_region
      go_wp2
      go_roundw
      case rel => exact ⟨j + 1, O.set X (v + 1), by omega, by go_num, HOB2, by rw [List.length_set]; exact hOl, by omega, HLT2, Lib.hid HO4.out.drew, Lib.hid hb4.out.drew⟩
      case measure => simp [intOf]; omega
  · obtain rfl : k = j := by omega
    have HOB1 := HOB
    have HLP := Lib.hid (show ∀ y ∈ p, y.a < (Z : Int) by have h9 := HLT.out; rwa [List.take_of_length_le (by rw [HKL.out]; exact Nat.le_refl _)] at h9)
    obtain ⟨O1, hO1⟩ : ∃ o9, O = o9 := ⟨_, rfl⟩
    rw [hO1] at HOB1 HO hOl hOs
    clear HOB HLT hO1
    go_wp2
    go_loopw [10] (fun i wr => ∃ (j : Nat) (O : List Int), j ≤ m ∧ i = .int .i64 j ∧ Hid (bmps (-1) O1 (q.take j) = O) ∧ O.length = Z ∧ absS O ≤ 12 + j ∧ Hid (∀ y ∈ q.take j, y.a < (Z : Int)) ∧ Hid (wr.ownsRow w.heap.size 3 1 (.slice (some ⟨G, 0, none⟩) Z Z) Z (intsV O)) ∧ Hid (Below w.heap.size w wr)) (fun i _ => m - (intOf i).toNat)
    case atStart => exact ⟨0, O1, Nat.zero_le _, rfl, Lib.hid rfl, hOl, by omega, Lib.hid (fun y hy => by cases hy), HO, hbl⟩
    case round =>
     clear HO hbl hOl hOs
     obtain ⟨j, O, hj, rfl, HOB, hOl, hOs, HLT, HO, hbl⟩ := hrel
     obtain ⟨W, hW⟩ : ∃ y : World, y = wr := ⟨_, rfl⟩
     subst hW
     by_cases hlt : j < m
     · obtain ⟨x, hx⟩ := list_split (l := q) (k := j) (by rw [HML.out]; exact hlt)
       obtain ⟨b, o, rfl, hb, c0, c1, c2⟩ := rows_at3 (rdx HQ.out hbl.out) hx
       have hxo := (okM_iff.1 (HQO.out x (List.mem_of_getElem? hx))).1
       have hsz := hbl.out.size
       have hbW : b < W.heap.size := by omega
       have hjn : (j : Int) < (m : Int) := by omega
       have hj0 : (0 : Int) ≤ (j : Int) := by omega
       by_cases hbad : (Z : Int) ≤ x.a
       · obtain ⟨rfl, rfl⟩ := HBQ.out j x hx hbad
         obtain rfl : N = 0 := HN.out.symm
         have hd : decide ((Z : Int) ≤ x.a) = true := decide_eq_true hbad
         clear hx
         go_wp2
         go_ret2
         exact ⟨_, _, rfl, own_lit_at W 3 1 (H := W.heap.size) (B := w.heap.size) rfl hsz, ext_alloc hbl.out _⟩
       · have hnb : ¬ (Z : Int) ≤ x.a := hbad
         have hd : decide ((Z : Int) ≤ x.a) = false := decide_eq_false hbad
         obtain ⟨X, hX⟩ := Int.eq_ofNat_of_zero_le hxo.1
         have hXZ : X < Z := by omega
         obtain ⟨v, hv⟩ := list_split (l := O) (k := X) (by omega)
         have hvb := absS_mem (List.mem_of_getElem? hv)
         have hv2 := ab_both hvb
         have hO2 : bmp (-1) O x = O.set X (v + (-1)) := by unfold bmp; rw [hX, Int.toNat_natCast, List.getD_eq_getElem?_getD, hv, Option.getD_some]
         have hs2 := absS_bmp (s := (-1)) (.inr rfl) (o := O) (m := x) (by rw [hX, Int.toNat_natCast]; omega)
         rw [hO2] at hs2
         have HOB2 := Lib.hid (show bmps (-1) O1 (q.take (j + 1)) = O.set X (v + (-1)) by rw [bmps_take hx, HOB.out, hO2])
         have HLT2 := Lib.hid (show ∀ y ∈ q.take (j + 1), y.a < (Z : Int) by
          intro y hy
          rw [List.take_add_one, hx] at hy
          rcases List.mem_append.1 hy with hy | hy
          · exact HLT.out y hy
          · have : y = x := by simpa using hy
            rw [this]; omega)
         have q0 := int_cell HO.out hv
         have f0 := own_frozen HO.out X
         have hgr := (HO.out.lt _ rfl).2
         have hgl := (HO.out.lt _ rfl).1
         have hO2l : (O.set X (v - 1)).length = Z := by rw [List.length_set]; exact hOl
         obtain ⟨xa, xb, xc⟩ := x
         dsimp only at hX c0 c1 c2 hd hnb hxo
         subst hX
         have hX0 : (0 : Int) ≤ (X : Int) := by omega
         have hXZ2 : (X : Int) < (Z : Int) := by omega
         have ww : wrap64 (v - 1) = v - 1 := by unfold wrap64; omega
         have ww2 : IntKind.i64.wrap (v - 1) = v - 1 := by rw [IntKind.wrap_i64]; omega
         clear hx hv hvb hv2 hO2 hbad HOB HLT
         have HO4 := Lib.hid (show (W.setCell ⟨G, X, none⟩ (.int .i64 (v - 1))).ownsRow w.heap.size 3 1 (.slice (some ⟨G, 0, none⟩) Z Z) Z (intsV (O.set X (v + (-1)))) from int_set HO.out)
         have hb4 := Lib.hid (show Below w.heap.size w (W.setCell ⟨G, X, none⟩ (.int .i64 (v - 1))) from Below.setCell hbl.out (p := ⟨G, X, none⟩) hgl _)
         go_wp2
         go_region
         go_wp2
         go_roundw
         case rel => exact ⟨j + 1, O.set X (v + (-1)), by omega, by go_num, HOB2, by rw [List.length_set]; exact hOl, by omega, HLT2, Lib.hid HO4.out.drew, Lib.hid hb4.out.drew⟩
         case measure => simp [intOf]; omega
     · obtain rfl : m = j := by omega
       obtain ⟨rfl, rfl⟩ := HGO.out HLP.out (by have h9 := HLT.out; rwa [List.take_of_length_le (by rw [HML.out]; exact Nat.le_refl _)] at h9)
       have hO2l : (O.map ab).length = Z := by rw [List.length_map]; exact hOl
       have HEW := Lib.hid (errm_eq HOB1.out HOB.out HKL.out HML.out)
       rw [HEW.out] at HN
       obtain rfl : Z = N := by rw [← hO2l]; exact HN.out
       have HO4 := Lib.hid (show W.ownsRow w.heap.size 3 1 (.slice (some ⟨G, 0, none⟩) Z Z) Z (intsV (absTo O 0)) by rw [absTo_zero]; exact HO.out)
       clear HN HGO HLT HO HOB HBP HBQ HLP
       go_wp2
       go_loopw [11] (fun i wr => ∃ j : Nat, j ≤ Z ∧ i = .int .i64 j ∧ Hid (wr.ownsRow w.heap.size 3 1 (.slice (some ⟨G, 0, none⟩) Z Z) Z (intsV (absTo O j))) ∧ Hid (Below w.heap.size w wr)) (fun i _ => Z - (intOf i).toNat)
       case atStart => exact ⟨0, Nat.zero_le _, rfl, HO4, hbl⟩
       case round =>
        clear HO4 hbl
        obtain ⟨j, hj, rfl, HO, hbl⟩ := hrel
        obtain ⟨V, hV⟩ : ∃ y : World, y = wr := ⟨_, rfl⟩
        subst hV
        by_cases hlt : j < Z
        · obtain ⟨v, hv⟩ := list_split (l := O) (k := j) (by omega)
          have hvb := ab_both (absS_mem (List.mem_of_getElem? hv))
          have hv3 : -1000 ≤ v ∧ v ≤ 1000 := by omega
          have q0 := int_cell HO.out (absTo_get hv)
          have HST := Lib.hid (absTo_set hv)
          have f0 := own_frozen HO.out j
          have hgr := (HO.out.lt _ rfl).2
          have hgl := (HO.out.lt _ rfl).1
          have hjn : (j : Int) < (Z : Int) := by omega
          have hj0 : (0 : Int) ≤ (j : Int) := by omega
          clear hv hvb
          obtain ⟨s0, s1⟩ := hv3
          have wn : wrap64 (-v) = -v := by unfold wrap64; omega
          have wn2 : IntKind.i64.wrap (-v) = -v := by rw [IntKind.wrap_i64]; omega
          go_upto_region 19 with fail
          obtain ⟨Y, hY⟩ : ∃ o9, ab v = o9 := ⟨_, rfl⟩
          have HMO := Lib.hid (fun (w : World) => l1Most_ab v w ⟨s0, s1⟩)
          rw [hY] at HMO HST
          clear hY
          (refine wp_region_later_tail 13 (by kernel_rfl) (by kernel_rfl) ?_; simp only [List.take_succ_cons, List.take_zero, List.drop_succ_cons, List.drop_zero]; (repeat (go_big_quiet_step (first | (go_at_call 55; with_reducible exact Calls.later_of (HMO.out _))))); refine wpQuiet_nil ?_; intro w1 hw1; obtain ⟨⟨wl, hbL⟩, hw1'⟩ := hw1; simp only at hw1'; subst hw1'; obtain ⟨hcL, hfL⟩ := bcell hbL)
          have qL := ext_cell hbL q0
          have fL := own_frozen (own_ext HO.out hbL) j
          have gL : G < w1.heap.size := Nat.lt_of_lt_of_le hgr hbL.size
          have HO5 := Lib.hid (show (w1.setCell ⟨G, j, none⟩ (.int .i64 Y)).ownsRow w.heap.size 3 1 (.slice (some ⟨G, 0, none⟩) Z Z) Z (intsV (absTo O (j + 1))) by rw [← HST.out]; exact int_set (own_ext HO.out hbL))
          have hb5 := Lib.hid (show Below w.heap.size w (w1.setCell ⟨G, j, none⟩ (.int .i64 Y)) from Below.setCell (ext_trans hbl.out hbL) (p := ⟨G, j, none⟩) hgl _)
          go_wp2
          go_roundw
          case rel => exact ⟨j + 1, by omega, by go_num, HO5, hb5⟩
          case measure => simp [intOf]; omega
        · obtain rfl : j = Z := by omega
          have HAL := Lib.hid (absTo_all O (Nat.le_of_eq hOl))
          rw [HAL.out] at HO
          go_wp2
          go_ret2
          rw [HEW.out]
          exact ⟨_, _, rfl, HO.out, hbl.out⟩
end Go.Proofs.Ytphhelmcaehclaa
