/- The law FnCarries, walked. -/
import Derived.Deep.CutBlock
import Derived.Test.YtajdmeajkgdioaaVCaA
import Derived.Test.YtajdmeajkgdioaaVCaB
import Derived.Test.YtajdmeajkgdioaaVCaC
import Derived.Test.YtajdmeajkgdioaaVM4
import Derived.Test.YtajdmeajkgdioaaVM1
namespace Go.Proofs.Ytajdmeajkgdioaa
open Go.RowKit
set_option linter.unusedVariables false
set_option linter.unusedSimpArgs false
theorem kindsN_len (u lo : Int) (l : List R2) (m : Int) : (kindsM u lo l m).length ≤ 4 := by
 unfold kindsM
 split
 · rw [cntN_len]; exact Nat.le_refl _
 · simp
/-- what the law asks of a number added -/
theorem fcaLaw (u lo : Int) (l : List R2) (m : Int) : addNok u lo l m = true → frB u lo l = true ∧ (0 ≤ m ∧ m ≤ 200000000) ∧ (0 ≤ numR l ∧ numR l < 200000000) ∧ (∀ c ∈ kindsM u lo l m, 0 ≤ c ∧ c ≤ 8) ∧ (kindsM u lo l m).sum = czZ 10 m := by
 intro h
 obtain ⟨hf, hf2, hst, hn, hm, hN, _⟩ := fadLaw u lo l m h
 refine ⟨hf, hm, hN, ?_, kinds_sum u lo l m h⟩
 intro c hc
 have h8 := (frB_head hf).2.2.2
 unfold kindsM at hc
 rw [if_pos h] at hc
 have := cntN_le l.length m ⟨dsOf l, [], 0⟩ l.length c hc
 omega
/-- what the law asks of a one added -/
theorem fcaLong (u lo : Int) (l : List R2) (r : Int) : addDigitB u lo l r 1 = true →
 (∀ k : Nat, k < l.length → rvV u lo l (k : Int) = (dsOf l).getD k 0 ∧ rvB u lo l (k : Int) = true) ∧
 (∀ k : Nat, k < l.length → rvV (addDF u lo l r 1).1 (addDF u lo l r 1).2.1 (addDF u lo l r 1).2.2 (k : Int) = (dsOf (addDF u lo l r 1).2.2).getD k 0 ∧ rvB (addDF u lo l r 1).1 (addDF u lo l r 1).2.1 (addDF u lo l r 1).2.2 (k : Int) = true) ∧ True ∧ True ∧
 chg (dsOf l) (dsOf (addDF u lo l r 1).2.2) l.length = lcV u lo l r := by
 intro h
 obtain ⟨hf, hs, hfit⟩ := dsFit h
 have ef : addDF u lo l r 1 = (u, lo, rodsD (addS (r.toNat + 1) 1 ⟨dsOf l, [], 0⟩).ds) := by unfold addDF; rw [if_pos h]
 have hw : WF (addS (r.toNat + 1) 1 ⟨dsOf l, [], 0⟩).ds := addS_WF _ _ _ hfit.2.1 hfit.2.2.2.1
 have hl : (addS (r.toNat + 1) 1 ⟨dsOf l, [], 0⟩).ds.length = l.length := by rw [addS_len]; exact dsOf_len l
 have hch := addS_chg (r.toNat + 1) 1 ⟨dsOf l, [], 0⟩ l.length (dsOf_len l) hfit (by decide)
 rw [ef]
 obtain ⟨T, hT⟩ : ∃ T, (addS (r.toNat + 1) 1 ⟨dsOf l, [], 0⟩).ds = T := ⟨_, rfl⟩
 rw [hT] at hw hl hch ⊢
 have hfb : frB u lo (rodsD T) = true := frB_rodsD (by rw [hl]; exact frB_headB hf) hw
 have hv : ∀ (m : List R2), frB u lo m = true → ∀ k : Nat, k < m.length → rvV u lo m (k : Int) = (dsOf m).getD k 0 ∧ rvB u lo m (k : Int) = true := by
  intro m hm k hk
  have hb : rvB u lo m (k : Int) = true := by unfold rvB; rw [hm, inB_iff.2 ⟨by omega, by omega⟩]; rfl
  refine ⟨?_, hb⟩
  unfold rvV
  rw [if_pos hb]
  obtain ⟨x, hx⟩ := list_split (l := m) (k := k) hk
  show dv (m.getD k ⟨0, 0⟩) = (dsOf m).getD k 0
  rw [List.getD_eq_getElem?_getD, List.getD_eq_getElem?_getD, hx]
  unfold dsOf
  rw [List.getElem?_map, hx]
  rfl
 refine ⟨hv l hf, fun k hk => hv (rodsD T) hfb k (by rw [rodsD_len, hl]; exact hk), trivial, trivial, ?_⟩
 show chg (dsOf l) (dsOf (rodsD T)) l.length = _
 rw [dsOf_rodsD]
 unfold lcV
 rw [if_pos h]
 exact hch
set_option maxRecDepth 100000 in
set_option maxHeartbeats 8000000 in
theorem law_FnCarries (A : Option Addr) (n c : Nat) (w : World) (h : Code w w.heap.size A n) (hn63 : n ≤ maxLen) :
 Calls Try.prog 5 #[.slice A n c] w fun e w' => e = .returned (.bool true) ∧ Below w.heap.size w w' := by
 have HV := Lib.hid (fun w => vBig_any A n c w)
 by_cases hbig : (65536 : Int) < n
 · rw [decide_eq_true hbig] at HV
   go_enter Try.func5, Try.ntmps5
   go_wp2_with (go_at_call 6; refine (HV.out _).mono ?_; rintro e w' ⟨rfl, hb⟩)
   go_ret
   exact ⟨rfl, (by repeat (first | exact ext_refl _ | assumption | refine ext_alloc ?_ _ | refine ext_drew ?_ | refine ext_drewN ?_ _ | refine ext_set ?_ (by simp <;> omega) _ | refine ext_trans ?_ (by assumption)))⟩
 · rw [decide_eq_false hbig] at HV
   have hn : n ≤ 65536 := by omega
   have H := Lib.hid h
   clear h hbig hn63
   go_enter Try.func5, Try.ntmps5
   go_wp2_with fail
   refine (HV.out _).mono ?_
   rintro e w1 ⟨rfl, hb⟩
   have s1 : w.heap.size ≤ w1.heap.size := (by have := hb.size; (try simp at this); omega)
   have b1 := Lib.hid (ext_trans (ext_refl w) hb)
   have t1 : w.heap.size ≤ w1.heap.size := b1.out.size
   clear hb
   go_wp2_with fail
   refine (drawCarriesOf_any A n c _ ((H.out.below b1.out).more b1.out.size) hn).mono ?_
   rintro e w2 ⟨u, lo, l, As, cs, z, rfl, hIN, z0, z9, ho_s, hb⟩
   have s2 : w1.heap.size ≤ w2.heap.size := (by have := hb.size; (try simp at this); omega)
   have b2 := Lib.hid (ext_trans b1.out hb)
   have t2 : w.heap.size ≤ w2.heap.size := b2.out.size
   clear hb
   have oc_s := Lib.hid (own_base (base' := w1.heap.size + 0) ho_s (by simp))
   clear ho_s
   have hl9 : l.length ≤ 9 := hIN.2.2.2.2.2.1
   clear hIN
   have HB := Lib.hid (fun (w : World) h => implCarriesOf_any u lo As l.length cs l z w (by omega) h)
   have HA := Lib.hid (fun (w : World) h => specCarriesOf_any u lo As l.length cs l z w (by omega) h)
   have HKB := Lib.hid (fun (w : World) h => implKindsUsed_any u lo As l.length cs l z w (by omega) h)
   have HKA := Lib.hid (fun (w : World) h => specKindsUsed_any u lo As l.length cs l z w (by omega) h)
   have hlaw := fcaLaw u lo l z
   have hsum := fcaSum u lo l z
   have hKn := kindsN_len u lo l z
   obtain ⟨Q, hQ⟩ : ∃ o9, (addNst l z).ask = o9 := ⟨_, rfl⟩
   rw [hQ] at HA HB hsum
   obtain ⟨ok, hok⟩ : ∃ o9, addNok u lo l z = o9 := ⟨_, rfl⟩
   rw [hok] at HA HB HKA HKB hlaw hsum
   obtain ⟨Q2, hQ2⟩ : ∃ o9, (if ok = true then Q else 0) = o9 := ⟨_, rfl⟩
   rw [hQ2] at HA HB
   obtain ⟨K, hK⟩ : ∃ o9, kindsM u lo l z = o9 := ⟨_, rfl⟩
   rw [hK] at HKA HKB hlaw hKn
   unfold RetSliceB at HKA HKB
   unfold RetV at HA HB
   obtain ⟨kn, hkn⟩ : ∃ o9, K.length = o9 := ⟨_, rfl⟩
   rw [hkn] at HKA HKB hKn
   have HKN := Lib.hid hkn
   have HLAW := Lib.hid hlaw
   have HSUM := Lib.hid hsum
   have HQ2 := Lib.hid hQ2
   have k1 : (ok != ok) = false := by cases ok <;> rfl
   have k4 : (Q2 != Q2) = false := by simp
   clear hok hlaw hsum hQ hQ2 hK hkn
   go_wp2_with fail
   refine (HB.out _ (Reads.of_own (oc_s.out.alloc _))).mono ?_
   rintro e w3 ⟨rfl, hb⟩
   have s3 : w2.heap.size + 1 ≤ w3.heap.size := (by have := hb.size; (try simp at this); omega)
   have z3_0 : w2.heap.size < w3.heap.size := (by omega)
   have q3_0 : w3.cell? ⟨w2.heap.size, 0, none⟩ = some (.int .i64 u) := ext_cell hb (by simp [go_sem])
   have q3_1 : w3.cell? ⟨w2.heap.size, 1, none⟩ = some (.int .i64 lo) := ext_cell hb (by simp [go_sem])
   have q3_2 : w3.cell? ⟨w2.heap.size, 2, none⟩ = some (.slice As l.length cs) := ext_cell hb (by simp [go_sem])
   have b3 := Lib.hid (ext_trans (ext_alloc b2.out _) hb)
   have t3 : w.heap.size ≤ w3.heap.size := b3.out.size
   have o3_s := Lib.hid (own_ext (oc_s.out.alloc _) hb)
   clear hb
   go_wp2_with fail
   refine (HA.out _ (Reads.of_own o3_s.out)).mono ?_
   rintro e w4 ⟨rfl, hb⟩
   have s4 : w3.heap.size ≤ w4.heap.size := (by have := hb.size; (try simp at this); omega)
   have z4_0 : w2.heap.size < w4.heap.size := (by omega)
   have q4_0 : w4.cell? ⟨w2.heap.size, 0, none⟩ = some (.int .i64 u) := ext_cell hb q3_0
   have q4_1 : w4.cell? ⟨w2.heap.size, 1, none⟩ = some (.int .i64 lo) := ext_cell hb q3_1
   have q4_2 : w4.cell? ⟨w2.heap.size, 2, none⟩ = some (.slice As l.length cs) := ext_cell hb q3_2
   have b4 := Lib.hid (ext_trans b3.out hb)
   have t4 : w.heap.size ≤ w4.heap.size := b4.out.size
   have o4_s := Lib.hid (own_ext o3_s.out hb)
   clear q3_0 q3_1 q3_2
   clear hb
   go_wp2_with fail
   refine (HKB.out _ (Reads.of_own o4_s.out)).mono ?_
   rintro e w5 ⟨Am, cm, rfl, ho_m, hb⟩
   have s5 : w4.heap.size ≤ w5.heap.size := (by have := hb.size; (try simp at this); omega)
   have z5_0 : w2.heap.size < w5.heap.size := (by omega)
   have q5_0 : w5.cell? ⟨w2.heap.size, 0, none⟩ = some (.int .i64 u) := ext_cell hb q4_0
   have q5_1 : w5.cell? ⟨w2.heap.size, 1, none⟩ = some (.int .i64 lo) := ext_cell hb q4_1
   have q5_2 : w5.cell? ⟨w2.heap.size, 2, none⟩ = some (.slice As l.length cs) := ext_cell hb q4_2
   have b5 := Lib.hid (ext_trans b4.out hb)
   have t5 : w.heap.size ≤ w5.heap.size := b5.out.size
   have o5_s := Lib.hid (own_ext o4_s.out hb)
   clear q4_0 q4_1 q4_2
   have oc_m := Lib.hid (own_base (base' := w4.heap.size + 0) ho_m (by simp))
   clear ho_m
   clear hb
   go_wp2_with fail
   refine (HKA.out _ (Reads.of_own o5_s.out)).mono ?_
   rintro e w6 ⟨Ak, ck, rfl, ho_k, hb⟩
   have s6 : w5.heap.size ≤ w6.heap.size := (by have := hb.size; (try simp at this); omega)
   have z6_0 : w2.heap.size < w6.heap.size := (by omega)
   have q6_0 : w6.cell? ⟨w2.heap.size, 0, none⟩ = some (.int .i64 u) := ext_cell hb q5_0
   have q6_1 : w6.cell? ⟨w2.heap.size, 1, none⟩ = some (.int .i64 lo) := ext_cell hb q5_1
   have q6_2 : w6.cell? ⟨w2.heap.size, 2, none⟩ = some (.slice As l.length cs) := ext_cell hb q5_2
   have b6 := Lib.hid (ext_trans b5.out hb)
   have t6 : w.heap.size ≤ w6.heap.size := b6.out.size
   have o6_s := Lib.hid (own_ext o5_s.out hb)
   have o6_m := Lib.hid (own_ext oc_m.out hb)
   clear q5_0 q5_1 q5_2
   have oc_k := Lib.hid (own_base (base' := w5.heap.size + 0) ho_k (by simp))
   clear ho_k
   clear hb
   go_wp2_with fail
   refine (vInts_same Am Ak kn cm ck K _ (by omega) (Reads.of_own o6_m.out) (Reads.of_own oc_k.out)).mono ?_
   rintro e w7 ⟨rfl, hb⟩
   have s7 : w6.heap.size ≤ w7.heap.size := (by have := hb.size; (try simp at this); omega)
   have z7_0 : w2.heap.size < w7.heap.size := (by omega)
   have q7_0 : w7.cell? ⟨w2.heap.size, 0, none⟩ = some (.int .i64 u) := ext_cell hb q6_0
   have q7_1 : w7.cell? ⟨w2.heap.size, 1, none⟩ = some (.int .i64 lo) := ext_cell hb q6_1
   have q7_2 : w7.cell? ⟨w2.heap.size, 2, none⟩ = some (.slice As l.length cs) := ext_cell hb q6_2
   have b7 := Lib.hid (ext_trans b6.out hb)
   have t7 : w.heap.size ≤ w7.heap.size := b7.out.size
   have o7_s := Lib.hid (own_ext o6_s.out hb)
   have o7_m := Lib.hid (own_ext o6_m.out hb)
   have o7_k := Lib.hid (own_ext oc_k.out hb)
   clear q6_0 q6_1 q6_2
   clear hb
   go_upto_if 90 with fail
   go_cut [90] (fun s90 wx => Below w.heap.size w wx)
   case first => as_aux_lemma =>
    rcases ok with _ | _
    · go_wp2_with fail
      go_meet
      exact b7.out
    obtain ⟨hf1, ⟨z1, z2⟩, ⟨n1, n2⟩, hkb, hks⟩ := HLAW.out rfl
    obtain ⟨hs1, hs2, hs3⟩ := HSUM.out rfl
    have hq2 := HQ2.out
    rw [if_pos rfl] at hq2
    subst hq2
    have HN1 := Lib.hid (fun (w : World) h => nrOn_any u lo As l.length cs l w (by omega) h)
    rw [hf1, if_pos rfl] at HN1
    have HSM := Lib.hid (fun (w : World) h => vSum_any Am kn cm K 8 w (by omega) (by decide) hkb h)
    rw [hks] at HSM
    have HD := Lib.hid (fun x (w : World) h0 h1 => vds_any x w h0 h1)
    have hd1 := dsZ_bounds 10 (numR l)
    have hd2 := dsZ_bounds 10 z
    have hd3 := dsZ_bounds 10 (numR l + z)
    have hcz := czZ_bounds 10 z
    obtain ⟨N, hN⟩ : ∃ o9, numR l = o9 := ⟨_, rfl⟩
    rw [hN] at HN1 n1 n2 hs1 hd1 hd3
    have HD1 := Lib.hid (fun (w : World) => HD.out N w (by omega) (by omega))
    have HD2 := Lib.hid (fun (w : World) => HD.out z w (by omega) (by omega))
    have HD3 := Lib.hid (fun (w : World) => HD.out (N + z) w (by omega) (by omega))
    obtain ⟨D1, hD1⟩ : ∃ o9, dsZ 10 N = o9 := ⟨_, rfl⟩
    rw [hD1] at HD1 hs1 hd1
    obtain ⟨D2, hD2⟩ : ∃ o9, dsZ 10 z = o9 := ⟨_, rfl⟩
    rw [hD2] at HD2 hs1 hd2
    obtain ⟨D3, hD3⟩ : ∃ o9, dsZ 10 (N + z) = o9 := ⟨_, rfl⟩
    rw [hD3] at HD3 hs1 hd3
    obtain ⟨C, hC⟩ : ∃ o9, czZ 10 z = o9 := ⟨_, rfl⟩
    rw [hC] at HSM hcz
    have HC := Lib.hid hC
    have k3 : (D1 + D2 - 9 * Q != D3) = false := by rw [hs1]; simp
    have k5 : (C != C) = false := by simp
    have HS1 := Lib.hid hs1
    clear hf1 hN hkb hks hD1 hD2 hD3 HD hs1 hC
    go_wp2_with fail
    refine (HN1.out _ (Reads.of_own o7_s.out)).mono ?_
    rintro e w8 ⟨rfl, hb⟩
    have s8 : w7.heap.size ≤ w8.heap.size := (by have := hb.size; (try simp at this); omega)
    have z8_0 : w2.heap.size < w8.heap.size := (by omega)
    have q8_0 : w8.cell? ⟨w2.heap.size, 0, none⟩ = some (.int .i64 u) := ext_cell hb q7_0
    have q8_1 : w8.cell? ⟨w2.heap.size, 1, none⟩ = some (.int .i64 lo) := ext_cell hb q7_1
    have q8_2 : w8.cell? ⟨w2.heap.size, 2, none⟩ = some (.slice As l.length cs) := ext_cell hb q7_2
    have b8 := Lib.hid (ext_trans b7.out hb)
    have t8 : w.heap.size ≤ w8.heap.size := b8.out.size
    have o8_s := Lib.hid (own_ext o7_s.out hb)
    have o8_m := Lib.hid (own_ext o7_m.out hb)
    have o8_k := Lib.hid (own_ext o7_k.out hb)
    clear q7_0 q7_1 q7_2
    clear hb
    go_wp2_with fail
    go_loopw [15, 16] (fun dg kk wr => ∃ (f : Nat) (y q : Int), kk = .int .i64 y ∧ dg = .int .i64 q ∧ f ≤ 10 ∧ 0 ≤ y ∧ y < 10000000000 ∧ 0 ≤ q ∧ q ≤ C ∧ Hid (y < (10 : Int) ^ f) ∧ Hid (q + czZ f y = C) ∧ w8 = wr) (fun _ kk _ => (intOf kk).toNat)
    case atStart => exact ⟨10, z, 0, rfl, rfl, Nat.le_refl _, by omega, by omega, Int.le_refl _, hcz.1, Lib.hid (by rw [show (10 : Int) ^ 10 = 10000000000 by decide]; omega), Lib.hid (by rw [HC.out]; omega), rfl⟩
    case round =>
     obtain ⟨f, y, q, rfl, rfl, hf, y0, y1, q0, q1, HY, HQ, rfl⟩ := hrel
     by_cases hy : 0 < y
     · obtain ⟨f, rfl⟩ : ∃ k, f = k + 1 := by
        cases f with
        | zero => have h := HY.out; simp at h; omega
        | succ k => exact ⟨k, rfl⟩
       have htm : y.tmod 10 = y % 10 := Int.tmod_eq_emod_of_nonneg y0
       have htd : y.tdiv 10 = y / 10 := Int.tdiv_eq_ediv_of_nonneg y0
       have hq2 : q + ((if 0 < y % 10 then 1 else 0) + czZ f (y / 10)) = C := HQ.out
       have hbd := czZ_bounds f (y / 10)
       have hr : 0 ≤ y % 10 ∧ y % 10 ≤ 9 := by omega
       have hd : 0 ≤ y / 10 ∧ y / 10 < y := by omega
       have HY2 := Lib.hid (show y / 10 < (10 : Int) ^ f by have h := HY.out; rw [Int.pow_succ] at h; omega)
       obtain ⟨T, hT⟩ : ∃ T, czZ f (y / 10) = T := ⟨_, rfl⟩
       rw [hT] at hq2 hbd
       have HT := Lib.hid hT
       obtain ⟨r, hr2⟩ : ∃ r, y % 10 = r := ⟨_, rfl⟩
       rw [hr2] at htm hr hq2
       obtain ⟨d, hd2'⟩ : ∃ d, y / 10 = d := ⟨_, rfl⟩
       rw [hd2'] at htd hd HY2 HT
       clear hT hr2 hd2'
       by_cases hr0 : 0 < r
       · rw [if_pos hr0] at hq2
         have HQ2 := Lib.hid (show q + 1 + czZ f d = C by rw [HT.out]; omega)
         have hq5 : q + 1 ≤ C := by omega
         clear hq2
         go_wp2
         go_roundw
         case rel => exact ⟨f, d, q + 1, by go_num, by go_num, by omega, hd.1, by omega, by omega, hq5, HY2, HQ2, by first | rfl | trivial⟩
         case measure => simp [intOf]; omega
       · obtain rfl : r = 0 := by omega
         rw [if_neg (by omega)] at hq2
         have HQ2 := Lib.hid (show q + czZ f d = C by rw [HT.out]; omega)
         clear hq2
         go_wp2
         go_roundw
         case rel => exact ⟨f, d, q, by go_num, by go_num, by omega, hd.1, by omega, by omega, q1, HY2, HQ2, by first | rfl | trivial⟩
         case measure => simp [intOf]; omega
     · obtain rfl : y = 0 := by omega
       have hq : q = C := by have h := HQ.out; rw [czZ_zero] at h; omega
       subst hq
       go_wp2_with fail
       refine (HD1.out _).mono ?_
       rintro e wz ⟨rfl, rfl⟩
       go_wp2_with fail
       refine (HD2.out _).mono ?_
       rintro e wz ⟨rfl, rfl⟩
       go_wp2_with fail
       refine (HD3.out _).mono ?_
       rintro e wz ⟨rfl, rfl⟩
       go_wp2_with fail
       refine (HSM.out _ (Reads.of_own o8_m.out)).mono ?_
       rintro e w9 ⟨rfl, hb⟩
       have s9 : w8.heap.size ≤ w9.heap.size := (by have := hb.size; (try simp at this); omega)
       have z9_0 : w2.heap.size < w9.heap.size := (by omega)
       have q9_0 : w9.cell? ⟨w2.heap.size, 0, none⟩ = some (.int .i64 u) := ext_cell hb q8_0
       have q9_1 : w9.cell? ⟨w2.heap.size, 1, none⟩ = some (.int .i64 lo) := ext_cell hb q8_1
       have q9_2 : w9.cell? ⟨w2.heap.size, 2, none⟩ = some (.slice As l.length cs) := ext_cell hb q8_2
       have b9 := Lib.hid (ext_trans b8.out hb)
       have t9 : w.heap.size ≤ w9.heap.size := b9.out.size
       have o9_s := Lib.hid (own_ext o8_s.out hb)
       have o9_m := Lib.hid (own_ext o8_m.out hb)
       have o9_k := Lib.hid (own_ext o8_k.out hb)
       clear q8_0 q8_1 q8_2
       clear hb
       go_wp2_with fail
       go_meet
       exact b9.out
   case rest => as_aux_lemma =>
    obtain ⟨w10, hw10⟩ : ∃ x : World, x = wc := ⟨_, rfl⟩
    subst hw10
    have b10 := Lib.hid hcut
    have t10 : w.heap.size ≤ w10.heap.size := hcut.size
    clear hcut
    clear HLAW HSUM HQ2 HKN HA HB HKA HKB k1 k4 hl9 hKn
    go_wp2_with fail
    refine (drawLongestCarry_any A n c _ ((H.out.below b10.out).more b10.out.size) hn).mono ?_
    rintro e w11 ⟨ux, lox, lv, Ax, cx, r, rfl, hIN, r0, r9, ho_x, hb⟩
    have s11 : w10.heap.size ≤ w11.heap.size := (by have := hb.size; (try simp at this); omega)
    have b11 := Lib.hid (ext_trans b10.out hb)
    have t11 : w.heap.size ≤ w11.heap.size := b11.out.size
    clear hb
    have oc_x := Lib.hid (own_base (base' := w10.heap.size + 0) ho_x (by simp))
    clear ho_x
    have hl9 : lv.length ≤ 9 := hIN.2.2.2.2.2.1
    clear hIN
    have HB := Lib.hid (fun (w : World) h => implLongestCarry_any ux lox Ax lv.length cx lv r w (by omega) h)
    have HA := Lib.hid (fun (w : World) h => specLongestCarry_any ux lox Ax lv.length cx lv r w (by omega) h)
    have HAD := Lib.hid (fun (w : World) h => implAddDigit_any ux lox Ax lv.length cx lv r 1 w (by omega) h)
    have hlaw := fcaLong ux lox lv r
    have hLn := addDF_len ux lox lv r 1
    obtain ⟨R, hR⟩ : ∃ o9, addDF ux lox lv r 1 = o9 := ⟨_, rfl⟩
    rw [hR] at HAD hlaw hLn
    obtain ⟨ok, hok⟩ : ∃ o9, addDigitB ux lox lv r 1 = o9 := ⟨_, rfl⟩
    rw [hok] at HA HB HAD hlaw
    obtain ⟨L1, hL1⟩ : ∃ o9, lcV ux lox lv r = o9 := ⟨_, rfl⟩
    rw [hL1] at HA HB hlaw
    obtain ⟨U, LO, L⟩ := R
    unfold RetFrB at HAD
    unfold RetV at HA HB
    dsimp only at HAD hLn hlaw
    have HLAW := Lib.hid hlaw
    have k1 : (ok != ok) = false := by cases ok <;> rfl
    have k2 : (L1 != L1) = false := by simp
    clear hR hok hL1 hlaw
    go_wp2_with fail
    refine (HB.out _ (Reads.of_own (oc_x.out.alloc _))).mono ?_
    rintro e w12 ⟨rfl, hb⟩
    have s12 : w11.heap.size + 1 ≤ w12.heap.size := (by have := hb.size; (try simp at this); omega)
    have z12_0 : w11.heap.size < w12.heap.size := (by omega)
    have q12_0 : w12.cell? ⟨w11.heap.size, 0, none⟩ = some (.int .i64 ux) := ext_cell hb (by simp [go_sem])
    have q12_1 : w12.cell? ⟨w11.heap.size, 1, none⟩ = some (.int .i64 lox) := ext_cell hb (by simp [go_sem])
    have q12_2 : w12.cell? ⟨w11.heap.size, 2, none⟩ = some (.slice Ax lv.length cx) := ext_cell hb (by simp [go_sem])
    have b12 := Lib.hid (ext_trans (ext_alloc b11.out _) hb)
    have t12 : w.heap.size ≤ w12.heap.size := b12.out.size
    have o12_x := Lib.hid (own_ext (oc_x.out.alloc _) hb)
    clear hb
    go_wp2_with fail
    refine (HA.out _ (Reads.of_own o12_x.out)).mono ?_
    rintro e w13 ⟨rfl, hb⟩
    have s13 : w12.heap.size ≤ w13.heap.size := (by have := hb.size; (try simp at this); omega)
    have z13_0 : w11.heap.size < w13.heap.size := (by omega)
    have q13_0 : w13.cell? ⟨w11.heap.size, 0, none⟩ = some (.int .i64 ux) := ext_cell hb q12_0
    have q13_1 : w13.cell? ⟨w11.heap.size, 1, none⟩ = some (.int .i64 lox) := ext_cell hb q12_1
    have q13_2 : w13.cell? ⟨w11.heap.size, 2, none⟩ = some (.slice Ax lv.length cx) := ext_cell hb q12_2
    have b13 := Lib.hid (ext_trans b12.out hb)
    have t13 : w.heap.size ≤ w13.heap.size := b13.out.size
    have o13_x := Lib.hid (own_ext o12_x.out hb)
    clear q12_0 q12_1 q12_2
    clear hb
    go_upto_if 154 with fail
    go_cut [154] (fun s154 wx => Below w.heap.size w wx)
    case first => as_aux_lemma =>
     rcases ok with _ | _
     · go_wp2_with fail
       go_meet
       exact b13.out
     have hlw := HLAW.out rfl
     clear HLAW
     go_wp2_with fail
     refine (HAD.out _ (Reads.of_own o13_x.out)).mono ?_
     rintro e w14 ⟨Ab, cb, rfl, ho_b, hb⟩
     have s14 : w13.heap.size ≤ w14.heap.size := (by have := hb.size; (try simp at this); omega)
     have z14_0 : w11.heap.size < w14.heap.size := (by omega)
     have q14_0 : w14.cell? ⟨w11.heap.size, 0, none⟩ = some (.int .i64 ux) := ext_cell hb q13_0
     have q14_1 : w14.cell? ⟨w11.heap.size, 1, none⟩ = some (.int .i64 lox) := ext_cell hb q13_1
     have q14_2 : w14.cell? ⟨w11.heap.size, 2, none⟩ = some (.slice Ax lv.length cx) := ext_cell hb q13_2
     have b14 := Lib.hid (ext_trans b13.out hb)
     have t14 : w.heap.size ≤ w14.heap.size := b14.out.size
     have o14_x := Lib.hid (own_ext o13_x.out hb)
     clear q13_0 q13_1 q13_2
     have oc_b := Lib.hid (own_base (base' := w13.heap.size + 0) ho_b (by simp))
     clear ho_b
     clear hb
     obtain ⟨NB, hNB⟩ : ∃ N : Nat, N = w14.heap.size := ⟨_, rfl⟩
     obtain ⟨WL, hWL⟩ : ∃ y : World, y = w14.alloc (.cells #[.int .i64 U, .int .i64 LO, .slice Ab L.length cb] 26) := ⟨_, rfl⟩
     have x0 : WL.cell? ⟨w11.heap.size, 0, none⟩ = some (.int .i64 ux) := by rw [hWL]; exact cell_old q14_0 _
     have x1 : WL.cell? ⟨w11.heap.size, 1, none⟩ = some (.int .i64 lox) := by rw [hWL]; exact cell_old q14_1 _
     have x2 : WL.cell? ⟨w11.heap.size, 2, none⟩ = some (.slice Ax lv.length cx) := by rw [hWL]; exact cell_old q14_2 _
     have BB := Lib.hid (show Blk WL NB 26 #[.int .i64 U, .int .i64 LO, .slice Ab L.length cb] by rw [hWL]; exact Blk.born w14 _ 26 (H := NB) hNB)
     have lx : w11.heap.size < WL.heap.size := by rw [hWL]; simp; omega
     have HOX := Lib.hid (show WL.ownsRow 0 87 2 (.slice Ax lv.length cx) lv.length (rowsV2 lv) by rw [hWL]; exact own_base (o14_x.out.alloc _) (Nat.zero_le _))
     have HOB := Lib.hid (show WL.ownsRow 0 87 2 (.slice Ab L.length cb) L.length (rowsV2 L) by rw [hWL]; exact own_base (oc_b.out.alloc _) (Nat.zero_le _))
     have HBW := Lib.hid (show Below w.heap.size w WL by rw [hWL]; exact (ext_alloc b14.out _))
     obtain ⟨y0, y1, y2⟩ := BB.out.q3
     have lB := BB.out.lt
     go_upto_region 29 with fail
     rw [← hNB, ← hWL]
     clear hNB hWL
     go_wp2_with fail
     go_loopw [25, 26] (fun cg i wr => ∃ k : Nat, k ≤ lv.length ∧ i = .int .i64 k ∧ cg = .int .i64 (chg (dsOf lv) (dsOf L) k) ∧ Hid (Below WL.heap.size WL wr)) (fun _ i _ => lv.length - (intOf i).toNat)
     case atStart => exact ⟨0, Nat.zero_le _, rfl, rfl, Lib.hid (ext_refl _)⟩
     case round =>
      obtain ⟨k, hk, rfl, rfl, HX⟩ := hrel
      obtain ⟨V, hV⟩ : ∃ V : World, V = wr := ⟨_, rfl⟩
      subst hV
      have x0' := ext_cell HX.out x0
      have x1' := ext_cell HX.out x1
      have x2' := ext_cell HX.out x2
      have y0' := ext_cell HX.out y0
      have y1' := ext_cell HX.out y1
      have y2' := ext_cell HX.out y2
      have lx' := Nat.lt_of_lt_of_le lx HX.out.size
      have lB' := Nat.lt_of_lt_of_le lB HX.out.size
      by_cases hlt : k < lv.length
      · obtain ⟨hr1, hr2, hr3, hr4, hlst⟩ := hlw
        have HR1 := Lib.hid (fun (w : World) h => implRodValue_any ux lox Ax lv.length cx lv k w (by omega) h)
        have HR2 := Lib.hid (fun (w : World) h => implRodValue_any U LO Ab L.length cb L k w (by omega) h)
        obtain ⟨e1, e2⟩ := hr1 k hlt
        obtain ⟨e3, e4⟩ := hr2 k hlt
        rw [e1, e2] at HR1
        rw [e3, e4] at HR2
        unfold RetV at HR1 HR2
        have hcb := chg_bounds (dsOf lv) (dsOf L) k
        have hnx : chg (dsOf lv) (dsOf L) (k + 1) = chg (dsOf lv) (dsOf L) k + if (dsOf lv).getD k 0 = (dsOf L).getD k 0 then 0 else 1 := rfl
        obtain ⟨a, ha⟩ : ∃ o9, (dsOf lv).getD k 0 = o9 := ⟨_, rfl⟩
        obtain ⟨b, hb9⟩ : ∃ o9, (dsOf L).getD k 0 = o9 := ⟨_, rfl⟩
        obtain ⟨C, hC⟩ : ∃ o9, chg (dsOf lv) (dsOf L) k = o9 := ⟨_, rfl⟩
        rw [ha] at HR1 hnx
        rw [hb9] at HR2 hnx
        rw [hC] at hnx hcb ⊢
        have HNX := Lib.hid hnx
        have k1' : (k : Int) < (lv.length : Int) := by omega
        clear ha hb9 hC hnx e1 e2 e3 e4 hr1 hr2 hr3 hr4 hlst
        go_wp2_with fail
        refine (HR1.out _ (Reads.of_own (own_ext HOX.out HX.out))).mono ?_
        rintro e w4 ⟨rfl, hb⟩
        have HX4 := Lib.hid (ext_trans HX.out hb)
        have y0'' := ext_cell hb y0'
        have y1'' := ext_cell hb y1'
        have y2'' := ext_cell hb y2'
        have lB'' := Nat.lt_of_lt_of_le lB' hb.size
        clear hb y0' y1' y2' x0' x1' x2'
        go_wp2_with fail
        refine (HR2.out _ (Reads.of_own (own_ext HOB.out HX4.out))).mono ?_
        rintro e w5 ⟨rfl, hb⟩
        have HX5 := Lib.hid (ext_trans HX4.out hb)
        clear hb
        by_cases hab : a = b
        · have hne : (a != b) = false := by simpa using hab
          have HNY := Lib.hid (show chg (dsOf lv) (dsOf L) (k + 1) = C by have h := HNX.out; rw [if_pos hab] at h; omega)
          clear hab
          go_wp2
          go_roundw
          case rel => exact ⟨k + 1, by omega, by go_num, by rw [HNY.out], HX5⟩
          case measure => simp [intOf]; omega
        · have hne : (a != b) = true := by simpa using hab
          have HNY := Lib.hid (show chg (dsOf lv) (dsOf L) (k + 1) = C + 1 by have h := HNX.out; rw [if_neg hab] at h; omega)
          clear hab
          go_wp2
          go_roundw
          case rel => exact ⟨k + 1, by omega, by go_num, by rw [HNY.out], HX5⟩
          case measure => simp [intOf]; omega
      · obtain rfl : k = lv.length := by omega
        rw [hlw.2.2.2.2]
        go_wp2_with fail
        go_meet
        exact ext_trans HBW.out HX.out
    case rest => as_aux_lemma =>
     obtain ⟨w15, hw15⟩ : ∃ x : World, x = wc := ⟨_, rfl⟩
     subst hw15
     have b15 := Lib.hid hcut
     have t15 : w.heap.size ≤ w15.heap.size := hcut.size
     clear hcut
     clear HA HB HAD k1 k2 hl9 hLn
     go_wp2_with fail
     refine (drawKindOfAdd_any A n c _ ((H.out.below b15.out).more b15.out.size) hn).mono ?_
     rintro e w16 ⟨v, d, rfl, hb⟩
     have s16 : w15.heap.size ≤ w16.heap.size := (by have := hb.size; (try simp at this); omega)
     have b16 := Lib.hid (ext_trans b15.out hb)
     have t16 : w.heap.size ≤ w16.heap.size := b16.out.size
     clear hb
     have HB := Lib.hid (fun (w : World) => implKindOfAdd_any v d w)
     have HA := Lib.hid (fun (w : World) => specKindOfAdd_any v d w)
     unfold RetV at HA HB
     obtain ⟨t, ht⟩ : ∃ o9, kaV v d = o9 := ⟨_, rfl⟩
     obtain ⟨b, hb⟩ : ∃ o9, kaB v d = o9 := ⟨_, rfl⟩
     rw [ht, hb] at HA HB
     have k1 : (b == b) = true := by cases b <;> rfl
     have k2 := tx_yes (rfl : t = t)
     clear ht hb
     go_wp2_with fail
     refine (HB.out _).mono ?_
     rintro e w17 ⟨rfl, hb⟩
     have s17 : w16.heap.size ≤ w17.heap.size := (by have := hb.size; (try simp at this); omega)
     have b17 := Lib.hid (ext_trans b16.out hb)
     have t17 : w.heap.size ≤ w17.heap.size := b17.out.size
     clear hb
     go_wp2_with fail
     refine (HA.out _).mono ?_
     rintro e w18 ⟨rfl, hb⟩
     have s18 : w17.heap.size ≤ w18.heap.size := (by have := hb.size; (try simp at this); omega)
     have b18 := Lib.hid (ext_trans b17.out hb)
     have t18 : w.heap.size ≤ w18.heap.size := b18.out.size
     clear hb
     go_wp2
     go_ret
     exact ⟨rfl, b18.out⟩
end Go.Proofs.Ytajdmeajkgdioaa
