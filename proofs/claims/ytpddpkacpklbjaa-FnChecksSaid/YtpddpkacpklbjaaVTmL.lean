/- The law FnChecks, walked. -/
import Derived.Deep.CutBlock
import Derived.Test.YtpddpkacpklbjaaVM11
import Derived.Test.YtpddpkacpklbjaaVM7
import Derived.Test.YtpddpkacpklbjaaVM4
import Derived.Test.YtpddpkacpklbjaaVM1
import Derived.Test.YtpddpkacpklbjaaVVFr
namespace Go.Proofs.Ytpddpkacpklbjaa
open Go.RowKit
set_option linter.unusedVariables false
set_option linter.unusedSimpArgs false
set_option maxRecDepth 100000 in
set_option maxHeartbeats 8000000 in
theorem law_FnChecks (A : Option Addr) (n c : Nat) (w : World) (h : Code w w.heap.size A n) (hn63 : n ≤ maxLen) :
 Calls Try.prog 4 #[.slice A n c] w fun e w' => e = .returned (.bool true) ∧ Below w.heap.size w w' := by
 have HV := Lib.hid (fun w => vBig_any A n c w)
 by_cases hbig : (65536 : Int) < n
 · rw [decide_eq_true hbig] at HV
   go_enter Try.func4, Try.ntmps4
   go_wp2_with (go_at_call 5; refine (HV.out _).mono ?_; rintro e w' ⟨rfl, hb⟩)
   go_ret
   exact ⟨rfl, (by repeat (first | exact ext_refl _ | assumption | refine ext_alloc ?_ _ | refine ext_drew ?_ | refine ext_drewN ?_ _ | refine ext_set ?_ (by simp <;> omega) _ | refine ext_trans ?_ (by assumption)))⟩
 · rw [decide_eq_false hbig] at HV
   have hn : n ≤ 65536 := by omega
   have H := Lib.hid h
   clear h hbig hn63
   go_enter Try.func4, Try.ntmps4
   go_wp2_with fail
   refine (HV.out _).mono ?_
   rintro e w1 ⟨rfl, hb⟩
   have s1 : w.heap.size ≤ w1.heap.size := (by have := hb.size; (try simp at this); omega)
   have b1 := Lib.hid (ext_trans (ext_refl w) hb)
   have t1 : w.heap.size ≤ w1.heap.size := b1.out.size
   clear hb
   go_wp2_with fail
   refine (drawWrongDigits_any A n c _ ((H.out.below b1.out).more b1.out.size) hn).mono ?_
   rintro e w2 ⟨a, b, s, rfl, ha, hb9, hs9, hb⟩
   have s2 : w1.heap.size ≤ w2.heap.size := (by have := hb.size; (try simp at this); omega)
   have b2 := Lib.hid (ext_trans b1.out hb)
   have t2 : w.heap.size ≤ w2.heap.size := b2.out.size
   clear hb
   have HB := Lib.hid (fun (w : World) => implWrongDigits_any a b s w)
   have HA := Lib.hid (fun (w : World) => specWrongDigits_any a b s w)
   have HC := Lib.hid (fun (w : World) => implCastingOut_any a b s w (by omega))
   have hlaw := @chk_wrong a b s
   have hmb := mul_bd ha hb9
   have hln := wgL_len a b s
   obtain ⟨L, hL⟩ : ∃ o9, wgL a b s = o9 := ⟨_, rfl⟩
   obtain ⟨ok, hok⟩ : ∃ o9, wgB a b s = o9 := ⟨_, rfl⟩
   obtain ⟨cv, hcv⟩ : ∃ o9, coV a b s = o9 := ⟨_, rfl⟩
   obtain ⟨cb, hcb⟩ : ∃ o9, coB a b s = o9 := ⟨_, rfl⟩
   rw [hL, hok] at HA HB
   rw [hL, hok, hcv, hcb] at hlaw
   rw [hL] at hln
   rw [hcv, hcb] at HC
   unfold RetSliceB at HA HB
   obtain ⟨nl, hnl⟩ : ∃ o9, L.length = o9 := ⟨_, rfl⟩
   rw [hnl] at HA HB hlaw hln
   obtain ⟨p, hp⟩ : ∃ o9, a * b = o9 := ⟨_, rfl⟩
   rw [hp] at hlaw hmb
   have w1' : wrap64 p = p := by unfold wrap64; omega
   have w2' : IntKind.i64.wrap p = p := by rw [IntKind.wrap_i64]; omega
   have k1 : (ok != ok) = false := by cases ok <;> rfl
   have HLAW := Lib.hid hlaw
   have HP9 := Lib.hid hp
   clear hL hok hcv hcb hnl hlaw
   go_wp2_with fail
   refine (HB.out _).mono ?_
   rintro e w3 ⟨Ab, cb, rfl, ho_b, hb⟩
   have s3 : w2.heap.size ≤ w3.heap.size := (by have := hb.size; (try simp at this); omega)
   have b3 := Lib.hid (ext_trans b2.out hb)
   have t3 : w.heap.size ≤ w3.heap.size := b3.out.size
   have oc_b := Lib.hid (own_base (base' := w2.heap.size + 0) ho_b (by simp))
   clear ho_b
   clear hb
   go_wp2_with fail
   refine (HA.out _).mono ?_
   rintro e w4 ⟨Aa, ca, rfl, ho_a, hb⟩
   have s4 : w3.heap.size ≤ w4.heap.size := (by have := hb.size; (try simp at this); omega)
   have b4 := Lib.hid (ext_trans b3.out hb)
   have t4 : w.heap.size ≤ w4.heap.size := b4.out.size
   have o4_b := Lib.hid (own_ext oc_b.out hb)
   have oc_a := Lib.hid (own_base (base' := w3.heap.size + 0) ho_a (by simp))
   clear ho_a
   clear hb
   go_upto_region 6 with fail
   go_cut [81] (fun s81 wx => s81 = .bool false ∧ Below w.heap.size w wx)
   case first => as_aux_lemma =>
    rcases ok with _ | _
    · skip
      go_wp2_with fail
      refine (vInts_same Ab Aa nl cb ca L _ (by omega) (Reads.of_own o4_b.out) (Reads.of_own oc_a.out)).mono ?_
      rintro e w5 ⟨rfl, hb⟩
      have s5 : w4.heap.size ≤ w5.heap.size := (by have := hb.size; (try simp at this); omega)
      have b5 := Lib.hid (ext_trans b4.out hb)
      have t5 : w.heap.size ≤ w5.heap.size := b5.out.size
      have o5_b := Lib.hid (own_ext o4_b.out hb)
      have o5_a := Lib.hid (own_ext oc_a.out hb)
      clear hb
      go_wp2_with fail
      go_meet
      exact ⟨rfl, b5.out⟩
    obtain ⟨h1, h2⟩ := HLAW.out rfl
    by_cases hz : nl = 0
    · have hs := (h1 hz).1
      have e1 : (s == p) = true := by rw [hs]; simp
      have e0 : ((nl : Int) == 0) = true := by rw [hz]; rfl
      have e2 : nl = 0 ∨ False := .inl hz
      have E2 := Lib.hid e2
      clear h1 h2 hz hs e2
      go_wp2_with fail
      refine (vInts_same Ab Aa nl cb ca L _ (by omega) (Reads.of_own o4_b.out) (Reads.of_own oc_a.out)).mono ?_
      rintro e w5 ⟨rfl, hb⟩
      have s5 : w4.heap.size ≤ w5.heap.size := (by have := hb.size; (try simp at this); omega)
      have b5 := Lib.hid (ext_trans b4.out hb)
      have t5 : w.heap.size ≤ w5.heap.size := b5.out.size
      have o5_b := Lib.hid (own_ext o4_b.out hb)
      have o5_a := Lib.hid (own_ext oc_a.out hb)
      clear hb
      go_wp2_with fail
      go_meet
      exact ⟨rfl, b5.out⟩
    · have hs : s ≠ p := fun e => hz (h2 e)
      have e1 : (s == p) = false := by simpa using hs
      have e0 : ((nl : Int) == 0) = false := by rw [beq_eq_false_iff_ne]; omega
      clear h1 h2 hz hs
      go_wp2_with fail
      refine (vInts_same Ab Aa nl cb ca L _ (by omega) (Reads.of_own o4_b.out) (Reads.of_own oc_a.out)).mono ?_
      rintro e w5 ⟨rfl, hb⟩
      have s5 : w4.heap.size ≤ w5.heap.size := (by have := hb.size; (try simp at this); omega)
      have b5 := Lib.hid (ext_trans b4.out hb)
      have t5 : w.heap.size ≤ w5.heap.size := b5.out.size
      have o5_b := Lib.hid (own_ext o4_b.out hb)
      have o5_a := Lib.hid (own_ext oc_a.out hb)
      clear hb
      go_wp2_with fail
      go_meet
      exact ⟨rfl, b5.out⟩
   case rest => as_aux_lemma =>
    obtain ⟨rfl, hcut⟩ := hcut
    obtain ⟨w5, hw5⟩ : ∃ x : World, x = wc := ⟨_, rfl⟩
    subst hw5
    have b5 := Lib.hid hcut
    have t5 : w.heap.size ≤ w5.heap.size := hcut.size
    clear hcut
    clear HA HB k1 w1' w2' hmb
    go_upto_region 8 with fail
    go_cut [87] (fun s9 wx => ∃ b9 : Bool, s9 = .bool b9 ∧ (b9 = true → ok = true ∧ nl = 0) ∧ w5 = wx)
    case first => as_aux_lemma =>
     rcases ok with _ | _
     · go_wp2_with fail
       go_meet
       exact ⟨_, rfl, (fun h => by cases h), rfl⟩
     · by_cases hz : nl = 0
       · have e0 : ((nl : Int) == 0) = true := by rw [hz]; rfl
         have HZ := Lib.hid hz
         clear hz
         go_wp2_with fail
         go_meet
         exact ⟨_, rfl, (fun _ => ⟨by first | rfl | trivial, HZ.out⟩), rfl⟩
       · have e0 : ((nl : Int) == 0) = false := by rw [beq_eq_false_iff_ne]; omega
         go_wp2_with fail
         go_meet
         exact ⟨_, rfl, (fun h => by cases h), rfl⟩
    case rest => as_aux_lemma =>
     obtain ⟨b9, rfl, hb8, rfl⟩ := hcut
     go_upto_if 87 with fail
     go_cut [87] (fun s87 wx => Below w.heap.size w wx)
     case first => as_aux_lemma =>
      rcases b9 with _ | _
      · go_wp2_with fail
        go_meet
        exact b5.out
      obtain ⟨rfl, hz⟩ := hb8 rfl
      obtain ⟨h1, _⟩ := HLAW.out rfl
      obtain ⟨hsp, rfl, rfl⟩ := h1 hz
      clear hb8 h1 hz hsp
      go_wp2_with fail
      refine (HC.out _).mono ?_
      rintro e w6 ⟨rfl, hb⟩
      have s6 : w5.heap.size ≤ w6.heap.size := (by have := hb.size; (try simp at this); omega)
      have b6 := Lib.hid (ext_trans b5.out hb)
      have t6 : w.heap.size ≤ w6.heap.size := b6.out.size
      clear hb
      go_wp2_with fail
      go_meet
      exact b6.out
     case rest => as_aux_lemma =>
      obtain ⟨w7, hw7⟩ : ∃ x : World, x = wc := ⟨_, rfl⟩
      subst hw7
      have b7 := Lib.hid hcut
      have t7 : w.heap.size ≤ w7.heap.size := hcut.size
      clear hcut
      clear HLAW HC HP9 hb8 hln hs9
      go_wp2_with fail
      refine (drawCastingOut_any A n c _ ((H.out.below b7.out).more b7.out.size) hn).mono ?_
      rintro e w8 ⟨x, y, s2, rfl, hx9, hy9, hs2, hb⟩
      have s8 : w7.heap.size ≤ w8.heap.size := (by have := hb.size; (try simp at this); omega)
      have b8 := Lib.hid (ext_trans b7.out hb)
      have t8 : w.heap.size ≤ w8.heap.size := b8.out.size
      clear hb
      have HB := Lib.hid (fun (w : World) => implCastingOut_any x y s2 w (by omega))
      have HA := Lib.hid (fun (w : World) => specCastingOut_any x y s2 w (by omega))
      obtain ⟨cv2, hcv⟩ : ∃ o9, coV x y s2 = o9 := ⟨_, rfl⟩
      obtain ⟨cb2, hcb⟩ : ∃ o9, coB x y s2 = o9 := ⟨_, rfl⟩
      rw [hcv, hcb] at HA HB
      have k1 : (cv2 != cv2) = false := by cases cv2 <;> rfl
      have k2 : (cb2 != cb2) = false := by cases cb2 <;> rfl
      clear hcv hcb
      go_wp2_with fail
      refine (HB.out _).mono ?_
      rintro e w9 ⟨rfl, hb⟩
      have s9 : w8.heap.size ≤ w9.heap.size := (by have := hb.size; (try simp at this); omega)
      have b9 := Lib.hid (ext_trans b8.out hb)
      have t9 : w.heap.size ≤ w9.heap.size := b9.out.size
      clear hb
      go_wp2_with fail
      refine (HA.out _).mono ?_
      rintro e w10 ⟨rfl, hb⟩
      have s10 : w9.heap.size ≤ w10.heap.size := (by have := hb.size; (try simp at this); omega)
      have b10 := Lib.hid (ext_trans b9.out hb)
      have t10 : w.heap.size ≤ w10.heap.size := b10.out.size
      clear hb
      go_wp2_with fail
      refine (drawDigitProducts_any A n c _ ((H.out.below b10.out).more b10.out.size) hn).mono ?_
      rintro e w11 ⟨x3, d3, rfl, hx3, hb⟩
      have s11 : w10.heap.size ≤ w11.heap.size := (by have := hb.size; (try simp at this); omega)
      have b11 := Lib.hid (ext_trans b10.out hb)
      have t11 : w.heap.size ≤ w11.heap.size := b11.out.size
      clear hb
      clear HA HB k1 k2
      have HB := Lib.hid (fun (w : World) => implDigitProducts_any x3 d3 w)
      have HA := Lib.hid (fun (w : World) => specDigitProducts_any x3 d3 w)
      have hlaw := @dp_law x3 d3
      have hln := dpL_len x3 d3
      obtain ⟨L, hL⟩ : ∃ o9, dpL x3 d3 = o9 := ⟨_, rfl⟩
      obtain ⟨ok3, hok⟩ : ∃ o9, dpB x3 d3 = o9 := ⟨_, rfl⟩
      rw [hL, hok] at HA HB hlaw
      rw [hL] at hln
      unfold RetSliceB at HA HB
      obtain ⟨nl3, hnl⟩ : ∃ o9, L.length = o9 := ⟨_, rfl⟩
      rw [hnl] at HA HB hln
      have k1 : (ok3 != ok3) = false := by cases ok3 <;> rfl
      have HLAW := Lib.hid hlaw
      clear hL hok hnl hlaw
      go_wp2_with fail
      refine (HB.out _).mono ?_
      rintro e w12 ⟨Ad, cd, rfl, ho_d, hb⟩
      have s12 : w11.heap.size ≤ w12.heap.size := (by have := hb.size; (try simp at this); omega)
      have b12 := Lib.hid (ext_trans b11.out hb)
      have t12 : w.heap.size ≤ w12.heap.size := b12.out.size
      have oc_d := Lib.hid (own_base (base' := w11.heap.size + 0) ho_d (by simp))
      clear ho_d
      clear hb
      go_wp2_with fail
      refine (HA.out _).mono ?_
      rintro e w13 ⟨Ae, ce, rfl, ho_e, hb⟩
      have s13 : w12.heap.size ≤ w13.heap.size := (by have := hb.size; (try simp at this); omega)
      have b13 := Lib.hid (ext_trans b12.out hb)
      have t13 : w.heap.size ≤ w13.heap.size := b13.out.size
      have o13_d := Lib.hid (own_ext oc_d.out hb)
      have oc_e := Lib.hid (own_base (base' := w12.heap.size + 0) ho_e (by simp))
      clear ho_e
      clear hb
      go_upto_region 20 with fail
      go_cut [166] (fun s166 wx => s166 = .bool false ∧ Below w.heap.size w wx)
      case first => as_aux_lemma =>
       rcases ok3 with _ | _
       · skip
         go_wp2_with fail
         refine (vInts_same Ad Ae nl3 cd ce L _ (by omega) (Reads.of_own o13_d.out) (Reads.of_own oc_e.out)).mono ?_
         rintro e w14 ⟨rfl, hb⟩
         have s14 : w13.heap.size ≤ w14.heap.size := (by have := hb.size; (try simp at this); omega)
         have b14 := Lib.hid (ext_trans b13.out hb)
         have t14 : w.heap.size ≤ w14.heap.size := b14.out.size
         have o14_d := Lib.hid (own_ext o13_d.out hb)
         have o14_e := Lib.hid (own_ext oc_e.out hb)
         clear hb
         go_wp2_with fail
         go_meet
         exact ⟨rfl, b14.out⟩
       obtain ⟨hx, hd, hsum, hel, hT⟩ := HLAW.out rfl
       obtain ⟨DS, hDS⟩ : ∃ o9, dsZ 10 x3 = o9 := ⟨_, rfl⟩
       have HVD := Lib.hid (fun (w : World) => vds_any x3 w hx.1 (by omega))
       rw [hDS] at HVD hsum hT
       obtain ⟨SM, hSM⟩ : ∃ o9, L.sum = o9 := ⟨_, rfl⟩
       have HVS := Lib.hid (fun (w : World) h => vSum_any Ad nl3 cd L 81 w (by omega) (by omega) hel h)
       rw [hSM] at HVS hsum
       obtain ⟨T, hT9⟩ : ∃ o9, d3 * DS = o9 := ⟨_, rfl⟩
       rw [hT9] at hsum hT
       have w1' : wrap64 T = T := by unfold wrap64; omega
       have w2' : IntKind.i64.wrap T = T := by rw [IntKind.wrap_i64]; omega
       have e1 : (SM != T) = false := by rw [hsum]; simp
       clear hsum hDS hSM hel hT hx hd
       go_wp2_with fail
       refine (vInts_same Ad Ae nl3 cd ce L _ (by omega) (Reads.of_own o13_d.out) (Reads.of_own oc_e.out)).mono ?_
       rintro e w14 ⟨rfl, hb⟩
       have s14 : w13.heap.size ≤ w14.heap.size := (by have := hb.size; (try simp at this); omega)
       have b14 := Lib.hid (ext_trans b13.out hb)
       have t14 : w.heap.size ≤ w14.heap.size := b14.out.size
       have o14_d := Lib.hid (own_ext o13_d.out hb)
       have o14_e := Lib.hid (own_ext oc_e.out hb)
       clear hb
       go_wp2_with fail
       refine (HVS.out _ (Reads.of_own o14_d.out)).mono ?_
       rintro e w15 ⟨rfl, hb⟩
       have s15 : w14.heap.size ≤ w15.heap.size := (by have := hb.size; (try simp at this); omega)
       have b15 := Lib.hid (ext_trans b14.out hb)
       have t15 : w.heap.size ≤ w15.heap.size := b15.out.size
       have o15_d := Lib.hid (own_ext o14_d.out hb)
       have o15_e := Lib.hid (own_ext o14_e.out hb)
       clear hb
       go_wp2_with fail
       refine (HVD.out _).mono ?_
       rintro e wz ⟨rfl, rfl⟩
       go_wp2_with fail
       go_meet
       exact ⟨rfl, b15.out⟩
      case rest => as_aux_lemma =>
       obtain ⟨rfl, hcut⟩ := hcut
       obtain ⟨w14, hw14⟩ : ∃ x : World, x = wc := ⟨_, rfl⟩
       subst hw14
       have b14 := Lib.hid hcut
       have t14 : w.heap.size ≤ w14.heap.size := hcut.size
       clear hcut
       clear HLAW HA HB k1 hln
       go_wp2_with fail
       refine (drawTimesCarries_any A n c _ ((H.out.below b14.out).more b14.out.size) hn).mono ?_
       rintro e w15 ⟨x4, y4, rfl, hx4, hy4, hb⟩
       have s15 : w14.heap.size ≤ w15.heap.size := (by have := hb.size; (try simp at this); omega)
       have b15 := Lib.hid (ext_trans b14.out hb)
       have t15 : w.heap.size ≤ w15.heap.size := b15.out.size
       clear hb
       have HB := Lib.hid (fun (w : World) => implTimesCarries_any x4 y4 w)
       have HA := Lib.hid (fun (w : World) => specTimesCarries_any x4 y4 w)
       unfold RetV at HA HB
       obtain ⟨tv, htv⟩ : ∃ o9, tcV x4 y4 = o9 := ⟨_, rfl⟩
       obtain ⟨tb, htb⟩ : ∃ o9, tcB x4 y4 = o9 := ⟨_, rfl⟩
       rw [htv, htb] at HA HB
       have k1 : (tv != tv) = false := by simp
       have k2 : (tb != tb) = false := by cases tb <;> rfl
       clear htv htb
       go_wp2_with fail
       refine (HB.out _).mono ?_
       rintro e w16 ⟨rfl, hb⟩
       have s16 : w15.heap.size ≤ w16.heap.size := (by have := hb.size; (try simp at this); omega)
       have b16 := Lib.hid (ext_trans b15.out hb)
       have t16 : w.heap.size ≤ w16.heap.size := b16.out.size
       clear hb
       go_wp2_with fail
       refine (HA.out _).mono ?_
       rintro e w17 ⟨rfl, hb⟩
       have s17 : w16.heap.size ≤ w17.heap.size := (by have := hb.size; (try simp at this); omega)
       have b17 := Lib.hid (ext_trans b16.out hb)
       have t17 : w.heap.size ≤ w17.heap.size := b17.out.size
       clear hb
       go_wp2_with fail
       refine (drawByDoubling_any A n c _ ((H.out.below b17.out).more b17.out.size) hn).mono ?_
       rintro e w18 ⟨x5, y5, rfl, hx5, hy5, hb⟩
       have s18 : w17.heap.size ≤ w18.heap.size := (by have := hb.size; (try simp at this); omega)
       have b18 := Lib.hid (ext_trans b17.out hb)
       have t18 : w.heap.size ≤ w18.heap.size := b18.out.size
       clear hb
       clear HA HB k1 k2
       have HB := Lib.hid (fun (w : World) => implByDoubling_any x5 y5 w)
       have HA := Lib.hid (fun (w : World) => specByDoubling_any x5 y5 w)
       have hln := dbL_len x5 y5
       obtain ⟨L, hL⟩ : ∃ o9, dbL x5 y5 = o9 := ⟨_, rfl⟩
       obtain ⟨ok5, hok⟩ : ∃ o9, dbB x5 y5 = o9 := ⟨_, rfl⟩
       rw [hL, hok] at HA HB
       rw [hL] at hln
       unfold RetSliceB at HA HB
       obtain ⟨nl5, hnl⟩ : ∃ o9, L.length = o9 := ⟨_, rfl⟩
       rw [hnl] at HA HB hln
       have k1 : (ok5 == ok5) = true := by cases ok5 <;> rfl
       clear hL hok hnl
       go_wp2_with fail
       refine (HB.out _).mono ?_
       rintro e w19 ⟨Af, cf, rfl, ho_f, hb⟩
       have s19 : w18.heap.size ≤ w19.heap.size := (by have := hb.size; (try simp at this); omega)
       have b19 := Lib.hid (ext_trans b18.out hb)
       have t19 : w.heap.size ≤ w19.heap.size := b19.out.size
       have oc_f := Lib.hid (own_base (base' := w18.heap.size + 0) ho_f (by simp))
       clear ho_f
       clear hb
       go_wp2_with fail
       refine (HA.out _).mono ?_
       rintro e w20 ⟨Ah, ch, rfl, ho_h, hb⟩
       have s20 : w19.heap.size ≤ w20.heap.size := (by have := hb.size; (try simp at this); omega)
       have b20 := Lib.hid (ext_trans b19.out hb)
       have t20 : w.heap.size ≤ w20.heap.size := b20.out.size
       have o20_f := Lib.hid (own_ext oc_f.out hb)
       have oc_h := Lib.hid (own_base (base' := w19.heap.size + 0) ho_h (by simp))
       clear ho_h
       clear hb
       go_wp2_with fail
       refine (vPairs_same Af Ah nl5 cf ch L _ (by omega) (Reads.of_own o20_f.out) (Reads.of_own oc_h.out)).mono ?_
       rintro e w21 ⟨rfl, hb⟩
       have s21 : w20.heap.size ≤ w21.heap.size := (by have := hb.size; (try simp at this); omega)
       have b21 := Lib.hid (ext_trans b20.out hb)
       have t21 : w.heap.size ≤ w21.heap.size := b21.out.size
       have o21_f := Lib.hid (own_ext o20_f.out hb)
       have o21_h := Lib.hid (own_ext oc_h.out hb)
       clear hb
       go_wp2
       go_ret
       exact ⟨rfl, b21.out⟩
end Go.Proofs.Ytpddpkacpklbjaa
