/- The law FnTimes, walked. -/
import Derived.Deep.CutBlock
import Derived.Test.YtfechhacmkajdaaVTnA
import Derived.Test.YtfechhacmkajdaaVM11
import Derived.Test.YtfechhacmkajdaaVTnB
import Derived.Test.YtfechhacmkajdaaVTnQ
import Derived.Test.YtfechhacmkajdaaVM7
import Derived.Test.YtfechhacmkajdaaVM1
import Derived.Test.YtfechhacmkajdaaVVTr
import Derived.Test.YtfechhacmkajdaaVVFr
import Derived.Test.YtfechhacmkajdaaVM4
import Derived.Test.YtfechhacmkajdaaVFrY
import Derived.Test.YtfechhacmkajdaaVAdQ
namespace Go.Proofs.Ytfechhacmkajdaa
open Go.RowKit
set_option linter.unusedVariables false
set_option linter.unusedSimpArgs false
set_option maxRecDepth 100000 in
set_option maxHeartbeats 8000000 in
theorem law_FnTimes (A : Option Addr) (n c : Nat) (w : World) (h : Code w w.heap.size A n) (hn63 : n ≤ maxLen) :
 Calls Try.prog 3 #[.slice A n c] w fun e w' => e = .returned (.bool true) ∧ Below w.heap.size w w' := by
 have HV := Lib.hid (fun w => vBig_any A n c w)
 by_cases hbig : (65536 : Int) < n
 · rw [decide_eq_true hbig] at HV
   go_enter Try.func3, Try.ntmps3
   go_wp2_with (go_at_call 4; refine (HV.out _).mono ?_; rintro e w' ⟨rfl, hb⟩)
   go_ret
   exact ⟨rfl, (by repeat (first | exact ext_refl _ | assumption | refine ext_alloc ?_ _ | refine ext_drew ?_ | refine ext_drewN ?_ _ | refine ext_set ?_ (by simp <;> omega) _ | refine ext_trans ?_ (by assumption)))⟩
 · rw [decide_eq_false hbig] at HV
   have hn : n ≤ 65536 := by omega
   have H := Lib.hid h
   clear h hbig hn63
   go_enter Try.func3, Try.ntmps3
   go_wp2_with fail
   refine (HV.out _).mono ?_
   rintro e w1 ⟨rfl, hb⟩
   have s1 : w.heap.size ≤ w1.heap.size := (by have := hb.size; (try simp at this); omega)
   have b1 := Lib.hid (ext_trans (ext_refl w) hb)
   have t1 : w.heap.size ≤ w1.heap.size := b1.out.size
   clear hb
   go_wp2_with fail
   refine (drawTotals_any A n c _ ((H.out.below b1.out).more b1.out.size) hn).mono ?_
   rintro e w2 ⟨a, b, rfl, ha, hb9, hb⟩
   have s2 : w1.heap.size ≤ w2.heap.size := (by have := hb.size; (try simp at this); omega)
   have b2 := Lib.hid (ext_trans b1.out hb)
   have t2 : w.heap.size ≤ w2.heap.size := b2.out.size
   clear hb
   have HB := Lib.hid (fun (w : World) => implTotals_any a b w)
   have HA := Lib.hid (fun (w : World) => specTotals_any a b w)
   have HC := Lib.hid (fun (w : World) => implPartsExp_any a b w)
   have HCs := Lib.hid (fun (w : World) => specPartsExp_any a b w)
   have HD := Lib.hid (fun (w : World) => implOddRows_any a b w)
   have HDs := Lib.hid (fun (w : World) => specOddRows_any a b w)
   have HE := Lib.hid (fun (w : World) => implByDoubling_any a b w)
   have HEs := Lib.hid (fun (w : World) => specByDoubling_any a b w)
   have HT := Lib.hid (fun (w : World) => implTimesCarries_any a b w)
   have HTs := Lib.hid (fun (w : World) => specTimesCarries_any a b w)
   have hlaw := @ftm_law a b
   have hmb := mul_bd ha hb9
   have hln := toL_len a b
   have hol := odL_len a b
   have hdl := dbL_len14 a b
   have x1 : ptB a b = facB a b := rfl
   have x2 : dbB a b = facB a b := rfl
   have x3 : tcB a b = facB a b := rfl
   rw [x1] at HA HB HC HCs
   rw [x2] at HD HDs HE HEs
   rw [x3] at HT HTs
   obtain ⟨ok, hok⟩ : ∃ o9, facB a b = o9 := ⟨_, rfl⟩
   rw [hok] at HA HB HC HCs HD HDs HE HEs HT HTs hlaw
   obtain ⟨p, hp⟩ : ∃ o9, a * b = o9 := ⟨_, rfl⟩
   rw [hp] at hlaw hmb
   obtain ⟨L, hL⟩ : ∃ o9, toL a b = o9 := ⟨_, rfl⟩
   rw [hL] at HA HB hlaw hln
   obtain ⟨PS, hPS⟩ : ∃ o9, ptL a b = o9 := ⟨_, rfl⟩
   rw [hPS] at HC HCs hln
   obtain ⟨OD, hOD⟩ : ∃ o9, odL a b = o9 := ⟨_, rfl⟩
   rw [hOD] at HD HDs hlaw hol
   obtain ⟨DB, hDB⟩ : ∃ o9, dbL a b = o9 := ⟨_, rfl⟩
   rw [hDB] at HE HEs hlaw hdl
   obtain ⟨TC, hTC⟩ : ∃ o9, tcV a b = o9 := ⟨_, rfl⟩
   rw [hTC] at HT HTs hlaw
   obtain ⟨n1, hn1⟩ : ∃ o9, L.length = o9 := ⟨_, rfl⟩
   rw [hn1] at HA HB hlaw hln
   obtain ⟨n2, hn2⟩ : ∃ o9, PS.length = o9 := ⟨_, rfl⟩
   rw [hn2] at HC HCs hln
   obtain ⟨hln1, hln2⟩ := hln
   have hln1 := hln1.symm
   subst hln1
   obtain ⟨n3, hn3⟩ : ∃ o9, OD.length = o9 := ⟨_, rfl⟩
   rw [hn3] at HD HDs hlaw hol
   obtain ⟨n4, hn4⟩ : ∃ o9, DB.length = o9 := ⟨_, rfl⟩
   rw [hn4] at HE HEs hlaw hdl
   unfold RetSliceB at HA HB HC HCs HD HDs HE HEs
   unfold RetV at HT HTs
   have w1' : wrap64 p = p := by unfold wrap64; omega
   have w2' : IntKind.i64.wrap p = p := by rw [IntKind.wrap_i64]; omega
   have k1 : (ok != ok) = false := by cases ok <;> rfl
   have k5 : (TC != TC) = false := by simp
   have HLAW := Lib.hid hlaw
   have HMB := Lib.hid hmb
   have HPP := Lib.hid hp
   clear x1 x2 x3 hok hp hL hPS hOD hDB hTC hn1 hn2 hn3 hn4 hlaw hmb ha hb9 w1' w2'
   go_wp2_with fail
   refine (HB.out _).mono ?_
   rintro e w3 ⟨Ab, cb, rfl, ho_b, hb⟩
   have s3 : w2.heap.size ≤ w3.heap.size := (by have := hb.size; (try simp at this); omega)
   have b3 := Lib.hid (ext_trans b2.out hb)
   have t3 : w.heap.size ≤ w3.heap.size := b3.out.size
   have oc_b := Lib.hid (own_base (base' := w2.heap.size + 0) ho_b (by simp))
   clear ho_b
   clear hb
   go_wp2_with fail
   refine (HA.out _).mono ?_
   rintro e w4 ⟨Aa, ca, rfl, ho_a, hb⟩
   have s4 : w3.heap.size ≤ w4.heap.size := (by have := hb.size; (try simp at this); omega)
   have b4 := Lib.hid (ext_trans b3.out hb)
   have t4 : w.heap.size ≤ w4.heap.size := b4.out.size
   have o4_b := Lib.hid (own_ext oc_b.out hb)
   have oc_a := Lib.hid (own_base (base' := w3.heap.size + 0) ho_a (by simp))
   clear ho_a
   clear hb
   go_upto_region 6 with fail
   go_cut [65] (fun s65 wx => s65 = .bool false ∧ Below w4.heap.size w4 wx)
   case first => as_aux_lemma =>
    have hbB := Lib.hid (ext_refl w4)
    go_wp2_with fail
    refine (vInts_same Ab Aa n2 cb ca L _ (by omega) (Reads.of_own o4_b.out) (Reads.of_own oc_a.out)).mono ?_
    rintro e w5 ⟨rfl, hb⟩
    have hbB := Lib.hid (ext_trans hbB.out hb)
    have s5 : w4.heap.size ≤ w5.heap.size := (by have := hb.size; (try simp at this); omega)
    have b5 := Lib.hid (ext_trans b4.out hb)
    have t5 : w.heap.size ≤ w5.heap.size := b5.out.size
    have o5_b := Lib.hid (own_ext o4_b.out hb)
    have o5_a := Lib.hid (own_ext oc_a.out hb)
    clear hb
    go_wp2_with fail
    go_meet
    exact ⟨rfl, hbB.out⟩
   case rest => as_aux_lemma =>
    obtain ⟨rfl, hb⟩ := hcut
    obtain ⟨w5, hw5⟩ : ∃ x : World, x = wc := ⟨_, rfl⟩
    subst hw5
    have s5 : w4.heap.size ≤ w5.heap.size := (by have := hb.size; (try simp at this); omega)
    have b5 := Lib.hid (ext_trans b4.out hb)
    have t5 : w.heap.size ≤ w5.heap.size := b5.out.size
    have o5_b := Lib.hid (own_ext o4_b.out hb)
    have o5_a := Lib.hid (own_ext oc_a.out hb)
    clear hb
    go_wp2_with fail
    refine (HC.out _).mono ?_
    rintro e w6 ⟨Ap, cp, rfl, ho_p, hb⟩
    have s6 : w5.heap.size ≤ w6.heap.size := (by have := hb.size; (try simp at this); omega)
    have b6 := Lib.hid (ext_trans b5.out hb)
    have t6 : w.heap.size ≤ w6.heap.size := b6.out.size
    have o6_b := Lib.hid (own_ext o5_b.out hb)
    have o6_a := Lib.hid (own_ext o5_a.out hb)
    have oc_p := Lib.hid (own_base (base' := w5.heap.size + 0) ho_p (by simp))
    clear ho_p
    clear hb
    go_wp2_with fail
    refine (HCs.out _).mono ?_
    rintro e w7 ⟨Aq, cq, rfl, ho_q, hb⟩
    have s7 : w6.heap.size ≤ w7.heap.size := (by have := hb.size; (try simp at this); omega)
    have b7 := Lib.hid (ext_trans b6.out hb)
    have t7 : w.heap.size ≤ w7.heap.size := b7.out.size
    have o7_b := Lib.hid (own_ext o6_b.out hb)
    have o7_a := Lib.hid (own_ext o6_a.out hb)
    have o7_p := Lib.hid (own_ext oc_p.out hb)
    have oc_q := Lib.hid (own_base (base' := w6.heap.size + 0) ho_q (by simp))
    clear ho_q
    clear hb
    go_upto_region 10 with fail
    go_cut [91] (fun s91 wx => s91 = .bool false ∧ Below w7.heap.size w7 wx)
    case first => as_aux_lemma =>
     have hbB := Lib.hid (ext_refl w7)
     go_wp2_with fail
     refine (vTriples_same Ap Aq n2 cp cq PS _ (by omega) (Reads.of_own o7_p.out) (Reads.of_own oc_q.out)).mono ?_
     rintro e w8 ⟨rfl, hb⟩
     have hbB := Lib.hid (ext_trans hbB.out hb)
     have s8 : w7.heap.size ≤ w8.heap.size := (by have := hb.size; (try simp at this); omega)
     have b8 := Lib.hid (ext_trans b7.out hb)
     have t8 : w.heap.size ≤ w8.heap.size := b8.out.size
     have o8_b := Lib.hid (own_ext o7_b.out hb)
     have o8_a := Lib.hid (own_ext o7_a.out hb)
     have o8_p := Lib.hid (own_ext o7_p.out hb)
     have o8_q := Lib.hid (own_ext oc_q.out hb)
     clear hb
     go_wp2_with fail
     go_meet
     exact ⟨rfl, hbB.out⟩
    case rest => as_aux_lemma =>
     obtain ⟨rfl, hb⟩ := hcut
     obtain ⟨w8, hw8⟩ : ∃ x : World, x = wc := ⟨_, rfl⟩
     subst hw8
     have s8 : w7.heap.size ≤ w8.heap.size := (by have := hb.size; (try simp at this); omega)
     have b8 := Lib.hid (ext_trans b7.out hb)
     have t8 : w.heap.size ≤ w8.heap.size := b8.out.size
     have o8_b := Lib.hid (own_ext o7_b.out hb)
     have o8_a := Lib.hid (own_ext o7_a.out hb)
     have o8_p := Lib.hid (own_ext o7_p.out hb)
     have o8_q := Lib.hid (own_ext oc_q.out hb)
     clear hb
     go_wp2_with fail
     refine (HD.out _).mono ?_
     rintro e w9 ⟨Ad, cd, rfl, ho_d, hb⟩
     have s9 : w8.heap.size ≤ w9.heap.size := (by have := hb.size; (try simp at this); omega)
     have b9 := Lib.hid (ext_trans b8.out hb)
     have t9 : w.heap.size ≤ w9.heap.size := b9.out.size
     have o9_b := Lib.hid (own_ext o8_b.out hb)
     have o9_a := Lib.hid (own_ext o8_a.out hb)
     have o9_p := Lib.hid (own_ext o8_p.out hb)
     have o9_q := Lib.hid (own_ext o8_q.out hb)
     have oc_d := Lib.hid (own_base (base' := w8.heap.size + 0) ho_d (by simp))
     clear ho_d
     clear hb
     go_wp2_with fail
     refine (HDs.out _).mono ?_
     rintro e w10 ⟨Ae, ce, rfl, ho_e, hb⟩
     have s10 : w9.heap.size ≤ w10.heap.size := (by have := hb.size; (try simp at this); omega)
     have b10 := Lib.hid (ext_trans b9.out hb)
     have t10 : w.heap.size ≤ w10.heap.size := b10.out.size
     have o10_b := Lib.hid (own_ext o9_b.out hb)
     have o10_a := Lib.hid (own_ext o9_a.out hb)
     have o10_p := Lib.hid (own_ext o9_p.out hb)
     have o10_q := Lib.hid (own_ext o9_q.out hb)
     have o10_d := Lib.hid (own_ext oc_d.out hb)
     have oc_e := Lib.hid (own_base (base' := w9.heap.size + 0) ho_e (by simp))
     clear ho_e
     clear hb
     go_upto_region 14 with fail
     go_cut [117] (fun s117 wx => s117 = .bool false ∧ Below w10.heap.size w10 wx)
     case first => as_aux_lemma =>
      have hbB := Lib.hid (ext_refl w10)
      go_wp2_with fail
      refine (vInts_same Ad Ae n3 cd ce OD _ (by omega) (Reads.of_own o10_d.out) (Reads.of_own oc_e.out)).mono ?_
      rintro e w11 ⟨rfl, hb⟩
      have hbB := Lib.hid (ext_trans hbB.out hb)
      have s11 : w10.heap.size ≤ w11.heap.size := (by have := hb.size; (try simp at this); omega)
      have b11 := Lib.hid (ext_trans b10.out hb)
      have t11 : w.heap.size ≤ w11.heap.size := b11.out.size
      have o11_b := Lib.hid (own_ext o10_b.out hb)
      have o11_a := Lib.hid (own_ext o10_a.out hb)
      have o11_p := Lib.hid (own_ext o10_p.out hb)
      have o11_q := Lib.hid (own_ext o10_q.out hb)
      have o11_d := Lib.hid (own_ext o10_d.out hb)
      have o11_e := Lib.hid (own_ext oc_e.out hb)
      clear hb
      go_wp2_with fail
      go_meet
      exact ⟨rfl, hbB.out⟩
     case rest => as_aux_lemma =>
      obtain ⟨rfl, hb⟩ := hcut
      obtain ⟨w11, hw11⟩ : ∃ x : World, x = wc := ⟨_, rfl⟩
      subst hw11
      have s11 : w10.heap.size ≤ w11.heap.size := (by have := hb.size; (try simp at this); omega)
      have b11 := Lib.hid (ext_trans b10.out hb)
      have t11 : w.heap.size ≤ w11.heap.size := b11.out.size
      have o11_b := Lib.hid (own_ext o10_b.out hb)
      have o11_a := Lib.hid (own_ext o10_a.out hb)
      have o11_p := Lib.hid (own_ext o10_p.out hb)
      have o11_q := Lib.hid (own_ext o10_q.out hb)
      have o11_d := Lib.hid (own_ext o10_d.out hb)
      have o11_e := Lib.hid (own_ext oc_e.out hb)
      clear hb
      clear o11_a
      clear o11_p
      clear o11_q
      clear o11_e
      go_upto_if 118 with fail
      go_cut [118] (fun s118 wx => Below w.heap.size w wx)
      case first => as_aux_lemma =>
       clear HA HB HC HCs HD HDs
       rcases ok with _ | _
       · go_wp2_with fail
         go_meet
         exact b11.out
       obtain ⟨S, hS0, hSn, hSk, hsum, hel, hodb, hpb, htc⟩ := HLAW.out rfl
       have HS0 := Lib.hid hS0
       have HSN := Lib.hid hSn
       have HSK := Lib.hid hSk
       have HVS := Lib.hid (fun (w : World) h => vSumB_any Ad n3 cd OD 163823616 w (by omega) (by omega) hel h)
       rw [hsum] at HVS
       have HPP := HPP
       rw [← HPP.out] at hpb
       have w1' : wrap64 (a * b) = a * b := by unfold wrap64; omega
       have w2' : IntKind.i64.wrap (a * b) = a * b := by rw [IntKind.wrap_i64]; omega
       have hpb0 := hpb
       rw [HPP.out] at w1' w2' hpb
       clear hS0 hSn hSk hsum hel HLAW hpb0 w1' w2'
       go_wp2_with fail
       go_loopw [17, 18] (fun la i wr => ∃ k : Nat, k ≤ n2 ∧ i = .int .i64 k ∧ la = .int .i64 (S k) ∧ Hid (Below w11.heap.size w11 wr)) (fun _ i _ => n2 - (intOf i).toNat)
       case atStart => exact ⟨0, Nat.zero_le _, rfl, by rw [HS0.out], Lib.hid (ext_refl _)⟩
       case round =>
        obtain ⟨k, hk, rfl, rfl, HX⟩ := hrel
        obtain ⟨V, hV⟩ : ∃ V : World, V = wr := ⟨_, rfl⟩
        subst hV
        by_cases hlt : k < n2
        · obtain ⟨hk1, hk2⟩ := HSK.out k hlt
          obtain ⟨bd, od, rfl, hbd, c0⟩ := ints_at (Reads.of_own (own_ext o11_b.out HX.out)) hk1
          clear hk1
          obtain ⟨X, hX⟩ : ∃ o9, S (k + 1) = o9 := ⟨_, rfl⟩
          rw [hX] at hk2 c0
          obtain ⟨Y, hY⟩ : ∃ o9, S k = o9 := ⟨_, rfl⟩
          rw [hY] at hk2 ⊢
          have HX1 := Lib.hid hX
          have k1' : (k : Int) < (n2 : Int) := by omega
          have k0' : (0 : Int) ≤ (k : Int) := by omega
          have e1 : ¬ X ≤ Y := by omega
          have e1b : decide (X ≤ Y) = false := decide_eq_false e1
          clear hX hY hk2
          go_wp2_with fail
          go_roundw
          case rel => exact ⟨k + 1, by omega, by go_num, by rw [HX1.out], HX⟩
          case measure => simp [intOf]; omega
        · obtain rfl : k = n2 := by omega
          rw [HSN.out]
          have hb := HX.out
          obtain ⟨w12, hw12⟩ : ∃ x : World, x = V := ⟨_, rfl⟩
          subst hw12
          clear HX
          have s12 : w11.heap.size ≤ w12.heap.size := (by have := hb.size; (try simp at this); omega)
          have b12 := Lib.hid (ext_trans b11.out hb)
          have t12 : w.heap.size ≤ w12.heap.size := b12.out.size
          have o12_b := Lib.hid (own_ext o11_b.out hb)
          have o12_d := Lib.hid (own_ext o11_d.out hb)
          clear hb
          go_wp2_with fail
          refine (HE.out _).mono ?_
          rintro e w13 ⟨Af, cf, rfl, ho_f, hb⟩
          have s13 : w12.heap.size ≤ w13.heap.size := (by have := hb.size; (try simp at this); omega)
          have b13 := Lib.hid (ext_trans b12.out hb)
          have t13 : w.heap.size ≤ w13.heap.size := b13.out.size
          have o13_b := Lib.hid (own_ext o12_b.out hb)
          have o13_d := Lib.hid (own_ext o12_d.out hb)
          have oc_f := Lib.hid (own_base (base' := w12.heap.size + 0) ho_f (by simp))
          clear ho_f
          clear hb
          go_wp2_with fail
          refine (HEs.out _).mono ?_
          rintro e w14 ⟨Ah, ch, rfl, ho_h, hb⟩
          have s14 : w13.heap.size ≤ w14.heap.size := (by have := hb.size; (try simp at this); omega)
          have b14 := Lib.hid (ext_trans b13.out hb)
          have t14 : w.heap.size ≤ w14.heap.size := b14.out.size
          have o14_b := Lib.hid (own_ext o13_b.out hb)
          have o14_d := Lib.hid (own_ext o13_d.out hb)
          have o14_f := Lib.hid (own_ext oc_f.out hb)
          have oc_h := Lib.hid (own_base (base' := w13.heap.size + 0) ho_h (by simp))
          clear ho_h
          clear hb
          go_upto_region 26 with fail
          go_cut [155] (fun s155 wx => s155 = .bool false ∧ Below w14.heap.size w14 wx)
          case first => as_aux_lemma =>
           have hbB := Lib.hid (ext_refl w14)
           go_wp2_with fail
           refine (vPairs_same Af Ah n4 cf ch DB _ (by omega) (Reads.of_own o14_f.out) (Reads.of_own oc_h.out)).mono ?_
           rintro e w15 ⟨rfl, hb⟩
           have hbB := Lib.hid (ext_trans hbB.out hb)
           have s15 : w14.heap.size ≤ w15.heap.size := (by have := hb.size; (try simp at this); omega)
           have b15 := Lib.hid (ext_trans b14.out hb)
           have t15 : w.heap.size ≤ w15.heap.size := b15.out.size
           have o15_b := Lib.hid (own_ext o14_b.out hb)
           have o15_d := Lib.hid (own_ext o14_d.out hb)
           have o15_f := Lib.hid (own_ext o14_f.out hb)
           have o15_h := Lib.hid (own_ext oc_h.out hb)
           clear hb
           go_wp2_with fail
           go_meet
           exact ⟨rfl, hbB.out⟩
          case rest => as_aux_lemma =>
           obtain ⟨rfl, hb⟩ := hcut
           obtain ⟨w15, hw15⟩ : ∃ x : World, x = wc := ⟨_, rfl⟩
           subst hw15
           have s15 : w14.heap.size ≤ w15.heap.size := (by have := hb.size; (try simp at this); omega)
           have b15 := Lib.hid (ext_trans b14.out hb)
           have t15 : w.heap.size ≤ w15.heap.size := b15.out.size
           have o15_b := Lib.hid (own_ext o14_b.out hb)
           have o15_d := Lib.hid (own_ext o14_d.out hb)
           have o15_f := Lib.hid (own_ext o14_f.out hb)
           have o15_h := Lib.hid (own_ext oc_h.out hb)
           clear hb
           go_upto_region 28 with fail
           go_cut [182] (fun s182 wx => s182 = .bool false ∧ Below w15.heap.size w15 wx)
           case first => as_aux_lemma =>
            have hbB := Lib.hid (ext_refl w15)
            have kp : (p != p) = false := by simp
            have kn : ((k : Int) != (k : Int)) = false := by simp
            have kl : decide ((n4 : Int) < (n3 : Int)) = false := decide_eq_false (by omega)
            have kl2 : ¬ (n4 : Int) < (n3 : Int) := by omega
            have kl3 : decide (n4 < n3) = false := decide_eq_false (by omega)
            have hm9 : a * b = p := HPP.out
            have w1' : wrap64 p = p := by unfold wrap64; omega
            have w2' : IntKind.i64.wrap p = p := by rw [IntKind.wrap_i64]; omega
            go_wp2_with fail
            refine (HVS.out _ (Reads.of_own o15_d.out)).mono ?_
            rintro e w16 ⟨rfl, hb⟩
            have hbB := Lib.hid (ext_trans hbB.out hb)
            have s16 : w15.heap.size ≤ w16.heap.size := (by have := hb.size; (try simp at this); omega)
            have b16 := Lib.hid (ext_trans b15.out hb)
            have t16 : w.heap.size ≤ w16.heap.size := b16.out.size
            have o16_b := Lib.hid (own_ext o15_b.out hb)
            have o16_d := Lib.hid (own_ext o15_d.out hb)
            have o16_f := Lib.hid (own_ext o15_f.out hb)
            have o16_h := Lib.hid (own_ext o15_h.out hb)
            clear hb
            go_wp2_with fail
            go_meet
            exact ⟨rfl, hbB.out⟩
           case rest => as_aux_lemma =>
            obtain ⟨rfl, hb⟩ := hcut
            obtain ⟨w16, hw16⟩ : ∃ x : World, x = wc := ⟨_, rfl⟩
            subst hw16
            have s16 : w15.heap.size ≤ w16.heap.size := (by have := hb.size; (try simp at this); omega)
            have b16 := Lib.hid (ext_trans b15.out hb)
            have t16 : w.heap.size ≤ w16.heap.size := b16.out.size
            have o16_b := Lib.hid (own_ext o15_b.out hb)
            have o16_d := Lib.hid (own_ext o15_d.out hb)
            have o16_f := Lib.hid (own_ext o15_f.out hb)
            have o16_h := Lib.hid (own_ext o15_h.out hb)
            clear hb
            go_wp2_with fail
            refine (HT.out _).mono ?_
            rintro e w17 ⟨rfl, hb⟩
            have s17 : w16.heap.size ≤ w17.heap.size := (by have := hb.size; (try simp at this); omega)
            have b17 := Lib.hid (ext_trans b16.out hb)
            have t17 : w.heap.size ≤ w17.heap.size := b17.out.size
            have o17_b := Lib.hid (own_ext o16_b.out hb)
            have o17_d := Lib.hid (own_ext o16_d.out hb)
            have o17_f := Lib.hid (own_ext o16_f.out hb)
            have o17_h := Lib.hid (own_ext o16_h.out hb)
            clear hb
            go_wp2_with fail
            refine (HTs.out _).mono ?_
            rintro e w18 ⟨rfl, hb⟩
            have s18 : w17.heap.size ≤ w18.heap.size := (by have := hb.size; (try simp at this); omega)
            have b18 := Lib.hid (ext_trans b17.out hb)
            have t18 : w.heap.size ≤ w18.heap.size := b18.out.size
            have o18_b := Lib.hid (own_ext o17_b.out hb)
            have o18_d := Lib.hid (own_ext o17_d.out hb)
            have o18_f := Lib.hid (own_ext o17_f.out hb)
            have o18_h := Lib.hid (own_ext o17_h.out hb)
            clear hb
            have e7 : ¬ TC < 0 := by omega
            have e7b : decide (TC < 0) = false := decide_eq_false e7
            go_wp2_with fail
            go_meet
            exact b18.out
      case rest => as_aux_lemma =>
       obtain ⟨w19, hw19⟩ : ∃ x : World, x = wc := ⟨_, rfl⟩
       subst hw19
       have b19 := Lib.hid hcut
       have t19 : w.heap.size ≤ w19.heap.size := hcut.size
       clear hcut
       clear HLAW HA HB HC HCs HD HDs HE HEs HT HTs HMB HPP k1 k5 hln2 hol hdl
       go_wp2_with fail
       refine (drawProductOn_any A n c _ ((H.out.below b19.out).more b19.out.size) hn).mono ?_
       rintro e w20 ⟨u1, lo1, l, As, cs, x, y, rfl, hIN, x0, x9, y0, y9, ho_s, hb⟩
       have s20 : w19.heap.size ≤ w20.heap.size := (by have := hb.size; (try simp at this); omega)
       have b20 := Lib.hid (ext_trans b19.out hb)
       have t20 : w.heap.size ≤ w20.heap.size := b20.out.size
       clear hb
       have oc_s := Lib.hid (own_base (base' := w19.heap.size + 0) ho_s (by simp))
       clear ho_s
       have hl9 : l.length ≤ 9 := hIN.2.2.2.2.2.1
       clear hIN
       have HB := Lib.hid (fun (w : World) h => implProductOn_any u1 lo1 As l.length cs l x y w (by omega) h)
       have HA := Lib.hid (fun (w : World) h => specProductOn_any u1 lo1 As l.length cs l x y w (by omega) h)
       have hlaw := ftm_prod u1 lo1 l x y
       have hLn := prodF_len u1 lo1 l x y
       have hmb := mul_bd ⟨x0, x9⟩ ⟨y0, y9⟩
       obtain ⟨R, hR⟩ : ∃ o9, prodF u1 lo1 l x y = o9 := ⟨_, rfl⟩
       rw [hR] at HA HB hlaw hLn
       obtain ⟨ok, hok⟩ : ∃ o9, prodOk u1 lo1 l x y = o9 := ⟨_, rfl⟩
       rw [hok] at HA HB hlaw
       obtain ⟨p, hp⟩ : ∃ o9, x * y = o9 := ⟨_, rfl⟩
       rw [hp] at hlaw hmb
       have HPP := Lib.hid hp
       obtain ⟨U, LO, L⟩ := R
       unfold RetFrB at HA HB
       dsimp only at HA HB hLn hlaw
       have HLAW := Lib.hid hlaw
       have k1 : (ok != ok) = false := by cases ok <;> rfl
       clear hR hok hp hlaw
       go_wp2_with fail
       refine (HB.out _ (Reads.of_own (oc_s.out.alloc _))).mono ?_
       rintro e w21 ⟨Ab, cb, rfl, ho_b, hb⟩
       have s21 : w20.heap.size + 1 ≤ w21.heap.size := (by have := hb.size; (try simp at this); omega)
       have z21_0 : w20.heap.size < w21.heap.size := (by omega)
       have q21_0 : w21.cell? ⟨w20.heap.size, 0, none⟩ = some (.int .i64 u1) := ext_cell hb (by simp [go_sem])
       have q21_1 : w21.cell? ⟨w20.heap.size, 1, none⟩ = some (.int .i64 lo1) := ext_cell hb (by simp [go_sem])
       have q21_2 : w21.cell? ⟨w20.heap.size, 2, none⟩ = some (.slice As l.length cs) := ext_cell hb (by simp [go_sem])
       have b21 := Lib.hid (ext_trans (ext_alloc b20.out _) hb)
       have t21 : w.heap.size ≤ w21.heap.size := b21.out.size
       have o21_s := Lib.hid (own_ext (oc_s.out.alloc _) hb)
       have oc_b := Lib.hid (own_base (base' := w20.heap.size + 1) ho_b (by simp))
       clear ho_b
       clear hb
       go_wp2_with fail
       refine (HA.out _ (Reads.of_own (o21_s.out.alloc _))).mono ?_
       rintro e w22 ⟨Aa, ca, rfl, ho_a, hb⟩
       have s22 : w21.heap.size + 1 ≤ w22.heap.size := (by have := hb.size; (try simp at this); omega)
       have z22_0 : w20.heap.size < w22.heap.size := (by omega)
       have z22_1 : w21.heap.size < w22.heap.size := (by omega)
       have q22_0 : w22.cell? ⟨w20.heap.size, 0, none⟩ = some (.int .i64 u1) := ext_cell hb (cell_old q21_0 _)
       have q22_1 : w22.cell? ⟨w20.heap.size, 1, none⟩ = some (.int .i64 lo1) := ext_cell hb (cell_old q21_1 _)
       have q22_2 : w22.cell? ⟨w20.heap.size, 2, none⟩ = some (.slice As l.length cs) := ext_cell hb (cell_old q21_2 _)
       have q22_3 : w22.cell? ⟨w21.heap.size, 0, none⟩ = some (.int .i64 U) := ext_cell hb (by simp [go_sem])
       have q22_4 : w22.cell? ⟨w21.heap.size, 1, none⟩ = some (.int .i64 LO) := ext_cell hb (by simp [go_sem])
       have q22_5 : w22.cell? ⟨w21.heap.size, 2, none⟩ = some (.slice Ab L.length cb) := ext_cell hb (by simp [go_sem])
       have b22 := Lib.hid (ext_trans (ext_alloc b21.out _) hb)
       have t22 : w.heap.size ≤ w22.heap.size := b22.out.size
       have o22_s := Lib.hid (own_ext (o21_s.out.alloc _) hb)
       have o22_b := Lib.hid (own_ext (oc_b.out.alloc _) hb)
       clear q21_0 q21_1 q21_2
       have oc_a := Lib.hid (own_base (base' := w21.heap.size + 1) ho_a (by simp))
       clear ho_a
       clear hb
       go_wp2_with fail
       refine (vFrame_same U LO Ab Aa L.length cb ca L _ (by omega) (Reads.of_own (o22_b.out.alloc _)) (Reads.of_own (oc_a.out.alloc _))).mono ?_
       rintro e w23 ⟨rfl, hb⟩
       have s23 : w22.heap.size + 1 ≤ w23.heap.size := (by have := hb.size; (try simp at this); omega)
       have z23_0 : w20.heap.size < w23.heap.size := (by omega)
       have z23_1 : w21.heap.size < w23.heap.size := (by omega)
       have z23_2 : w22.heap.size < w23.heap.size := (by omega)
       have q23_0 : w23.cell? ⟨w20.heap.size, 0, none⟩ = some (.int .i64 u1) := ext_cell hb (cell_old q22_0 _)
       have q23_1 : w23.cell? ⟨w20.heap.size, 1, none⟩ = some (.int .i64 lo1) := ext_cell hb (cell_old q22_1 _)
       have q23_2 : w23.cell? ⟨w20.heap.size, 2, none⟩ = some (.slice As l.length cs) := ext_cell hb (cell_old q22_2 _)
       have q23_3 : w23.cell? ⟨w21.heap.size, 0, none⟩ = some (.int .i64 U) := ext_cell hb (cell_old q22_3 _)
       have q23_4 : w23.cell? ⟨w21.heap.size, 1, none⟩ = some (.int .i64 LO) := ext_cell hb (cell_old q22_4 _)
       have q23_5 : w23.cell? ⟨w21.heap.size, 2, none⟩ = some (.slice Ab L.length cb) := ext_cell hb (cell_old q22_5 _)
       have q23_6 : w23.cell? ⟨w22.heap.size, 0, none⟩ = some (.int .i64 U) := ext_cell hb (by simp [go_sem])
       have q23_7 : w23.cell? ⟨w22.heap.size, 1, none⟩ = some (.int .i64 LO) := ext_cell hb (by simp [go_sem])
       have q23_8 : w23.cell? ⟨w22.heap.size, 2, none⟩ = some (.slice Aa L.length ca) := ext_cell hb (by simp [go_sem])
       have b23 := Lib.hid (ext_trans (ext_alloc b22.out _) hb)
       have t23 : w.heap.size ≤ w23.heap.size := b23.out.size
       have o23_s := Lib.hid (own_ext (o22_s.out.alloc _) hb)
       have o23_b := Lib.hid (own_ext (o22_b.out.alloc _) hb)
       have o23_a := Lib.hid (own_ext (oc_a.out.alloc _) hb)
       clear q22_0 q22_1 q22_2 q22_3 q22_4 q22_5
       clear hb
       rcases ok with _ | _
       · go_wp2
         go_ret
         exact ⟨rfl, b23.out⟩
       obtain ⟨hf1, hf2, hnum, ⟨z1, z2⟩, ⟨n1, n2⟩⟩ := HLAW.out rfl
       have HN1 := Lib.hid (fun (w : World) h => nrOn_any u1 lo1 As l.length cs l w (by omega) h)
       rw [hf1, if_pos rfl] at HN1
       have HN2 := Lib.hid (fun (w : World) h => nrOn_any U LO Ab L.length cb L w (by omega) h)
       rw [hf2, if_pos rfl, hnum] at HN2
       obtain ⟨N, hN⟩ : ∃ o9, numR l = o9 := ⟨_, rfl⟩
       rw [hN] at HN1 HN2 n1 n2
       have k3 : (N + p == N + p) = true := by simp
       have w1' : wrap64 p = p := by unfold wrap64; omega
       have w2' : IntKind.i64.wrap p = p := by rw [IntKind.wrap_i64]; omega
       have w3' : wrap64 (N + p) = N + p := by unfold wrap64; omega
       have w4' : IntKind.i64.wrap (N + p) = N + p := by rw [IntKind.wrap_i64]; omega
       have hm9 : x * y = p := HPP.out
       clear hf1 hf2 hnum hN
       go_wp2_with fail
       refine (HN1.out _ (Reads.of_own o23_s.out)).mono ?_
       rintro e w24 ⟨rfl, hb⟩
       have s24 : w23.heap.size ≤ w24.heap.size := (by have := hb.size; (try simp at this); omega)
       have z24_0 : w20.heap.size < w24.heap.size := (by omega)
       have z24_1 : w21.heap.size < w24.heap.size := (by omega)
       have z24_2 : w22.heap.size < w24.heap.size := (by omega)
       have q24_0 : w24.cell? ⟨w20.heap.size, 0, none⟩ = some (.int .i64 u1) := ext_cell hb q23_0
       have q24_1 : w24.cell? ⟨w20.heap.size, 1, none⟩ = some (.int .i64 lo1) := ext_cell hb q23_1
       have q24_2 : w24.cell? ⟨w20.heap.size, 2, none⟩ = some (.slice As l.length cs) := ext_cell hb q23_2
       have q24_3 : w24.cell? ⟨w21.heap.size, 0, none⟩ = some (.int .i64 U) := ext_cell hb q23_3
       have q24_4 : w24.cell? ⟨w21.heap.size, 1, none⟩ = some (.int .i64 LO) := ext_cell hb q23_4
       have q24_5 : w24.cell? ⟨w21.heap.size, 2, none⟩ = some (.slice Ab L.length cb) := ext_cell hb q23_5
       have q24_6 : w24.cell? ⟨w22.heap.size, 0, none⟩ = some (.int .i64 U) := ext_cell hb q23_6
       have q24_7 : w24.cell? ⟨w22.heap.size, 1, none⟩ = some (.int .i64 LO) := ext_cell hb q23_7
       have q24_8 : w24.cell? ⟨w22.heap.size, 2, none⟩ = some (.slice Aa L.length ca) := ext_cell hb q23_8
       have b24 := Lib.hid (ext_trans b23.out hb)
       have t24 : w.heap.size ≤ w24.heap.size := b24.out.size
       have o24_s := Lib.hid (own_ext o23_s.out hb)
       have o24_b := Lib.hid (own_ext o23_b.out hb)
       have o24_a := Lib.hid (own_ext o23_a.out hb)
       clear q23_0 q23_1 q23_2 q23_3 q23_4 q23_5 q23_6 q23_7 q23_8
       clear hb
       go_wp2_with fail
       refine (HN2.out _ (Reads.of_own o24_b.out)).mono ?_
       rintro e w25 ⟨rfl, hb⟩
       have s25 : w24.heap.size ≤ w25.heap.size := (by have := hb.size; (try simp at this); omega)
       have z25_0 : w20.heap.size < w25.heap.size := (by omega)
       have z25_1 : w21.heap.size < w25.heap.size := (by omega)
       have z25_2 : w22.heap.size < w25.heap.size := (by omega)
       have q25_0 : w25.cell? ⟨w20.heap.size, 0, none⟩ = some (.int .i64 u1) := ext_cell hb q24_0
       have q25_1 : w25.cell? ⟨w20.heap.size, 1, none⟩ = some (.int .i64 lo1) := ext_cell hb q24_1
       have q25_2 : w25.cell? ⟨w20.heap.size, 2, none⟩ = some (.slice As l.length cs) := ext_cell hb q24_2
       have q25_3 : w25.cell? ⟨w21.heap.size, 0, none⟩ = some (.int .i64 U) := ext_cell hb q24_3
       have q25_4 : w25.cell? ⟨w21.heap.size, 1, none⟩ = some (.int .i64 LO) := ext_cell hb q24_4
       have q25_5 : w25.cell? ⟨w21.heap.size, 2, none⟩ = some (.slice Ab L.length cb) := ext_cell hb q24_5
       have q25_6 : w25.cell? ⟨w22.heap.size, 0, none⟩ = some (.int .i64 U) := ext_cell hb q24_6
       have q25_7 : w25.cell? ⟨w22.heap.size, 1, none⟩ = some (.int .i64 LO) := ext_cell hb q24_7
       have q25_8 : w25.cell? ⟨w22.heap.size, 2, none⟩ = some (.slice Aa L.length ca) := ext_cell hb q24_8
       have b25 := Lib.hid (ext_trans b24.out hb)
       have t25 : w.heap.size ≤ w25.heap.size := b25.out.size
       have o25_s := Lib.hid (own_ext o24_s.out hb)
       have o25_b := Lib.hid (own_ext o24_b.out hb)
       have o25_a := Lib.hid (own_ext o24_a.out hb)
       clear q24_0 q24_1 q24_2 q24_3 q24_4 q24_5 q24_6 q24_7 q24_8
       clear hb
       go_wp2
       go_ret
       exact ⟨rfl, b25.out⟩
end Go.Proofs.Ytfechhacmkajdaa
