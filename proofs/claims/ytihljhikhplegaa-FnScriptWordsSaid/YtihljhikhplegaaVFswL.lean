/- The law FnScriptWords, walked. -/
import Derived.Deep.CutBlock
import Derived.Test.YtihljhikhplegaaVM7
import Derived.Test.YtihljhikhplegaaVRuJ
import Derived.Test.YtihljhikhplegaaVRvB
import Derived.Test.YtihljhikhplegaaVInC
import Derived.Test.YtihljhikhplegaaVM6
import Derived.Test.YtihljhikhplegaaVM1
namespace Go.Proofs.Ytihljhikhplegaa
open Go.RowKit
set_option linter.unusedVariables false
set_option linter.unusedSimpArgs false
theorem scr_80 {s : ByteArray} (h : scrB s = true) : s.size ≤ 80 := by
 unfold scrB at h
 simp only [Bool.and_eq_true, decide_eq_true_eq] at h
 exact h.1
theorem fswLaw (s : ByteArray) : (invO s).isSome = true → invO ((invO s).getD ⟨#[]⟩) = some s ∧ wnV ((invO s).getD ⟨#[]⟩) = wnV s ∧ scrB s = true ∧ scrB ((invO s).getD ⟨#[]⟩) = true ∧ ((invO s).getD ⟨#[]⟩).size ≤ 80 := by
 intro h
 obtain ⟨t, ht⟩ := Option.isSome_iff_exists.1 h
 obtain ⟨h1, h2, h3, h4⟩ := inv_inv ht
 rw [ht]
 exact ⟨h1, h2, h3, h4, scr_80 h4⟩
theorem fswRod (s : ByteArray) (z : Int) : (erV s z).isSome = true → 0 ≤ (erV s z).getD 0 ∧ (erV s z).getD 0 < z := by
 intro h
 obtain ⟨t, ht⟩ := Option.isSome_iff_exists.1 h
 rw [ht]
 unfold erV at ht
 split at ht
 · rename_i hc
   have h1 := inB_iff.1 hc.2
   have := erL_in h1.1 _ (Nat.le_refl _) ht
   show 0 ≤ t ∧ t < z
   omega
 · cases ht
set_option maxRecDepth 100000 in
set_option maxHeartbeats 8000000 in
theorem law_FnScriptWords (A : Option Addr) (n c : Nat) (w : World) (h : Code w w.heap.size A n) (hn63 : n ≤ maxLen) :
 Calls Try.prog 4 #[.slice A n c] w fun e w' => e = .returned (.bool true) ∧ Below w.heap.size w w' := by
 have HV := Lib.hid (fun w => vBig_any A n c w)
 by_cases hbig : (65536 : Int) < n
 · rw [decide_eq_true hbig] at HV
   go_enter Try.func4, Try.ntmps4
   go_wp2_with (go_at_call 5; refine (HV.out _).mono ?_; rintro e w' ⟨rfl, hb⟩)
   go_ret
   exact ⟨rfl, (by repeat (first | exact ext_refl _ | assumption | refine ext_alloc ?_ _ | refine ext_drew ?_ | refine ext_drewN ?_ _ | refine ext_set ?_ (by simp <;> omega) _ | refine ext_trans ?_ (by assumption)))⟩
 · rw [decide_eq_false hbig] at HV
   have hn : n ≤ 65536 := by omega
   have H := Lib.hid h
   clear h hbig hn63
   go_enter Try.func4, Try.ntmps4
   go_wp2_with fail
   refine (HV.out _).mono ?_
   rintro e w1 ⟨rfl, hb⟩
   have s1 : w.heap.size ≤ w1.heap.size := (by have := hb.size; (try simp at this); omega)
   have b1 := Lib.hid (ext_trans (ext_refl w) hb)
   have t1 : w.heap.size ≤ w1.heap.size := b1.out.size
   clear hb
   go_wp2_with fail
   refine (drawInverseScript_any A n c _ ((H.out.below b1.out).more b1.out.size) hn).mono ?_
   rintro e w2 ⟨s, rfl, hs, hb⟩
   have s2 : w1.heap.size ≤ w2.heap.size := (by have := hb.size; (try simp at this); omega)
   have b2 := Lib.hid (ext_trans b1.out hb)
   have t2 : w.heap.size ≤ w2.heap.size := b2.out.size
   clear hb
   have HB := Lib.hid (fun (w : World) => implInverse_any s w (by omega))
   have HA := Lib.hid (fun (w : World) => specInverse_any s w (by omega))
   have hlaw := fswLaw s
   unfold RetIn at HA HB
   obtain ⟨O, hO⟩ : ∃ x, invO s = x := ⟨_, rfl⟩
   rw [hO] at HA HB hlaw
   obtain ⟨t, ht⟩ : ∃ x, O.getD ⟨#[]⟩ = x := ⟨_, rfl⟩
   obtain ⟨ok, hok⟩ : ∃ x, O.isSome = x := ⟨_, rfl⟩
   rw [ht, hok] at HA HB hlaw
   have HLAW := Lib.hid hlaw
   have k1 : (ok != ok) = false := by cases ok <;> rfl
   have k2 := tx_nyes (rfl : t = t)
   clear hO ht hok hlaw
   go_wp2_with fail
   refine (HB.out _).mono ?_
   rintro e w3 ⟨rfl, hb⟩
   have s3 : w2.heap.size ≤ w3.heap.size := (by have := hb.size; (try simp at this); omega)
   have b3 := Lib.hid (ext_trans b2.out hb)
   have t3 : w.heap.size ≤ w3.heap.size := b3.out.size
   clear hb
   go_wp2_with fail
   refine (HA.out _).mono ?_
   rintro e w4 ⟨rfl, hb⟩
   have s4 : w3.heap.size ≤ w4.heap.size := (by have := hb.size; (try simp at this); omega)
   have b4 := Lib.hid (ext_trans b3.out hb)
   have t4 : w.heap.size ≤ w4.heap.size := b4.out.size
   clear hb
   go_upto_if 54 with fail
   go_cut [54] (fun s54 wx => Below w.heap.size w wx)
   case first => as_aux_lemma =>
    rcases ok with _ | _
    · go_wp2_with fail
      go_meet
      exact b4.out
    obtain ⟨hinv, hwn, hs1, hs2, htz⟩ := HLAW.out rfl
    have HI2 := Lib.hid (fun (w : World) => implInverse_any t w (by omega))
    have HW1 := Lib.hid (fun (w : World) => implWordsOf_any s w (by omega))
    have HW2 := Lib.hid (fun (w : World) => implWordsOf_any t w (by omega))
    unfold RetIn at HI2
    unfold RetWn at HW1 HW2
    rw [hinv] at HI2
    rw [hs1] at HW1
    rw [hwn, hs2] at HW2
    obtain ⟨v, hv⟩ : ∃ x, wnV s = x := ⟨_, rfl⟩
    rw [hv] at HW1 HW2
    have HI2 := Lib.hid (show ∀ w : World, Calls Try.prog 24 #[.string t] w fun e w' => e = .returned (.tuple #[.string s, .bool true]) ∧ Below w.heap.size w w' from HI2.out)
    have k3 := tx_nyes (rfl : s = s)
    have k4 : (v != v) = false := by simp
    clear hinv hwn hs1 hs2 htz hv
    go_wp2_with fail
    refine (HI2.out _).mono ?_
    rintro e w5 ⟨rfl, hb⟩
    have s5 : w4.heap.size ≤ w5.heap.size := (by have := hb.size; (try simp at this); omega)
    have b5 := Lib.hid (ext_trans b4.out hb)
    have t5 : w.heap.size ≤ w5.heap.size := b5.out.size
    clear hb
    go_wp2_with fail
    refine (HW1.out _).mono ?_
    rintro e w6 ⟨rfl, hb⟩
    have s6 : w5.heap.size ≤ w6.heap.size := (by have := hb.size; (try simp at this); omega)
    have b6 := Lib.hid (ext_trans b5.out hb)
    have t6 : w.heap.size ≤ w6.heap.size := b6.out.size
    clear hb
    go_wp2_with fail
    refine (HW2.out _).mono ?_
    rintro e w7 ⟨rfl, hb⟩
    have s7 : w6.heap.size ≤ w7.heap.size := (by have := hb.size; (try simp at this); omega)
    have b7 := Lib.hid (ext_trans b6.out hb)
    have t7 : w.heap.size ≤ w7.heap.size := b7.out.size
    clear hb
    go_wp2_with fail
    go_meet
    exact b7.out
   case rest => as_aux_lemma =>
    obtain ⟨w8, hw8⟩ : ∃ x : World, x = wc := ⟨_, rfl⟩
    subst hw8
    have b8 := Lib.hid hcut
    have t8 : w.heap.size ≤ w8.heap.size := hcut.size
    clear hcut
    clear HLAW HA HB k1 k2 hs
    go_wp2_with fail
    refine (drawEndRod_any A n c _ ((H.out.below b8.out).more b8.out.size) hn).mono ?_
    rintro e w9 ⟨x, z, rfl, hx, z0, z9, hb⟩
    have s9 : w8.heap.size ≤ w9.heap.size := (by have := hb.size; (try simp at this); omega)
    have b9 := Lib.hid (ext_trans b8.out hb)
    have t9 : w.heap.size ≤ w9.heap.size := b9.out.size
    clear hb
    have HB := Lib.hid (fun (w : World) => implEndRod_any x z w (by omega) ⟨z0, z9⟩)
    have HA := Lib.hid (fun (w : World) => specEndRod_any x z w (by omega) ⟨z0, z9⟩)
    have hlaw := fswRod x z
    unfold RetEr at HA HB
    obtain ⟨O, hO⟩ : ∃ o9, erV x z = o9 := ⟨_, rfl⟩
    rw [hO] at HA HB hlaw
    obtain ⟨q, hq⟩ : ∃ x, O.getD 0 = x := ⟨_, rfl⟩
    obtain ⟨ok, hok⟩ : ∃ x, O.isSome = x := ⟨_, rfl⟩
    rw [hq, hok] at HA HB hlaw
    have HLAW := Lib.hid hlaw
    have k1 : (ok != ok) = false := by cases ok <;> rfl
    have k2 : (q != q) = false := by simp
    clear hO hq hok hlaw
    go_wp2_with fail
    refine (HB.out _).mono ?_
    rintro e w10 ⟨rfl, hb⟩
    have s10 : w9.heap.size ≤ w10.heap.size := (by have := hb.size; (try simp at this); omega)
    have b10 := Lib.hid (ext_trans b9.out hb)
    have t10 : w.heap.size ≤ w10.heap.size := b10.out.size
    clear hb
    go_wp2_with fail
    refine (HA.out _).mono ?_
    rintro e w11 ⟨rfl, hb⟩
    have s11 : w10.heap.size ≤ w11.heap.size := (by have := hb.size; (try simp at this); omega)
    have b11 := Lib.hid (ext_trans b10.out hb)
    have t11 : w.heap.size ≤ w11.heap.size := b11.out.size
    clear hb
    go_upto_region 17 with fail
    go_cut [126] (fun s126 wx => s126 = .bool false ∧ w11 = wx)
    case first => as_aux_lemma =>
     rcases ok with _ | _
     · go_wp2_with fail
       go_meet
       exact ⟨rfl, rfl⟩
     · obtain ⟨q0, q1⟩ := HLAW.out rfl
       have e1 : ¬ q < 0 := by omega
       have e2 : ¬ z ≤ q := by omega
       have d1 : decide (q < 0) = false := decide_eq_false e1
       have d2 : decide (z ≤ q) = false := decide_eq_false e2
       go_wp2_with fail
       go_meet
       exact ⟨rfl, rfl⟩
    case rest =>
     obtain ⟨rfl, rfl⟩ := hcut
     clear HLAW HA HB k1 k2 hx z0 z9
     go_wp2_with fail
     refine (drawWordsOf_any A n c _ ((H.out.below b11.out).more b11.out.size) hn).mono ?_
     rintro e w12 ⟨y, rfl, hy, hb⟩
     have s12 : w11.heap.size ≤ w12.heap.size := (by have := hb.size; (try simp at this); omega)
     have b12 := Lib.hid (ext_trans b11.out hb)
     have t12 : w.heap.size ≤ w12.heap.size := b12.out.size
     clear hb
     have HB := Lib.hid (fun (w : World) => implWordsOf_any y w (by omega))
     have HA := Lib.hid (fun (w : World) => specWordsOf_any y w (by omega))
     have HI := Lib.hid (fun (w : World) => implIsScript_any y w (by omega))
     unfold RetWn at HA HB
     unfold RetV at HI
     obtain ⟨v, hv⟩ : ∃ o9, wnV y = o9 := ⟨_, rfl⟩
     obtain ⟨b, hb⟩ : ∃ o9, scrB y = o9 := ⟨_, rfl⟩
     rw [hv, hb] at HA HB
     rw [hb] at HI
     have k1 : (b != b) = false := by cases b <;> rfl
     have k2 : (v != v) = false := by simp
     clear hv hb
     go_wp2_with fail
     refine (HB.out _).mono ?_
     rintro e w13 ⟨rfl, hb⟩
     have s13 : w12.heap.size ≤ w13.heap.size := (by have := hb.size; (try simp at this); omega)
     have b13 := Lib.hid (ext_trans b12.out hb)
     have t13 : w.heap.size ≤ w13.heap.size := b13.out.size
     clear hb
     go_wp2_with fail
     refine (HA.out _).mono ?_
     rintro e w14 ⟨rfl, hb⟩
     have s14 : w13.heap.size ≤ w14.heap.size := (by have := hb.size; (try simp at this); omega)
     have b14 := Lib.hid (ext_trans b13.out hb)
     have t14 : w.heap.size ≤ w14.heap.size := b14.out.size
     clear hb
     go_wp2_with fail
     refine (HI.out _).mono ?_
     rintro e w15 ⟨rfl, hb⟩
     have s15 : w14.heap.size ≤ w15.heap.size := (by have := hb.size; (try simp at this); omega)
     have b15 := Lib.hid (ext_trans b14.out hb)
     have t15 : w.heap.size ≤ w15.heap.size := b15.out.size
     clear hb
     go_wp2_with fail
     refine (drawFirstFailure_any A n c _ ((H.out.below b15.out).more b15.out.size) hn).mono ?_
     rintro e w16 ⟨sf, u, lo, l, As, cs, rfl, hsf, hIN, ho_s, hb⟩
     have s16 : w15.heap.size ≤ w16.heap.size := (by have := hb.size; (try simp at this); omega)
     have b16 := Lib.hid (ext_trans b15.out hb)
     have t16 : w.heap.size ≤ w16.heap.size := b16.out.size
     clear hb
     have oc_s := Lib.hid (own_base (base' := w15.heap.size + 0) ho_s (by simp))
     clear ho_s
     clear HB HA HI k1 k2 hy
     have hl9 : l.length ≤ 9 := hIN.2.2.2.2.2.1
     clear hIN
     have HFB := Lib.hid (fun (w : World) h => implFirstFailure_any u lo As l.length cs l sf w (by omega) (by omega) h)
     have HFA := Lib.hid (fun (w : World) h => specFirstFailure_any u lo As l.length cs l sf w (by omega) (by omega) h)
     obtain ⟨ff, hff⟩ : ∃ x, ffV u lo l sf = x := ⟨_, rfl⟩
     obtain ⟨rb, hrb⟩ : ∃ x, runB u lo l sf = x := ⟨_, rfl⟩
     rw [hff, hrb] at HFA HFB
     unfold RetV at HFA HFB
     have k4 : (rb != rb) = false := by cases rb <;> rfl
     have k5 : (ff != ff) = false := by simp
     clear hff hrb
     go_wp2_with fail
     refine (HFB.out _ (Reads.of_own (oc_s.out.alloc _))).mono ?_
     rintro e w17 ⟨rfl, hb⟩
     have s17 : w16.heap.size + 1 ≤ w17.heap.size := (by have := hb.size; (try simp at this); omega)
     have z17_0 : w16.heap.size < w17.heap.size := (by omega)
     have q17_0 : w17.cell? ⟨w16.heap.size, 0, none⟩ = some (.int .i64 u) := ext_cell hb (by simp [go_sem])
     have q17_1 : w17.cell? ⟨w16.heap.size, 1, none⟩ = some (.int .i64 lo) := ext_cell hb (by simp [go_sem])
     have q17_2 : w17.cell? ⟨w16.heap.size, 2, none⟩ = some (.slice As l.length cs) := ext_cell hb (by simp [go_sem])
     have b17 := Lib.hid (ext_trans (ext_alloc b16.out _) hb)
     have t17 : w.heap.size ≤ w17.heap.size := b17.out.size
     have o17_s := Lib.hid (own_ext (oc_s.out.alloc _) hb)
     clear hb
     go_wp2_with fail
     refine (HFA.out _ (Reads.of_own o17_s.out)).mono ?_
     rintro e w18 ⟨rfl, hb⟩
     have s18 : w17.heap.size ≤ w18.heap.size := (by have := hb.size; (try simp at this); omega)
     have z18_0 : w16.heap.size < w18.heap.size := (by omega)
     have q18_0 : w18.cell? ⟨w16.heap.size, 0, none⟩ = some (.int .i64 u) := ext_cell hb q17_0
     have q18_1 : w18.cell? ⟨w16.heap.size, 1, none⟩ = some (.int .i64 lo) := ext_cell hb q17_1
     have q18_2 : w18.cell? ⟨w16.heap.size, 2, none⟩ = some (.slice As l.length cs) := ext_cell hb q17_2
     have b18 := Lib.hid (ext_trans b17.out hb)
     have t18 : w.heap.size ≤ w18.heap.size := b18.out.size
     have o18_s := Lib.hid (own_ext o17_s.out hb)
     clear q17_0 q17_1 q17_2
     clear hb
     go_wp2_with fail
     refine (drawIsScript_any A n c _ ((H.out.below b18.out).more b18.out.size) hn).mono ?_
     rintro e w19 ⟨y, rfl, hy, hb⟩
     have s19 : w18.heap.size ≤ w19.heap.size := (by have := hb.size; (try simp at this); omega)
     have b19 := Lib.hid (ext_trans b18.out hb)
     have t19 : w.heap.size ≤ w19.heap.size := b19.out.size
     clear hb
     clear HFB HFA k4 k5
     have HB := Lib.hid (fun (w : World) => implIsScript_any y w (by omega))
     have HA := Lib.hid (fun (w : World) => specIsScript_any y w (by omega))
     unfold RetV at HA HB
     obtain ⟨b, hb⟩ : ∃ o9, scrB y = o9 := ⟨_, rfl⟩
     rw [hb] at HA HB
     have k1 : (b == b) = true := by cases b <;> rfl
     clear hb
     go_wp2_with fail
     refine (HB.out _).mono ?_
     rintro e w20 ⟨rfl, hb⟩
     have s20 : w19.heap.size ≤ w20.heap.size := (by have := hb.size; (try simp at this); omega)
     have b20 := Lib.hid (ext_trans b19.out hb)
     have t20 : w.heap.size ≤ w20.heap.size := b20.out.size
     clear hb
     go_wp2_with fail
     refine (HA.out _).mono ?_
     rintro e w21 ⟨rfl, hb⟩
     have s21 : w20.heap.size ≤ w21.heap.size := (by have := hb.size; (try simp at this); omega)
     have b21 := Lib.hid (ext_trans b20.out hb)
     have t21 : w.heap.size ≤ w21.heap.size := b21.out.size
     clear hb
     go_wp2
     go_ret
     exact ⟨rfl, b21.out⟩
end Go.Proofs.Ytihljhikhplegaa
