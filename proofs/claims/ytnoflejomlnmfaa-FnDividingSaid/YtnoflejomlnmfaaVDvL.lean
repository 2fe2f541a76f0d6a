/- The law FnDividing, walked. -/
import Derived.Deep.CutBlock
import Derived.Test.YtnoflejomlnmfaaVDvD
import Derived.Test.YtnoflejomlnmfaaVDvE
import Derived.Test.YtnoflejomlnmfaaVDvF
import Derived.Test.YtnoflejomlnmfaaVVTr
import Derived.Test.YtnoflejomlnmfaaVVFr
import Derived.Test.YtnoflejomlnmfaaVM1
namespace Go.Proofs.Ytnoflejomlnmfaa
open Go.RowKit
set_option linter.unusedVariables false
set_option linter.unusedSimpArgs false
def dvS (a b : Int) : List R3 := if dvB a b = true then stT b (dgA a) (dgA a).length else []
def dvT (a b : Int) : List Int := if dvB a b = true then trT b (mrB b) (dgA a) (dgA a).length else []
theorem implDivS_any (a b : Int) (w : World) : Calls Try.prog 22 #[.int .i64 a, .int .i64 b] w (RetSliceB w 57 3 (dvS a b).length (rowsV3 (dvS a b)) (dvB a b)) := by
 have h := implDivSteps_any a b w
 unfold dvS
 cases hd : dvB a b
 · rw [hd] at h
   exact h
 · rw [hd] at h
   rw [if_pos rfl, stT_len]
   exact h
theorem specDivS_any (a b : Int) (w : World) : Calls Try.prog 23 #[.int .i64 a, .int .i64 b] w (RetSliceB w 57 3 (dvS a b).length (rowsV3 (dvS a b)) (dvB a b)) := by
 have h := specDivSteps_any a b w
 unfold dvS
 cases hd : dvB a b
 · rw [hd] at h
   exact h
 · rw [hd] at h
   rw [if_pos rfl, stT_len]
   exact h
theorem implDivT_any (a b : Int) (w : World) : Calls Try.prog 27 #[.int .i64 a, .int .i64 b] w (RetSliceB w 3 1 (dvT a b).length (intsV (dvT a b)) (dvB a b)) := by
 have h := implTrialDigits_any a b w
 unfold dvT
 cases hd : dvB a b
 · rw [hd] at h
   exact h
 · rw [hd] at h
   rw [if_pos rfl, trT_len]
   exact h
theorem specDivT_any (a b : Int) (w : World) : Calls Try.prog 28 #[.int .i64 a, .int .i64 b] w (RetSliceB w 3 1 (dvT a b).length (intsV (dvT a b)) (dvB a b)) := by
 have h := specTrialDigits_any a b w
 unfold dvT
 cases hd : dvB a b
 · rw [hd] at h
   exact h
 · rw [hd] at h
   rw [if_pos rfl, trT_len]
   exact h
theorem dvS_len (a b : Int) : (dvS a b).length ≤ 9 ∧ (dvS a b).length = (dvT a b).length := by
 unfold dvS dvT
 cases h : dvB a b
 · exact ⟨Nat.zero_le _, rfl⟩
 · rw [if_pos rfl, if_pos rfl, stT_len, trT_len]
   exact ⟨digT_len 9 a, rfl⟩
theorem nqT_bounds {b : Int} (hb : 1 ≤ b) {ds : List Int} (hw : WF ds) : ∀ k : Nat, 0 ≤ nqT b ds k ∧ (k ≤ 10 → nqT b ds k ≤ 11111111111) := by
 have h : ∀ k : Nat, 0 ≤ nqT b ds k ∧ nqT b ds k ≤ pw k - 1 := by
  intro k
  induction k with
  | zero => exact ⟨Int.le_refl _, by rw [pw_zero]; exact Int.le_refl _⟩
  | succ k ih =>
    have := qT_bounds hb hw k
    rw [nqT, pw_succ]
    omega
 intro k
 refine ⟨(h k).1, fun hk => ?_⟩
 have h1 := (h k).2
 have h2 := pw_le hk
 rw [show pw 10 = 10000000000 by decide] at h2
 omega
/-- what the law asks of a division -/
theorem fdvLaw (a b : Int) : dvB a b = true → ∃ (ds : List Int) (P : Int), 1 ≤ b ∧ b ≤ 9999 ∧ (0 ≤ a ∧ a ≤ 99999999) ∧
 (∀ k, k < (dvS a b).length → (dvS a b)[k]? = some ⟨s0T b ds k, s0T b ds k / b, s0T b ds k % b⟩) ∧ (∀ k, k < (dvS a b).length → (dvT a b)[k]? = some (tq b P (s0T b ds k))) ∧
 WF ds ∧ 1 ≤ P ∧ P ≤ b ∧ ds.length = (dvS a b).length ∧ nqT b ds (dvS a b).length = (if dvB a b = true then a / b else 0) ∧ rsT b ds (dvS a b).length = (if dvB a b = true then a % b else 0) ∧ coT b P ds (dvS a b).length = coV a b ∧
 (ckV a b (if dvB a b = true then a / b else 0) (if dvB a b = true then a % b else 0) = true ∧ ckB a b (if dvB a b = true then a / b else 0) (if dvB a b = true then a % b else 0) = true) ∧
 ((if dvB a b = true then a / b else 0) * b + (if dvB a b = true then a % b else 0) = a ∧ 0 ≤ (if dvB a b = true then a / b else 0) * b ∧ (if dvB a b = true then a / b else 0) * b ≤ 100000000) := by
 intro h
 rw [if_pos h, if_pos h]
 obtain ⟨hq, hr⟩ := div_law h
 have h0 := h
 unfold dvB at h0
 simp only [Bool.and_eq_true] at h0
 have ha := inB_iff.1 h0.1
 have hb := inB_iff.1 h0.2
 obtain ⟨hwf, hnum, hlen⟩ := dgA_facts ha.1 ha.2
 obtain ⟨hP1, hPb, _, _⟩ := mrB_bounds hb.1 hb.2
 have e1 : dvS a b = stT b (dgA a) (dgA a).length := by unfold dvS; rw [if_pos h]
 have e2 : dvT a b = trT b (mrB b) (dgA a) (dgA a).length := by unfold dvT; rw [if_pos h]
 have hm1 := Int.ediv_mul_add_emod a b
 have hm2 : 0 ≤ a / b := Int.ediv_nonneg ha.1 (by omega)
 have hm3 : 0 ≤ a / b * b := Int.mul_nonneg hm2 (by omega)
 have hm4 : 0 ≤ a % b := Int.emod_nonneg _ (by omega)
 have hm5 : a % b < b := Int.emod_lt_of_pos _ (by omega)
 have hm6 : a / b ≤ a := Int.ediv_le_self _ ha.1
 have hck : ckB a b (a / b) (a % b) = true := by
  unfold ckB
  rw [h, inB_iff.2 (show 0 ≤ a / b ∧ a / b ≤ 99999999 by omega), inB_iff.2 (show 0 ≤ a % b ∧ a % b ≤ 9999 by omega)]
  rfl
 refine ⟨dgA a, mrB b, hb.1, hb.2, ha, ?_, ?_, hwf, hP1, hPb, ?_, ?_, ?_, ?_, ⟨?_, hck⟩, hm1, hm3, by omega⟩
 · rw [e1, stT_len]
   exact fun k hk => stT_get b (dgA a) _ k hk
 · rw [e1, e2, stT_len]
   exact fun k hk => trT_get b (mrB b) (dgA a) _ k hk
 · rw [e1, stT_len]
 · rw [e1, stT_len]; exact hq
 · rw [e1, stT_len]; exact hr
 · rw [e1, stT_len]; unfold coV; rw [if_pos h]
 · unfold ckV
   rw [hck]
   simp
theorem qoF_len (u lo : Int) (l : List R2) (d : Int) : (qoF u lo l d).2.2.length ≤ 8 := by
 unfold qoF
 split
 · rename_i h
   unfold qoB at h
   simp only [Bool.and_eq_true] at h
   show (rodsD _).length ≤ 8
   rw [rodsD_len, digs_len]
   exact (frB_head (good_fr h.1)).2.2.2
 · exact Nat.zero_le _
set_option maxRecDepth 100000 in
set_option maxHeartbeats 8000000 in
theorem law_FnDividing (A : Option Addr) (n c : Nat) (w : World) (h : Code w w.heap.size A n) (hn63 : n ≤ maxLen) :
 Calls Try.prog 4 #[.slice A n c] w fun e w' => e = .returned (.bool true) ∧ Below w.heap.size w w' := by
 have HV := Lib.hid (fun w => vBig_any A n c w)
 by_cases hbig : (65536 : Int) < n
 · rw [decide_eq_true hbig] at HV
   go_enter Try.func4, Try.ntmps4
   go_wp2_with (go_at_call 5; refine (HV.out _).mono ?_; rintro e w' ⟨rfl, hb⟩)
   go_ret
   exact ⟨rfl, (by repeat (first | exact ext_refl _ | assumption | refine ext_alloc ?_ _ | refine ext_drew ?_ | refine ext_drewN ?_ _ | refine ext_set ?_ (by simp <;> omega) _ | refine ext_trans ?_ (by assumption)))⟩
 · rw [decide_eq_false hbig] at HV
   have hn : n ≤ 65536 := by omega
   have H := Lib.hid h
   clear h hbig hn63
   go_enter Try.func4, Try.ntmps4
   go_wp2_with fail
   refine (HV.out _).mono ?_
   rintro e w1 ⟨rfl, hb⟩
   have s1 : w.heap.size ≤ w1.heap.size := (by have := hb.size; (try simp at this); omega)
   have b1 := Lib.hid (ext_trans (ext_refl w) hb)
   have t1 : w.heap.size ≤ w1.heap.size := b1.out.size
   clear hb
   go_wp2_with fail
   refine (drawDivisionSteps_any A n c _ ((H.out.below b1.out).more b1.out.size) hn).mono ?_
   rintro e w2 ⟨a, b, rfl, xa0, xa1, xb0, xb1, hb⟩
   have s2 : w1.heap.size ≤ w2.heap.size := (by have := hb.size; (try simp at this); omega)
   have b2 := Lib.hid (ext_trans b1.out hb)
   have t2 : w.heap.size ≤ w2.heap.size := b2.out.size
   clear hb
   have HB := Lib.hid (fun (w : World) => implDivS_any a b w)
   have HA := Lib.hid (fun (w : World) => specDivS_any a b w)
   have HQB := Lib.hid (fun (w : World) => implQuotOf_any a b w)
   have HQA := Lib.hid (fun (w : World) => specQuotOf_any a b w)
   have HTB := Lib.hid (fun (w : World) => implDivT_any a b w)
   have HTA := Lib.hid (fun (w : World) => specDivT_any a b w)
   have HCB := Lib.hid (fun (w : World) => implCorrections_any a b w)
   have hlaw := fdvLaw a b
   have hln := dvS_len a b
   obtain ⟨ok, hok⟩ : ∃ o9, dvB a b = o9 := ⟨_, rfl⟩
   rw [hok] at HA HB HQA HQB HTA HTB HCB hlaw
   obtain ⟨S, hS⟩ : ∃ o9, dvS a b = o9 := ⟨_, rfl⟩
   rw [hS] at HA HB hlaw hln
   obtain ⟨T, hT⟩ : ∃ o9, dvT a b = o9 := ⟨_, rfl⟩
   rw [hT] at HTA HTB hlaw hln
   obtain ⟨m, hm⟩ : ∃ o9, S.length = o9 := ⟨_, rfl⟩
   rw [hm] at HA HB hlaw hln
   obtain ⟨m2, hm2⟩ : ∃ o9, T.length = o9 := ⟨_, rfl⟩
   rw [hm2] at HTA HTB hln
   obtain ⟨hln1, rfl⟩ := hln
   obtain ⟨Q, hQ⟩ : ∃ o9, (if ok = true then a / b else 0) = o9 := ⟨_, rfl⟩
   obtain ⟨R, hR⟩ : ∃ o9, (if ok = true then a % b else 0) = o9 := ⟨_, rfl⟩
   rw [hQ, hR] at HQA HQB hlaw
   obtain ⟨C, hC⟩ : ∃ o9, coV a b = o9 := ⟨_, rfl⟩
   rw [hC] at HCB hlaw
   have HCK := Lib.hid (fun (w : World) => implCheckDiv_any a b Q R w)
   unfold RetSliceB at HA HB HTA HTB
   unfold RetV at HQA HQB HCB HCK
   have HLAW := Lib.hid hlaw
   have k1 : (ok != ok) = false := by cases ok <;> rfl
   have k2 : (Q != Q) = false := by simp
   have k3 : (R != R) = false := by simp
   clear hok hS hT hm hm2 hQ hR hC hlaw
   go_wp2_with fail
   refine (HB.out _).mono ?_
   rintro e w3 ⟨Ab, cb, rfl, ho_b, hb⟩
   have s3 : w2.heap.size ≤ w3.heap.size := (by have := hb.size; (try simp at this); omega)
   have b3 := Lib.hid (ext_trans b2.out hb)
   have t3 : w.heap.size ≤ w3.heap.size := b3.out.size
   have oc_b := Lib.hid (own_base (base' := w2.heap.size + 0) ho_b (by simp))
   clear ho_b
   clear hb
   go_wp2_with fail
   refine (HA.out _).mono ?_
   rintro e w4 ⟨Aa, ca, rfl, ho_a, hb⟩
   have s4 : w3.heap.size ≤ w4.heap.size := (by have := hb.size; (try simp at this); omega)
   have b4 := Lib.hid (ext_trans b3.out hb)
   have t4 : w.heap.size ≤ w4.heap.size := b4.out.size
   have o4_b := Lib.hid (own_ext oc_b.out hb)
   have oc_a := Lib.hid (own_base (base' := w3.heap.size + 0) ho_a (by simp))
   clear ho_a
   clear hb
   go_wp2_with fail
   refine (vTriples_same Ab Aa m cb ca S _ (by omega) (Reads.of_own o4_b.out) (Reads.of_own oc_a.out)).mono ?_
   rintro e w5 ⟨rfl, hb⟩
   have s5 : w4.heap.size ≤ w5.heap.size := (by have := hb.size; (try simp at this); omega)
   have b5 := Lib.hid (ext_trans b4.out hb)
   have t5 : w.heap.size ≤ w5.heap.size := b5.out.size
   have o5_b := Lib.hid (own_ext o4_b.out hb)
   have o5_a := Lib.hid (own_ext oc_a.out hb)
   clear hb
   go_wp2_with fail
   refine (HQB.out _).mono ?_
   rintro e w6 ⟨rfl, hb⟩
   have s6 : w5.heap.size ≤ w6.heap.size := (by have := hb.size; (try simp at this); omega)
   have b6 := Lib.hid (ext_trans b5.out hb)
   have t6 : w.heap.size ≤ w6.heap.size := b6.out.size
   have o6_b := Lib.hid (own_ext o5_b.out hb)
   have o6_a := Lib.hid (own_ext o5_a.out hb)
   clear hb
   go_wp2_with fail
   refine (HQA.out _).mono ?_
   rintro e w7 ⟨rfl, hb⟩
   have s7 : w6.heap.size ≤ w7.heap.size := (by have := hb.size; (try simp at this); omega)
   have b7 := Lib.hid (ext_trans b6.out hb)
   have t7 : w.heap.size ≤ w7.heap.size := b7.out.size
   have o7_b := Lib.hid (own_ext o6_b.out hb)
   have o7_a := Lib.hid (own_ext o6_a.out hb)
   clear hb
   go_wp2_with fail
   refine (HTB.out _).mono ?_
   rintro e w8 ⟨At, ct, rfl, ho_t, hb⟩
   have s8 : w7.heap.size ≤ w8.heap.size := (by have := hb.size; (try simp at this); omega)
   have b8 := Lib.hid (ext_trans b7.out hb)
   have t8 : w.heap.size ≤ w8.heap.size := b8.out.size
   have o8_b := Lib.hid (own_ext o7_b.out hb)
   have o8_a := Lib.hid (own_ext o7_a.out hb)
   have oc_t := Lib.hid (own_base (base' := w7.heap.size + 0) ho_t (by simp))
   clear ho_t
   clear hb
   go_wp2_with fail
   refine (HTA.out _).mono ?_
   rintro e w9 ⟨Ak, ck, rfl, ho_k, hb⟩
   have s9 : w8.heap.size ≤ w9.heap.size := (by have := hb.size; (try simp at this); omega)
   have b9 := Lib.hid (ext_trans b8.out hb)
   have t9 : w.heap.size ≤ w9.heap.size := b9.out.size
   have o9_b := Lib.hid (own_ext o8_b.out hb)
   have o9_a := Lib.hid (own_ext o8_a.out hb)
   have o9_t := Lib.hid (own_ext oc_t.out hb)
   have oc_k := Lib.hid (own_base (base' := w8.heap.size + 0) ho_k (by simp))
   clear ho_k
   clear hb
   go_wp2_with fail
   refine (vInts_same At Ak m ct ck T _ (by omega) (Reads.of_own o9_t.out) (Reads.of_own oc_k.out)).mono ?_
   rintro e w10 ⟨rfl, hb⟩
   have s10 : w9.heap.size ≤ w10.heap.size := (by have := hb.size; (try simp at this); omega)
   have b10 := Lib.hid (ext_trans b9.out hb)
   have t10 : w.heap.size ≤ w10.heap.size := b10.out.size
   have o10_b := Lib.hid (own_ext o9_b.out hb)
   have o10_a := Lib.hid (own_ext o9_a.out hb)
   have o10_t := Lib.hid (own_ext o9_t.out hb)
   have o10_k := Lib.hid (own_ext oc_k.out hb)
   clear hb
   go_upto_if 135 with fail
   go_cut [135] (fun s135 wx => Below w.heap.size w wx)
   case first => as_aux_lemma =>
    rcases ok with _ | _
    · go_wp2_with fail
      go_meet
      exact b10.out
    obtain ⟨ds, P, hb1, hb2, ha1, hSd, hTd, hwf, hP1, hPb, hdl, hnq, hrs, hco, hck, hmul⟩ := HLAW.out rfl
    rw [hck.1, hck.2] at HCK
    have HBW := Lib.hid (ext_refl w10)
    have hb0 : 1 ≤ b ∧ b ≤ 9999 := ⟨hb1, hb2⟩
    have HSd := Lib.hid hSd
    have HTd := Lib.hid hTd
    have HWF := Lib.hid hwf
    have HPB := Lib.hid (And.intro hP1 hPb)
    have HNQ := Lib.hid hnq
    have HRS := Lib.hid hrs
    have HCO := Lib.hid hco
    have HDL := Lib.hid hdl
    have hM : 0 ≤ Q * b ∧ Q * b ≤ 100000000 := ⟨hmul.2.1, hmul.2.2⟩
    have k4 : (Q * b + R != a) = false := by rw [hmul.1]; simp
    have k5 : (C != C) = false := by simp
    have HMU := Lib.hid hmul
    clear hSd hTd hwf hP1 hPb hnq hrs hco hdl hck hmul HLAW
    go_wp2_with fail
    go_loopw [19, 20, 21, 22] (fun nv la sm i wr => ∃ k : Nat, k ≤ m ∧ i = .int .i64 k ∧ nv = .int .i64 (nqT b ds k) ∧ la = .int .i64 (rsT b ds k) ∧ sm = .int .i64 (coT b P ds k) ∧ Hid (Below w10.heap.size w10 wr)) (fun _ _ _ i _ => m - (intOf i).toNat)
    case atStart => exact ⟨0, Nat.zero_le _, rfl, rfl, rfl, rfl, Lib.hid (ext_refl _)⟩
    case round =>
     obtain ⟨k, hk, rfl, rfl, rfl, rfl, HX⟩ := hrel
     obtain ⟨V, hV⟩ : ∃ V : World, V = wr := ⟨_, rfl⟩
     subst hV
     have hck := coT_bounds (P := P) hb1 HPB.out.1 HWF.out k
     have hnk := nqT_bounds hb1 HWF.out k
     by_cases hlt : k < m
     · obtain ⟨bd, od, rfl, hbd, c0, c1, c2⟩ := rows_at3 (Reads.of_own (own_ext o10_b.out HX.out)) (HSd.out k hlt)
       obtain ⟨bt, ot, rfl, hbt, d0⟩ := ints_at (Reads.of_own (own_ext o10_t.out HX.out)) (HTd.out k hlt)
       have hnx : coT b P ds (k + 1) = coT b P ds k + (tq b P (s0T b ds k) - s0T b ds k / b) := rfl
       have hnx2 : nqT b ds (k + 1) = 10 * nqT b ds k + s0T b ds k / b := rfl
       have hnx3 : rsT b ds (k + 1) = s0T b ds k % b := rfl
       have hs0 := s0T_bounds hb1 HWF.out k
       have hqb := qT_bounds hb1 HWF.out k
       have htb := tq_bounds (P := P) hb1 HPB.out.1 hs0.1
       have htm := tq_most hb1 HPB.out.1 HPB.out.2 hs0.1 hqb.2
       have hrb := rsT_bounds hb1 ds (k + 1)
       rw [hnx3] at hrb
       have hnk2 := nqT_bounds hb1 HWF.out (k + 1)
       rw [hnx2] at hnk2
       obtain ⟨t, ht⟩ : ∃ o9, tq b P (s0T b ds k) = o9 := ⟨_, rfl⟩
       rw [ht] at hnx htb htm d0
       obtain ⟨X, hX⟩ : ∃ o9, s0T b ds k = o9 := ⟨_, rfl⟩
       rw [hX] at hnx hnx2 hnx3 hqb htm hrb hnk2 c0 c1 c2
       obtain ⟨q, hq⟩ : ∃ o9, X / b = o9 := ⟨_, rfl⟩
       rw [hq] at hnx hnx2 hqb htm hnk2 c1
       obtain ⟨r, hr⟩ : ∃ o9, X % b = o9 := ⟨_, rfl⟩
       rw [hr] at hnx3 hrb c2
       obtain ⟨D, hD⟩ : ∃ o9, coT b P ds k = o9 := ⟨_, rfl⟩
       rw [hD] at hck hnx ⊢
       obtain ⟨M, hMM⟩ : ∃ o9, nqT b ds k = o9 := ⟨_, rfl⟩
       rw [hMM] at hnk hnx2 hnk2 ⊢
       have HNX := Lib.hid (show coT b P ds (k + 1) = D + t - q by rw [hnx]; omega)
       have HNX2 := Lib.hid hnx2
       have HNX3 := Lib.hid hnx3
       have k1' : (k : Int) < (m : Int) := by omega
       have k0' : (0 : Int) ≤ (k : Int) := by omega
       have hm9 : k ≤ 9 := by omega
       have wt : wrap64 (D + t) = D + t := by unfold wrap64; omega
       have wt2 : wrap64 (D + t - q) = D + t - q := by unfold wrap64; omega
       have e1 : ¬ t < q := by omega
       have e2 : ¬ 9 < q := by omega
       have e3 : ¬ b ≤ r := by omega
       have e1b : decide (t < q) = false := decide_eq_false e1
       have e2b : decide (9 < q) = false := decide_eq_false e2
       have e3b : decide (b ≤ r) = false := decide_eq_false e3
       clear ht hX hq hr hD hMM hnx hnx2 hnx3
       go_wp2_with fail
       (refine wp_region_later (by kernel_rfl) (by kernel_rfl) ?_; (repeat (go_big_quiet_step (fail))); refine wpQuiet_nil ?_; intro wA hw1; obtain ⟨⟨wl, hb⟩, hw1'⟩ := hw1; simp only at hw1'; subst hw1')
       have HXA := Lib.hid (ext_trans HX.out hb)
       have c0A := ext_cell hb c0
       have c1A := ext_cell hb c1
       have c2A := ext_cell hb c2
       have d0A := ext_cell hb d0
       have lA1 := Nat.lt_of_lt_of_le hbd hb.size
       have lA2 := Nat.lt_of_lt_of_le hbt hb.size
       clear hb c0 c1 c2 d0
       go_wp2_with fail
       (refine wp_region_later (by kernel_rfl) (by kernel_rfl) ?_; (repeat (go_big_quiet_step (fail))); refine wpQuiet_nil ?_; intro wB hw1; obtain ⟨⟨wl, hb⟩, hw1'⟩ := hw1; simp only at hw1'; subst hw1')
       have HXB := Lib.hid (ext_trans HXA.out hb)
       clear hb wt wt2
       go_wp2_with fail
       go_roundw
       case rel => exact ⟨k + 1, by omega, by go_num, by rw [HNX2.out], by rw [HNX3.out], by rw [HNX.out], HXB⟩
       case measure => simp [intOf]; omega
     · obtain rfl : k = m := by omega
       rw [HNQ.out, HRS.out, HCO.out]
       have hb := HX.out
       obtain ⟨w11, hw11⟩ : ∃ x : World, x = V := ⟨_, rfl⟩
       subst hw11
       clear HX hck hnk
       have s11 : w10.heap.size ≤ w11.heap.size := (by have := hb.size; (try simp at this); omega)
       have b11 := Lib.hid (ext_trans b10.out hb)
       have t11 : w.heap.size ≤ w11.heap.size := b11.out.size
       have o11_b := Lib.hid (own_ext o10_b.out hb)
       have o11_a := Lib.hid (own_ext o10_a.out hb)
       have o11_t := Lib.hid (own_ext o10_t.out hb)
       have o11_k := Lib.hid (own_ext o10_k.out hb)
       clear hb
       have kw : wrap64 (Q * b + R) = a := by rw [HMU.out.1]; unfold wrap64; omega
       clear k4
       go_wp2_with fail
       refine (HCB.out _).mono ?_
       rintro e w12 ⟨rfl, hb⟩
       have s12 : w11.heap.size ≤ w12.heap.size := (by have := hb.size; (try simp at this); omega)
       have b12 := Lib.hid (ext_trans b11.out hb)
       have t12 : w.heap.size ≤ w12.heap.size := b12.out.size
       have o12_b := Lib.hid (own_ext o11_b.out hb)
       have o12_a := Lib.hid (own_ext o11_a.out hb)
       have o12_t := Lib.hid (own_ext o11_t.out hb)
       have o12_k := Lib.hid (own_ext o11_k.out hb)
       clear hb
       go_wp2_with fail
       refine (HCK.out _).mono ?_
       rintro e w13 ⟨rfl, hb⟩
       have s13 : w12.heap.size ≤ w13.heap.size := (by have := hb.size; (try simp at this); omega)
       have b13 := Lib.hid (ext_trans b12.out hb)
       have t13 : w.heap.size ≤ w13.heap.size := b13.out.size
       have o13_b := Lib.hid (own_ext o12_b.out hb)
       have o13_a := Lib.hid (own_ext o12_a.out hb)
       have o13_t := Lib.hid (own_ext o12_t.out hb)
       have o13_k := Lib.hid (own_ext o12_k.out hb)
       clear hb
       go_wp2_with fail
       go_meet
       exact b13.out
   case rest => as_aux_lemma =>
    obtain ⟨w14, hw14⟩ : ∃ x : World, x = wc := ⟨_, rfl⟩
    subst hw14
    have b14 := Lib.hid hcut
    have t14 : w.heap.size ≤ w14.heap.size := hcut.size
    clear hcut
    clear HLAW HA HB HQA HQB HTA HTB HCB HCK k1 k2 k3 xa0 xa1 xb0 xb1 hln1
    go_wp2_with fail
    refine (drawQuotientOn_any A n c _ ((H.out.below b14.out).more b14.out.size) hn).mono ?_
    rintro e w15 ⟨ux, lox, l, As, cs, z, rfl, hIN, ho_s, hb⟩
    have s15 : w14.heap.size ≤ w15.heap.size := (by have := hb.size; (try simp at this); omega)
    have b15 := Lib.hid (ext_trans b14.out hb)
    have t15 : w.heap.size ≤ w15.heap.size := b15.out.size
    clear hb
    have oc_s := Lib.hid (own_base (base' := w14.heap.size + 0) ho_s (by simp))
    clear ho_s
    have hl9 : l.length ≤ 9 := hIN.2.2.2.2.2.1
    clear hIN
    have HB := Lib.hid (fun (w : World) h => implQuotientOn_any ux lox As l.length cs l z w (by omega) h)
    have HA := Lib.hid (fun (w : World) h => specQuotientOn_any ux lox As l.length cs l z w (by omega) h)
    have hLn := qoF_len ux lox l z
    obtain ⟨F, hF⟩ : ∃ o9, qoF ux lox l z = o9 := ⟨_, rfl⟩
    rw [hF] at HA HB hLn
    obtain ⟨R, hR⟩ : ∃ o9, qoR ux lox l z = o9 := ⟨_, rfl⟩
    obtain ⟨ok, hok⟩ : ∃ o9, qoB ux lox l z = o9 := ⟨_, rfl⟩
    rw [hR, hok] at HA HB
    obtain ⟨U, LO, L⟩ := F
    unfold RetQo at HA HB
    dsimp only at HA HB hLn
    have k1 : (ok != ok) = false := by cases ok <;> rfl
    have k2 : (R != R) = false := by simp
    clear hF hR hok
    go_wp2_with fail
    refine (HB.out _ (Reads.of_own (oc_s.out.alloc _))).mono ?_
    rintro e w16 ⟨Ab, cb, rfl, ho_b, hb⟩
    have s16 : w15.heap.size + 1 ≤ w16.heap.size := (by have := hb.size; (try simp at this); omega)
    have z16_0 : w15.heap.size < w16.heap.size := (by omega)
    have q16_0 : w16.cell? ⟨w15.heap.size, 0, none⟩ = some (.int .i64 ux) := ext_cell hb (by simp [go_sem])
    have q16_1 : w16.cell? ⟨w15.heap.size, 1, none⟩ = some (.int .i64 lox) := ext_cell hb (by simp [go_sem])
    have q16_2 : w16.cell? ⟨w15.heap.size, 2, none⟩ = some (.slice As l.length cs) := ext_cell hb (by simp [go_sem])
    have b16 := Lib.hid (ext_trans (ext_alloc b15.out _) hb)
    have t16 : w.heap.size ≤ w16.heap.size := b16.out.size
    have o16_s := Lib.hid (own_ext (oc_s.out.alloc _) hb)
    have oc_b := Lib.hid (own_base (base' := w15.heap.size + 1) ho_b (by simp))
    clear ho_b
    clear hb
    go_wp2_with fail
    refine (HA.out _ (Reads.of_own (o16_s.out.alloc _))).mono ?_
    rintro e w17 ⟨Aa, ca, rfl, ho_a, hb⟩
    have s17 : w16.heap.size + 1 ≤ w17.heap.size := (by have := hb.size; (try simp at this); omega)
    have z17_0 : w15.heap.size < w17.heap.size := (by omega)
    have z17_1 : w16.heap.size < w17.heap.size := (by omega)
    have q17_0 : w17.cell? ⟨w15.heap.size, 0, none⟩ = some (.int .i64 ux) := ext_cell hb (cell_old q16_0 _)
    have q17_1 : w17.cell? ⟨w15.heap.size, 1, none⟩ = some (.int .i64 lox) := ext_cell hb (cell_old q16_1 _)
    have q17_2 : w17.cell? ⟨w15.heap.size, 2, none⟩ = some (.slice As l.length cs) := ext_cell hb (cell_old q16_2 _)
    have q17_3 : w17.cell? ⟨w16.heap.size, 0, none⟩ = some (.int .i64 U) := ext_cell hb (by simp [go_sem])
    have q17_4 : w17.cell? ⟨w16.heap.size, 1, none⟩ = some (.int .i64 LO) := ext_cell hb (by simp [go_sem])
    have q17_5 : w17.cell? ⟨w16.heap.size, 2, none⟩ = some (.slice Ab L.length cb) := ext_cell hb (by simp [go_sem])
    have b17 := Lib.hid (ext_trans (ext_alloc b16.out _) hb)
    have t17 : w.heap.size ≤ w17.heap.size := b17.out.size
    have o17_s := Lib.hid (own_ext (o16_s.out.alloc _) hb)
    have o17_b := Lib.hid (own_ext (oc_b.out.alloc _) hb)
    clear q16_0 q16_1 q16_2
    have oc_a := Lib.hid (own_base (base' := w16.heap.size + 1) ho_a (by simp))
    clear ho_a
    clear hb
    go_wp2_with fail
    refine (vFrame_same U LO Ab Aa L.length cb ca L _ (by omega) (Reads.of_own (o17_b.out.alloc _)) (Reads.of_own (oc_a.out.alloc _))).mono ?_
    rintro e w18 ⟨rfl, hb⟩
    have s18 : w17.heap.size + 1 ≤ w18.heap.size := (by have := hb.size; (try simp at this); omega)
    have z18_0 : w15.heap.size < w18.heap.size := (by omega)
    have z18_1 : w16.heap.size < w18.heap.size := (by omega)
    have z18_2 : w17.heap.size < w18.heap.size := (by omega)
    have q18_0 : w18.cell? ⟨w15.heap.size, 0, none⟩ = some (.int .i64 ux) := ext_cell hb (cell_old q17_0 _)
    have q18_1 : w18.cell? ⟨w15.heap.size, 1, none⟩ = some (.int .i64 lox) := ext_cell hb (cell_old q17_1 _)
    have q18_2 : w18.cell? ⟨w15.heap.size, 2, none⟩ = some (.slice As l.length cs) := ext_cell hb (cell_old q17_2 _)
    have q18_3 : w18.cell? ⟨w16.heap.size, 0, none⟩ = some (.int .i64 U) := ext_cell hb (cell_old q17_3 _)
    have q18_4 : w18.cell? ⟨w16.heap.size, 1, none⟩ = some (.int .i64 LO) := ext_cell hb (cell_old q17_4 _)
    have q18_5 : w18.cell? ⟨w16.heap.size, 2, none⟩ = some (.slice Ab L.length cb) := ext_cell hb (cell_old q17_5 _)
    have q18_6 : w18.cell? ⟨w17.heap.size, 0, none⟩ = some (.int .i64 U) := ext_cell hb (by simp [go_sem])
    have q18_7 : w18.cell? ⟨w17.heap.size, 1, none⟩ = some (.int .i64 LO) := ext_cell hb (by simp [go_sem])
    have q18_8 : w18.cell? ⟨w17.heap.size, 2, none⟩ = some (.slice Aa L.length ca) := ext_cell hb (by simp [go_sem])
    have b18 := Lib.hid (ext_trans (ext_alloc b17.out _) hb)
    have t18 : w.heap.size ≤ w18.heap.size := b18.out.size
    have o18_s := Lib.hid (own_ext (o17_s.out.alloc _) hb)
    have o18_b := Lib.hid (own_ext (o17_b.out.alloc _) hb)
    have o18_a := Lib.hid (own_ext (oc_a.out.alloc _) hb)
    clear q17_0 q17_1 q17_2 q17_3 q17_4 q17_5
    clear hb
    go_wp2_with fail
    refine (drawCheckDivision_any A n c _ ((H.out.below b18.out).more b18.out.size) hn).mono ?_
    rintro e w19 ⟨x, y, z2, q, rfl, hb⟩
    have s19 : w18.heap.size ≤ w19.heap.size := (by have := hb.size; (try simp at this); omega)
    have b19 := Lib.hid (ext_trans b18.out hb)
    have t19 : w.heap.size ≤ w19.heap.size := b19.out.size
    clear hb
    clear HA HB k1 k2 hl9 hLn
    have HB := Lib.hid (fun (w : World) => implCheckDiv_any x y z2 q w)
    have HA := Lib.hid (fun (w : World) => specCheckDiv_any x y z2 q w)
    unfold RetV at HA HB
    obtain ⟨b1, hb1⟩ : ∃ o9, ckV x y z2 q = o9 := ⟨_, rfl⟩
    obtain ⟨b2, hb2⟩ : ∃ o9, ckB x y z2 q = o9 := ⟨_, rfl⟩
    rw [hb1, hb2] at HA HB
    have k1 : (b1 != b1) = false := by cases b1 <;> rfl
    have k2 : (b2 != b2) = false := by cases b2 <;> rfl
    clear hb1 hb2
    go_wp2_with fail
    refine (HB.out _).mono ?_
    rintro e w20 ⟨rfl, hb⟩
    have s20 : w19.heap.size ≤ w20.heap.size := (by have := hb.size; (try simp at this); omega)
    have b20 := Lib.hid (ext_trans b19.out hb)
    have t20 : w.heap.size ≤ w20.heap.size := b20.out.size
    clear hb
    go_wp2_with fail
    refine (HA.out _).mono ?_
    rintro e w21 ⟨rfl, hb⟩
    have s21 : w20.heap.size ≤ w21.heap.size := (by have := hb.size; (try simp at this); omega)
    have b21 := Lib.hid (ext_trans b20.out hb)
    have t21 : w.heap.size ≤ w21.heap.size := b21.out.size
    clear hb
    go_wp2_with fail
    refine (drawCorrections_any A n c _ ((H.out.below b21.out).more b21.out.size) hn).mono ?_
    rintro e w22 ⟨a2, b3, rfl, xa0, xa1, xb0, xb1, hb⟩
    have s22 : w21.heap.size ≤ w22.heap.size := (by have := hb.size; (try simp at this); omega)
    have b22 := Lib.hid (ext_trans b21.out hb)
    have t22 : w.heap.size ≤ w22.heap.size := b22.out.size
    clear hb
    clear HA HB k1 k2
    have HB := Lib.hid (fun (w : World) => implCorrections_any a2 b3 w)
    have HA := Lib.hid (fun (w : World) => specCorrections_any a2 b3 w)
    unfold RetV at HA HB
    obtain ⟨C, hC⟩ : ∃ o9, coV a2 b3 = o9 := ⟨_, rfl⟩
    obtain ⟨ok, hok⟩ : ∃ o9, dvB a2 b3 = o9 := ⟨_, rfl⟩
    rw [hC, hok] at HA HB
    have k1 : (C == C) = true := by simp
    have k2 : (ok == ok) = true := by cases ok <;> rfl
    clear hC hok
    go_wp2_with fail
    refine (HB.out _).mono ?_
    rintro e w23 ⟨rfl, hb⟩
    have s23 : w22.heap.size ≤ w23.heap.size := (by have := hb.size; (try simp at this); omega)
    have b23 := Lib.hid (ext_trans b22.out hb)
    have t23 : w.heap.size ≤ w23.heap.size := b23.out.size
    clear hb
    go_wp2_with fail
    refine (HA.out _).mono ?_
    rintro e w24 ⟨rfl, hb⟩
    have s24 : w23.heap.size ≤ w24.heap.size := (by have := hb.size; (try simp at this); omega)
    have b24 := Lib.hid (ext_trans b23.out hb)
    have t24 : w.heap.size ≤ w24.heap.size := b24.out.size
    clear hb
    go_wp2
    go_ret
    exact ⟨rfl, b24.out⟩
end Go.Proofs.Ytnoflejomlnmfaa
