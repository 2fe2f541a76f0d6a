/- The law FnReached, walked. -/
import Derived.Deep.CutBlock
import Derived.Test.YtaghjaiaoajpiaaVRcG
import Derived.Test.YtaghjaiaoajpiaaVRcH
import Derived.Test.YtaghjaiaoajpiaaVM4
import Derived.Test.YtaghjaiaoajpiaaVVFr
import Derived.Test.YtaghjaiaoajpiaaVM1
namespace Go.Proofs.Ytaghjaiaoajpiaa
open Go.RowKit
set_option linter.unusedVariables false
set_option linter.unusedSimpArgs false
theorem fmL_len (u lo v : Int) : (fmL u lo v).length ≤ 1000 := by
 unfold fmL
 split
 · rename_i h
   unfold fmB at h
   rw [Bool.and_eq_true, inB_iff] at h
   have := formsN_len lo v (u + 1).toNat
   unfold forms
   omega
 · exact Nat.zero_le _
theorem fmL_mem (u lo v : Int) : ∀ x ∈ fmL u lo v, 5 * x.a + x.b = v ∧ 0 ≤ x.a ∧ x.a ≤ 2 ∧ 0 ≤ v ∧ v ≤ 15 := by
 intro x hx
 unfold fmL at hx
 split at hx
 · rename_i h
   unfold fmB at h
   rw [Bool.and_eq_true, Bool.and_eq_true, inB_iff, inB_iff, inB_iff] at h
   have := forms_mem hx
   omega
 · cases hx
set_option maxRecDepth 100000 in
set_option maxHeartbeats 8000000 in
theorem law_FnReached (A : Option Addr) (n c : Nat) (w : World) (h : Code w w.heap.size A n) (hn63 : n ≤ maxLen) :
 Calls Try.prog 3 #[.slice A n c] w fun e w' => e = .returned (.bool true) ∧ Below w.heap.size w w' := by
 have HV := Lib.hid (fun w => vBig_any A n c w)
 by_cases hbig : (65536 : Int) < n
 · rw [decide_eq_true hbig] at HV
   go_enter Try.func3, Try.ntmps3
   go_wp2_with (go_at_call 5; refine (HV.out _).mono ?_; rintro e w' ⟨rfl, hb⟩)
   go_ret
   exact ⟨rfl, (by repeat (first | exact ext_refl _ | assumption | refine ext_alloc ?_ _ | refine ext_drew ?_ | refine ext_drewN ?_ _ | refine ext_set ?_ (by simp <;> omega) _ | refine ext_trans ?_ (by assumption)))⟩
 · rw [decide_eq_false hbig] at HV
   have hn : n ≤ 65536 := by omega
   have H := Lib.hid h
   clear h hbig hn63
   go_enter Try.func3, Try.ntmps3
   go_wp2_with fail
   refine (HV.out _).mono ?_
   rintro e w1 ⟨rfl, hb⟩
   have s1 : w.heap.size ≤ w1.heap.size := (by have := hb.size; (try simp at this); omega)
   have b1 := Lib.hid (ext_trans (ext_refl w) hb)
   have t1 : w.heap.size ≤ w1.heap.size := b1.out.size
   clear hb
   go_wp2_with fail
   refine (drawReachedIn_any A n c _ ((H.out.below b1.out).more b1.out.size) hn).mono ?_
   rintro e w2 ⟨u, lo, l, As, cs, z, rfl, hl9, z0, z9, ho_s, hb⟩
   have s2 : w1.heap.size ≤ w2.heap.size := (by have := hb.size; (try simp at this); omega)
   have b2 := Lib.hid (ext_trans b1.out hb)
   have t2 : w.heap.size ≤ w2.heap.size := b2.out.size
   clear hb
   have oc_s := Lib.hid (own_base (base' := w1.heap.size + 0) ho_s (by simp))
   clear ho_s
   have HB := Lib.hid (fun (w : World) h => implReachedIn_any u lo As l.length cs l z w (by omega) h)
   have HA := Lib.hid (fun (w : World) h => specReachedIn_any u lo As l.length cs l z w (by omega) h)
   have HNO := Lib.hid (fun (w : World) h => nrOn_any u lo As l.length cs l w (by omega) h)
   have HFM := Lib.hid (fun (x : Int) (hx : x ≤ 9223372036854775807) (w : World) h => implFewestMoves_any u lo As l.length cs l x w (by omega) hx h)
   have hlaw := @rch_law u lo l z
   have hLn := rchL_len u lo l z
   obtain ⟨LL, hLL⟩ : ∃ x, rchL u lo l z = x := ⟨_, rfl⟩
   rw [hLL] at HB HA hlaw hLn
   obtain ⟨ok, hok⟩ : ∃ x, rchB u lo l z = x := ⟨_, rfl⟩
   rw [hok] at HB HA hlaw
   obtain ⟨n1, hn1⟩ : ∃ x, LL.length = x := ⟨_, rfl⟩
   rw [hn1] at HB HA hLn
   have HN1 := Lib.hid hn1
   have HLAW := Lib.hid hlaw
   unfold RetSliceB at HA HB
   have k1 : (ok != ok) = false := by cases ok <;> rfl
   clear hLL hok hn1 hlaw
   go_wp2_with fail
   refine (HB.out _ (Reads.of_own (oc_s.out.alloc _))).mono ?_
   rintro e w3 ⟨Ab, cb, rfl, ho_b, hb⟩
   have s3 : w2.heap.size + 1 ≤ w3.heap.size := (by have := hb.size; (try simp at this); omega)
   have z3_0 : w2.heap.size < w3.heap.size := (by omega)
   have q3_0 : w3.cell? ⟨w2.heap.size, 0, none⟩ = some (.int .i64 u) := ext_cell hb (by simp [go_sem])
   have q3_1 : w3.cell? ⟨w2.heap.size, 1, none⟩ = some (.int .i64 lo) := ext_cell hb (by simp [go_sem])
   have q3_2 : w3.cell? ⟨w2.heap.size, 2, none⟩ = some (.slice As l.length cs) := ext_cell hb (by simp [go_sem])
   have b3 := Lib.hid (ext_trans (ext_alloc b2.out _) hb)
   have t3 : w.heap.size ≤ w3.heap.size := b3.out.size
   have o3_s := Lib.hid (own_ext (oc_s.out.alloc _) hb)
   have oc_b := Lib.hid (own_base (base' := w2.heap.size + 1) ho_b (by simp))
   clear ho_b
   clear hb
   go_wp2_with fail
   refine (HA.out _ (Reads.of_own o3_s.out)).mono ?_
   rintro e w4 ⟨Aa, ca, rfl, ho_a, hb⟩
   have s4 : w3.heap.size ≤ w4.heap.size := (by have := hb.size; (try simp at this); omega)
   have z4_0 : w2.heap.size < w4.heap.size := (by omega)
   have q4_0 : w4.cell? ⟨w2.heap.size, 0, none⟩ = some (.int .i64 u) := ext_cell hb q3_0
   have q4_1 : w4.cell? ⟨w2.heap.size, 1, none⟩ = some (.int .i64 lo) := ext_cell hb q3_1
   have q4_2 : w4.cell? ⟨w2.heap.size, 2, none⟩ = some (.slice As l.length cs) := ext_cell hb q3_2
   have b4 := Lib.hid (ext_trans b3.out hb)
   have t4 : w.heap.size ≤ w4.heap.size := b4.out.size
   have o4_s := Lib.hid (own_ext o3_s.out hb)
   have o4_b := Lib.hid (own_ext oc_b.out hb)
   clear q3_0 q3_1 q3_2
   have oc_a := Lib.hid (own_base (base' := w3.heap.size + 0) ho_a (by simp))
   clear ho_a
   clear hb
   go_wp2_with fail
   refine (vInts_same Ab Aa n1 cb ca LL _ (by omega) (Reads.of_own o4_b.out) (Reads.of_own oc_a.out)).mono ?_
   rintro e w5 ⟨rfl, hb⟩
   have s5 : w4.heap.size ≤ w5.heap.size := (by have := hb.size; (try simp at this); omega)
   have z5_0 : w2.heap.size < w5.heap.size := (by omega)
   have q5_0 : w5.cell? ⟨w2.heap.size, 0, none⟩ = some (.int .i64 u) := ext_cell hb q4_0
   have q5_1 : w5.cell? ⟨w2.heap.size, 1, none⟩ = some (.int .i64 lo) := ext_cell hb q4_1
   have q5_2 : w5.cell? ⟨w2.heap.size, 2, none⟩ = some (.slice As l.length cs) := ext_cell hb q4_2
   have b5 := Lib.hid (ext_trans b4.out hb)
   have t5 : w.heap.size ≤ w5.heap.size := b5.out.size
   have o5_s := Lib.hid (own_ext o4_s.out hb)
   have o5_b := Lib.hid (own_ext o4_b.out hb)
   have o5_a := Lib.hid (own_ext oc_a.out hb)
   clear q4_0 q4_1 q4_2
   clear hb
   go_upto_if 53 with fail
   go_cut [53] (fun s53 wx => Below w.heap.size w wx)
   case first => as_aux_lemma =>
    rcases ok with _ | _
    · go_wp2_with fail
      go_meet
      exact b5.out
    have hr := HLAW.out rfl
    have hf := hr.fr
    have hm := hr.m0
    have hown := hr.own
    have hnear := hr.near
    have hnext := hr.next
    have hX0 := hnear _ hown
    rw [hf, if_pos rfl] at HNO
    obtain ⟨X, hX⟩ : ∃ x, numR l = x := ⟨_, rfl⟩
    rw [hX] at HNO hown hnext hX0
    have hxw : IntKind.i64.wrap (X + 1) = X + 1 := IntWalk.i64_in _ (by omega)
    have HF2 := Lib.hid (HFM.out (X + 1) (by omega))
    obtain ⟨Y, hY⟩ : ∃ x, X + 1 = x := ⟨_, rfl⟩
    have hxy := hxw.trans hY
    rw [hY] at hnext HF2
    have HV1 := Lib.hid (fun (w : World) h => vHas_any Ab n1 cb LL X w (by omega) h)
    rw [decide_eq_true hown] at HV1
    have HV2 := Lib.hid (fun (w : World) h => vHas_any Ab n1 cb LL Y w (by omega) h)
    obtain ⟨D, hD⟩ : ∃ x, decide (Y ∈ LL) = x := ⟨_, rfl⟩
    rw [hD] at HV2 hnext
    obtain ⟨O2, hO2⟩ : ∃ x, (nearW u lo l Y).ok = x := ⟨_, rfl⟩
    obtain ⟨M2, hM2⟩ : ∃ x, (nearW u lo l Y).m = x := ⟨_, rfl⟩
    rw [hO2, hM2] at HF2 hnext
    unfold RetV at HV1 HV2 HF2
    have HNR := Lib.hid hnear
    have HNX := Lib.hid hnext
    clear hr hf hm hown hnear hnext hX0 hX hxw hY hD hO2 hM2 HLAW k1
    go_wp2_with fail
    refine (HNO.out _ (Reads.of_own o5_s.out)).mono ?_
    rintro e w6 ⟨rfl, hb⟩
    have s6 : w5.heap.size ≤ w6.heap.size := (by have := hb.size; (try simp at this); omega)
    have z6_0 : w2.heap.size < w6.heap.size := (by omega)
    have q6_0 : w6.cell? ⟨w2.heap.size, 0, none⟩ = some (.int .i64 u) := ext_cell hb q5_0
    have q6_1 : w6.cell? ⟨w2.heap.size, 1, none⟩ = some (.int .i64 lo) := ext_cell hb q5_1
    have q6_2 : w6.cell? ⟨w2.heap.size, 2, none⟩ = some (.slice As l.length cs) := ext_cell hb q5_2
    have b6 := Lib.hid (ext_trans b5.out hb)
    have t6 : w.heap.size ≤ w6.heap.size := b6.out.size
    have o6_s := Lib.hid (own_ext o5_s.out hb)
    have o6_b := Lib.hid (own_ext o5_b.out hb)
    have o6_a := Lib.hid (own_ext o5_a.out hb)
    clear q5_0 q5_1 q5_2
    clear hb
    go_wp2_with fail
    refine (HV1.out _ (Reads.of_own o6_b.out)).mono ?_
    rintro e w7 ⟨rfl, hb⟩
    have s7 : w6.heap.size ≤ w7.heap.size := (by have := hb.size; (try simp at this); omega)
    have z7_0 : w2.heap.size < w7.heap.size := (by omega)
    have q7_0 : w7.cell? ⟨w2.heap.size, 0, none⟩ = some (.int .i64 u) := ext_cell hb q6_0
    have q7_1 : w7.cell? ⟨w2.heap.size, 1, none⟩ = some (.int .i64 lo) := ext_cell hb q6_1
    have q7_2 : w7.cell? ⟨w2.heap.size, 2, none⟩ = some (.slice As l.length cs) := ext_cell hb q6_2
    have b7 := Lib.hid (ext_trans b6.out hb)
    have t7 : w.heap.size ≤ w7.heap.size := b7.out.size
    have o7_s := Lib.hid (own_ext o6_s.out hb)
    have o7_b := Lib.hid (own_ext o6_b.out hb)
    have o7_a := Lib.hid (own_ext o6_a.out hb)
    clear q6_0 q6_1 q6_2
    clear hb
    go_wp2_with fail
    go_loopw [11] (fun iv wr => ∃ k : Nat, k ≤ n1 + 7 ∧ iv = .int .i64 (k : Int) ∧ Hid (Below w7.heap.size w7 wr)) (fun iv _ => n1 + 7 - (intOf iv).toNat)
    case atStart => exact ⟨0, Nat.zero_le _, rfl, Lib.hid (ext_refl _)⟩
    case round =>
     obtain ⟨k, hk, rfl, hbl⟩ := hrel
     by_cases hlt : k < n1
     · have h1 : (k : Int) < (n1 : Int) := by omega
       have h0 : (0 : Int) ≤ (k : Int) := by omega
       have hk7 : IntKind.i64.wrap ((k : Int) + 7) = (k : Int) + 7 := IntWalk.i64_in _ (by omega)
       obtain ⟨x, hx⟩ := list_split (l := LL) (k := k) (by rw [HN1.out]; exact hlt)
       have hnx := HNR.out x (List.mem_of_getElem? hx)
       have HFX := Lib.hid (HFM.out x (by omega))
       obtain ⟨W7, hW7⟩ : ∃ y : World, y = wr := ⟨_, rfl⟩
       subst hW7
       obtain ⟨b1, o1, hA1, hb1, a1⟩ := ints_at (Reads.of_own (own_ext o7_b.out hbl.out)) hx
       subst hA1
       have HS7 := Lib.hid (Reads.of_own (own_ext o7_s.out hbl.out))
       have f0 := ext_cell hbl.out q7_0
       have f1 := ext_cell hbl.out q7_1
       have f2 := ext_cell hbl.out q7_2
       have hno : ¬ z < (nearW u lo l x).m := by omega
       have hnb : decide (z < (nearW u lo l x).m) = false := decide_eq_false hno
       have hok7 := hnx.2.2.1
       obtain ⟨NW, hNW⟩ : ∃ y, nearW u lo l x = y := ⟨_, rfl⟩
       rw [hNW] at HFX hno hnb hok7
       rw [hok7] at HFX
       unfold RetV at HFX
       clear hx hnx hNW hok7
       go_upto_region 15 with fail
       obtain ⟨MX, hMX⟩ : ∃ y, NW.m = y := ⟨_, rfl⟩
       rw [hMX] at HFX hno hnb
       clear hMX
       go_cut [12, 13] (fun s12 s13 wx => s12 = .int .i64 MX ∧ s13 = .bool true ∧ Hid (Below W7.heap.size W7 wx))
       case first =>
        go_region_law (first | (go_simp; go_at_call 12; refine (HFX.out _ (rdx HS7.out (ext_drew (ext_refl _)))).mono ?_; rintro e w5 ⟨rfl, hb5⟩; have hb6 := Lib.hid (ext_drew_left hb5); clear hb5))
        all_goals
         go_wp2_with fail
         go_meet
         exact ⟨rfl, rfl, hb6⟩
       obtain ⟨rfl, rfl, hbc⟩ := hcut
       have hbA := Lib.hid (ext_trans hbl.out hbc.out)
       clear hbc f0 f1 f2 a1
       go_wp2_with fail
       go_roundw
       case rel => exact ⟨k + 7, by omega, by go_num, hbA⟩
       case measure => simp [intOf]; omega
     · have h1 : ¬ (k : Int) < (n1 : Int) := by omega
       have hb := hbl.out
       obtain ⟨w8, hw8⟩ : ∃ x : World, x = wr := ⟨_, rfl⟩
       subst hw8
       clear hbl
       have s8 : w7.heap.size ≤ w8.heap.size := (by have := hb.size; (try simp at this); omega)
       have z8_0 : w2.heap.size < w8.heap.size := (by omega)
       have q8_0 : w8.cell? ⟨w2.heap.size, 0, none⟩ = some (.int .i64 u) := ext_cell hb q7_0
       have q8_1 : w8.cell? ⟨w2.heap.size, 1, none⟩ = some (.int .i64 lo) := ext_cell hb q7_1
       have q8_2 : w8.cell? ⟨w2.heap.size, 2, none⟩ = some (.slice As l.length cs) := ext_cell hb q7_2
       have b8 := Lib.hid (ext_trans b7.out hb)
       have t8 : w.heap.size ≤ w8.heap.size := b8.out.size
       have o8_s := Lib.hid (own_ext o7_s.out hb)
       have o8_b := Lib.hid (own_ext o7_b.out hb)
       have o8_a := Lib.hid (own_ext o7_a.out hb)
       clear q7_0 q7_1 q7_2
       clear hb
       have hcs : (O2 = false ∧ D = false) ∨ (O2 = true ∧ M2 ≤ z ∧ D = true) ∨ (O2 = true ∧ ¬ M2 ≤ z ∧ D = false) := by
        have h := HNX.out
        cases O2
        · exact .inl ⟨rfl, by rw [h]; rfl⟩
        · by_cases hmz : M2 ≤ z
          · exact .inr (.inl ⟨rfl, hmz, by rw [h, decide_eq_true hmz]; rfl⟩)
          · exact .inr (.inr ⟨rfl, hmz, by rw [h, decide_eq_false hmz]; rfl⟩)
       clear HNX
       rcases hcs with ⟨rfl, rfl⟩ | ⟨rfl, hmz, rfl⟩ | ⟨rfl, hmz, rfl⟩
       · skip
         go_wp2_with fail
         refine (HF2.out _ (Reads.of_own o8_s.out)).mono ?_
         rintro e w9 ⟨rfl, hb⟩
         have s9 : w8.heap.size ≤ w9.heap.size := (by have := hb.size; (try simp at this); omega)
         have z9_0 : w2.heap.size < w9.heap.size := (by omega)
         have q9_0 : w9.cell? ⟨w2.heap.size, 0, none⟩ = some (.int .i64 u) := ext_cell hb q8_0
         have q9_1 : w9.cell? ⟨w2.heap.size, 1, none⟩ = some (.int .i64 lo) := ext_cell hb q8_1
         have q9_2 : w9.cell? ⟨w2.heap.size, 2, none⟩ = some (.slice As l.length cs) := ext_cell hb q8_2
         have b9 := Lib.hid (ext_trans b8.out hb)
         have t9 : w.heap.size ≤ w9.heap.size := b9.out.size
         have o9_s := Lib.hid (own_ext o8_s.out hb)
         have o9_b := Lib.hid (own_ext o8_b.out hb)
         have o9_a := Lib.hid (own_ext o8_a.out hb)
         clear q8_0 q8_1 q8_2
         clear hb
         go_wp2_with fail
         refine (HV2.out _ (Reads.of_own o9_b.out)).mono ?_
         rintro e w10 ⟨rfl, hb⟩
         have s10 : w9.heap.size ≤ w10.heap.size := (by have := hb.size; (try simp at this); omega)
         have z10_0 : w2.heap.size < w10.heap.size := (by omega)
         have q10_0 : w10.cell? ⟨w2.heap.size, 0, none⟩ = some (.int .i64 u) := ext_cell hb q9_0
         have q10_1 : w10.cell? ⟨w2.heap.size, 1, none⟩ = some (.int .i64 lo) := ext_cell hb q9_1
         have q10_2 : w10.cell? ⟨w2.heap.size, 2, none⟩ = some (.slice As l.length cs) := ext_cell hb q9_2
         have b10 := Lib.hid (ext_trans b9.out hb)
         have t10 : w.heap.size ≤ w10.heap.size := b10.out.size
         have o10_s := Lib.hid (own_ext o9_s.out hb)
         have o10_b := Lib.hid (own_ext o9_b.out hb)
         have o10_a := Lib.hid (own_ext o9_a.out hb)
         clear q9_0 q9_1 q9_2
         clear hb
         go_wp2_with fail
         go_meet
         exact b10.out
       · have hmb : decide (M2 ≤ z) = true := decide_eq_true hmz
         go_wp2_with fail
         refine (HF2.out _ (Reads.of_own o8_s.out)).mono ?_
         rintro e w9 ⟨rfl, hb⟩
         have s9 : w8.heap.size ≤ w9.heap.size := (by have := hb.size; (try simp at this); omega)
         have z9_0 : w2.heap.size < w9.heap.size := (by omega)
         have q9_0 : w9.cell? ⟨w2.heap.size, 0, none⟩ = some (.int .i64 u) := ext_cell hb q8_0
         have q9_1 : w9.cell? ⟨w2.heap.size, 1, none⟩ = some (.int .i64 lo) := ext_cell hb q8_1
         have q9_2 : w9.cell? ⟨w2.heap.size, 2, none⟩ = some (.slice As l.length cs) := ext_cell hb q8_2
         have b9 := Lib.hid (ext_trans b8.out hb)
         have t9 : w.heap.size ≤ w9.heap.size := b9.out.size
         have o9_s := Lib.hid (own_ext o8_s.out hb)
         have o9_b := Lib.hid (own_ext o8_b.out hb)
         have o9_a := Lib.hid (own_ext o8_a.out hb)
         clear q8_0 q8_1 q8_2
         clear hb
         go_wp2_with fail
         refine (HV2.out _ (Reads.of_own o9_b.out)).mono ?_
         rintro e w10 ⟨rfl, hb⟩
         have s10 : w9.heap.size ≤ w10.heap.size := (by have := hb.size; (try simp at this); omega)
         have z10_0 : w2.heap.size < w10.heap.size := (by omega)
         have q10_0 : w10.cell? ⟨w2.heap.size, 0, none⟩ = some (.int .i64 u) := ext_cell hb q9_0
         have q10_1 : w10.cell? ⟨w2.heap.size, 1, none⟩ = some (.int .i64 lo) := ext_cell hb q9_1
         have q10_2 : w10.cell? ⟨w2.heap.size, 2, none⟩ = some (.slice As l.length cs) := ext_cell hb q9_2
         have b10 := Lib.hid (ext_trans b9.out hb)
         have t10 : w.heap.size ≤ w10.heap.size := b10.out.size
         have o10_s := Lib.hid (own_ext o9_s.out hb)
         have o10_b := Lib.hid (own_ext o9_b.out hb)
         have o10_a := Lib.hid (own_ext o9_a.out hb)
         clear q9_0 q9_1 q9_2
         clear hb
         go_wp2_with fail
         go_meet
         exact b10.out
       · have hmb : decide (M2 ≤ z) = false := decide_eq_false hmz
         go_wp2_with fail
         refine (HF2.out _ (Reads.of_own o8_s.out)).mono ?_
         rintro e w9 ⟨rfl, hb⟩
         have s9 : w8.heap.size ≤ w9.heap.size := (by have := hb.size; (try simp at this); omega)
         have z9_0 : w2.heap.size < w9.heap.size := (by omega)
         have q9_0 : w9.cell? ⟨w2.heap.size, 0, none⟩ = some (.int .i64 u) := ext_cell hb q8_0
         have q9_1 : w9.cell? ⟨w2.heap.size, 1, none⟩ = some (.int .i64 lo) := ext_cell hb q8_1
         have q9_2 : w9.cell? ⟨w2.heap.size, 2, none⟩ = some (.slice As l.length cs) := ext_cell hb q8_2
         have b9 := Lib.hid (ext_trans b8.out hb)
         have t9 : w.heap.size ≤ w9.heap.size := b9.out.size
         have o9_s := Lib.hid (own_ext o8_s.out hb)
         have o9_b := Lib.hid (own_ext o8_b.out hb)
         have o9_a := Lib.hid (own_ext o8_a.out hb)
         clear q8_0 q8_1 q8_2
         clear hb
         go_wp2_with fail
         refine (HV2.out _ (Reads.of_own o9_b.out)).mono ?_
         rintro e w10 ⟨rfl, hb⟩
         have s10 : w9.heap.size ≤ w10.heap.size := (by have := hb.size; (try simp at this); omega)
         have z10_0 : w2.heap.size < w10.heap.size := (by omega)
         have q10_0 : w10.cell? ⟨w2.heap.size, 0, none⟩ = some (.int .i64 u) := ext_cell hb q9_0
         have q10_1 : w10.cell? ⟨w2.heap.size, 1, none⟩ = some (.int .i64 lo) := ext_cell hb q9_1
         have q10_2 : w10.cell? ⟨w2.heap.size, 2, none⟩ = some (.slice As l.length cs) := ext_cell hb q9_2
         have b10 := Lib.hid (ext_trans b9.out hb)
         have t10 : w.heap.size ≤ w10.heap.size := b10.out.size
         have o10_s := Lib.hid (own_ext o9_s.out hb)
         have o10_b := Lib.hid (own_ext o9_b.out hb)
         have o10_a := Lib.hid (own_ext o9_a.out hb)
         clear q9_0 q9_1 q9_2
         clear hb
         go_wp2_with fail
         go_meet
         exact b10.out
   case rest => as_aux_lemma =>
    obtain ⟨w9, hw9⟩ : ∃ x : World, x = wc := ⟨_, rfl⟩
    subst hw9
    have b9 := Lib.hid hcut
    have t9 : w.heap.size ≤ w9.heap.size := hcut.size
    clear hcut
    clear HLAW HN1 HB HA HNO HFM k1 hl9 hLn z0 z9
    go_wp2_with fail
    refine (drawFormsOf_any A n c _ ((H.out.below b9.out).more b9.out.size) hn).mono ?_
    rintro e w10 ⟨u2, lo2, v2, rfl, hb⟩
    have s10 : w9.heap.size ≤ w10.heap.size := (by have := hb.size; (try simp at this); omega)
    have b10 := Lib.hid (ext_trans b9.out hb)
    have t10 : w.heap.size ≤ w10.heap.size := b10.out.size
    clear hb
    have HB := Lib.hid (fun (w : World) => implFormsOf_any u2 lo2 v2 w)
    have HA := Lib.hid (fun (w : World) => specFormsOf_any u2 lo2 v2 w)
    have hFn := fmL_len u2 lo2 v2
    have hFm := fmL_mem u2 lo2 v2
    obtain ⟨FS, hFS⟩ : ∃ x, fmL u2 lo2 v2 = x := ⟨_, rfl⟩
    rw [hFS] at HB HA hFn hFm
    obtain ⟨okf, hokf⟩ : ∃ x, fmB u2 lo2 v2 = x := ⟨_, rfl⟩
    rw [hokf] at HB HA
    obtain ⟨n2, hn2⟩ : ∃ x, FS.length = x := ⟨_, rfl⟩
    rw [hn2] at HB HA hFn
    have HN2 := Lib.hid hn2
    have HFM := Lib.hid hFm
    unfold RetSliceB at HA HB
    have k2 : (okf != okf) = false := by cases okf <;> rfl
    clear hFS hokf hn2 hFm
    go_wp2_with fail
    refine (HB.out _).mono ?_
    rintro e w11 ⟨Am, cm, rfl, ho_m, hb⟩
    have s11 : w10.heap.size ≤ w11.heap.size := (by have := hb.size; (try simp at this); omega)
    have b11 := Lib.hid (ext_trans b10.out hb)
    have t11 : w.heap.size ≤ w11.heap.size := b11.out.size
    have oc_m := Lib.hid (own_base (base' := w10.heap.size + 0) ho_m (by simp))
    clear ho_m
    clear hb
    go_wp2_with fail
    refine (HA.out _).mono ?_
    rintro e w12 ⟨Ak, ck, rfl, ho_k, hb⟩
    have s12 : w11.heap.size ≤ w12.heap.size := (by have := hb.size; (try simp at this); omega)
    have b12 := Lib.hid (ext_trans b11.out hb)
    have t12 : w.heap.size ≤ w12.heap.size := b12.out.size
    have o12_m := Lib.hid (own_ext oc_m.out hb)
    have oc_k := Lib.hid (own_base (base' := w11.heap.size + 0) ho_k (by simp))
    clear ho_k
    clear hb
    go_wp2_with fail
    refine (vPairs_same Am Ak n2 cm ck FS _ (by omega) (Reads.of_own o12_m.out) (Reads.of_own oc_k.out)).mono ?_
    rintro e w13 ⟨rfl, hb⟩
    have s13 : w12.heap.size ≤ w13.heap.size := (by have := hb.size; (try simp at this); omega)
    have b13 := Lib.hid (ext_trans b12.out hb)
    have t13 : w.heap.size ≤ w13.heap.size := b13.out.size
    have o13_m := Lib.hid (own_ext o12_m.out hb)
    have o13_k := Lib.hid (own_ext oc_k.out hb)
    clear hb
    go_wp2_with fail
    go_loopw [24] (fun iv wr => ∃ k : Nat, k ≤ n2 ∧ iv = .int .i64 (k : Int) ∧ Hid (Below w13.heap.size w13 wr)) (fun iv _ => n2 - (intOf iv).toNat)
    case atStart => exact ⟨0, Nat.zero_le _, rfl, Lib.hid (ext_refl _)⟩
    case round =>
     obtain ⟨k, hk, rfl, hbl⟩ := hrel
     by_cases hlt : k < n2
     · have h1 : (k : Int) < (n2 : Int) := by omega
       have h0 : (0 : Int) ≤ (k : Int) := by omega
       obtain ⟨x, hx⟩ := list_split (l := FS) (k := k) (by rw [HN2.out]; exact hlt)
       have hfx := HFM.out x (List.mem_of_getElem? hx)
       obtain ⟨W7, hW7⟩ : ∃ y : World, y = wr := ⟨_, rfl⟩
       subst hW7
       obtain ⟨b1, o1, hA1, hb1, a1, a2⟩ := rows_at2 (Reads.of_own (own_ext o13_m.out hbl.out)) hx
       subst hA1
       obtain ⟨xa, xb⟩ := x
       dsimp only at hfx a1 a2
       have q1 : IntKind.i64.wrap (5 * xa) = 5 * xa := IntWalk.i64_in _ (by omega)
       obtain ⟨x5, hx5⟩ : ∃ y, 5 * xa = y := ⟨_, rfl⟩
       have q2 := q1.trans hx5
       have q3 : IntKind.i64.wrap (x5 + xb) = v2 := by rw [show x5 + xb = v2 by omega]; exact IntWalk.i64_in _ (by omega)
       have q4 : (v2 != v2) = false := by simp
       clear hx hfx q1 hx5
       go_upto_region 30 with fail
       go_region
       all_goals
        go_wp2
        go_roundw
        case rel => exact ⟨k + 1, by omega, by go_num, Lib.hid (ext_drew hbl.out)⟩
        case measure => simp [intOf]; omega
     · have h1 : ¬ (k : Int) < (n2 : Int) := by omega
       have hb := hbl.out
       obtain ⟨w14, hw14⟩ : ∃ x : World, x = wr := ⟨_, rfl⟩
       subst hw14
       clear hbl
       have s14 : w13.heap.size ≤ w14.heap.size := (by have := hb.size; (try simp at this); omega)
       have b14 := Lib.hid (ext_trans b13.out hb)
       have t14 : w.heap.size ≤ w14.heap.size := b14.out.size
       have o14_m := Lib.hid (own_ext o13_m.out hb)
       have o14_k := Lib.hid (own_ext o13_k.out hb)
       clear hb
       go_wp2
       go_ret
       exact ⟨rfl, b14.out⟩
end Go.Proofs.Ytaghjaiaoajpiaa
