/- The law FnWasted, walked. -/
import Derived.Deep.CutBlock
import Derived.Test.YtphhelmcaehclaaVWsE
import Derived.Test.YtphhelmcaehclaaVM14
import Derived.Test.YtphhelmcaehclaaVWsT
import Derived.Test.YtphhelmcaehclaaVWsU
import Derived.Test.YtphhelmcaehclaaVM1
namespace Go.Proofs.Ytphhelmcaehclaa
open Go.RowKit
set_option linter.unusedVariables false
set_option linter.unusedSimpArgs false
theorem same_law {u lo : Int} {l : List R2} {p q : List R3} (h1 : srOk u lo l p q = true) (h2 : srV u lo l p q = true) : ∃ C : Int, chV p (l.length : Int) = C ∧ chV q (l.length : Int) = C ∧ chB p (l.length : Int) = true ∧ chB q (l.length : Int) = true := by
 have h0 := h1
 unfold srOk at h1
 simp only [Bool.and_eq_true] at h1
 obtain ⟨⟨⟨⟨hf, hp⟩, hq⟩, hx⟩, hy⟩ := h1
 obtain ⟨x, hx⟩ := Option.isSome_iff_exists.1 hx
 obtain ⟨y, hy⟩ := Option.isSome_iff_exists.1 hy
 unfold srV at h2
 rw [h0, hx, hy, Option.getD_some, Option.getD_some, Bool.true_and] at h2
 have hxy : x = y := cmpP_zero x y (by rw [play_len hx, play_len hy]) (by simpa using h2)
 subst hxy
 have hz : inB (l.length : Int) 1 8 = true := inB_iff.2 (by have := frB_head hf; omega)
 have mv : ∀ ms, rcdB ms = true → mvsB ms = true := fun ms h => by unfold rcdB at h; simp only [Bool.and_eq_true] at h; exact h.2
 have cb : ∀ ms, rcdB ms = true → playS u lo l ms = some x → chB ms (l.length : Int) = true := fun ms h hm => by
  unfold chB
  rw [mv ms h, hz]
  simp only [Bool.true_and, List.all_eq_true, decide_eq_true_eq]
  exact play_rods (l := l) ms l x hm
 have cv : ∀ ms, rcdB ms = true → playS u lo l ms = some x → chV ms (l.length : Int) = chg l.length ms := fun ms h hm => by
  unfold chV
  rw [if_pos (cb ms h hm), Int.toNat_natCast]
 refine ⟨chg l.length p, cv p hp hx, ?_, cb p hp hx, cb q hq hy⟩
 rw [cv q hq hy]
 exact (same_chg (rcd_parts hp).2 (rcd_parts hq).2 hx hy).symm
theorem wrap_len2 {a b : Nat} (ha : a ≤ 64) (hb : b ≤ 61) : wrap64 ((a : Int) + (b : Int)) = (a : Int) + (b : Int) := by unfold wrap64; omega
theorem wrap_len2' {a b : Nat} (ha : a ≤ 64) (hb : b ≤ 61) : IntKind.i64.wrap ((a : Int) + (b : Int)) = (a : Int) + (b : Int) := by rw [IntKind.wrap_i64]; omega
theorem errL_len (a b : List R3) (z : Int) : (errL a b z).length ≤ 8 := by
 unfold errL
 split
 · rename_i h
   have := (err_parts h).2.2.1
   rw [List.length_map, bmps_len, bmps_len, List.length_replicate]
   omega
 · exact Nat.zero_le _
theorem rods_law {y z : List R3} {t : Int} (h : errB y z t = true) : ((errL y z t).length : Int) = t ∧ 0 ≤ (errL y z t).sum ∧ (errL y z t).sum ≤ (y.length : Int) + (z.length : Int) ∧ (mdV y z = 0 → (errL y z t).sum = 0) ∧ (∀ x ∈ errL y z t, 0 ≤ x ∧ x ≤ 24) ∧ (rcdB y && rcdB z) = true := by
 obtain ⟨h1, h2, h3, h4, h5⟩ := err_law h
 obtain ⟨p1, p2, _⟩ := err_parts h
 refine ⟨h1, h2, h3, fun hd => h4 ?_, h5, by rw [p1, p2]; rfl⟩
 unfold mdV at hd
 rw [p1, p2] at hd
 exact mE_eq hd
set_option maxRecDepth 100000 in
set_option maxHeartbeats 8000000 in
theorem law_FnWasted (A : Option Addr) (n c : Nat) (w : World) (h : Code w w.heap.size A n) (hn63 : n ≤ maxLen) :
 Calls Try.prog 3 #[.slice A n c] w fun e w' => e = .returned (.bool true) ∧ Below w.heap.size w w' := by
 have HV := Lib.hid (fun w => vBig_any A n c w)
 by_cases hbig : (65536 : Int) < n
 · rw [decide_eq_true hbig] at HV
   go_enter Try.func3, Try.ntmps3
   go_wp2_with (go_at_call 5; refine (HV.out _).mono ?_; rintro e w' ⟨rfl, hb⟩)
   go_ret
   exact ⟨rfl, (by repeat (first | exact ext_refl _ | assumption | refine ext_alloc ?_ _ | refine ext_drew ?_ | refine ext_drewN ?_ _ | refine ext_set ?_ (by simp <;> omega) _ | refine ext_trans ?_ (by assumption)))⟩
 · rw [decide_eq_false hbig] at HV
   have hn : n ≤ 65536 := by omega
   have H := Lib.hid h
   clear h hbig hn63
   go_enter Try.func3, Try.ntmps3
   go_wp2_with fail
   refine (HV.out _).mono ?_
   rintro e w1 ⟨rfl, hb⟩
   have s1 : w.heap.size ≤ w1.heap.size := (by have := hb.size; (try simp at this); omega)
   have b1 := Lib.hid (ext_trans (ext_refl w) hb)
   have t1 : w.heap.size ≤ w1.heap.size := b1.out.size
   clear hb
   go_wp2_with fail
   refine (drawWastedBeads_any A n c _ ((H.out.below b1.out).more b1.out.size) hn).mono ?_
   rintro e w2 ⟨u, lo, l, As, cs, ms, Am, cm, rfl, hIN, hms, ho_m, ho_s, hb⟩
   have s2 : w1.heap.size ≤ w2.heap.size := (by have := hb.size; (try simp at this); omega)
   have b2 := Lib.hid (ext_trans b1.out hb)
   have t2 : w.heap.size ≤ w2.heap.size := b2.out.size
   clear hb
   have oc_m := Lib.hid (own_base (base' := w1.heap.size + 0) ho_m (by simp))
   clear ho_m
   have oc_s := Lib.hid (own_base (base' := w1.heap.size + 0) ho_s (by simp))
   clear ho_s
   have hl9 : l.length ≤ 9 := hIN.2.2.2.2.2.1
   clear hIN
   have HB := Lib.hid (fun (w : World) h hm => implWastedBeads_any u lo As l.length cs l Am ms.length cm ms w (by omega) (by omega) h hm)
   have HA := Lib.hid (fun (w : World) h hm => specWastedBeads_any u lo As l.length cs l Am ms.length cm ms w (by omega) (by omega) h hm)
   obtain ⟨v0, v1, v2⟩ := waste_law u lo l ms
   obtain ⟨V, hV⟩ : ∃ o9, wasteV u lo l ms = o9 := ⟨_, rfl⟩
   rw [hV] at HA HB v0 v1 v2
   obtain ⟨ok, hok⟩ : ∃ o9, wasteOk u lo l ms = o9 := ⟨_, rfl⟩
   rw [hok] at HA HB
   unfold RetV at HA HB
   have k1 : (ok != ok) = false := by cases ok <;> rfl
   have k2 : (V != V) = false := by simp
   have k3 : ¬ V < 0 := by omega
   have k3b : decide (V < 0) = false := decide_eq_false k3
   have k4 : V.tmod 2 = 0 := by rw [Int.tmod_eq_emod_of_nonneg v0]; exact v1
   have k5 : ((0 : Int) != 0) = false := rfl
   clear hV hok v1
   go_wp2_with fail
   refine (HB.out _ (Reads.of_own (oc_s.out.alloc _)) (Reads.of_own (oc_m.out.alloc _))).mono ?_
   rintro e w3 ⟨rfl, hb⟩
   have s3 : w2.heap.size + 1 ≤ w3.heap.size := (by have := hb.size; (try simp at this); omega)
   have z3_0 : w2.heap.size < w3.heap.size := (by omega)
   have q3_0 : w3.cell? ⟨w2.heap.size, 0, none⟩ = some (.int .i64 u) := ext_cell hb (by simp [go_sem])
   have q3_1 : w3.cell? ⟨w2.heap.size, 1, none⟩ = some (.int .i64 lo) := ext_cell hb (by simp [go_sem])
   have q3_2 : w3.cell? ⟨w2.heap.size, 2, none⟩ = some (.slice As l.length cs) := ext_cell hb (by simp [go_sem])
   have b3 := Lib.hid (ext_trans (ext_alloc b2.out _) hb)
   have t3 : w.heap.size ≤ w3.heap.size := b3.out.size
   have o3_m := Lib.hid (own_ext (oc_m.out.alloc _) hb)
   have o3_s := Lib.hid (own_ext (oc_s.out.alloc _) hb)
   clear hb
   go_wp2_with fail
   refine (HA.out _ (Reads.of_own o3_s.out) (Reads.of_own o3_m.out)).mono ?_
   rintro e w4 ⟨rfl, hb⟩
   have s4 : w3.heap.size ≤ w4.heap.size := (by have := hb.size; (try simp at this); omega)
   have z4_0 : w2.heap.size < w4.heap.size := (by omega)
   have q4_0 : w4.cell? ⟨w2.heap.size, 0, none⟩ = some (.int .i64 u) := ext_cell hb q3_0
   have q4_1 : w4.cell? ⟨w2.heap.size, 1, none⟩ = some (.int .i64 lo) := ext_cell hb q3_1
   have q4_2 : w4.cell? ⟨w2.heap.size, 2, none⟩ = some (.slice As l.length cs) := ext_cell hb q3_2
   have b4 := Lib.hid (ext_trans b3.out hb)
   have t4 : w.heap.size ≤ w4.heap.size := b4.out.size
   have o4_m := Lib.hid (own_ext o3_m.out hb)
   have o4_s := Lib.hid (own_ext o3_s.out hb)
   clear q3_0 q3_1 q3_2
   clear hb
   clear o4_m
   clear o4_s
   go_wp2_with fail
   refine (drawSameResult_any A n c _ ((H.out.below b4.out).more b4.out.size) hn).mono ?_
   rintro e w5 ⟨u1, lo1, l1, At, ct, p, Bp, cp, q, Bq, cq, rfl, hIN, hp64, ho_p, hq61, ho_q, ho_t, hb⟩
   have s5 : w4.heap.size ≤ w5.heap.size := (by have := hb.size; (try simp at this); omega)
   have z5_0 : w2.heap.size < w5.heap.size := (by omega)
   have q5_0 : w5.cell? ⟨w2.heap.size, 0, none⟩ = some (.int .i64 u) := ext_cell hb q4_0
   have q5_1 : w5.cell? ⟨w2.heap.size, 1, none⟩ = some (.int .i64 lo) := ext_cell hb q4_1
   have q5_2 : w5.cell? ⟨w2.heap.size, 2, none⟩ = some (.slice As l.length cs) := ext_cell hb q4_2
   have b5 := Lib.hid (ext_trans b4.out hb)
   have t5 : w.heap.size ≤ w5.heap.size := b5.out.size
   clear q4_0 q4_1 q4_2
   clear hb
   have oc_p := Lib.hid (own_base (base' := w4.heap.size + 0) ho_p (by simp))
   clear ho_p
   have oc_q := Lib.hid (own_base (base' := w4.heap.size + 0) ho_q (by simp))
   clear ho_q
   have oc_t := Lib.hid (own_base (base' := w4.heap.size + 0) ho_t (by simp))
   clear ho_t
   have hm9 : l1.length ≤ 9 := hIN.2.2.2.2.2.1
   clear hIN HA HB k3 k3b k4 k5
   have HB := Lib.hid (fun (w : World) h hp hq => implSameResult_any u1 lo1 At l1.length ct l1 Bp p.length cp p Bq q.length cq q w (by omega) (by omega) (by omega) h hp hq)
   have HA := Lib.hid (fun (w : World) h hp hq => specSameResult_any u1 lo1 At l1.length ct l1 Bp p.length cp p Bq q.length cq q w (by omega) (by omega) (by omega) h hp hq)
   have hlaw := @same_law u1 lo1 l1 p q
   obtain ⟨sm, hsm⟩ : ∃ o9, srV u1 lo1 l1 p q = o9 := ⟨_, rfl⟩
   obtain ⟨tl, htl⟩ : ∃ o9, srOk u1 lo1 l1 p q = o9 := ⟨_, rfl⟩
   rw [hsm, htl] at HA HB hlaw
   unfold RetV at HA HB
   have HLAW := Lib.hid hlaw
   have k6 : (sm != sm) = false := by cases sm <;> rfl
   have k7 : (tl != tl) = false := by cases tl <;> rfl
   clear hsm htl hlaw
   go_wp2_with fail
   refine (HB.out _ (Reads.of_own (oc_t.out.alloc _)) (Reads.of_own (oc_p.out.alloc _)) (Reads.of_own (oc_q.out.alloc _))).mono ?_
   rintro e w6 ⟨rfl, hb⟩
   have s6 : w5.heap.size + 1 ≤ w6.heap.size := (by have := hb.size; (try simp at this); omega)
   have z6_0 : w2.heap.size < w6.heap.size := (by omega)
   have z6_1 : w5.heap.size < w6.heap.size := (by omega)
   have q6_0 : w6.cell? ⟨w2.heap.size, 0, none⟩ = some (.int .i64 u) := ext_cell hb (cell_old q5_0 _)
   have q6_1 : w6.cell? ⟨w2.heap.size, 1, none⟩ = some (.int .i64 lo) := ext_cell hb (cell_old q5_1 _)
   have q6_2 : w6.cell? ⟨w2.heap.size, 2, none⟩ = some (.slice As l.length cs) := ext_cell hb (cell_old q5_2 _)
   have q6_3 : w6.cell? ⟨w5.heap.size, 0, none⟩ = some (.int .i64 u1) := ext_cell hb (by simp [go_sem])
   have q6_4 : w6.cell? ⟨w5.heap.size, 1, none⟩ = some (.int .i64 lo1) := ext_cell hb (by simp [go_sem])
   have q6_5 : w6.cell? ⟨w5.heap.size, 2, none⟩ = some (.slice At l1.length ct) := ext_cell hb (by simp [go_sem])
   have b6 := Lib.hid (ext_trans (ext_alloc b5.out _) hb)
   have t6 : w.heap.size ≤ w6.heap.size := b6.out.size
   have o6_p := Lib.hid (own_ext (oc_p.out.alloc _) hb)
   have o6_q := Lib.hid (own_ext (oc_q.out.alloc _) hb)
   have o6_t := Lib.hid (own_ext (oc_t.out.alloc _) hb)
   clear q5_0 q5_1 q5_2
   clear hb
   go_wp2_with fail
   refine (HA.out _ (Reads.of_own o6_t.out) (Reads.of_own o6_p.out) (Reads.of_own o6_q.out)).mono ?_
   rintro e w7 ⟨rfl, hb⟩
   have s7 : w6.heap.size ≤ w7.heap.size := (by have := hb.size; (try simp at this); omega)
   have z7_0 : w2.heap.size < w7.heap.size := (by omega)
   have z7_1 : w5.heap.size < w7.heap.size := (by omega)
   have q7_0 : w7.cell? ⟨w2.heap.size, 0, none⟩ = some (.int .i64 u) := ext_cell hb q6_0
   have q7_1 : w7.cell? ⟨w2.heap.size, 1, none⟩ = some (.int .i64 lo) := ext_cell hb q6_1
   have q7_2 : w7.cell? ⟨w2.heap.size, 2, none⟩ = some (.slice As l.length cs) := ext_cell hb q6_2
   have q7_3 : w7.cell? ⟨w5.heap.size, 0, none⟩ = some (.int .i64 u1) := ext_cell hb q6_3
   have q7_4 : w7.cell? ⟨w5.heap.size, 1, none⟩ = some (.int .i64 lo1) := ext_cell hb q6_4
   have q7_5 : w7.cell? ⟨w5.heap.size, 2, none⟩ = some (.slice At l1.length ct) := ext_cell hb q6_5
   have b7 := Lib.hid (ext_trans b6.out hb)
   have t7 : w.heap.size ≤ w7.heap.size := b7.out.size
   have o7_p := Lib.hid (own_ext o6_p.out hb)
   have o7_q := Lib.hid (own_ext o6_q.out hb)
   have o7_t := Lib.hid (own_ext o6_t.out hb)
   clear q6_0 q6_1 q6_2 q6_3 q6_4 q6_5
   clear hb
   go_upto_region 13 with fail
   go_cut [96] (fun s96 wx => s96 = .bool (tl && sm) ∧ w7 = wx)
   case first =>
    cases tl
    · go_wp2_with fail
      go_meet
      exact ⟨rfl, rfl⟩
    · go_wp2_with fail
      go_meet
      exact ⟨rfl, rfl⟩
   case rest =>
    obtain ⟨rfl, rfl⟩ := hcut
    go_upto_if 96 with fail
    go_cut [96] (fun s96 wx => Below w.heap.size w wx)
    case first => as_aux_lemma =>
     rcases tl with _ | _
     · rw [Bool.false_and]
       go_wp2_with fail
       go_meet
       exact b7.out
     rw [Bool.true_and]
     rcases sm with _ | _
     · go_wp2_with fail
       go_meet
       exact b7.out
     obtain ⟨C, e1, e2, e3, e4⟩ := HLAW.out rfl rfl
     have HC1 := Lib.hid (fun (w : World) h => implChangeOf_any Bp p.length cp p (l1.length : Int) w (by omega) h)
     have HC2 := Lib.hid (fun (w : World) h => implChangeOf_any Bq q.length cq q (l1.length : Int) w (by omega) h)
     rw [e1, e3] at HC1
     rw [e2, e4] at HC2
     unfold RetV at HC1 HC2
     have k8 : (C != C) = false := by simp
     clear e1 e2 e3 e4 HLAW HA HB
     go_wp2_with fail
     refine (HC1.out _ (Reads.of_own o7_p.out)).mono ?_
     rintro e w8 ⟨rfl, hb⟩
     have s8 : w7.heap.size ≤ w8.heap.size := (by have := hb.size; (try simp at this); omega)
     have z8_0 : w2.heap.size < w8.heap.size := (by omega)
     have z8_1 : w5.heap.size < w8.heap.size := (by omega)
     have q8_0 : w8.cell? ⟨w2.heap.size, 0, none⟩ = some (.int .i64 u) := ext_cell hb q7_0
     have q8_1 : w8.cell? ⟨w2.heap.size, 1, none⟩ = some (.int .i64 lo) := ext_cell hb q7_1
     have q8_2 : w8.cell? ⟨w2.heap.size, 2, none⟩ = some (.slice As l.length cs) := ext_cell hb q7_2
     have q8_3 : w8.cell? ⟨w5.heap.size, 0, none⟩ = some (.int .i64 u1) := ext_cell hb q7_3
     have q8_4 : w8.cell? ⟨w5.heap.size, 1, none⟩ = some (.int .i64 lo1) := ext_cell hb q7_4
     have q8_5 : w8.cell? ⟨w5.heap.size, 2, none⟩ = some (.slice At l1.length ct) := ext_cell hb q7_5
     have b8 := Lib.hid (ext_trans b7.out hb)
     have t8 : w.heap.size ≤ w8.heap.size := b8.out.size
     have o8_p := Lib.hid (own_ext o7_p.out hb)
     have o8_q := Lib.hid (own_ext o7_q.out hb)
     have o8_t := Lib.hid (own_ext o7_t.out hb)
     clear q7_0 q7_1 q7_2 q7_3 q7_4 q7_5
     clear hb
     go_wp2_with fail
     refine (HC2.out _ (Reads.of_own o8_q.out)).mono ?_
     rintro e w9 ⟨rfl, hb⟩
     have s9 : w8.heap.size ≤ w9.heap.size := (by have := hb.size; (try simp at this); omega)
     have z9_0 : w2.heap.size < w9.heap.size := (by omega)
     have z9_1 : w5.heap.size < w9.heap.size := (by omega)
     have q9_0 : w9.cell? ⟨w2.heap.size, 0, none⟩ = some (.int .i64 u) := ext_cell hb q8_0
     have q9_1 : w9.cell? ⟨w2.heap.size, 1, none⟩ = some (.int .i64 lo) := ext_cell hb q8_1
     have q9_2 : w9.cell? ⟨w2.heap.size, 2, none⟩ = some (.slice As l.length cs) := ext_cell hb q8_2
     have q9_3 : w9.cell? ⟨w5.heap.size, 0, none⟩ = some (.int .i64 u1) := ext_cell hb q8_3
     have q9_4 : w9.cell? ⟨w5.heap.size, 1, none⟩ = some (.int .i64 lo1) := ext_cell hb q8_4
     have q9_5 : w9.cell? ⟨w5.heap.size, 2, none⟩ = some (.slice At l1.length ct) := ext_cell hb q8_5
     have b9 := Lib.hid (ext_trans b8.out hb)
     have t9 : w.heap.size ≤ w9.heap.size := b9.out.size
     have o9_p := Lib.hid (own_ext o8_p.out hb)
     have o9_q := Lib.hid (own_ext o8_q.out hb)
     have o9_t := Lib.hid (own_ext o8_t.out hb)
     clear q8_0 q8_1 q8_2 q8_3 q8_4 q8_5
     clear hb
     go_wp2_with fail
     go_meet
     exact b9.out
    case rest => as_aux_lemma =>
     obtain ⟨w10, hw10⟩ : ∃ x : World, x = wc := ⟨_, rfl⟩
     subst hw10
     have b10 := Lib.hid hcut
     have t10 : w.heap.size ≤ w10.heap.size := hcut.size
     clear hcut
     clear HLAW HA HB
     go_wp2_with fail
     refine (drawRodErrors_any A n c _ ((H.out.below b10.out).more b10.out.size) hn).mono ?_
     rintro e w11 ⟨y, By, cy, z, Bz, cz, t, rfl, hy64, hz61, t0, t9, ho_y, ho_z, hb⟩
     have s11 : w10.heap.size ≤ w11.heap.size := (by have := hb.size; (try simp at this); omega)
     have b11 := Lib.hid (ext_trans b10.out hb)
     have t11 : w.heap.size ≤ w11.heap.size := b11.out.size
     clear hb
     have oc_y := Lib.hid (own_base (base' := w10.heap.size + 0) ho_y (by simp))
     clear ho_y
     have oc_z := Lib.hid (own_base (base' := w10.heap.size + 0) ho_z (by simp))
     clear ho_z
     have HB := Lib.hid (fun (w : World) hp hq => implRodErrors_any By y.length cy y Bz z.length cz z t w (by omega) (by omega) hp hq)
     have HA := Lib.hid (fun (w : World) hp hq => specRodErrors_any By y.length cy y Bz z.length cz z t w (by omega) (by omega) hp hq)
     have HD := Lib.hid (fun (w : World) hp hq => implMoveDistance_any By y.length cy y Bz z.length cz z w (by omega) (by omega) hp hq)
     have hlaw := @rods_law y z t
     have hbig := errL_len y z t
     obtain ⟨EL, hEL⟩ : ∃ o9, errL y z t = o9 := ⟨_, rfl⟩
     rw [hEL] at HA HB hlaw hbig
     obtain ⟨ok2, hok⟩ : ∃ o9, errB y z t = o9 := ⟨_, rfl⟩
     rw [hok] at HA HB hlaw
     obtain ⟨N, hN⟩ : ∃ o9, EL.length = o9 := ⟨_, rfl⟩
     rw [hN] at HA HB hlaw hbig
     obtain ⟨D, hD⟩ : ∃ o9, mdV y z = o9 := ⟨_, rfl⟩
     rw [hD] at HD hlaw
     obtain ⟨rb, hrb⟩ : ∃ o9, (rcdB y && rcdB z) = o9 := ⟨_, rfl⟩
     rw [hrb] at HD hlaw
     unfold RetSliceB at HA HB
     unfold RetV at HD
     have HLAW := Lib.hid hlaw
     have k1 : (ok2 != ok2) = false := by cases ok2 <;> rfl
     clear hEL hok hN hD hrb hlaw
     go_wp2_with fail
     refine (HB.out _ (Reads.of_own oc_y.out) (Reads.of_own oc_z.out)).mono ?_
     rintro e w12 ⟨Ab, cb, rfl, ho_b, hb⟩
     have s12 : w11.heap.size ≤ w12.heap.size := (by have := hb.size; (try simp at this); omega)
     have b12 := Lib.hid (ext_trans b11.out hb)
     have t12 : w.heap.size ≤ w12.heap.size := b12.out.size
     have o12_y := Lib.hid (own_ext oc_y.out hb)
     have o12_z := Lib.hid (own_ext oc_z.out hb)
     have oc_b := Lib.hid (own_base (base' := w11.heap.size + 0) ho_b (by simp))
     clear ho_b
     clear hb
     go_wp2_with fail
     refine (HA.out _ (Reads.of_own o12_y.out) (Reads.of_own o12_z.out)).mono ?_
     rintro e w13 ⟨Aa, ca, rfl, ho_a, hb⟩
     have s13 : w12.heap.size ≤ w13.heap.size := (by have := hb.size; (try simp at this); omega)
     have b13 := Lib.hid (ext_trans b12.out hb)
     have t13 : w.heap.size ≤ w13.heap.size := b13.out.size
     have o13_y := Lib.hid (own_ext o12_y.out hb)
     have o13_z := Lib.hid (own_ext o12_z.out hb)
     have o13_b := Lib.hid (own_ext oc_b.out hb)
     have oc_a := Lib.hid (own_base (base' := w12.heap.size + 0) ho_a (by simp))
     clear ho_a
     clear hb
     go_upto_region 21 with fail
     go_cut [152] (fun s152 wx => s152 = .bool false ∧ Below w13.heap.size w13 wx)
     case first => as_aux_lemma =>
      have hbB := Lib.hid (ext_refl w13)
      go_wp2_with fail
      refine (vInts_same Ab Aa N cb ca EL _ (by omega) (Reads.of_own o13_b.out) (Reads.of_own oc_a.out)).mono ?_
      rintro e w14 ⟨rfl, hb⟩
      have hbB := Lib.hid (ext_trans hbB.out hb)
      have s14 : w13.heap.size ≤ w14.heap.size := (by have := hb.size; (try simp at this); omega)
      have b14 := Lib.hid (ext_trans b13.out hb)
      have t14 : w.heap.size ≤ w14.heap.size := b14.out.size
      have o14_y := Lib.hid (own_ext o13_y.out hb)
      have o14_z := Lib.hid (own_ext o13_z.out hb)
      have o14_b := Lib.hid (own_ext o13_b.out hb)
      have o14_a := Lib.hid (own_ext oc_a.out hb)
      clear hb
      go_wp2_with fail
      go_meet
      exact ⟨rfl, hbB.out⟩
     case rest => as_aux_lemma =>
      obtain ⟨rfl, hb⟩ := hcut
      obtain ⟨w14, hw14⟩ : ∃ x : World, x = wc := ⟨_, rfl⟩
      subst hw14
      have s14 : w13.heap.size ≤ w14.heap.size := (by have := hb.size; (try simp at this); omega)
      have b14 := Lib.hid (ext_trans b13.out hb)
      have t14 : w.heap.size ≤ w14.heap.size := b14.out.size
      have o14_y := Lib.hid (own_ext o13_y.out hb)
      have o14_z := Lib.hid (own_ext o13_z.out hb)
      have o14_b := Lib.hid (own_ext o13_b.out hb)
      have o14_a := Lib.hid (own_ext oc_a.out hb)
      clear hb
      rcases ok2 with _ | _
      · go_wp2
        go_ret
        exact ⟨rfl, b14.out⟩
      obtain ⟨hNt, hs0, hs1, hs2, hel, hrb⟩ := HLAW.out rfl
      obtain rfl := hrb
      have HSM := Lib.hid (fun (w : World) h => vSum_any Ab N cb EL 24 w (by omega) (by omega) hel h)
      obtain ⟨s, hs⟩ : ∃ o9, EL.sum = o9 := ⟨_, rfl⟩
      rw [hs] at HSM hs0 hs1 hs2
      have kN : ((N : Int) == t) = true := by simp [hNt]
      clear hel hNt hs HLAW HA HB
      go_wp2_with fail
      refine (HD.out _ (Reads.of_own o14_y.out) (Reads.of_own o14_z.out)).mono ?_
      rintro e w15 ⟨rfl, hb⟩
      have s15 : w14.heap.size ≤ w15.heap.size := (by have := hb.size; (try simp at this); omega)
      have b15 := Lib.hid (ext_trans b14.out hb)
      have t15 : w.heap.size ≤ w15.heap.size := b15.out.size
      have o15_y := Lib.hid (own_ext o14_y.out hb)
      have o15_z := Lib.hid (own_ext o14_z.out hb)
      have o15_b := Lib.hid (own_ext o14_b.out hb)
      have o15_a := Lib.hid (own_ext o14_a.out hb)
      clear hb
      have w1' := wrap_len2 hy64 hz61
      have w2' := wrap_len2' hy64 hz61
      have ks : decide (s ≤ (y.length : Int) + (z.length : Int)) = true := decide_eq_true hs1
      by_cases hd : D = 0
      · obtain rfl := hd
        obtain rfl := hs2 rfl
        have kd : ((0 : Int) != 0) = false := rfl
        have kz : ((0 : Int) == 0) = true := rfl
        go_wp2_with fail
        refine (HSM.out _ (Reads.of_own o15_b.out)).mono ?_
        rintro e w16 ⟨rfl, hb⟩
        have s16 : w15.heap.size ≤ w16.heap.size := (by have := hb.size; (try simp at this); omega)
        have b16 := Lib.hid (ext_trans b15.out hb)
        have t16 : w.heap.size ≤ w16.heap.size := b16.out.size
        have o16_y := Lib.hid (own_ext o15_y.out hb)
        have o16_z := Lib.hid (own_ext o15_z.out hb)
        have o16_b := Lib.hid (own_ext o15_b.out hb)
        have o16_a := Lib.hid (own_ext o15_a.out hb)
        clear hb
        go_wp2_with fail
        refine (HSM.out _ (Reads.of_own o16_b.out)).mono ?_
        rintro e w17 ⟨rfl, hb⟩
        have s17 : w16.heap.size ≤ w17.heap.size := (by have := hb.size; (try simp at this); omega)
        have b17 := Lib.hid (ext_trans b16.out hb)
        have t17 : w.heap.size ≤ w17.heap.size := b17.out.size
        have o17_y := Lib.hid (own_ext o16_y.out hb)
        have o17_z := Lib.hid (own_ext o16_z.out hb)
        have o17_b := Lib.hid (own_ext o16_b.out hb)
        have o17_a := Lib.hid (own_ext o16_a.out hb)
        clear hb
        go_wp2
        go_ret
        exact ⟨rfl, b17.out⟩
      · have kd : (D != 0) = true := by simpa using hd
        go_wp2_with fail
        refine (HSM.out _ (Reads.of_own o15_b.out)).mono ?_
        rintro e w16 ⟨rfl, hb⟩
        have s16 : w15.heap.size ≤ w16.heap.size := (by have := hb.size; (try simp at this); omega)
        have b16 := Lib.hid (ext_trans b15.out hb)
        have t16 : w.heap.size ≤ w16.heap.size := b16.out.size
        have o16_y := Lib.hid (own_ext o15_y.out hb)
        have o16_z := Lib.hid (own_ext o15_z.out hb)
        have o16_b := Lib.hid (own_ext o15_b.out hb)
        have o16_a := Lib.hid (own_ext o15_a.out hb)
        clear hb
        go_wp2
        go_ret
        exact ⟨rfl, b16.out⟩
end Go.Proofs.Ytphhelmcaehclaa
