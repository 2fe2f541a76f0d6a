/- The law FnImages, walked. -/
import Derived.Deep.CutBlock
import Derived.Test.YtlkfffohjeoooaaVIgA
import Derived.Test.YtlkfffohjeoooaaVIgB
import Derived.Test.YtlkfffohjeoooaaVIgC
import Derived.Test.YtlkfffohjeoooaaVM15
import Derived.Test.YtlkfffohjeoooaaVM14
import Derived.Test.YtlkfffohjeoooaaVM1
import Derived.Test.YtlkfffohjeoooaaVMdV
namespace Go.Proofs.Ytlkfffohjeoooaa
open Go.RowKit
set_option linter.unusedVariables false
set_option linter.unusedSimpArgs false
theorem lsO_len {q : Md} : (lsO q).length ≤ q.im.length := by
 unfold lsO
 split
 · exact lostL_len _ _
 · exact Nat.zero_le _
theorem wrO_len {q : Md} : (wrO q).length ≤ q.im.length := by
 unfold wrO
 split
 · exact wrongL_len _ _ _
 · exact Nat.zero_le _
/-- what the law says of the beats that are left -/
theorem igBeats (q : Md) : decide (0 < btV q) = true → mdOK q = true ∧ ((stepO q 1 (btV q)).isSome = true → mdOK (resQ (stepO q 1 (btV q))) = true ∧ (lsO q).length < (lsO (resQ (stepO q 1 (btV q)))).length ∧ ∀ x ∈ lsO q, x ∈ lsO (resQ (stepO q 1 (btV q)))) := by
 intro h
 have h : 0 < btV q := by simpa using h
 refine ⟨?_, ?_⟩
 · cases hok : mdOK q
   · unfold btV at h
     rw [if_neg (by rw [hok]; simp)] at h
     omega
   · rfl
 · cases hY : stepO q 1 (btV q) with
   | none => intro h; cases h
   | some Y => intro _; exact igStep h hY
set_option maxRecDepth 100000 in
set_option maxHeartbeats 8000000 in
theorem law_FnImages (A : Option Addr) (n c : Nat) (w : World) (h : Code w w.heap.size A n) (hn63 : n ≤ maxLen) :
 Calls Try.prog 11 #[.slice A n c] w fun e w' => e = .returned (.bool true) ∧ Below w.heap.size w w' := by
 have HV := Lib.hid (fun w => vBig_any A n c w)
 by_cases hbig : (65536 : Int) < n
 · rw [decide_eq_true hbig] at HV
   go_enter Try.func11, Try.ntmps11
   go_wp2_with (go_at_call 40; refine (HV.out _).mono ?_; rintro e w' ⟨rfl, hb⟩)
   go_ret
   exact ⟨rfl, (by repeat (first | exact ext_refl _ | assumption | refine ext_alloc ?_ _ | refine ext_drew ?_ | refine ext_drewN ?_ _ | refine ext_set ?_ (by simp <;> omega) _ | refine ext_trans ?_ (by assumption)))⟩
 · rw [decide_eq_false hbig] at HV
   have hn : n ≤ 65536 := by omega
   have H := Lib.hid h
   clear h hbig hn63
   go_enter Try.func11, Try.ntmps11
   go_wp2_with fail
   refine (HV.out _).mono ?_
   rintro e w1 ⟨rfl, hb⟩
   have s1 : w.heap.size ≤ w1.heap.size := (by have := hb.size; (try simp at this); omega)
   have b1 := Lib.hid (ext_trans (ext_refl w) hb)
   have t1 : w.heap.size ≤ w1.heap.size := b1.out.size
   clear hb
   go_wp2_with fail
   refine (drawBeatsLeft_any A n c _ ((H.out.below b1.out).more b1.out.size) hn).mono ?_
   rintro e w2 ⟨q, Ama, cma, Amk, cmk, Ami, cmi, rfl, hl9, hk9, hi9, ho_ma, ho_mk, ho_mi, hb⟩
   have s2 : w1.heap.size ≤ w2.heap.size := (by have := hb.size; (try simp at this); omega)
   have b2 := Lib.hid (ext_trans b1.out hb)
   have t2 : w.heap.size ≤ w2.heap.size := b2.out.size
   clear hb
   have oc_ma := Lib.hid (own_base (base' := w1.heap.size + 0) ho_ma (by simp))
   clear ho_ma
   have oc_mk := Lib.hid (own_base (base' := w1.heap.size + 0) ho_mk (by simp))
   clear ho_mk
   have oc_mi := Lib.hid (own_base (base' := w1.heap.size + 0) ho_mi (by simp))
   clear ho_mi
   have HB := Lib.hid (fun (w : World) h hc hi => implBeatsLeft_any q.u q.lo Ama q.l.length cma q.l Amk q.cl.length cmk q.cl Ami q.im.length cmi q.im q.be q.gu w (by omega) (by omega) (by omega) h hc hi)
   have HA := Lib.hid (fun (w : World) h hc hi => specBeatsLeft_any q.u q.lo Ama q.l.length cma q.l Amk q.cl.length cmk q.cl Ami q.im.length cmi q.im q.be q.gu w (by omega) (by omega) (by omega) h hc hi)
   have hlaw := igBeats q
   obtain ⟨bt, hbt⟩ : ∃ x, btV ⟨q.u, q.lo, q.l, q.cl, q.im, q.be, q.gu⟩ = x := ⟨_, rfl⟩
   rw [hbt] at HA HB
   rw [show btV q = bt from hbt] at hlaw
   obtain ⟨ok, hok⟩ : ∃ x, decide (0 < bt) = x := ⟨_, rfl⟩
   rw [hok] at HA HB hlaw
   have HLAW := Lib.hid hlaw
   have hkk : (ok != ok) = false := by cases ok <;> rfl
   have hcc : (bt != bt) = false := by simp
   clear hbt hok hlaw
   go_wp2_with fail
   refine (HB.out _ (Reads.of_own (oc_ma.out.alloc _)) (Reads.of_own (oc_mk.out.alloc _)) (Reads.of_own (oc_mi.out.alloc _))).mono ?_
   rintro e w3 ⟨rfl, hb⟩
   have s3 : w2.heap.size + 1 ≤ w3.heap.size := (by have := hb.size; (try simp at this); omega)
   have z3_0 : w2.heap.size < w3.heap.size := (by omega)
   have q3_0 : w3.cell? ⟨w2.heap.size, 0, none⟩ = some (.int .i64 q.u) := ext_cell hb (by simp [go_sem])
   have q3_1 : w3.cell? ⟨w2.heap.size, 1, none⟩ = some (.int .i64 q.lo) := ext_cell hb (by simp [go_sem])
   have q3_2 : w3.cell? ⟨w2.heap.size, 2, none⟩ = some (.slice Ama q.l.length cma) := ext_cell hb (by simp [go_sem])
   have q3_3 : w3.cell? ⟨w2.heap.size, 3, none⟩ = some (.slice Amk q.cl.length cmk) := ext_cell hb (by simp [go_sem])
   have q3_4 : w3.cell? ⟨w2.heap.size, 4, none⟩ = some (.slice Ami q.im.length cmi) := ext_cell hb (by simp [go_sem])
   have q3_5 : w3.cell? ⟨w2.heap.size, 5, none⟩ = some (.int .i64 q.be) := ext_cell hb (by simp [go_sem])
   have q3_6 : w3.cell? ⟨w2.heap.size, 6, none⟩ = some (.int .i64 q.gu) := ext_cell hb (by simp [go_sem])
   have b3 := Lib.hid (ext_trans (ext_alloc b2.out _) hb)
   have t3 : w.heap.size ≤ w3.heap.size := b3.out.size
   have o3_ma := Lib.hid (own_ext (oc_ma.out.alloc _) hb)
   have o3_mk := Lib.hid (own_ext (oc_mk.out.alloc _) hb)
   have o3_mi := Lib.hid (own_ext (oc_mi.out.alloc _) hb)
   clear hb
   go_wp2_with fail
   refine (HA.out _ (Reads.of_own o3_ma.out) (Reads.of_own o3_mk.out) (Reads.of_own o3_mi.out)).mono ?_
   rintro e w4 ⟨rfl, hb⟩
   have s4 : w3.heap.size ≤ w4.heap.size := (by have := hb.size; (try simp at this); omega)
   have z4_0 : w2.heap.size < w4.heap.size := (by omega)
   have q4_0 : w4.cell? ⟨w2.heap.size, 0, none⟩ = some (.int .i64 q.u) := ext_cell hb q3_0
   have q4_1 : w4.cell? ⟨w2.heap.size, 1, none⟩ = some (.int .i64 q.lo) := ext_cell hb q3_1
   have q4_2 : w4.cell? ⟨w2.heap.size, 2, none⟩ = some (.slice Ama q.l.length cma) := ext_cell hb q3_2
   have q4_3 : w4.cell? ⟨w2.heap.size, 3, none⟩ = some (.slice Amk q.cl.length cmk) := ext_cell hb q3_3
   have q4_4 : w4.cell? ⟨w2.heap.size, 4, none⟩ = some (.slice Ami q.im.length cmi) := ext_cell hb q3_4
   have q4_5 : w4.cell? ⟨w2.heap.size, 5, none⟩ = some (.int .i64 q.be) := ext_cell hb q3_5
   have q4_6 : w4.cell? ⟨w2.heap.size, 6, none⟩ = some (.int .i64 q.gu) := ext_cell hb q3_6
   have b4 := Lib.hid (ext_trans b3.out hb)
   have t4 : w.heap.size ≤ w4.heap.size := b4.out.size
   have o4_ma := Lib.hid (own_ext o3_ma.out hb)
   have o4_mk := Lib.hid (own_ext o3_mk.out hb)
   have o4_mi := Lib.hid (own_ext o3_mi.out hb)
   clear q3_0 q3_1 q3_2 q3_3 q3_4 q3_5 q3_6
   clear hb
   go_upto_if 57 with fail
   go_cut [57] (fun s57 wx => Below w.heap.size w wx)
   case first => as_aux_lemma =>
    rcases ok with _ | _
    · go_wp2_with fail
      go_meet
      exact b4.out
    obtain ⟨hQ, hstep⟩ := HLAW.out rfl
    have HL1 := Lib.hid (fun (w : World) h hc hi => implLostRods_any q.u q.lo Ama q.l.length cma q.l Amk q.cl.length cmk q.cl Ami q.im.length cmi q.im q.be q.gu w (by omega) (by omega) (by omega) h hc hi)
    rw [show mdOK ⟨q.u, q.lo, q.l, q.cl, q.im, q.be, q.gu⟩ = true from hQ] at HL1
    have hz1 := lsO_len (q := q)
    obtain ⟨L1, hL1⟩ : ∃ L, lsO ⟨q.u, q.lo, q.l, q.cl, q.im, q.be, q.gu⟩ = L := ⟨_, rfl⟩
    rw [hL1] at HL1
    rw [show lsO q = L1 from hL1] at hz1 hstep
    have HST := Lib.hid (fun (w : World) h hc hi => (implStepMind_any q.u q.lo Ama q.l.length cma q.l Amk q.cl.length cmk q.cl Ami q.im.length cmi q.im q.be q.gu 1 bt w (by omega) (by omega) (by omega) h hc hi).mono (retU _ w))
    have hN := resQ_len (q := ⟨q.u, q.lo, q.l, q.cl, q.im, q.be, q.gu⟩) (k := 1) (v := bt)
    obtain ⟨O, hO⟩ : ∃ O, stepO ⟨q.u, q.lo, q.l, q.cl, q.im, q.be, q.gu⟩ 1 bt = O := ⟨_, rfl⟩
    rw [hO] at HST hN
    rw [show stepO q 1 bt = O from hO] at hstep
    obtain ⟨ok, hok⟩ : ∃ ok, O.isSome = ok := ⟨_, rfl⟩
    obtain ⟨Y, hY⟩ : ∃ Y, resQ O = Y := ⟨_, rfl⟩
    rw [hY, hok] at HST hstep
    rw [hY] at hN
    unfold RetU at HST
    obtain ⟨hN1, hN2, hN3⟩ := hN
    have HSTEP := Lib.hid hstep
    unfold RetSliceB at HL1
    obtain ⟨n1, hn1⟩ : ∃ n, L1.length = n := ⟨_, rfl⟩
    rw [hn1] at HL1 hz1
    have hz1 : n1 ≤ 1048576 := by omega
    have HN1 := Lib.hid hn1
    clear hO hok hY hstep hL1 hQ hn1
    go_wp2_with fail
    refine (HL1.out _ (Reads.of_own o4_ma.out) (Reads.of_own o4_mk.out) (Reads.of_own o4_mi.out)).mono ?_
    rintro e w5 ⟨Ab, cb, rfl, ho_b, hb⟩
    have s5 : w4.heap.size ≤ w5.heap.size := (by have := hb.size; (try simp at this); omega)
    have z5_0 : w2.heap.size < w5.heap.size := (by omega)
    have q5_0 : w5.cell? ⟨w2.heap.size, 0, none⟩ = some (.int .i64 q.u) := ext_cell hb q4_0
    have q5_1 : w5.cell? ⟨w2.heap.size, 1, none⟩ = some (.int .i64 q.lo) := ext_cell hb q4_1
    have q5_2 : w5.cell? ⟨w2.heap.size, 2, none⟩ = some (.slice Ama q.l.length cma) := ext_cell hb q4_2
    have q5_3 : w5.cell? ⟨w2.heap.size, 3, none⟩ = some (.slice Amk q.cl.length cmk) := ext_cell hb q4_3
    have q5_4 : w5.cell? ⟨w2.heap.size, 4, none⟩ = some (.slice Ami q.im.length cmi) := ext_cell hb q4_4
    have q5_5 : w5.cell? ⟨w2.heap.size, 5, none⟩ = some (.int .i64 q.be) := ext_cell hb q4_5
    have q5_6 : w5.cell? ⟨w2.heap.size, 6, none⟩ = some (.int .i64 q.gu) := ext_cell hb q4_6
    have b5 := Lib.hid (ext_trans b4.out hb)
    have t5 : w.heap.size ≤ w5.heap.size := b5.out.size
    have o5_ma := Lib.hid (own_ext o4_ma.out hb)
    have o5_mk := Lib.hid (own_ext o4_mk.out hb)
    have o5_mi := Lib.hid (own_ext o4_mi.out hb)
    clear q4_0 q4_1 q4_2 q4_3 q4_4 q4_5 q4_6
    have oc_b := Lib.hid (own_base (base' := w4.heap.size + 0) ho_b (by simp))
    clear ho_b
    clear hb
    go_wp2_with fail
    refine (HST.out _ (Reads.of_own o5_ma.out) (Reads.of_own o5_mk.out) (Reads.of_own o5_mi.out)).mono ?_
    rintro e w6 ⟨Aga, cga, Agk, cgk, Agi, cgi, rfl, hne, ho_ga, ho_gk, ho_gi, hb⟩
    have s6 : w5.heap.size ≤ w6.heap.size := (by have := hb.size; (try simp at this); omega)
    have z6_0 : w2.heap.size < w6.heap.size := (by omega)
    have q6_0 : w6.cell? ⟨w2.heap.size, 0, none⟩ = some (.int .i64 q.u) := ext_cell hb q5_0
    have q6_1 : w6.cell? ⟨w2.heap.size, 1, none⟩ = some (.int .i64 q.lo) := ext_cell hb q5_1
    have q6_2 : w6.cell? ⟨w2.heap.size, 2, none⟩ = some (.slice Ama q.l.length cma) := ext_cell hb q5_2
    have q6_3 : w6.cell? ⟨w2.heap.size, 3, none⟩ = some (.slice Amk q.cl.length cmk) := ext_cell hb q5_3
    have q6_4 : w6.cell? ⟨w2.heap.size, 4, none⟩ = some (.slice Ami q.im.length cmi) := ext_cell hb q5_4
    have q6_5 : w6.cell? ⟨w2.heap.size, 5, none⟩ = some (.int .i64 q.be) := ext_cell hb q5_5
    have q6_6 : w6.cell? ⟨w2.heap.size, 6, none⟩ = some (.int .i64 q.gu) := ext_cell hb q5_6
    have b6 := Lib.hid (ext_trans b5.out hb)
    have t6 : w.heap.size ≤ w6.heap.size := b6.out.size
    have o6_ma := Lib.hid (own_ext o5_ma.out hb)
    have o6_mk := Lib.hid (own_ext o5_mk.out hb)
    have o6_mi := Lib.hid (own_ext o5_mi.out hb)
    have o6_b := Lib.hid (own_ext oc_b.out hb)
    clear q5_0 q5_1 q5_2 q5_3 q5_4 q5_5 q5_6
    have oc_ga := Lib.hid (own_base (base' := w5.heap.size + 0) ho_ga (by simp))
    clear ho_ga
    have oc_gk := Lib.hid (own_base (base' := w5.heap.size + 0) ho_gk (by simp))
    clear ho_gk
    have oc_gi := Lib.hid (own_base (base' := w5.heap.size + 0) ho_gi (by simp))
    clear ho_gi
    clear hb
    clear hne
    rcases ok with _ | _
    · go_wp2_with fail
      go_meet
      exact (ext_alloc b6.out _)
    obtain ⟨hY, hlen, hsub⟩ := HSTEP.out rfl
    have HL2 := Lib.hid (fun (w : World) h hc hi => implLostRods_any Y.u Y.lo Aga Y.l.length cga Y.l Agk Y.cl.length cgk Y.cl Agi Y.im.length cgi Y.im Y.be Y.gu w hN1 hN2 hN3 h hc hi)
    rw [show mdOK ⟨Y.u, Y.lo, Y.l, Y.cl, Y.im, Y.be, Y.gu⟩ = true from hY] at HL2
    have hz2 := lsO_len (q := Y)
    obtain ⟨L2, hL2⟩ : ∃ L, lsO ⟨Y.u, Y.lo, Y.l, Y.cl, Y.im, Y.be, Y.gu⟩ = L := ⟨_, rfl⟩
    rw [hL2] at HL2
    rw [show lsO Y = L2 from hL2] at hlen hsub hz2
    obtain ⟨n2, hn2⟩ : ∃ n, L2.length = n := ⟨_, rfl⟩
    unfold RetSliceB at HL2
    rw [hn2] at HL2 hlen hz2
    rw [HN1.out] at hlen
    have hz2 : n2 ≤ 1048576 := by omega
    have HSUB := Lib.hid hsub
    have e1 : ¬ (n2 : Int) ≤ (n1 : Int) := by omega
    have e2 : decide ((n2 : Int) ≤ (n1 : Int)) = false := by simpa using hlen
    clear hsub hL2 hn2 hY hlen
    go_wp2_with fail
    refine (HL2.out _ (Reads.of_own (oc_ga.out.alloc _)) (Reads.of_own (oc_gk.out.alloc _)) (Reads.of_own (oc_gi.out.alloc _))).mono ?_
    rintro e w7 ⟨Af, cf, rfl, ho_f, hb⟩
    have s7 : w6.heap.size + 1 ≤ w7.heap.size := (by have := hb.size; (try simp at this); omega)
    have z7_0 : w2.heap.size < w7.heap.size := (by omega)
    have z7_1 : w6.heap.size < w7.heap.size := (by omega)
    have q7_0 : w7.cell? ⟨w2.heap.size, 0, none⟩ = some (.int .i64 q.u) := ext_cell hb (cell_old q6_0 _)
    have q7_1 : w7.cell? ⟨w2.heap.size, 1, none⟩ = some (.int .i64 q.lo) := ext_cell hb (cell_old q6_1 _)
    have q7_2 : w7.cell? ⟨w2.heap.size, 2, none⟩ = some (.slice Ama q.l.length cma) := ext_cell hb (cell_old q6_2 _)
    have q7_3 : w7.cell? ⟨w2.heap.size, 3, none⟩ = some (.slice Amk q.cl.length cmk) := ext_cell hb (cell_old q6_3 _)
    have q7_4 : w7.cell? ⟨w2.heap.size, 4, none⟩ = some (.slice Ami q.im.length cmi) := ext_cell hb (cell_old q6_4 _)
    have q7_5 : w7.cell? ⟨w2.heap.size, 5, none⟩ = some (.int .i64 q.be) := ext_cell hb (cell_old q6_5 _)
    have q7_6 : w7.cell? ⟨w2.heap.size, 6, none⟩ = some (.int .i64 q.gu) := ext_cell hb (cell_old q6_6 _)
    have q7_7 : w7.cell? ⟨w6.heap.size, 0, none⟩ = some (.int .i64 Y.u) := ext_cell hb (by simp [go_sem])
    have q7_8 : w7.cell? ⟨w6.heap.size, 1, none⟩ = some (.int .i64 Y.lo) := ext_cell hb (by simp [go_sem])
    have q7_9 : w7.cell? ⟨w6.heap.size, 2, none⟩ = some (.slice Aga Y.l.length cga) := ext_cell hb (by simp [go_sem])
    have q7_10 : w7.cell? ⟨w6.heap.size, 3, none⟩ = some (.slice Agk Y.cl.length cgk) := ext_cell hb (by simp [go_sem])
    have q7_11 : w7.cell? ⟨w6.heap.size, 4, none⟩ = some (.slice Agi Y.im.length cgi) := ext_cell hb (by simp [go_sem])
    have q7_12 : w7.cell? ⟨w6.heap.size, 5, none⟩ = some (.int .i64 Y.be) := ext_cell hb (by simp [go_sem])
    have q7_13 : w7.cell? ⟨w6.heap.size, 6, none⟩ = some (.int .i64 Y.gu) := ext_cell hb (by simp [go_sem])
    have b7 := Lib.hid (ext_trans (ext_alloc b6.out _) hb)
    have t7 : w.heap.size ≤ w7.heap.size := b7.out.size
    have o7_ma := Lib.hid (own_ext (o6_ma.out.alloc _) hb)
    have o7_mk := Lib.hid (own_ext (o6_mk.out.alloc _) hb)
    have o7_mi := Lib.hid (own_ext (o6_mi.out.alloc _) hb)
    have o7_b := Lib.hid (own_ext (o6_b.out.alloc _) hb)
    have o7_ga := Lib.hid (own_ext (oc_ga.out.alloc _) hb)
    have o7_gk := Lib.hid (own_ext (oc_gk.out.alloc _) hb)
    have o7_gi := Lib.hid (own_ext (oc_gi.out.alloc _) hb)
    clear q6_0 q6_1 q6_2 q6_3 q6_4 q6_5 q6_6
    have oc_f := Lib.hid (own_base (base' := w6.heap.size + 1) ho_f (by simp))
    clear ho_f
    clear hb
    go_wp2_with fail
    refine (vWithin_yes Ab Af n1 n2 cb cf L1 L2 _ hz1 hz2 (Reads.of_own o7_b.out) (Reads.of_own oc_f.out) HSUB.out).mono ?_
    rintro e w8 ⟨rfl, hb⟩
    have s8 : w7.heap.size ≤ w8.heap.size := (by have := hb.size; (try simp at this); omega)
    have z8_0 : w2.heap.size < w8.heap.size := (by omega)
    have z8_1 : w6.heap.size < w8.heap.size := (by omega)
    have q8_0 : w8.cell? ⟨w2.heap.size, 0, none⟩ = some (.int .i64 q.u) := ext_cell hb q7_0
    have q8_1 : w8.cell? ⟨w2.heap.size, 1, none⟩ = some (.int .i64 q.lo) := ext_cell hb q7_1
    have q8_2 : w8.cell? ⟨w2.heap.size, 2, none⟩ = some (.slice Ama q.l.length cma) := ext_cell hb q7_2
    have q8_3 : w8.cell? ⟨w2.heap.size, 3, none⟩ = some (.slice Amk q.cl.length cmk) := ext_cell hb q7_3
    have q8_4 : w8.cell? ⟨w2.heap.size, 4, none⟩ = some (.slice Ami q.im.length cmi) := ext_cell hb q7_4
    have q8_5 : w8.cell? ⟨w2.heap.size, 5, none⟩ = some (.int .i64 q.be) := ext_cell hb q7_5
    have q8_6 : w8.cell? ⟨w2.heap.size, 6, none⟩ = some (.int .i64 q.gu) := ext_cell hb q7_6
    have q8_7 : w8.cell? ⟨w6.heap.size, 0, none⟩ = some (.int .i64 Y.u) := ext_cell hb q7_7
    have q8_8 : w8.cell? ⟨w6.heap.size, 1, none⟩ = some (.int .i64 Y.lo) := ext_cell hb q7_8
    have q8_9 : w8.cell? ⟨w6.heap.size, 2, none⟩ = some (.slice Aga Y.l.length cga) := ext_cell hb q7_9
    have q8_10 : w8.cell? ⟨w6.heap.size, 3, none⟩ = some (.slice Agk Y.cl.length cgk) := ext_cell hb q7_10
    have q8_11 : w8.cell? ⟨w6.heap.size, 4, none⟩ = some (.slice Agi Y.im.length cgi) := ext_cell hb q7_11
    have q8_12 : w8.cell? ⟨w6.heap.size, 5, none⟩ = some (.int .i64 Y.be) := ext_cell hb q7_12
    have q8_13 : w8.cell? ⟨w6.heap.size, 6, none⟩ = some (.int .i64 Y.gu) := ext_cell hb q7_13
    have b8 := Lib.hid (ext_trans b7.out hb)
    have t8 : w.heap.size ≤ w8.heap.size := b8.out.size
    have o8_ma := Lib.hid (own_ext o7_ma.out hb)
    have o8_mk := Lib.hid (own_ext o7_mk.out hb)
    have o8_mi := Lib.hid (own_ext o7_mi.out hb)
    have o8_b := Lib.hid (own_ext o7_b.out hb)
    have o8_ga := Lib.hid (own_ext o7_ga.out hb)
    have o8_gk := Lib.hid (own_ext o7_gk.out hb)
    have o8_gi := Lib.hid (own_ext o7_gi.out hb)
    have o8_f := Lib.hid (own_ext oc_f.out hb)
    clear q7_0 q7_1 q7_2 q7_3 q7_4 q7_5 q7_6 q7_7 q7_8 q7_9 q7_10 q7_11 q7_12 q7_13
    clear hb
    go_wp2_with fail
    go_meet
    exact b8.out
   case rest => as_aux_lemma =>
    obtain ⟨w9, hw9⟩ : ∃ x : World, x = wc := ⟨_, rfl⟩
    subst hw9
    have b9 := Lib.hid hcut
    have t9 : w.heap.size ≤ w9.heap.size := hcut.size
    clear hcut
    clear HB HA HLAW hkk hcc hl9 hk9 hi9
    go_wp2_with fail
    refine (drawLostRods_any A n c _ ((H.out.below b9.out).more b9.out.size) hn).mono ?_
    rintro e w10 ⟨q, Axa, cxa, Axk, cxk, Axi, cxi, rfl, hl9, hk9, hi9, ho_xa, ho_xk, ho_xi, hb⟩
    have s10 : w9.heap.size ≤ w10.heap.size := (by have := hb.size; (try simp at this); omega)
    have b10 := Lib.hid (ext_trans b9.out hb)
    have t10 : w.heap.size ≤ w10.heap.size := b10.out.size
    clear hb
    have oc_xa := Lib.hid (own_base (base' := w9.heap.size + 0) ho_xa (by simp))
    clear ho_xa
    have oc_xk := Lib.hid (own_base (base' := w9.heap.size + 0) ho_xk (by simp))
    clear ho_xk
    have oc_xi := Lib.hid (own_base (base' := w9.heap.size + 0) ho_xi (by simp))
    clear ho_xi
    have HB := Lib.hid (fun (w : World) h hc hi => implLostRods_any q.u q.lo Axa q.l.length cxa q.l Axk q.cl.length cxk q.cl Axi q.im.length cxi q.im q.be q.gu w (by omega) (by omega) (by omega) h hc hi)
    have HA := Lib.hid (fun (w : World) h hc hi => specLostRods_any q.u q.lo Axa q.l.length cxa q.l Axk q.cl.length cxk q.cl Axi q.im.length cxi q.im q.be q.gu w (by omega) (by omega) (by omega) h hc hi)
    have HWB := Lib.hid (fun (w : World) h hc hi => implWrongRods_any q.u q.lo Axa q.l.length cxa q.l Axk q.cl.length cxk q.cl Axi q.im.length cxi q.im q.be q.gu w (by omega) (by omega) (by omega) h hc hi)
    have HWA := Lib.hid (fun (w : World) h hc hi => specWrongRods_any q.u q.lo Axa q.l.length cxa q.l Axk q.cl.length cxk q.cl Axi q.im.length cxi q.im q.be q.gu w (by omega) (by omega) (by omega) h hc hi)
    have HNB := Lib.hid (fun (w : World) h hc hi => implNumberInMind_any q.u q.lo Axa q.l.length cxa q.l Axk q.cl.length cxk q.cl Axi q.im.length cxi q.im q.be q.gu w (by omega) (by omega) (by omega) h hc hi)
    have HNA := Lib.hid (fun (w : World) h hc hi => specNumberInMind_any q.u q.lo Axa q.l.length cxa q.l Axk q.cl.length cxk q.cl Axi q.im.length cxi q.im q.be q.gu w (by omega) (by omega) (by omega) h hc hi)
    have HF := Lib.hid (fun (w : World) h => implNumberOn_any q.u q.lo Axa q.l.length cxa q.l w (by omega) h)
    have hwl := igWrong q
    have hkn := igKnown q
    have hsh := fun N => @igShown q N
    have hz1 := lsO_len (q := q)
    have hz2 := wrO_len (q := q)
    obtain ⟨ok, hok⟩ : ∃ x, mdOK ⟨q.u, q.lo, q.l, q.cl, q.im, q.be, q.gu⟩ = x := ⟨_, rfl⟩
    rw [hok] at HA HB HWA HWB
    rw [show mdOK q = ok from hok] at hkn
    obtain ⟨L1, hL1⟩ : ∃ L, lsO ⟨q.u, q.lo, q.l, q.cl, q.im, q.be, q.gu⟩ = L := ⟨_, rfl⟩
    rw [hL1] at HA HB
    rw [show lsO q = L1 from hL1] at hwl hkn hz1
    obtain ⟨L2, hL2⟩ : ∃ L, wrO ⟨q.u, q.lo, q.l, q.cl, q.im, q.be, q.gu⟩ = L := ⟨_, rfl⟩
    rw [hL2] at HWA HWB
    rw [show wrO q = L2 from hL2] at hwl hsh hz2
    obtain ⟨n1, hn1⟩ : ∃ n, L1.length = n := ⟨_, rfl⟩
    rw [hn1] at HA HB hkn hz1
    obtain ⟨n2, hn2⟩ : ∃ n, L2.length = n := ⟨_, rfl⟩
    rw [hn2] at HWA HWB hsh hz2
    obtain ⟨O, hO⟩ : ∃ O, nimO ⟨q.u, q.lo, q.l, q.cl, q.im, q.be, q.gu⟩ = O := ⟨_, rfl⟩
    rw [hO] at HNA HNB
    rw [show nimO q = O from hO] at hkn hsh
    have hz1 : n1 ≤ 1048576 := by omega
    have hz2 : n2 ≤ 1048576 := by omega
    have HWL := Lib.hid hwl
    have HN2 := Lib.hid hn2
    have hsh : O.isSome = true → frB q.u q.lo q.l = true ∧ ((O.getD 0 == numR q.l) = decide (n2 = 0)) := by
     intro h
     cases hO9 : O with
     | none => rw [hO9] at h; cases h
     | some N => exact hsh N hO9
    unfold RetNim at HNA HNB
    obtain ⟨okn, hokn⟩ : ∃ x, O.isSome = x := ⟨_, rfl⟩
    obtain ⟨N, hN⟩ : ∃ x, O.getD 0 = x := ⟨_, rfl⟩
    rw [hokn, hN] at HNA HNB hsh
    rw [hokn] at hkn
    have HKN := Lib.hid hkn
    have HSH := Lib.hid hsh
    have hkm : (okn != okn) = false := by cases okn <;> rfl
    have hNN : (N != N) = false := by simp
    clear hokn hN
    unfold RetSliceB at HA HB HWA HWB
    have hkk : (ok != ok) = false := by cases ok <;> rfl
    clear hwl hkn hsh hok hL1 hL2 hn1 hn2 hO
    go_wp2_with fail
    refine (HB.out _ (Reads.of_own (oc_xa.out.alloc _)) (Reads.of_own (oc_xk.out.alloc _)) (Reads.of_own (oc_xi.out.alloc _))).mono ?_
    rintro e w11 ⟨Ab, cb, rfl, ho_b, hb⟩
    have s11 : w10.heap.size + 1 ≤ w11.heap.size := (by have := hb.size; (try simp at this); omega)
    have z11_0 : w10.heap.size < w11.heap.size := (by omega)
    have q11_0 : w11.cell? ⟨w10.heap.size, 0, none⟩ = some (.int .i64 q.u) := ext_cell hb (by simp [go_sem])
    have q11_1 : w11.cell? ⟨w10.heap.size, 1, none⟩ = some (.int .i64 q.lo) := ext_cell hb (by simp [go_sem])
    have q11_2 : w11.cell? ⟨w10.heap.size, 2, none⟩ = some (.slice Axa q.l.length cxa) := ext_cell hb (by simp [go_sem])
    have q11_3 : w11.cell? ⟨w10.heap.size, 3, none⟩ = some (.slice Axk q.cl.length cxk) := ext_cell hb (by simp [go_sem])
    have q11_4 : w11.cell? ⟨w10.heap.size, 4, none⟩ = some (.slice Axi q.im.length cxi) := ext_cell hb (by simp [go_sem])
    have q11_5 : w11.cell? ⟨w10.heap.size, 5, none⟩ = some (.int .i64 q.be) := ext_cell hb (by simp [go_sem])
    have q11_6 : w11.cell? ⟨w10.heap.size, 6, none⟩ = some (.int .i64 q.gu) := ext_cell hb (by simp [go_sem])
    have b11 := Lib.hid (ext_trans (ext_alloc b10.out _) hb)
    have t11 : w.heap.size ≤ w11.heap.size := b11.out.size
    have o11_xa := Lib.hid (own_ext (oc_xa.out.alloc _) hb)
    have o11_xk := Lib.hid (own_ext (oc_xk.out.alloc _) hb)
    have o11_xi := Lib.hid (own_ext (oc_xi.out.alloc _) hb)
    have oc_b := Lib.hid (own_base (base' := w10.heap.size + 1) ho_b (by simp))
    clear ho_b
    clear hb
    go_wp2_with fail
    refine (HA.out _ (Reads.of_own o11_xa.out) (Reads.of_own o11_xk.out) (Reads.of_own o11_xi.out)).mono ?_
    rintro e w12 ⟨Aa, ca, rfl, ho_a, hb⟩
    have s12 : w11.heap.size ≤ w12.heap.size := (by have := hb.size; (try simp at this); omega)
    have z12_0 : w10.heap.size < w12.heap.size := (by omega)
    have q12_0 : w12.cell? ⟨w10.heap.size, 0, none⟩ = some (.int .i64 q.u) := ext_cell hb q11_0
    have q12_1 : w12.cell? ⟨w10.heap.size, 1, none⟩ = some (.int .i64 q.lo) := ext_cell hb q11_1
    have q12_2 : w12.cell? ⟨w10.heap.size, 2, none⟩ = some (.slice Axa q.l.length cxa) := ext_cell hb q11_2
    have q12_3 : w12.cell? ⟨w10.heap.size, 3, none⟩ = some (.slice Axk q.cl.length cxk) := ext_cell hb q11_3
    have q12_4 : w12.cell? ⟨w10.heap.size, 4, none⟩ = some (.slice Axi q.im.length cxi) := ext_cell hb q11_4
    have q12_5 : w12.cell? ⟨w10.heap.size, 5, none⟩ = some (.int .i64 q.be) := ext_cell hb q11_5
    have q12_6 : w12.cell? ⟨w10.heap.size, 6, none⟩ = some (.int .i64 q.gu) := ext_cell hb q11_6
    have b12 := Lib.hid (ext_trans b11.out hb)
    have t12 : w.heap.size ≤ w12.heap.size := b12.out.size
    have o12_xa := Lib.hid (own_ext o11_xa.out hb)
    have o12_xk := Lib.hid (own_ext o11_xk.out hb)
    have o12_xi := Lib.hid (own_ext o11_xi.out hb)
    have o12_b := Lib.hid (own_ext oc_b.out hb)
    clear q11_0 q11_1 q11_2 q11_3 q11_4 q11_5 q11_6
    have oc_a := Lib.hid (own_base (base' := w11.heap.size + 0) ho_a (by simp))
    clear ho_a
    clear hb
    go_wp2_with fail
    refine (vInts_same Ab Aa n1 cb ca L1 _ hz1 (Reads.of_own o12_b.out) (Reads.of_own oc_a.out)).mono ?_
    rintro e w13 ⟨rfl, hb⟩
    have s13 : w12.heap.size ≤ w13.heap.size := (by have := hb.size; (try simp at this); omega)
    have z13_0 : w10.heap.size < w13.heap.size := (by omega)
    have q13_0 : w13.cell? ⟨w10.heap.size, 0, none⟩ = some (.int .i64 q.u) := ext_cell hb q12_0
    have q13_1 : w13.cell? ⟨w10.heap.size, 1, none⟩ = some (.int .i64 q.lo) := ext_cell hb q12_1
    have q13_2 : w13.cell? ⟨w10.heap.size, 2, none⟩ = some (.slice Axa q.l.length cxa) := ext_cell hb q12_2
    have q13_3 : w13.cell? ⟨w10.heap.size, 3, none⟩ = some (.slice Axk q.cl.length cxk) := ext_cell hb q12_3
    have q13_4 : w13.cell? ⟨w10.heap.size, 4, none⟩ = some (.slice Axi q.im.length cxi) := ext_cell hb q12_4
    have q13_5 : w13.cell? ⟨w10.heap.size, 5, none⟩ = some (.int .i64 q.be) := ext_cell hb q12_5
    have q13_6 : w13.cell? ⟨w10.heap.size, 6, none⟩ = some (.int .i64 q.gu) := ext_cell hb q12_6
    have b13 := Lib.hid (ext_trans b12.out hb)
    have t13 : w.heap.size ≤ w13.heap.size := b13.out.size
    have o13_xa := Lib.hid (own_ext o12_xa.out hb)
    have o13_xk := Lib.hid (own_ext o12_xk.out hb)
    have o13_xi := Lib.hid (own_ext o12_xi.out hb)
    have o13_b := Lib.hid (own_ext o12_b.out hb)
    have o13_a := Lib.hid (own_ext oc_a.out hb)
    clear q12_0 q12_1 q12_2 q12_3 q12_4 q12_5 q12_6
    clear hb
    go_wp2_with fail
    refine (HWB.out _ (Reads.of_own o13_xa.out) (Reads.of_own o13_xk.out) (Reads.of_own o13_xi.out)).mono ?_
    rintro e w14 ⟨Ad, cd, rfl, ho_d, hb⟩
    have s14 : w13.heap.size ≤ w14.heap.size := (by have := hb.size; (try simp at this); omega)
    have z14_0 : w10.heap.size < w14.heap.size := (by omega)
    have q14_0 : w14.cell? ⟨w10.heap.size, 0, none⟩ = some (.int .i64 q.u) := ext_cell hb q13_0
    have q14_1 : w14.cell? ⟨w10.heap.size, 1, none⟩ = some (.int .i64 q.lo) := ext_cell hb q13_1
    have q14_2 : w14.cell? ⟨w10.heap.size, 2, none⟩ = some (.slice Axa q.l.length cxa) := ext_cell hb q13_2
    have q14_3 : w14.cell? ⟨w10.heap.size, 3, none⟩ = some (.slice Axk q.cl.length cxk) := ext_cell hb q13_3
    have q14_4 : w14.cell? ⟨w10.heap.size, 4, none⟩ = some (.slice Axi q.im.length cxi) := ext_cell hb q13_4
    have q14_5 : w14.cell? ⟨w10.heap.size, 5, none⟩ = some (.int .i64 q.be) := ext_cell hb q13_5
    have q14_6 : w14.cell? ⟨w10.heap.size, 6, none⟩ = some (.int .i64 q.gu) := ext_cell hb q13_6
    have b14 := Lib.hid (ext_trans b13.out hb)
    have t14 : w.heap.size ≤ w14.heap.size := b14.out.size
    have o14_xa := Lib.hid (own_ext o13_xa.out hb)
    have o14_xk := Lib.hid (own_ext o13_xk.out hb)
    have o14_xi := Lib.hid (own_ext o13_xi.out hb)
    have o14_b := Lib.hid (own_ext o13_b.out hb)
    have o14_a := Lib.hid (own_ext o13_a.out hb)
    clear q13_0 q13_1 q13_2 q13_3 q13_4 q13_5 q13_6
    have oc_d := Lib.hid (own_base (base' := w13.heap.size + 0) ho_d (by simp))
    clear ho_d
    clear hb
    go_wp2_with fail
    refine (HWA.out _ (Reads.of_own o14_xa.out) (Reads.of_own o14_xk.out) (Reads.of_own o14_xi.out)).mono ?_
    rintro e w15 ⟨Af, cf, rfl, ho_f, hb⟩
    have s15 : w14.heap.size ≤ w15.heap.size := (by have := hb.size; (try simp at this); omega)
    have z15_0 : w10.heap.size < w15.heap.size := (by omega)
    have q15_0 : w15.cell? ⟨w10.heap.size, 0, none⟩ = some (.int .i64 q.u) := ext_cell hb q14_0
    have q15_1 : w15.cell? ⟨w10.heap.size, 1, none⟩ = some (.int .i64 q.lo) := ext_cell hb q14_1
    have q15_2 : w15.cell? ⟨w10.heap.size, 2, none⟩ = some (.slice Axa q.l.length cxa) := ext_cell hb q14_2
    have q15_3 : w15.cell? ⟨w10.heap.size, 3, none⟩ = some (.slice Axk q.cl.length cxk) := ext_cell hb q14_3
    have q15_4 : w15.cell? ⟨w10.heap.size, 4, none⟩ = some (.slice Axi q.im.length cxi) := ext_cell hb q14_4
    have q15_5 : w15.cell? ⟨w10.heap.size, 5, none⟩ = some (.int .i64 q.be) := ext_cell hb q14_5
    have q15_6 : w15.cell? ⟨w10.heap.size, 6, none⟩ = some (.int .i64 q.gu) := ext_cell hb q14_6
    have b15 := Lib.hid (ext_trans b14.out hb)
    have t15 : w.heap.size ≤ w15.heap.size := b15.out.size
    have o15_xa := Lib.hid (own_ext o14_xa.out hb)
    have o15_xk := Lib.hid (own_ext o14_xk.out hb)
    have o15_xi := Lib.hid (own_ext o14_xi.out hb)
    have o15_b := Lib.hid (own_ext o14_b.out hb)
    have o15_a := Lib.hid (own_ext o14_a.out hb)
    have o15_d := Lib.hid (own_ext oc_d.out hb)
    clear q14_0 q14_1 q14_2 q14_3 q14_4 q14_5 q14_6
    have oc_f := Lib.hid (own_base (base' := w14.heap.size + 0) ho_f (by simp))
    clear ho_f
    clear hb
    go_wp2_with fail
    refine (vInts_same Ad Af n2 cd cf L2 _ hz2 (Reads.of_own o15_d.out) (Reads.of_own oc_f.out)).mono ?_
    rintro e w16 ⟨rfl, hb⟩
    have s16 : w15.heap.size ≤ w16.heap.size := (by have := hb.size; (try simp at this); omega)
    have z16_0 : w10.heap.size < w16.heap.size := (by omega)
    have q16_0 : w16.cell? ⟨w10.heap.size, 0, none⟩ = some (.int .i64 q.u) := ext_cell hb q15_0
    have q16_1 : w16.cell? ⟨w10.heap.size, 1, none⟩ = some (.int .i64 q.lo) := ext_cell hb q15_1
    have q16_2 : w16.cell? ⟨w10.heap.size, 2, none⟩ = some (.slice Axa q.l.length cxa) := ext_cell hb q15_2
    have q16_3 : w16.cell? ⟨w10.heap.size, 3, none⟩ = some (.slice Axk q.cl.length cxk) := ext_cell hb q15_3
    have q16_4 : w16.cell? ⟨w10.heap.size, 4, none⟩ = some (.slice Axi q.im.length cxi) := ext_cell hb q15_4
    have q16_5 : w16.cell? ⟨w10.heap.size, 5, none⟩ = some (.int .i64 q.be) := ext_cell hb q15_5
    have q16_6 : w16.cell? ⟨w10.heap.size, 6, none⟩ = some (.int .i64 q.gu) := ext_cell hb q15_6
    have b16 := Lib.hid (ext_trans b15.out hb)
    have t16 : w.heap.size ≤ w16.heap.size := b16.out.size
    have o16_xa := Lib.hid (own_ext o15_xa.out hb)
    have o16_xk := Lib.hid (own_ext o15_xk.out hb)
    have o16_xi := Lib.hid (own_ext o15_xi.out hb)
    have o16_b := Lib.hid (own_ext o15_b.out hb)
    have o16_a := Lib.hid (own_ext o15_a.out hb)
    have o16_d := Lib.hid (own_ext o15_d.out hb)
    have o16_f := Lib.hid (own_ext oc_f.out hb)
    clear q15_0 q15_1 q15_2 q15_3 q15_4 q15_5 q15_6
    clear hb
    go_wp2_with fail
    go_loopw [23] (fun i wr => ∃ k : Nat, k ≤ n2 ∧ i = .int .i64 k ∧ Hid (Below w16.heap.size w16 wr)) (fun i _ => n2 - (intOf i).toNat)
    case atStart => exact ⟨0, Nat.zero_le _, rfl, Lib.hid (ext_refl _)⟩
    case round =>
     obtain ⟨k, hk, rfl, hbl⟩ := hrel
     by_cases hlt : k < n2
     · have h1 : (k : Int) < (n2 : Int) := by omega
       have h0 : (0 : Int) ≤ (k : Int) := by omega
       obtain ⟨x, hx⟩ := list_split (l := L2) (k := k) (by rw [HN2.out]; exact hlt)
       have HNI := Lib.hid (HWL.out x (List.mem_of_getElem? hx))
       obtain ⟨b1, o1, hA1, hb1, a1⟩ := ints_at (Reads.of_own (own_ext o16_d.out hbl.out)) hx
       subst hA1
       clear hx
       go_wp2_with fail
       refine (vHas_no Ab n1 cb L1 x _ hz1 (Reads.of_own (own_ext o16_b.out hbl.out)) HNI.out).mono ?_
       rintro e wA ⟨rfl, hb⟩
       have hbA := Lib.hid (ext_trans hbl.out hb)
       clear hb
       go_wp2_with fail
       go_roundw
       case rel => exact ⟨k + 1, by omega, by go_num, hbA⟩
       case measure => simp [intOf]; omega
     · have h1 : ¬ (k : Int) < (n2 : Int) := by omega
       have hb := hbl.out
       obtain ⟨w17, hw17⟩ : ∃ x : World, x = wr := ⟨_, rfl⟩
       subst hw17
       clear hbl
       have s17 : w16.heap.size ≤ w17.heap.size := (by have := hb.size; (try simp at this); omega)
       have z17_0 : w10.heap.size < w17.heap.size := (by omega)
       have q17_0 : w17.cell? ⟨w10.heap.size, 0, none⟩ = some (.int .i64 q.u) := ext_cell hb q16_0
       have q17_1 : w17.cell? ⟨w10.heap.size, 1, none⟩ = some (.int .i64 q.lo) := ext_cell hb q16_1
       have q17_2 : w17.cell? ⟨w10.heap.size, 2, none⟩ = some (.slice Axa q.l.length cxa) := ext_cell hb q16_2
       have q17_3 : w17.cell? ⟨w10.heap.size, 3, none⟩ = some (.slice Axk q.cl.length cxk) := ext_cell hb q16_3
       have q17_4 : w17.cell? ⟨w10.heap.size, 4, none⟩ = some (.slice Axi q.im.length cxi) := ext_cell hb q16_4
       have q17_5 : w17.cell? ⟨w10.heap.size, 5, none⟩ = some (.int .i64 q.be) := ext_cell hb q16_5
       have q17_6 : w17.cell? ⟨w10.heap.size, 6, none⟩ = some (.int .i64 q.gu) := ext_cell hb q16_6
       have b17 := Lib.hid (ext_trans b16.out hb)
       have t17 : w.heap.size ≤ w17.heap.size := b17.out.size
       have o17_xa := Lib.hid (own_ext o16_xa.out hb)
       have o17_xk := Lib.hid (own_ext o16_xk.out hb)
       have o17_xi := Lib.hid (own_ext o16_xi.out hb)
       have o17_b := Lib.hid (own_ext o16_b.out hb)
       have o17_a := Lib.hid (own_ext o16_a.out hb)
       have o17_d := Lib.hid (own_ext o16_d.out hb)
       have o17_f := Lib.hid (own_ext o16_f.out hb)
       clear q16_0 q16_1 q16_2 q16_3 q16_4 q16_5 q16_6
       clear hb
       go_wp2_with fail
       refine (HNB.out _ (Reads.of_own o17_xa.out) (Reads.of_own o17_xk.out) (Reads.of_own o17_xi.out)).mono ?_
       rintro e w18 ⟨rfl, hb⟩
       have s18 : w17.heap.size ≤ w18.heap.size := (by have := hb.size; (try simp at this); omega)
       have z18_0 : w10.heap.size < w18.heap.size := (by omega)
       have q18_0 : w18.cell? ⟨w10.heap.size, 0, none⟩ = some (.int .i64 q.u) := ext_cell hb q17_0
       have q18_1 : w18.cell? ⟨w10.heap.size, 1, none⟩ = some (.int .i64 q.lo) := ext_cell hb q17_1
       have q18_2 : w18.cell? ⟨w10.heap.size, 2, none⟩ = some (.slice Axa q.l.length cxa) := ext_cell hb q17_2
       have q18_3 : w18.cell? ⟨w10.heap.size, 3, none⟩ = some (.slice Axk q.cl.length cxk) := ext_cell hb q17_3
       have q18_4 : w18.cell? ⟨w10.heap.size, 4, none⟩ = some (.slice Axi q.im.length cxi) := ext_cell hb q17_4
       have q18_5 : w18.cell? ⟨w10.heap.size, 5, none⟩ = some (.int .i64 q.be) := ext_cell hb q17_5
       have q18_6 : w18.cell? ⟨w10.heap.size, 6, none⟩ = some (.int .i64 q.gu) := ext_cell hb q17_6
       have b18 := Lib.hid (ext_trans b17.out hb)
       have t18 : w.heap.size ≤ w18.heap.size := b18.out.size
       have o18_xa := Lib.hid (own_ext o17_xa.out hb)
       have o18_xk := Lib.hid (own_ext o17_xk.out hb)
       have o18_xi := Lib.hid (own_ext o17_xi.out hb)
       have o18_b := Lib.hid (own_ext o17_b.out hb)
       have o18_a := Lib.hid (own_ext o17_a.out hb)
       have o18_d := Lib.hid (own_ext o17_d.out hb)
       have o18_f := Lib.hid (own_ext o17_f.out hb)
       clear q17_0 q17_1 q17_2 q17_3 q17_4 q17_5 q17_6
       clear hb
       go_wp2_with fail
       refine (HNA.out _ (Reads.of_own o18_xa.out) (Reads.of_own o18_xk.out) (Reads.of_own o18_xi.out)).mono ?_
       rintro e w19 ⟨rfl, hb⟩
       have s19 : w18.heap.size ≤ w19.heap.size := (by have := hb.size; (try simp at this); omega)
       have z19_0 : w10.heap.size < w19.heap.size := (by omega)
       have q19_0 : w19.cell? ⟨w10.heap.size, 0, none⟩ = some (.int .i64 q.u) := ext_cell hb q18_0
       have q19_1 : w19.cell? ⟨w10.heap.size, 1, none⟩ = some (.int .i64 q.lo) := ext_cell hb q18_1
       have q19_2 : w19.cell? ⟨w10.heap.size, 2, none⟩ = some (.slice Axa q.l.length cxa) := ext_cell hb q18_2
       have q19_3 : w19.cell? ⟨w10.heap.size, 3, none⟩ = some (.slice Axk q.cl.length cxk) := ext_cell hb q18_3
       have q19_4 : w19.cell? ⟨w10.heap.size, 4, none⟩ = some (.slice Axi q.im.length cxi) := ext_cell hb q18_4
       have q19_5 : w19.cell? ⟨w10.heap.size, 5, none⟩ = some (.int .i64 q.be) := ext_cell hb q18_5
       have q19_6 : w19.cell? ⟨w10.heap.size, 6, none⟩ = some (.int .i64 q.gu) := ext_cell hb q18_6
       have b19 := Lib.hid (ext_trans b18.out hb)
       have t19 : w.heap.size ≤ w19.heap.size := b19.out.size
       have o19_xa := Lib.hid (own_ext o18_xa.out hb)
       have o19_xk := Lib.hid (own_ext o18_xk.out hb)
       have o19_xi := Lib.hid (own_ext o18_xi.out hb)
       have o19_b := Lib.hid (own_ext o18_b.out hb)
       have o19_a := Lib.hid (own_ext o18_a.out hb)
       have o19_d := Lib.hid (own_ext o18_d.out hb)
       have o19_f := Lib.hid (own_ext o18_f.out hb)
       clear q18_0 q18_1 q18_2 q18_3 q18_4 q18_5 q18_6
       clear hb
       go_upto_region 31 with fail
       go_cut [179] (fun s179 wx => s179 = .bool false ∧ w19 = wx)
       case first => as_aux_lemma =>
        rcases ok with _ | _
        · have h1 : okn = false := by have h := HKN.out; simpa using h
          subst h1
          go_wp2_with fail
          go_meet
          exact ⟨rfl, rfl⟩
        · by_cases h9 : n1 = 0
          · have e1 : ((n1 : Int) == 0) = true := by simp [h9]
            have h1 : okn = true := by have h := HKN.out; simpa [h9] using h
            subst h1
            clear h9
            go_wp2_with fail
            go_meet
            exact ⟨rfl, rfl⟩
          · have e1 : ((n1 : Int) == 0) = false := by simpa using h9
            have h1 : okn = false := by have h := HKN.out; simpa [h9] using h
            subst h1
            clear h9
            go_wp2_with fail
            go_meet
            exact ⟨rfl, rfl⟩
       case rest =>
        obtain ⟨rfl, rfl⟩ := hcut
        go_upto_if 180 with fail
        go_cut [180] (fun s180 wx => Below w.heap.size w wx)
        case first => as_aux_lemma =>
         rcases okn with _ | _
         · go_wp2_with fail
           go_meet
           exact b19.out
         obtain ⟨hfr, heq⟩ := HSH.out rfl
         rw [hfr, if_pos rfl] at HF
         obtain ⟨M, hM⟩ : ∃ x, numR q.l = x := ⟨_, rfl⟩
         rw [hM] at HF heq
         clear hfr hM
         go_wp2_with fail
         refine (HF.out _ (Reads.of_own o19_xa.out)).mono ?_
         rintro e w20 ⟨rfl, hb⟩
         have s20 : w19.heap.size ≤ w20.heap.size := (by have := hb.size; (try simp at this); omega)
         have z20_0 : w10.heap.size < w20.heap.size := (by omega)
         have q20_0 : w20.cell? ⟨w10.heap.size, 0, none⟩ = some (.int .i64 q.u) := ext_cell hb q19_0
         have q20_1 : w20.cell? ⟨w10.heap.size, 1, none⟩ = some (.int .i64 q.lo) := ext_cell hb q19_1
         have q20_2 : w20.cell? ⟨w10.heap.size, 2, none⟩ = some (.slice Axa q.l.length cxa) := ext_cell hb q19_2
         have q20_3 : w20.cell? ⟨w10.heap.size, 3, none⟩ = some (.slice Axk q.cl.length cxk) := ext_cell hb q19_3
         have q20_4 : w20.cell? ⟨w10.heap.size, 4, none⟩ = some (.slice Axi q.im.length cxi) := ext_cell hb q19_4
         have q20_5 : w20.cell? ⟨w10.heap.size, 5, none⟩ = some (.int .i64 q.be) := ext_cell hb q19_5
         have q20_6 : w20.cell? ⟨w10.heap.size, 6, none⟩ = some (.int .i64 q.gu) := ext_cell hb q19_6
         have b20 := Lib.hid (ext_trans b19.out hb)
         have t20 : w.heap.size ≤ w20.heap.size := b20.out.size
         have o20_xa := Lib.hid (own_ext o19_xa.out hb)
         have o20_xk := Lib.hid (own_ext o19_xk.out hb)
         have o20_xi := Lib.hid (own_ext o19_xi.out hb)
         have o20_b := Lib.hid (own_ext o19_b.out hb)
         have o20_a := Lib.hid (own_ext o19_a.out hb)
         have o20_d := Lib.hid (own_ext o19_d.out hb)
         have o20_f := Lib.hid (own_ext o19_f.out hb)
         clear q19_0 q19_1 q19_2 q19_3 q19_4 q19_5 q19_6
         clear hb
         by_cases h9 : n2 = 0
         · have e1 : ((n2 : Int) == 0) = true := by simp [h9]
           have e2 : (N == M) = true := by rw [heq]; simp [h9]
           clear heq h9
           go_wp2_with fail
           go_meet
           exact b20.out
         · have e1 : ((n2 : Int) == 0) = false := by simpa using h9
           have e2 : (N == M) = false := by rw [heq]; simp [h9]
           clear heq h9
           go_wp2_with fail
           go_meet
           exact b20.out
        case rest => as_aux_lemma =>
         obtain ⟨w21, hw21⟩ : ∃ x : World, x = wc := ⟨_, rfl⟩
         subst hw21
         have b21 := Lib.hid hcut
         have t21 : w.heap.size ≤ w21.heap.size := hcut.size
         clear hcut
         clear HB HA HWA HWB HNA HNB HF HWL HN2 HKN HSH hkk hkm hNN hz1 hz2 hl9 hk9 hi9
         go_wp2_with fail
         refine (drawMindText_any A n c _ ((H.out.below b21.out).more b21.out.size) hn).mono ?_
         rintro e w22 ⟨q, Aya, cya, Ayk, cyk, Ayi, cyi, rfl, hl9, hk9, hi9, ho_ya, ho_yk, ho_yi, hb⟩
         have s22 : w21.heap.size ≤ w22.heap.size := (by have := hb.size; (try simp at this); omega)
         have b22 := Lib.hid (ext_trans b21.out hb)
         have t22 : w.heap.size ≤ w22.heap.size := b22.out.size
         clear hb
         have oc_ya := Lib.hid (own_base (base' := w21.heap.size + 0) ho_ya (by simp))
         clear ho_ya
         have oc_yk := Lib.hid (own_base (base' := w21.heap.size + 0) ho_yk (by simp))
         clear ho_yk
         have oc_yi := Lib.hid (own_base (base' := w21.heap.size + 0) ho_yi (by simp))
         clear ho_yi
         have HB := Lib.hid (fun (w : World) h hc hi => implMindText_any q.u q.lo Aya q.l.length cya q.l Ayk q.cl.length cyk q.cl Ayi q.im.length cyi q.im q.be q.gu w (by omega) (by omega) (by omega) h hc hi)
         have HA := Lib.hid (fun (w : World) h hc hi => specMindText_any q.u q.lo Aya q.l.length cya q.l Ayk q.cl.length cyk q.cl Ayi q.im.length cyi q.im q.be q.gu w (by omega) (by omega) (by omega) h hc hi)
         have HM := Lib.hid (fun (w : World) h hc hi => isMind_any q.u q.lo Aya q.l.length cya q.l Ayk q.cl.length cyk q.cl Ayi q.im.length cyi q.im q.be q.gu w (by omega) (by omega) (by omega) h hc hi)
         obtain ⟨ok, hok⟩ : ∃ x, mdOK ⟨q.u, q.lo, q.l, q.cl, q.im, q.be, q.gu⟩ = x := ⟨_, rfl⟩
         rw [show mindB q.u q.lo q.l q.cl q.im q.be q.gu = ok from hok] at HM
         rw [hok] at HA HB
         obtain ⟨tx, htx⟩ : ∃ x, mtV ⟨q.u, q.lo, q.l, q.cl, q.im, q.be, q.gu⟩ = x := ⟨_, rfl⟩
         rw [htx] at HA HB
         unfold RetV at HM
         have hkk : (ok == ok) = true := by cases ok <;> rfl
         have htt := tx_yes (rfl : tx = tx)
         clear hok htx
         go_wp2_with fail
         refine (HB.out _ (Reads.of_own (oc_ya.out.alloc _)) (Reads.of_own (oc_yk.out.alloc _)) (Reads.of_own (oc_yi.out.alloc _))).mono ?_
         rintro e w23 ⟨rfl, hb⟩
         have s23 : w22.heap.size + 1 ≤ w23.heap.size := (by have := hb.size; (try simp at this); omega)
         have z23_0 : w22.heap.size < w23.heap.size := (by omega)
         have q23_0 : w23.cell? ⟨w22.heap.size, 0, none⟩ = some (.int .i64 q.u) := ext_cell hb (by simp [go_sem])
         have q23_1 : w23.cell? ⟨w22.heap.size, 1, none⟩ = some (.int .i64 q.lo) := ext_cell hb (by simp [go_sem])
         have q23_2 : w23.cell? ⟨w22.heap.size, 2, none⟩ = some (.slice Aya q.l.length cya) := ext_cell hb (by simp [go_sem])
         have q23_3 : w23.cell? ⟨w22.heap.size, 3, none⟩ = some (.slice Ayk q.cl.length cyk) := ext_cell hb (by simp [go_sem])
         have q23_4 : w23.cell? ⟨w22.heap.size, 4, none⟩ = some (.slice Ayi q.im.length cyi) := ext_cell hb (by simp [go_sem])
         have q23_5 : w23.cell? ⟨w22.heap.size, 5, none⟩ = some (.int .i64 q.be) := ext_cell hb (by simp [go_sem])
         have q23_6 : w23.cell? ⟨w22.heap.size, 6, none⟩ = some (.int .i64 q.gu) := ext_cell hb (by simp [go_sem])
         have b23 := Lib.hid (ext_trans (ext_alloc b22.out _) hb)
         have t23 : w.heap.size ≤ w23.heap.size := b23.out.size
         have o23_ya := Lib.hid (own_ext (oc_ya.out.alloc _) hb)
         have o23_yk := Lib.hid (own_ext (oc_yk.out.alloc _) hb)
         have o23_yi := Lib.hid (own_ext (oc_yi.out.alloc _) hb)
         clear hb
         go_wp2_with fail
         refine (HA.out _ (Reads.of_own o23_ya.out) (Reads.of_own o23_yk.out) (Reads.of_own o23_yi.out)).mono ?_
         rintro e w24 ⟨rfl, hb⟩
         have s24 : w23.heap.size ≤ w24.heap.size := (by have := hb.size; (try simp at this); omega)
         have z24_0 : w22.heap.size < w24.heap.size := (by omega)
         have q24_0 : w24.cell? ⟨w22.heap.size, 0, none⟩ = some (.int .i64 q.u) := ext_cell hb q23_0
         have q24_1 : w24.cell? ⟨w22.heap.size, 1, none⟩ = some (.int .i64 q.lo) := ext_cell hb q23_1
         have q24_2 : w24.cell? ⟨w22.heap.size, 2, none⟩ = some (.slice Aya q.l.length cya) := ext_cell hb q23_2
         have q24_3 : w24.cell? ⟨w22.heap.size, 3, none⟩ = some (.slice Ayk q.cl.length cyk) := ext_cell hb q23_3
         have q24_4 : w24.cell? ⟨w22.heap.size, 4, none⟩ = some (.slice Ayi q.im.length cyi) := ext_cell hb q23_4
         have q24_5 : w24.cell? ⟨w22.heap.size, 5, none⟩ = some (.int .i64 q.be) := ext_cell hb q23_5
         have q24_6 : w24.cell? ⟨w22.heap.size, 6, none⟩ = some (.int .i64 q.gu) := ext_cell hb q23_6
         have b24 := Lib.hid (ext_trans b23.out hb)
         have t24 : w.heap.size ≤ w24.heap.size := b24.out.size
         have o24_ya := Lib.hid (own_ext o23_ya.out hb)
         have o24_yk := Lib.hid (own_ext o23_yk.out hb)
         have o24_yi := Lib.hid (own_ext o23_yi.out hb)
         clear q23_0 q23_1 q23_2 q23_3 q23_4 q23_5 q23_6
         clear hb
         go_wp2_with fail
         refine (HM.out _ (Reads.of_own o24_ya.out) (Reads.of_own o24_yk.out) (Reads.of_own o24_yi.out)).mono ?_
         rintro e w25 ⟨rfl, hb⟩
         have s25 : w24.heap.size ≤ w25.heap.size := (by have := hb.size; (try simp at this); omega)
         have z25_0 : w22.heap.size < w25.heap.size := (by omega)
         have q25_0 : w25.cell? ⟨w22.heap.size, 0, none⟩ = some (.int .i64 q.u) := ext_cell hb q24_0
         have q25_1 : w25.cell? ⟨w22.heap.size, 1, none⟩ = some (.int .i64 q.lo) := ext_cell hb q24_1
         have q25_2 : w25.cell? ⟨w22.heap.size, 2, none⟩ = some (.slice Aya q.l.length cya) := ext_cell hb q24_2
         have q25_3 : w25.cell? ⟨w22.heap.size, 3, none⟩ = some (.slice Ayk q.cl.length cyk) := ext_cell hb q24_3
         have q25_4 : w25.cell? ⟨w22.heap.size, 4, none⟩ = some (.slice Ayi q.im.length cyi) := ext_cell hb q24_4
         have q25_5 : w25.cell? ⟨w22.heap.size, 5, none⟩ = some (.int .i64 q.be) := ext_cell hb q24_5
         have q25_6 : w25.cell? ⟨w22.heap.size, 6, none⟩ = some (.int .i64 q.gu) := ext_cell hb q24_6
         have b25 := Lib.hid (ext_trans b24.out hb)
         have t25 : w.heap.size ≤ w25.heap.size := b25.out.size
         have o25_ya := Lib.hid (own_ext o24_ya.out hb)
         have o25_yk := Lib.hid (own_ext o24_yk.out hb)
         have o25_yi := Lib.hid (own_ext o24_yi.out hb)
         clear q24_0 q24_1 q24_2 q24_3 q24_4 q24_5 q24_6
         clear hb
         go_wp2
         go_ret
         exact ⟨rfl, b25.out⟩
end Go.Proofs.Ytlkfffohjeoooaa
