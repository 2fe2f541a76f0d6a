/- The law FnFrames, walked. -/
import Derived.Deep.CutBlock
import Derived.Test.YtfmenkhfhibmeaaVM9
import Derived.Test.YtfmenkhfhibmeaaVM8
import Derived.Test.YtfmenkhfhibmeaaVPfB
import Derived.Test.YtfmenkhfhibmeaaVM4
import Derived.Test.YtfmenkhfhibmeaaVM1
import Derived.Test.YtfmenkhfhibmeaaVVFr
namespace Go.Proofs.Ytfmenkhfhibmeaa
open Go.RowKit
set_option linter.unusedVariables false
set_option linter.unusedSimpArgs false
set_option maxRecDepth 100000 in
set_option maxHeartbeats 8000000 in
theorem law_FnFrames (A : Option Addr) (n c : Nat) (w : World) (h : Code w w.heap.size A n) (hn63 : n ≤ maxLen) :
 Calls Try.prog 3 #[.slice A n c] w fun e w' => e = .returned (.bool true) ∧ Below w.heap.size w w' := by
 have HV := Lib.hid (fun w => vBig_any A n c w)
 by_cases hbig : (65536 : Int) < n
 · rw [decide_eq_true hbig] at HV
   go_enter Try.func3, Try.ntmps3
   go_wp2_with (go_at_call 6; refine (HV.out _).mono ?_; rintro e w' ⟨rfl, hb⟩)
   go_ret
   exact ⟨rfl, (by repeat (first | exact ext_refl _ | assumption | refine ext_alloc ?_ _ | refine ext_drew ?_ | refine ext_drewN ?_ _ | refine ext_set ?_ (by simp <;> omega) _ | refine ext_trans ?_ (by assumption)))⟩
 · rw [decide_eq_false hbig] at HV
   have hn : n ≤ 65536 := by omega
   have H := Lib.hid h
   clear h hbig hn63
   go_enter Try.func3, Try.ntmps3
   go_wp2_with fail
   refine (HV.out _).mono ?_
   rintro e w1 ⟨rfl, hb⟩
   have s1 : w.heap.size ≤ w1.heap.size := (by have := hb.size; (try simp at this); omega)
   have b1 := Lib.hid (ext_trans (ext_refl w) hb)
   have t1 : w.heap.size ≤ w1.heap.size := b1.out.size
   clear hb
   go_wp2_with fail
   refine (drawFrameText_any A n c _ ((H.out.below b1.out).more b1.out.size) hn).mono ?_
   rintro e w2 ⟨u, lo, l, As, cs, rfl, hIN, ho_s, hb⟩
   have s2 : w1.heap.size ≤ w2.heap.size := (by have := hb.size; (try simp at this); omega)
   have b2 := Lib.hid (ext_trans b1.out hb)
   have t2 : w.heap.size ≤ w2.heap.size := b2.out.size
   clear hb
   have oc_s := Lib.hid (own_base (base' := w1.heap.size + 0) ho_s (by simp))
   clear ho_s
   have hl9 : l.length ≤ 9 := hIN.2.2.2.2.2.1
   clear hIN
   have HTB := Lib.hid (fun (w : World) h => implFrameText_any u lo As l.length cs l w (by omega) h)
   have HTA := Lib.hid (fun (w : World) h => specFrameText_any u lo As l.length cs l w (by omega) h)
   have HI := Lib.hid (fun (w : World) h => isFrame_any u lo As l.length cs l w (by omega) h)
   have hts := ftV_size u lo hl9
   have hpt : frB u lo l = true → pfO (ftV u lo l) = some (u, lo, l) := pf_text
   have hpl := pfF_len (ftV u lo l)
   obtain ⟨T, hT⟩ : ∃ o9, ftV u lo l = o9 := ⟨_, rfl⟩
   rw [hT] at HTA HTB hts hpt hpl
   obtain ⟨b, hb⟩ : ∃ o9, frB u lo l = o9 := ⟨_, rfl⟩
   rw [hb] at HTA HTB HI hpt
   have HPB := Lib.hid (fun (w : World) => implParseFrame_any T w (by omega))
   obtain ⟨p, hp⟩ : ∃ o9, (pfO T).isSome = o9 := ⟨_, rfl⟩
   obtain ⟨R, hR⟩ : ∃ o9, (pfO T).getD (0, 0, []) = o9 := ⟨_, rfl⟩
   have hlaw : b = true → p = true ∧ R = (u, lo, l) := fun h => by
    have h2 := hpt h
    rw [h2] at hp hR
    exact ⟨hp.symm, hR.symm⟩
   rw [hp, hR] at HPB
   rw [hR] at hpl
   obtain ⟨U, LO, L⟩ := R
   unfold RetV at HTB HTA
   unfold RetFrB at HPB
   dsimp only at HPB hpl
   have HLAW := Lib.hid hlaw
   have k1 : (b != b) = false := by cases b <;> rfl
   clear hT hb hp hR hpt hlaw
   go_wp2_with fail
   refine (HTB.out _ (Reads.of_own (oc_s.out.alloc _))).mono ?_
   rintro e w3 ⟨rfl, hb⟩
   have s3 : w2.heap.size + 1 ≤ w3.heap.size := (by have := hb.size; (try simp at this); omega)
   have z3_0 : w2.heap.size < w3.heap.size := (by omega)
   have q3_0 : w3.cell? ⟨w2.heap.size, 0, none⟩ = some (.int .i64 u) := ext_cell hb (by simp [go_sem])
   have q3_1 : w3.cell? ⟨w2.heap.size, 1, none⟩ = some (.int .i64 lo) := ext_cell hb (by simp [go_sem])
   have q3_2 : w3.cell? ⟨w2.heap.size, 2, none⟩ = some (.slice As l.length cs) := ext_cell hb (by simp [go_sem])
   have b3 := Lib.hid (ext_trans (ext_alloc b2.out _) hb)
   have t3 : w.heap.size ≤ w3.heap.size := b3.out.size
   have o3_s := Lib.hid (own_ext (oc_s.out.alloc _) hb)
   clear hb
   go_wp2_with fail
   refine (HPB.out _).mono ?_
   rintro e w4 ⟨Ab, cb, rfl, ho_b, hb⟩
   have s4 : w3.heap.size ≤ w4.heap.size := (by have := hb.size; (try simp at this); omega)
   have z4_0 : w2.heap.size < w4.heap.size := (by omega)
   have q4_0 : w4.cell? ⟨w2.heap.size, 0, none⟩ = some (.int .i64 u) := ext_cell hb q3_0
   have q4_1 : w4.cell? ⟨w2.heap.size, 1, none⟩ = some (.int .i64 lo) := ext_cell hb q3_1
   have q4_2 : w4.cell? ⟨w2.heap.size, 2, none⟩ = some (.slice As l.length cs) := ext_cell hb q3_2
   have b4 := Lib.hid (ext_trans b3.out hb)
   have t4 : w.heap.size ≤ w4.heap.size := b4.out.size
   have o4_s := Lib.hid (own_ext o3_s.out hb)
   clear q3_0 q3_1 q3_2
   have oc_b := Lib.hid (own_base (base' := w3.heap.size + 0) ho_b (by simp))
   clear ho_b
   clear hb
   go_wp2_with fail
   refine (HTA.out _ (Reads.of_own (o4_s.out.alloc _))).mono ?_
   rintro e w5 ⟨rfl, hb⟩
   have s5 : w4.heap.size + 1 ≤ w5.heap.size := (by have := hb.size; (try simp at this); omega)
   have z5_0 : w2.heap.size < w5.heap.size := (by omega)
   have z5_1 : w4.heap.size < w5.heap.size := (by omega)
   have q5_0 : w5.cell? ⟨w2.heap.size, 0, none⟩ = some (.int .i64 u) := ext_cell hb (cell_old q4_0 _)
   have q5_1 : w5.cell? ⟨w2.heap.size, 1, none⟩ = some (.int .i64 lo) := ext_cell hb (cell_old q4_1 _)
   have q5_2 : w5.cell? ⟨w2.heap.size, 2, none⟩ = some (.slice As l.length cs) := ext_cell hb (cell_old q4_2 _)
   have q5_3 : w5.cell? ⟨w4.heap.size, 0, none⟩ = some (.int .i64 U) := ext_cell hb (by simp [go_sem])
   have q5_4 : w5.cell? ⟨w4.heap.size, 1, none⟩ = some (.int .i64 LO) := ext_cell hb (by simp [go_sem])
   have q5_5 : w5.cell? ⟨w4.heap.size, 2, none⟩ = some (.slice Ab L.length cb) := ext_cell hb (by simp [go_sem])
   have b5 := Lib.hid (ext_trans (ext_alloc b4.out _) hb)
   have t5 : w.heap.size ≤ w5.heap.size := b5.out.size
   have o5_s := Lib.hid (own_ext (o4_s.out.alloc _) hb)
   have o5_b := Lib.hid (own_ext (oc_b.out.alloc _) hb)
   clear q4_0 q4_1 q4_2
   clear hb
   go_upto_region 7 with fail
   go_cut [80] (fun s80 wx => s80 = .bool false ∧ Below w.heap.size w wx)
   case first => as_aux_lemma =>
    rcases b with _ | _
    · skip
      go_wp2_with fail
      refine (HI.out _ (Reads.of_own o5_s.out)).mono ?_
      rintro e w6 ⟨rfl, hb⟩
      have s6 : w5.heap.size ≤ w6.heap.size := (by have := hb.size; (try simp at this); omega)
      have z6_0 : w2.heap.size < w6.heap.size := (by omega)
      have z6_1 : w4.heap.size < w6.heap.size := (by omega)
      have q6_0 : w6.cell? ⟨w2.heap.size, 0, none⟩ = some (.int .i64 u) := ext_cell hb q5_0
      have q6_1 : w6.cell? ⟨w2.heap.size, 1, none⟩ = some (.int .i64 lo) := ext_cell hb q5_1
      have q6_2 : w6.cell? ⟨w2.heap.size, 2, none⟩ = some (.slice As l.length cs) := ext_cell hb q5_2
      have q6_3 : w6.cell? ⟨w4.heap.size, 0, none⟩ = some (.int .i64 U) := ext_cell hb q5_3
      have q6_4 : w6.cell? ⟨w4.heap.size, 1, none⟩ = some (.int .i64 LO) := ext_cell hb q5_4
      have q6_5 : w6.cell? ⟨w4.heap.size, 2, none⟩ = some (.slice Ab L.length cb) := ext_cell hb q5_5
      have b6 := Lib.hid (ext_trans b5.out hb)
      have t6 : w.heap.size ≤ w6.heap.size := b6.out.size
      have o6_s := Lib.hid (own_ext o5_s.out hb)
      have o6_b := Lib.hid (own_ext o5_b.out hb)
      clear q5_0 q5_1 q5_2 q5_3 q5_4 q5_5
      clear hb
      go_wp2_with fail
      go_meet
      exact ⟨rfl, b6.out⟩
    · obtain ⟨rfl, hRR⟩ := HLAW.out rfl
      have HVF := Lib.hid (fun (w : World) (h : Reads w w.heap.size 2 Ab L.length (rowsV2 L)) (h' : Reads w w.heap.size 2 As l.length (rowsV2 l)) => show Calls Try.prog 12 #[frV U LO Ab L.length cb, frV u lo As l.length cs] w (fun e w' => e = .returned (.bool true) ∧ Below w.heap.size w w') from by
       injection hRR with e1 e2
       injection e2 with e2 e3
       subst e1 e2 e3
       exact vFrame_same _ _ _ _ _ _ _ _ w (by omega) h h')
      go_wp2_with fail
      refine (HI.out _ (Reads.of_own o5_s.out)).mono ?_
      rintro e w6 ⟨rfl, hb⟩
      have s6 : w5.heap.size ≤ w6.heap.size := (by have := hb.size; (try simp at this); omega)
      have z6_0 : w2.heap.size < w6.heap.size := (by omega)
      have z6_1 : w4.heap.size < w6.heap.size := (by omega)
      have q6_0 : w6.cell? ⟨w2.heap.size, 0, none⟩ = some (.int .i64 u) := ext_cell hb q5_0
      have q6_1 : w6.cell? ⟨w2.heap.size, 1, none⟩ = some (.int .i64 lo) := ext_cell hb q5_1
      have q6_2 : w6.cell? ⟨w2.heap.size, 2, none⟩ = some (.slice As l.length cs) := ext_cell hb q5_2
      have q6_3 : w6.cell? ⟨w4.heap.size, 0, none⟩ = some (.int .i64 U) := ext_cell hb q5_3
      have q6_4 : w6.cell? ⟨w4.heap.size, 1, none⟩ = some (.int .i64 LO) := ext_cell hb q5_4
      have q6_5 : w6.cell? ⟨w4.heap.size, 2, none⟩ = some (.slice Ab L.length cb) := ext_cell hb q5_5
      have b6 := Lib.hid (ext_trans b5.out hb)
      have t6 : w.heap.size ≤ w6.heap.size := b6.out.size
      have o6_s := Lib.hid (own_ext o5_s.out hb)
      have o6_b := Lib.hid (own_ext o5_b.out hb)
      clear q5_0 q5_1 q5_2 q5_3 q5_4 q5_5
      clear hb
      go_wp2_with fail
      refine (HVF.out _ (Reads.of_own o6_b.out) (Reads.of_own o6_s.out)).mono ?_
      rintro e w7 ⟨rfl, hb⟩
      have s7 : w6.heap.size ≤ w7.heap.size := (by have := hb.size; (try simp at this); omega)
      have z7_0 : w2.heap.size < w7.heap.size := (by omega)
      have z7_1 : w4.heap.size < w7.heap.size := (by omega)
      have q7_0 : w7.cell? ⟨w2.heap.size, 0, none⟩ = some (.int .i64 u) := ext_cell hb q6_0
      have q7_1 : w7.cell? ⟨w2.heap.size, 1, none⟩ = some (.int .i64 lo) := ext_cell hb q6_1
      have q7_2 : w7.cell? ⟨w2.heap.size, 2, none⟩ = some (.slice As l.length cs) := ext_cell hb q6_2
      have q7_3 : w7.cell? ⟨w4.heap.size, 0, none⟩ = some (.int .i64 U) := ext_cell hb q6_3
      have q7_4 : w7.cell? ⟨w4.heap.size, 1, none⟩ = some (.int .i64 LO) := ext_cell hb q6_4
      have q7_5 : w7.cell? ⟨w4.heap.size, 2, none⟩ = some (.slice Ab L.length cb) := ext_cell hb q6_5
      have b7 := Lib.hid (ext_trans b6.out hb)
      have t7 : w.heap.size ≤ w7.heap.size := b7.out.size
      have o7_s := Lib.hid (own_ext o6_s.out hb)
      have o7_b := Lib.hid (own_ext o6_b.out hb)
      clear q6_0 q6_1 q6_2 q6_3 q6_4 q6_5
      clear hb
      go_wp2_with fail
      go_meet
      exact ⟨rfl, b7.out⟩
   case rest => as_aux_lemma =>
    obtain ⟨rfl, hcut⟩ := hcut
    obtain ⟨w6, hw6⟩ : ∃ x : World, x = wc := ⟨_, rfl⟩
    subst hw6
    have b6 := Lib.hid hcut
    have t6 : w.heap.size ≤ w6.heap.size := hcut.size
    clear hcut
    clear HLAW HTA HTB HI HPB k1 hl9 hts hpl
    go_wp2_with fail
    refine (drawParseFrame_any A n c _ ((H.out.below b6.out).more b6.out.size) hn).mono ?_
    rintro e w7 ⟨S, rfl, hS, hb⟩
    have s7 : w6.heap.size ≤ w7.heap.size := (by have := hb.size; (try simp at this); omega)
    have b7 := Lib.hid (ext_trans b6.out hb)
    have t7 : w.heap.size ≤ w7.heap.size := b7.out.size
    clear hb
    have HPB := Lib.hid (fun (w : World) => implParseFrame_any S w (by omega))
    have HPA := Lib.hid (fun (w : World) => specParseFrame_any S w (by omega))
    have hlaw := pf_back S
    have hpl := pfF_len S
    obtain ⟨p, hp⟩ : ∃ o9, (pfO S).isSome = o9 := ⟨_, rfl⟩
    obtain ⟨R, hR⟩ : ∃ o9, (pfO S).getD (0, 0, []) = o9 := ⟨_, rfl⟩
    rw [hp, hR] at HPB HPA hlaw
    rw [hR] at hpl
    obtain ⟨U, LO, L⟩ := R
    unfold RetFrB at HPB HPA
    dsimp only at HPB HPA hpl hlaw
    have HTX := Lib.hid (fun (w : World) (Ax : Option Addr) (cx : Nat) h => implFrameText_any U LO Ax L.length cx L w (by omega) h)
    obtain ⟨T, hT⟩ : ∃ o9, ftV U LO L = o9 := ⟨_, rfl⟩
    obtain ⟨b, hb⟩ : ∃ o9, frB U LO L = o9 := ⟨_, rfl⟩
    rw [hT, hb] at HTX hlaw
    unfold RetV at HTX
    have HLAW := Lib.hid hlaw
    have k1 : (p != p) = false := by cases p <;> rfl
    clear hp hR hT hb hlaw
    go_wp2_with fail
    refine (HPB.out _).mono ?_
    rintro e w8 ⟨Ab, cb, rfl, ho_b, hb⟩
    have s8 : w7.heap.size ≤ w8.heap.size := (by have := hb.size; (try simp at this); omega)
    have b8 := Lib.hid (ext_trans b7.out hb)
    have t8 : w.heap.size ≤ w8.heap.size := b8.out.size
    have oc_b := Lib.hid (own_base (base' := w7.heap.size + 0) ho_b (by simp))
    clear ho_b
    clear hb
    go_wp2_with fail
    refine (HTX.out _ Ab cb (Reads.of_own (oc_b.out.alloc _))).mono ?_
    rintro e w9 ⟨rfl, hb⟩
    have s9 : w8.heap.size + 1 ≤ w9.heap.size := (by have := hb.size; (try simp at this); omega)
    have z9_0 : w8.heap.size < w9.heap.size := (by omega)
    have q9_0 : w9.cell? ⟨w8.heap.size, 0, none⟩ = some (.int .i64 U) := ext_cell hb (by simp [go_sem])
    have q9_1 : w9.cell? ⟨w8.heap.size, 1, none⟩ = some (.int .i64 LO) := ext_cell hb (by simp [go_sem])
    have q9_2 : w9.cell? ⟨w8.heap.size, 2, none⟩ = some (.slice Ab L.length cb) := ext_cell hb (by simp [go_sem])
    have b9 := Lib.hid (ext_trans (ext_alloc b8.out _) hb)
    have t9 : w.heap.size ≤ w9.heap.size := b9.out.size
    have o9_b := Lib.hid (own_ext (oc_b.out.alloc _) hb)
    clear hb
    go_wp2_with fail
    refine (HPA.out _).mono ?_
    rintro e w10 ⟨Aa, ca, rfl, ho_a, hb⟩
    have s10 : w9.heap.size ≤ w10.heap.size := (by have := hb.size; (try simp at this); omega)
    have z10_0 : w8.heap.size < w10.heap.size := (by omega)
    have q10_0 : w10.cell? ⟨w8.heap.size, 0, none⟩ = some (.int .i64 U) := ext_cell hb q9_0
    have q10_1 : w10.cell? ⟨w8.heap.size, 1, none⟩ = some (.int .i64 LO) := ext_cell hb q9_1
    have q10_2 : w10.cell? ⟨w8.heap.size, 2, none⟩ = some (.slice Ab L.length cb) := ext_cell hb q9_2
    have b10 := Lib.hid (ext_trans b9.out hb)
    have t10 : w.heap.size ≤ w10.heap.size := b10.out.size
    have o10_b := Lib.hid (own_ext o9_b.out hb)
    clear q9_0 q9_1 q9_2
    have oc_a := Lib.hid (own_base (base' := w9.heap.size + 0) ho_a (by simp))
    clear ho_a
    clear hb
    go_upto_region 13 with fail
    go_cut [118] (fun s118 wx => s118 = .bool false ∧ Below w.heap.size w wx)
    case first => as_aux_lemma =>
     go_wp2_with fail
     refine (vFrame_same U LO Ab Aa L.length cb ca L _ (by omega) (Reads.of_own (o10_b.out.alloc _)) (Reads.of_own (oc_a.out.alloc _))).mono ?_
     rintro e w11 ⟨rfl, hb⟩
     have s11 : w10.heap.size + 1 ≤ w11.heap.size := (by have := hb.size; (try simp at this); omega)
     have z11_0 : w8.heap.size < w11.heap.size := (by omega)
     have z11_1 : w10.heap.size < w11.heap.size := (by omega)
     have q11_0 : w11.cell? ⟨w8.heap.size, 0, none⟩ = some (.int .i64 U) := ext_cell hb (cell_old q10_0 _)
     have q11_1 : w11.cell? ⟨w8.heap.size, 1, none⟩ = some (.int .i64 LO) := ext_cell hb (cell_old q10_1 _)
     have q11_2 : w11.cell? ⟨w8.heap.size, 2, none⟩ = some (.slice Ab L.length cb) := ext_cell hb (cell_old q10_2 _)
     have q11_3 : w11.cell? ⟨w10.heap.size, 0, none⟩ = some (.int .i64 U) := ext_cell hb (by simp [go_sem])
     have q11_4 : w11.cell? ⟨w10.heap.size, 1, none⟩ = some (.int .i64 LO) := ext_cell hb (by simp [go_sem])
     have q11_5 : w11.cell? ⟨w10.heap.size, 2, none⟩ = some (.slice Aa L.length ca) := ext_cell hb (by simp [go_sem])
     have b11 := Lib.hid (ext_trans (ext_alloc b10.out _) hb)
     have t11 : w.heap.size ≤ w11.heap.size := b11.out.size
     have o11_b := Lib.hid (own_ext (o10_b.out.alloc _) hb)
     have o11_a := Lib.hid (own_ext (oc_a.out.alloc _) hb)
     clear q10_0 q10_1 q10_2
     clear hb
     rcases p with _ | _
     · go_wp2_with fail
       go_meet
       exact ⟨rfl, b11.out⟩
     · obtain ⟨rfl, rfl⟩ := HLAW.out rfl
       go_wp2_with fail
       go_meet
       exact ⟨rfl, b11.out⟩
    case rest => as_aux_lemma =>
     obtain ⟨rfl, hcut⟩ := hcut
     obtain ⟨w12, hw12⟩ : ∃ x : World, x = wc := ⟨_, rfl⟩
     subst hw12
     have b12 := Lib.hid hcut
     have t12 : w.heap.size ≤ w12.heap.size := hcut.size
     clear hcut
     clear HLAW HPA HPB HTX k1 hpl hS
     go_wp2_with fail
     refine (drawMadeStandard_any A n c _ ((H.out.below b12.out).more b12.out.size) hn).mono ?_
     rintro e w13 ⟨uy, loy, ly, As, cs, rfl, hIN, ho_s, hb⟩
     have s13 : w12.heap.size ≤ w13.heap.size := (by have := hb.size; (try simp at this); omega)
     have b13 := Lib.hid (ext_trans b12.out hb)
     have t13 : w.heap.size ≤ w13.heap.size := b13.out.size
     clear hb
     have oc_s := Lib.hid (own_base (base' := w12.heap.size + 0) ho_s (by simp))
     clear ho_s
     have hl9 : ly.length ≤ 9 := hIN.2.2.2.2.2.1
     clear hIN
     have HB := Lib.hid (fun (w : World) h => implMadeStd_any uy loy As ly.length cs ly w (by omega) h)
     have HA := Lib.hid (fun (w : World) h => specMadeStd_any uy loy As ly.length cs ly w (by omega) h)
     have hlaw := ms_law uy loy ly
     have hLn := msF_len uy loy ly
     obtain ⟨R, hR⟩ : ∃ o9, msF uy loy ly = o9 := ⟨_, rfl⟩
     obtain ⟨ok, hok⟩ : ∃ o9, msB uy loy ly = o9 := ⟨_, rfl⟩
     rw [hR, hok] at HA HB hlaw
     rw [hR] at hLn
     obtain ⟨U, LO, L⟩ := R
     unfold RetFrB at HA HB
     dsimp only at HA HB hLn hlaw
     have HLAW := Lib.hid hlaw
     have k1 : (ok != ok) = false := by cases ok <;> rfl
     clear hR hok hlaw
     go_wp2_with fail
     refine (HB.out _ (Reads.of_own (oc_s.out.alloc _))).mono ?_
     rintro e w14 ⟨Ab, cb, rfl, ho_b, hb⟩
     have s14 : w13.heap.size + 1 ≤ w14.heap.size := (by have := hb.size; (try simp at this); omega)
     have z14_0 : w13.heap.size < w14.heap.size := (by omega)
     have q14_0 : w14.cell? ⟨w13.heap.size, 0, none⟩ = some (.int .i64 uy) := ext_cell hb (by simp [go_sem])
     have q14_1 : w14.cell? ⟨w13.heap.size, 1, none⟩ = some (.int .i64 loy) := ext_cell hb (by simp [go_sem])
     have q14_2 : w14.cell? ⟨w13.heap.size, 2, none⟩ = some (.slice As ly.length cs) := ext_cell hb (by simp [go_sem])
     have b14 := Lib.hid (ext_trans (ext_alloc b13.out _) hb)
     have t14 : w.heap.size ≤ w14.heap.size := b14.out.size
     have o14_s := Lib.hid (own_ext (oc_s.out.alloc _) hb)
     have oc_b := Lib.hid (own_base (base' := w13.heap.size + 1) ho_b (by simp))
     clear ho_b
     clear hb
     go_wp2_with fail
     refine (HA.out _ (Reads.of_own (o14_s.out.alloc _))).mono ?_
     rintro e w15 ⟨Aa, ca, rfl, ho_a, hb⟩
     have s15 : w14.heap.size + 1 ≤ w15.heap.size := (by have := hb.size; (try simp at this); omega)
     have z15_0 : w13.heap.size < w15.heap.size := (by omega)
     have z15_1 : w14.heap.size < w15.heap.size := (by omega)
     have q15_0 : w15.cell? ⟨w13.heap.size, 0, none⟩ = some (.int .i64 uy) := ext_cell hb (cell_old q14_0 _)
     have q15_1 : w15.cell? ⟨w13.heap.size, 1, none⟩ = some (.int .i64 loy) := ext_cell hb (cell_old q14_1 _)
     have q15_2 : w15.cell? ⟨w13.heap.size, 2, none⟩ = some (.slice As ly.length cs) := ext_cell hb (cell_old q14_2 _)
     have q15_3 : w15.cell? ⟨w14.heap.size, 0, none⟩ = some (.int .i64 U) := ext_cell hb (by simp [go_sem])
     have q15_4 : w15.cell? ⟨w14.heap.size, 1, none⟩ = some (.int .i64 LO) := ext_cell hb (by simp [go_sem])
     have q15_5 : w15.cell? ⟨w14.heap.size, 2, none⟩ = some (.slice Ab L.length cb) := ext_cell hb (by simp [go_sem])
     have b15 := Lib.hid (ext_trans (ext_alloc b14.out _) hb)
     have t15 : w.heap.size ≤ w15.heap.size := b15.out.size
     have o15_s := Lib.hid (own_ext (o14_s.out.alloc _) hb)
     have o15_b := Lib.hid (own_ext (oc_b.out.alloc _) hb)
     clear q14_0 q14_1 q14_2
     have oc_a := Lib.hid (own_base (base' := w14.heap.size + 1) ho_a (by simp))
     clear ho_a
     clear hb
     go_wp2_with fail
     refine (vFrame_same U LO Ab Aa L.length cb ca L _ (by omega) (Reads.of_own (o15_b.out.alloc _)) (Reads.of_own (oc_a.out.alloc _))).mono ?_
     rintro e w16 ⟨rfl, hb⟩
     have s16 : w15.heap.size + 1 ≤ w16.heap.size := (by have := hb.size; (try simp at this); omega)
     have z16_0 : w13.heap.size < w16.heap.size := (by omega)
     have z16_1 : w14.heap.size < w16.heap.size := (by omega)
     have z16_2 : w15.heap.size < w16.heap.size := (by omega)
     have q16_0 : w16.cell? ⟨w13.heap.size, 0, none⟩ = some (.int .i64 uy) := ext_cell hb (cell_old q15_0 _)
     have q16_1 : w16.cell? ⟨w13.heap.size, 1, none⟩ = some (.int .i64 loy) := ext_cell hb (cell_old q15_1 _)
     have q16_2 : w16.cell? ⟨w13.heap.size, 2, none⟩ = some (.slice As ly.length cs) := ext_cell hb (cell_old q15_2 _)
     have q16_3 : w16.cell? ⟨w14.heap.size, 0, none⟩ = some (.int .i64 U) := ext_cell hb (cell_old q15_3 _)
     have q16_4 : w16.cell? ⟨w14.heap.size, 1, none⟩ = some (.int .i64 LO) := ext_cell hb (cell_old q15_4 _)
     have q16_5 : w16.cell? ⟨w14.heap.size, 2, none⟩ = some (.slice Ab L.length cb) := ext_cell hb (cell_old q15_5 _)
     have q16_6 : w16.cell? ⟨w15.heap.size, 0, none⟩ = some (.int .i64 U) := ext_cell hb (by simp [go_sem])
     have q16_7 : w16.cell? ⟨w15.heap.size, 1, none⟩ = some (.int .i64 LO) := ext_cell hb (by simp [go_sem])
     have q16_8 : w16.cell? ⟨w15.heap.size, 2, none⟩ = some (.slice Aa L.length ca) := ext_cell hb (by simp [go_sem])
     have b16 := Lib.hid (ext_trans (ext_alloc b15.out _) hb)
     have t16 : w.heap.size ≤ w16.heap.size := b16.out.size
     have o16_s := Lib.hid (own_ext (o15_s.out.alloc _) hb)
     have o16_b := Lib.hid (own_ext (o15_b.out.alloc _) hb)
     have o16_a := Lib.hid (own_ext (oc_a.out.alloc _) hb)
     clear q15_0 q15_1 q15_2 q15_3 q15_4 q15_5
     clear hb
     go_upto_if 140 with fail
     go_cut [140] (fun s140 wx => Below w.heap.size w wx)
     case first => as_aux_lemma =>
      rcases ok with _ | _
      · go_wp2_with fail
        go_meet
        exact b16.out
      obtain ⟨hf1, hf2, hgd, hnum⟩ := HLAW.out rfl
      have HN1 := Lib.hid (fun (w : World) h => nrOn_any uy loy As ly.length cs ly w (by omega) h)
      rw [hf1, if_pos rfl] at HN1
      have HN2 := Lib.hid (fun (w : World) h => nrOn_any U LO Ab L.length cb L w (by omega) h)
      rw [hf2, if_pos rfl, hnum] at HN2
      have HS2 := Lib.hid (fun (w : World) h => implIsStd_any U LO Ab L.length cb L w (by omega) h)
      rw [hf2, hgd] at HS2
      obtain ⟨N, hN⟩ : ∃ o9, numR ly = o9 := ⟨_, rfl⟩
      rw [hN] at HN1 HN2
      unfold RetV at HS2
      have k3 : (N != N) = false := by simp
      clear hf1 hf2 hgd hnum hN
      go_wp2_with fail
      refine (HN1.out _ (Reads.of_own o16_s.out)).mono ?_
      rintro e w17 ⟨rfl, hb⟩
      have s17 : w16.heap.size ≤ w17.heap.size := (by have := hb.size; (try simp at this); omega)
      have z17_0 : w13.heap.size < w17.heap.size := (by omega)
      have z17_1 : w14.heap.size < w17.heap.size := (by omega)
      have z17_2 : w15.heap.size < w17.heap.size := (by omega)
      have q17_0 : w17.cell? ⟨w13.heap.size, 0, none⟩ = some (.int .i64 uy) := ext_cell hb q16_0
      have q17_1 : w17.cell? ⟨w13.heap.size, 1, none⟩ = some (.int .i64 loy) := ext_cell hb q16_1
      have q17_2 : w17.cell? ⟨w13.heap.size, 2, none⟩ = some (.slice As ly.length cs) := ext_cell hb q16_2
      have q17_3 : w17.cell? ⟨w14.heap.size, 0, none⟩ = some (.int .i64 U) := ext_cell hb q16_3
      have q17_4 : w17.cell? ⟨w14.heap.size, 1, none⟩ = some (.int .i64 LO) := ext_cell hb q16_4
      have q17_5 : w17.cell? ⟨w14.heap.size, 2, none⟩ = some (.slice Ab L.length cb) := ext_cell hb q16_5
      have q17_6 : w17.cell? ⟨w15.heap.size, 0, none⟩ = some (.int .i64 U) := ext_cell hb q16_6
      have q17_7 : w17.cell? ⟨w15.heap.size, 1, none⟩ = some (.int .i64 LO) := ext_cell hb q16_7
      have q17_8 : w17.cell? ⟨w15.heap.size, 2, none⟩ = some (.slice Aa L.length ca) := ext_cell hb q16_8
      have b17 := Lib.hid (ext_trans b16.out hb)
      have t17 : w.heap.size ≤ w17.heap.size := b17.out.size
      have o17_s := Lib.hid (own_ext o16_s.out hb)
      have o17_b := Lib.hid (own_ext o16_b.out hb)
      have o17_a := Lib.hid (own_ext o16_a.out hb)
      clear q16_0 q16_1 q16_2 q16_3 q16_4 q16_5 q16_6 q16_7 q16_8
      clear hb
      go_wp2_with fail
      refine (HN2.out _ (Reads.of_own o17_b.out)).mono ?_
      rintro e w18 ⟨rfl, hb⟩
      have s18 : w17.heap.size ≤ w18.heap.size := (by have := hb.size; (try simp at this); omega)
      have z18_0 : w13.heap.size < w18.heap.size := (by omega)
      have z18_1 : w14.heap.size < w18.heap.size := (by omega)
      have z18_2 : w15.heap.size < w18.heap.size := (by omega)
      have q18_0 : w18.cell? ⟨w13.heap.size, 0, none⟩ = some (.int .i64 uy) := ext_cell hb q17_0
      have q18_1 : w18.cell? ⟨w13.heap.size, 1, none⟩ = some (.int .i64 loy) := ext_cell hb q17_1
      have q18_2 : w18.cell? ⟨w13.heap.size, 2, none⟩ = some (.slice As ly.length cs) := ext_cell hb q17_2
      have q18_3 : w18.cell? ⟨w14.heap.size, 0, none⟩ = some (.int .i64 U) := ext_cell hb q17_3
      have q18_4 : w18.cell? ⟨w14.heap.size, 1, none⟩ = some (.int .i64 LO) := ext_cell hb q17_4
      have q18_5 : w18.cell? ⟨w14.heap.size, 2, none⟩ = some (.slice Ab L.length cb) := ext_cell hb q17_5
      have q18_6 : w18.cell? ⟨w15.heap.size, 0, none⟩ = some (.int .i64 U) := ext_cell hb q17_6
      have q18_7 : w18.cell? ⟨w15.heap.size, 1, none⟩ = some (.int .i64 LO) := ext_cell hb q17_7
      have q18_8 : w18.cell? ⟨w15.heap.size, 2, none⟩ = some (.slice Aa L.length ca) := ext_cell hb q17_8
      have b18 := Lib.hid (ext_trans b17.out hb)
      have t18 : w.heap.size ≤ w18.heap.size := b18.out.size
      have o18_s := Lib.hid (own_ext o17_s.out hb)
      have o18_b := Lib.hid (own_ext o17_b.out hb)
      have o18_a := Lib.hid (own_ext o17_a.out hb)
      clear q17_0 q17_1 q17_2 q17_3 q17_4 q17_5 q17_6 q17_7 q17_8
      clear hb
      go_wp2_with fail
      refine (HS2.out _ (Reads.of_own o18_b.out)).mono ?_
      rintro e w19 ⟨rfl, hb⟩
      have s19 : w18.heap.size ≤ w19.heap.size := (by have := hb.size; (try simp at this); omega)
      have z19_0 : w13.heap.size < w19.heap.size := (by omega)
      have z19_1 : w14.heap.size < w19.heap.size := (by omega)
      have z19_2 : w15.heap.size < w19.heap.size := (by omega)
      have q19_0 : w19.cell? ⟨w13.heap.size, 0, none⟩ = some (.int .i64 uy) := ext_cell hb q18_0
      have q19_1 : w19.cell? ⟨w13.heap.size, 1, none⟩ = some (.int .i64 loy) := ext_cell hb q18_1
      have q19_2 : w19.cell? ⟨w13.heap.size, 2, none⟩ = some (.slice As ly.length cs) := ext_cell hb q18_2
      have q19_3 : w19.cell? ⟨w14.heap.size, 0, none⟩ = some (.int .i64 U) := ext_cell hb q18_3
      have q19_4 : w19.cell? ⟨w14.heap.size, 1, none⟩ = some (.int .i64 LO) := ext_cell hb q18_4
      have q19_5 : w19.cell? ⟨w14.heap.size, 2, none⟩ = some (.slice Ab L.length cb) := ext_cell hb q18_5
      have q19_6 : w19.cell? ⟨w15.heap.size, 0, none⟩ = some (.int .i64 U) := ext_cell hb q18_6
      have q19_7 : w19.cell? ⟨w15.heap.size, 1, none⟩ = some (.int .i64 LO) := ext_cell hb q18_7
      have q19_8 : w19.cell? ⟨w15.heap.size, 2, none⟩ = some (.slice Aa L.length ca) := ext_cell hb q18_8
      have b19 := Lib.hid (ext_trans b18.out hb)
      have t19 : w.heap.size ≤ w19.heap.size := b19.out.size
      have o19_s := Lib.hid (own_ext o18_s.out hb)
      have o19_b := Lib.hid (own_ext o18_b.out hb)
      have o19_a := Lib.hid (own_ext o18_a.out hb)
      clear q18_0 q18_1 q18_2 q18_3 q18_4 q18_5 q18_6 q18_7 q18_8
      clear hb
      go_wp2_with fail
      go_meet
      exact b19.out
     case rest => as_aux_lemma =>
      obtain ⟨w20, hw20⟩ : ∃ x : World, x = wc := ⟨_, rfl⟩
      subst hw20
      have b20 := Lib.hid hcut
      have t20 : w.heap.size ≤ w20.heap.size := hcut.size
      clear hcut
      clear HLAW HA HB k1 hl9 hLn
      go_wp2_with fail
      refine (drawIsStandard_any A n c _ ((H.out.below b20.out).more b20.out.size) hn).mono ?_
      rintro e w21 ⟨uz, loz, lz, Az, cz, rfl, hIN, ho_z, hb⟩
      have s21 : w20.heap.size ≤ w21.heap.size := (by have := hb.size; (try simp at this); omega)
      have b21 := Lib.hid (ext_trans b20.out hb)
      have t21 : w.heap.size ≤ w21.heap.size := b21.out.size
      clear hb
      have oc_z := Lib.hid (own_base (base' := w20.heap.size + 0) ho_z (by simp))
      clear ho_z
      have hl9 : lz.length ≤ 9 := hIN.2.2.2.2.2.1
      clear hIN
      have HSB := Lib.hid (fun (w : World) h => implIsStd_any uz loz Az lz.length cz lz w (by omega) h)
      have HSA := Lib.hid (fun (w : World) h => specIsStd_any uz loz Az lz.length cz lz w (by omega) h)
      have HMB := Lib.hid (fun (w : World) h => implMadeStd_any uz loz Az lz.length cz lz w (by omega) h)
      have hlaw : goodB uz loz lz = true → frB uz loz lz = true ∧ msB uz loz lz = true ∧ msF uz loz lz = (uz, loz, lz) := fun h => ⟨good_fr h, ms_good h⟩
      obtain ⟨gd, hgd⟩ : ∃ o9, goodB uz loz lz = o9 := ⟨_, rfl⟩
      obtain ⟨fb, hfb⟩ : ∃ o9, frB uz loz lz = o9 := ⟨_, rfl⟩
      rw [hgd, hfb] at HSA HSB hlaw
      unfold RetV at HSA HSB
      have HLAW := Lib.hid hlaw
      have k1 : (gd != gd) = false := by cases gd <;> rfl
      have k2 : (fb != fb) = false := by cases fb <;> rfl
      clear hgd hfb hlaw
      go_wp2_with fail
      refine (HSB.out _ (Reads.of_own (oc_z.out.alloc _))).mono ?_
      rintro e w22 ⟨rfl, hb⟩
      have s22 : w21.heap.size + 1 ≤ w22.heap.size := (by have := hb.size; (try simp at this); omega)
      have z22_0 : w21.heap.size < w22.heap.size := (by omega)
      have q22_0 : w22.cell? ⟨w21.heap.size, 0, none⟩ = some (.int .i64 uz) := ext_cell hb (by simp [go_sem])
      have q22_1 : w22.cell? ⟨w21.heap.size, 1, none⟩ = some (.int .i64 loz) := ext_cell hb (by simp [go_sem])
      have q22_2 : w22.cell? ⟨w21.heap.size, 2, none⟩ = some (.slice Az lz.length cz) := ext_cell hb (by simp [go_sem])
      have b22 := Lib.hid (ext_trans (ext_alloc b21.out _) hb)
      have t22 : w.heap.size ≤ w22.heap.size := b22.out.size
      have o22_z := Lib.hid (own_ext (oc_z.out.alloc _) hb)
      clear hb
      go_wp2_with fail
      refine (HSA.out _ (Reads.of_own o22_z.out)).mono ?_
      rintro e w23 ⟨rfl, hb⟩
      have s23 : w22.heap.size ≤ w23.heap.size := (by have := hb.size; (try simp at this); omega)
      have z23_0 : w21.heap.size < w23.heap.size := (by omega)
      have q23_0 : w23.cell? ⟨w21.heap.size, 0, none⟩ = some (.int .i64 uz) := ext_cell hb q22_0
      have q23_1 : w23.cell? ⟨w21.heap.size, 1, none⟩ = some (.int .i64 loz) := ext_cell hb q22_1
      have q23_2 : w23.cell? ⟨w21.heap.size, 2, none⟩ = some (.slice Az lz.length cz) := ext_cell hb q22_2
      have b23 := Lib.hid (ext_trans b22.out hb)
      have t23 : w.heap.size ≤ w23.heap.size := b23.out.size
      have o23_z := Lib.hid (own_ext o22_z.out hb)
      clear q22_0 q22_1 q22_2
      clear hb
      go_upto_region 31 with fail
      rcases gd with _ | _
      · rcases fb with _ | _
        · go_wp2
          go_ret
          exact ⟨rfl, b23.out⟩
        · go_wp2
          go_ret
          exact ⟨rfl, b23.out⟩
      obtain ⟨rfl, hm1, hm2⟩ := HLAW.out rfl
      rw [hm1, hm2] at HMB
      unfold RetFrB at HMB
      dsimp only at HMB
      clear hm1 hm2
      go_wp2_with fail
      refine (HMB.out _ (Reads.of_own o23_z.out)).mono ?_
      rintro e w24 ⟨Am, cm, rfl, ho_m, hb⟩
      have s24 : w23.heap.size ≤ w24.heap.size := (by have := hb.size; (try simp at this); omega)
      have z24_0 : w21.heap.size < w24.heap.size := (by omega)
      have q24_0 : w24.cell? ⟨w21.heap.size, 0, none⟩ = some (.int .i64 uz) := ext_cell hb q23_0
      have q24_1 : w24.cell? ⟨w21.heap.size, 1, none⟩ = some (.int .i64 loz) := ext_cell hb q23_1
      have q24_2 : w24.cell? ⟨w21.heap.size, 2, none⟩ = some (.slice Az lz.length cz) := ext_cell hb q23_2
      have b24 := Lib.hid (ext_trans b23.out hb)
      have t24 : w.heap.size ≤ w24.heap.size := b24.out.size
      have o24_z := Lib.hid (own_ext o23_z.out hb)
      clear q23_0 q23_1 q23_2
      have oc_m := Lib.hid (own_base (base' := w23.heap.size + 0) ho_m (by simp))
      clear ho_m
      clear hb
      go_wp2_with fail
      refine (vFrame_same uz loz Am Az lz.length cm cz lz _ (by omega) (Reads.of_own (oc_m.out.alloc _)) (Reads.of_own (o24_z.out.alloc _))).mono ?_
      rintro e w25 ⟨rfl, hb⟩
      have s25 : w24.heap.size + 1 ≤ w25.heap.size := (by have := hb.size; (try simp at this); omega)
      have z25_0 : w21.heap.size < w25.heap.size := (by omega)
      have z25_1 : w24.heap.size < w25.heap.size := (by omega)
      have q25_0 : w25.cell? ⟨w21.heap.size, 0, none⟩ = some (.int .i64 uz) := ext_cell hb (cell_old q24_0 _)
      have q25_1 : w25.cell? ⟨w21.heap.size, 1, none⟩ = some (.int .i64 loz) := ext_cell hb (cell_old q24_1 _)
      have q25_2 : w25.cell? ⟨w21.heap.size, 2, none⟩ = some (.slice Az lz.length cz) := ext_cell hb (cell_old q24_2 _)
      have q25_3 : w25.cell? ⟨w24.heap.size, 0, none⟩ = some (.int .i64 uz) := ext_cell hb (by simp [go_sem])
      have q25_4 : w25.cell? ⟨w24.heap.size, 1, none⟩ = some (.int .i64 loz) := ext_cell hb (by simp [go_sem])
      have q25_5 : w25.cell? ⟨w24.heap.size, 2, none⟩ = some (.slice Am lz.length cm) := ext_cell hb (by simp [go_sem])
      have b25 := Lib.hid (ext_trans (ext_alloc b24.out _) hb)
      have t25 : w.heap.size ≤ w25.heap.size := b25.out.size
      have o25_z := Lib.hid (own_ext (o24_z.out.alloc _) hb)
      have o25_m := Lib.hid (own_ext (oc_m.out.alloc _) hb)
      clear q24_0 q24_1 q24_2
      clear hb
      go_wp2
      go_ret
      exact ⟨rfl, b25.out⟩
end Go.Proofs.Ytfmenkhfhibmeaa
