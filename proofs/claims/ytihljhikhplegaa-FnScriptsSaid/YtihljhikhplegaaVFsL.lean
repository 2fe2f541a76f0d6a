/- The law FnScripts, walked. -/
import Derived.Deep.CutBlock
import Derived.Test.YtihljhikhplegaaVM7
import Derived.Test.YtihljhikhplegaaVM9
import Derived.Test.YtihljhikhplegaaVPlM
import Derived.Test.YtihljhikhplegaaVRuJ
import Derived.Test.YtihljhikhplegaaVM10
import Derived.Test.YtihljhikhplegaaVM4
import Derived.Test.YtihljhikhplegaaVM1
import Derived.Test.YtihljhikhplegaaVVFr
namespace Go.Proofs.Ytihljhikhplegaa
open Go.RowKit
set_option linter.unusedVariables false
set_option linter.unusedSimpArgs false
theorem runF_len (u lo : Int) (l : List R2) (s : ByteArray) (hl : l.length ≤ 9) : (runF u lo l s).2.2.length ≤ 1048576 := by
 unfold runF
 split
 · rename_i h
   show (rodsD (runW l s).ds).length ≤ _
   rw [rodsD_len]
   unfold runOk runB at h
   simp only [Bool.and_eq_true] at h
   obtain ⟨⟨h1, h2⟩, h3⟩ := h
   obtain ⟨q, hq⟩ := Option.isSome_iff_exists.1 h3
   have hi : Inv l.length (st0 l) := (st0_Bd h2).1
   have hh : headB u lo l.length = true := by
    have := good_fr h2
    unfold frB at this
    simp only [Bool.and_eq_true] at this
    exact this.1
   have := (runO_plays hh (rulesL s) (rules_ok h1) hi hq).1
   unfold runW
   rw [hq]
   show q.1.ds.length ≤ _
   rw [this.2.1]
   omega
 · exact Nat.zero_le _
theorem cmpMs_len (u lo : Int) (l : List R2) (s : ByteArray) : (cmpMs u lo l s).length ≤ 60 := by
 unfold cmpMs
 split
 · rename_i h
   unfold cmpOk at h
   simp only [Bool.and_eq_true, decide_eq_true_eq] at h
   exact h.2
 · exact Nat.zero_le _
/-- the moves of a script end in the frame that it makes -/
theorem fsLaw (u lo : Int) (l : List R2) (s : ByteArray) : cmpOk u lo l s = true → runOk u lo l s = true ∧ (if frB u lo l && mvsB (cmpMs u lo l s) then playF u lo l (cmpMs u lo l s) else (0, 0, [])) = runF u lo l s ∧ (frB u lo l && mvsB (cmpMs u lo l s) && (playS u lo l (cmpMs u lo l s)).isSome) = true := by
 intro h
 have hms : cmpMs u lo l s = (runW l s).ms := by unfold cmpMs; rw [if_pos h]
 unfold cmpOk at h
 simp only [Bool.and_eq_true, decide_eq_true_eq] at h
 obtain ⟨hr, h60⟩ := h
 have hrr := hr
 unfold runOk runB at hr
 simp only [Bool.and_eq_true] at hr
 obtain ⟨⟨h1, h2⟩, h3⟩ := hr
 obtain ⟨q, hq⟩ := Option.isSome_iff_exists.1 h3
 have hfr := good_fr h2
 have hi : Inv l.length (st0 l) := (st0_Bd h2).1
 have hh : headB u lo l.length = true := by
  have h := hfr
  unfold frB at h
  simp only [Bool.and_eq_true] at h
  exact h.1
 obtain ⟨_, ns, e1, o1, p1⟩ := (runO_plays hh (rulesL s) (rules_ok h1) hi hq).2
 have hw : runW l s = q.1 := by unfold runW; rw [hq]; rfl
 have e2 : q.1.ms = ns := by rw [e1]; rfl
 have e3 : rodsD (st0 l).1.ds = l := rodsD_dsOf hfr (good_std h2)
 rw [e3] at p1
 rw [hms, hw, e2]
 rw [hw, e2] at h60
 have hmv : mvsB ns = true := by unfold mvsB; simp only [Bool.and_eq_true, decide_eq_true_eq]; exact ⟨h60, o1⟩
 refine ⟨hrr, ?_, ?_⟩
 · rw [hfr, hmv]
   show playF u lo l ns = _
   unfold playF runF
   rw [p1, if_pos hrr, hw]
 · rw [hfr, hmv, p1]; rfl
/-- the script for a number adds it -/
theorem sfLaw (z : Int) : (sfO z).isSome = true → ((sfO z).getD ⟨#[]⟩).size ≤ 16777216 ∧ runOk 1 4 zeros8 ((sfO z).getD ⟨#[]⟩) = true ∧ (runF 1 4 zeros8 ((sfO z).getD ⟨#[]⟩)).2.2.length ≤ 1048576 ∧ frB (runF 1 4 zeros8 ((sfO z).getD ⟨#[]⟩)).1 (runF 1 4 zeros8 ((sfO z).getD ⟨#[]⟩)).2.1 (runF 1 4 zeros8 ((sfO z).getD ⟨#[]⟩)).2.2 = true ∧ numR (runF 1 4 zeros8 ((sfO z).getD ⟨#[]⟩)).2.2 = z := by
 cases hs : sfO z with
 | none => intro h; cases h
 | some t =>
   intro _
   show t.size ≤ 16777216 ∧ runOk 1 4 zeros8 t = true ∧ (runF 1 4 zeros8 t).2.2.length ≤ 1048576 ∧ frB (runF 1 4 zeros8 t).1 (runF 1 4 zeros8 t).2.1 (runF 1 4 zeros8 t).2.2 = true ∧ numR (runF 1 4 zeros8 t).2.2 = z
   unfold sfO at hs
   split at hs
   · rename_i hin
     have hin := inB_iff.1 hin
     injection hs with hs
     subst hs
     obtain ⟨a, b, c, d⟩ := sf_law z.toNat (by omega)
     obtain ⟨w1, _⟩ := sfT_words z.toNat
     have hsz : (sfT z.toNat).size ≤ 80 := by
      unfold scrB at w1
      simp only [Bool.and_eq_true, decide_eq_true_eq] at w1
      exact w1.1
     have hF : runF 1 4 zeros8 (sfT z.toNat) = (1, 4, rodsD (runW zeros8 (sfT z.toNat)).ds) := by unfold runF; rw [if_pos a]
     rw [hF]
     refine ⟨by omega, a, ?_, ?_, ?_⟩
     · show (rodsD _).length ≤ _
       rw [rodsD_len]
       omega
     · show frB 1 4 (rodsD (runW zeros8 (sfT z.toNat)).ds) = true
       exact frB_rodsD (by rw [c]; decide) d
     · have h1 : numR (rodsD (runW zeros8 (sfT z.toNat)).ds) = (z.toNat : Int) := b
       show numR (rodsD _) = z
       rw [h1]; omega
   · cases hs
set_option maxRecDepth 100000 in
set_option maxHeartbeats 8000000 in
theorem law_FnScripts (A : Option Addr) (n c : Nat) (w : World) (h : Code w w.heap.size A n) (hn63 : n ≤ maxLen) :
 Calls Try.prog 3 #[.slice A n c] w fun e w' => e = .returned (.bool true) ∧ Below w.heap.size w w' := by
 have HV := Lib.hid (fun w => vBig_any A n c w)
 by_cases hbig : (65536 : Int) < n
 · rw [decide_eq_true hbig] at HV
   go_enter Try.func3, Try.ntmps3
   go_wp2_with (go_at_call 5; refine (HV.out _).mono ?_; rintro e w' ⟨rfl, hb⟩)
   go_ret
   exact ⟨rfl, (by repeat (first | exact ext_refl _ | assumption | refine ext_alloc ?_ _ | refine ext_drew ?_ | refine ext_drewN ?_ _ | refine ext_set ?_ (by simp <;> omega) _ | refine ext_trans ?_ (by assumption)))⟩
 · rw [decide_eq_false hbig] at HV
   have hn : n ≤ 65536 := by omega
   have H := Lib.hid h
   clear h hbig hn63
   go_enter Try.func3, Try.ntmps3
   go_wp2_with fail
   refine (HV.out _).mono ?_
   rintro e w1 ⟨rfl, hb⟩
   have s1 : w.heap.size ≤ w1.heap.size := (by have := hb.size; (try simp at this); omega)
   have b1 := Lib.hid (ext_trans (ext_refl w) hb)
   have t1 : w.heap.size ≤ w1.heap.size := b1.out.size
   clear hb
   go_wp2_with fail
   refine (drawRunRules_any A n c _ ((H.out.below b1.out).more b1.out.size) hn).mono ?_
   rintro e w2 ⟨s, u, lo, l, As, cs, rfl, hs, hIN, ho_s, hb⟩
   have s2 : w1.heap.size ≤ w2.heap.size := (by have := hb.size; (try simp at this); omega)
   have b2 := Lib.hid (ext_trans b1.out hb)
   have t2 : w.heap.size ≤ w2.heap.size := b2.out.size
   clear hb
   have oc_s := Lib.hid (own_base (base' := w1.heap.size + 0) ho_s (by simp))
   clear ho_s
   have hl9 : l.length ≤ 9 := hIN.2.2.2.2.2.1
   clear hIN
   have HRB := Lib.hid (fun (w : World) h => implRunRules_any u lo As l.length cs l s w (by omega) (by omega) h)
   have HRA := Lib.hid (fun (w : World) h => specRunRules_any u lo As l.length cs l s w (by omega) (by omega) h)
   have HCB := Lib.hid (fun (w : World) h => implCompiledMoves_any u lo As l.length cs l s w (by omega) (by omega) h)
   have HCA := Lib.hid (fun (w : World) h => specCompiledMoves_any u lo As l.length cs l s w (by omega) (by omega) h)
   have HFB := Lib.hid (fun (w : World) h => implFirstFailure_any u lo As l.length cs l s w (by omega) (by omega) h)
   have HFA := Lib.hid (fun (w : World) h => specFirstFailure_any u lo As l.length cs l s w (by omega) (by omega) h)
   have HIB := Lib.hid (fun (w : World) => implIsScript_any s w (by omega))
   have HIA := Lib.hid (fun (w : World) => specIsScript_any s w (by omega))
   have hlaw := fsLaw u lo l s
   have hLn := runF_len u lo l s hl9
   have hMn := cmpMs_len u lo l s
   obtain ⟨ff, hff⟩ : ∃ x, ffV u lo l s = x := ⟨_, rfl⟩
   obtain ⟨rb, hrb⟩ : ∃ x, runB u lo l s = x := ⟨_, rfl⟩
   rw [hff, hrb] at HFA HFB
   obtain ⟨R, hR⟩ : ∃ x, runF u lo l s = x := ⟨_, rfl⟩
   rw [hR] at HRA HRB hlaw hLn
   obtain ⟨ok, hok⟩ : ∃ x, runOk u lo l s = x := ⟨_, rfl⟩
   rw [hok] at HRA HRB hlaw
   obtain ⟨ms, hms⟩ : ∃ x, cmpMs u lo l s = x := ⟨_, rfl⟩
   rw [hms] at HCA HCB hlaw hMn
   obtain ⟨okm, hokm⟩ : ∃ x, cmpOk u lo l s = x := ⟨_, rfl⟩
   rw [hokm] at HCA HCB hlaw
   obtain ⟨sb, hsb⟩ : ∃ x, scrB s = x := ⟨_, rfl⟩
   rw [hsb] at HIA HIB
   obtain ⟨U, LO, L⟩ := R
   unfold RetFrB at HRA HRB
   unfold RetMv RetSliceB at HCA HCB
   unfold RetV at HFA HFB HIA HIB
   dsimp only at HRA HRB hLn hlaw
   obtain ⟨nm, hnm⟩ : ∃ x, ms.length = x := ⟨_, rfl⟩
   rw [hnm] at HCA HCB hMn
   have HNM := Lib.hid hnm
   have HLAW := Lib.hid hlaw
   have k1 : (ok != ok) = false := by cases ok <;> rfl
   have k2 : (okm != okm) = false := by cases okm <;> rfl
   have k3 : (sb != sb) = false := by cases sb <;> rfl
   have k4 : (rb != rb) = false := by cases rb <;> rfl
   have k5 : (ff != ff) = false := by simp
   clear hff hrb hR hok hms hokm hsb hlaw hnm
   go_wp2_with fail
   refine (HRB.out _ (Reads.of_own (oc_s.out.alloc _))).mono ?_
   rintro e w3 ⟨Ab, cb, rfl, ho_b, hb⟩
   have s3 : w2.heap.size + 1 ≤ w3.heap.size := (by have := hb.size; (try simp at this); omega)
   have z3_0 : w2.heap.size < w3.heap.size := (by omega)
   have q3_0 : w3.cell? ⟨w2.heap.size, 0, none⟩ = some (.int .i64 u) := ext_cell hb (by simp [go_sem])
   have q3_1 : w3.cell? ⟨w2.heap.size, 1, none⟩ = some (.int .i64 lo) := ext_cell hb (by simp [go_sem])
   have q3_2 : w3.cell? ⟨w2.heap.size, 2, none⟩ = some (.slice As l.length cs) := ext_cell hb (by simp [go_sem])
   have b3 := Lib.hid (ext_trans (ext_alloc b2.out _) hb)
   have t3 : w.heap.size ≤ w3.heap.size := b3.out.size
   have o3_s := Lib.hid (own_ext (oc_s.out.alloc _) hb)
   have oc_b := Lib.hid (own_base (base' := w2.heap.size + 1) ho_b (by simp))
   clear ho_b
   clear hb
   go_wp2_with fail
   refine (HRA.out _ (Reads.of_own (o3_s.out.alloc _))).mono ?_
   rintro e w4 ⟨Aa, ca, rfl, ho_a, hb⟩
   have s4 : w3.heap.size + 1 ≤ w4.heap.size := (by have := hb.size; (try simp at this); omega)
   have z4_0 : w2.heap.size < w4.heap.size := (by omega)
   have z4_1 : w3.heap.size < w4.heap.size := (by omega)
   have q4_0 : w4.cell? ⟨w2.heap.size, 0, none⟩ = some (.int .i64 u) := ext_cell hb (cell_old q3_0 _)
   have q4_1 : w4.cell? ⟨w2.heap.size, 1, none⟩ = some (.int .i64 lo) := ext_cell hb (cell_old q3_1 _)
   have q4_2 : w4.cell? ⟨w2.heap.size, 2, none⟩ = some (.slice As l.length cs) := ext_cell hb (cell_old q3_2 _)
   have q4_3 : w4.cell? ⟨w3.heap.size, 0, none⟩ = some (.int .i64 U) := ext_cell hb (by simp [go_sem])
   have q4_4 : w4.cell? ⟨w3.heap.size, 1, none⟩ = some (.int .i64 LO) := ext_cell hb (by simp [go_sem])
   have q4_5 : w4.cell? ⟨w3.heap.size, 2, none⟩ = some (.slice Ab L.length cb) := ext_cell hb (by simp [go_sem])
   have b4 := Lib.hid (ext_trans (ext_alloc b3.out _) hb)
   have t4 : w.heap.size ≤ w4.heap.size := b4.out.size
   have o4_s := Lib.hid (own_ext (o3_s.out.alloc _) hb)
   have o4_b := Lib.hid (own_ext (oc_b.out.alloc _) hb)
   clear q3_0 q3_1 q3_2
   have oc_a := Lib.hid (own_base (base' := w3.heap.size + 1) ho_a (by simp))
   clear ho_a
   clear hb
   go_wp2_with fail
   refine (vFrame_same U LO Ab Aa L.length cb ca L _ (by omega) (Reads.of_own (o4_b.out.alloc _)) (Reads.of_own (oc_a.out.alloc _))).mono ?_
   rintro e w5 ⟨rfl, hb⟩
   have s5 : w4.heap.size + 1 ≤ w5.heap.size := (by have := hb.size; (try simp at this); omega)
   have z5_0 : w2.heap.size < w5.heap.size := (by omega)
   have z5_1 : w3.heap.size < w5.heap.size := (by omega)
   have z5_2 : w4.heap.size < w5.heap.size := (by omega)
   have q5_0 : w5.cell? ⟨w2.heap.size, 0, none⟩ = some (.int .i64 u) := ext_cell hb (cell_old q4_0 _)
   have q5_1 : w5.cell? ⟨w2.heap.size, 1, none⟩ = some (.int .i64 lo) := ext_cell hb (cell_old q4_1 _)
   have q5_2 : w5.cell? ⟨w2.heap.size, 2, none⟩ = some (.slice As l.length cs) := ext_cell hb (cell_old q4_2 _)
   have q5_3 : w5.cell? ⟨w3.heap.size, 0, none⟩ = some (.int .i64 U) := ext_cell hb (cell_old q4_3 _)
   have q5_4 : w5.cell? ⟨w3.heap.size, 1, none⟩ = some (.int .i64 LO) := ext_cell hb (cell_old q4_4 _)
   have q5_5 : w5.cell? ⟨w3.heap.size, 2, none⟩ = some (.slice Ab L.length cb) := ext_cell hb (cell_old q4_5 _)
   have q5_6 : w5.cell? ⟨w4.heap.size, 0, none⟩ = some (.int .i64 U) := ext_cell hb (by simp [go_sem])
   have q5_7 : w5.cell? ⟨w4.heap.size, 1, none⟩ = some (.int .i64 LO) := ext_cell hb (by simp [go_sem])
   have q5_8 : w5.cell? ⟨w4.heap.size, 2, none⟩ = some (.slice Aa L.length ca) := ext_cell hb (by simp [go_sem])
   have b5 := Lib.hid (ext_trans (ext_alloc b4.out _) hb)
   have t5 : w.heap.size ≤ w5.heap.size := b5.out.size
   have o5_s := Lib.hid (own_ext (o4_s.out.alloc _) hb)
   have o5_b := Lib.hid (own_ext (o4_b.out.alloc _) hb)
   have o5_a := Lib.hid (own_ext (oc_a.out.alloc _) hb)
   clear q4_0 q4_1 q4_2 q4_3 q4_4 q4_5
   clear hb
   go_wp2_with fail
   refine (HIB.out _).mono ?_
   rintro e w6 ⟨rfl, hb⟩
   have s6 : w5.heap.size ≤ w6.heap.size := (by have := hb.size; (try simp at this); omega)
   have z6_0 : w2.heap.size < w6.heap.size := (by omega)
   have z6_1 : w3.heap.size < w6.heap.size := (by omega)
   have z6_2 : w4.heap.size < w6.heap.size := (by omega)
   have q6_0 : w6.cell? ⟨w2.heap.size, 0, none⟩ = some (.int .i64 u) := ext_cell hb q5_0
   have q6_1 : w6.cell? ⟨w2.heap.size, 1, none⟩ = some (.int .i64 lo) := ext_cell hb q5_1
   have q6_2 : w6.cell? ⟨w2.heap.size, 2, none⟩ = some (.slice As l.length cs) := ext_cell hb q5_2
   have q6_3 : w6.cell? ⟨w3.heap.size, 0, none⟩ = some (.int .i64 U) := ext_cell hb q5_3
   have q6_4 : w6.cell? ⟨w3.heap.size, 1, none⟩ = some (.int .i64 LO) := ext_cell hb q5_4
   have q6_5 : w6.cell? ⟨w3.heap.size, 2, none⟩ = some (.slice Ab L.length cb) := ext_cell hb q5_5
   have q6_6 : w6.cell? ⟨w4.heap.size, 0, none⟩ = some (.int .i64 U) := ext_cell hb q5_6
   have q6_7 : w6.cell? ⟨w4.heap.size, 1, none⟩ = some (.int .i64 LO) := ext_cell hb q5_7
   have q6_8 : w6.cell? ⟨w4.heap.size, 2, none⟩ = some (.slice Aa L.length ca) := ext_cell hb q5_8
   have b6 := Lib.hid (ext_trans b5.out hb)
   have t6 : w.heap.size ≤ w6.heap.size := b6.out.size
   have o6_s := Lib.hid (own_ext o5_s.out hb)
   have o6_b := Lib.hid (own_ext o5_b.out hb)
   have o6_a := Lib.hid (own_ext o5_a.out hb)
   clear q5_0 q5_1 q5_2 q5_3 q5_4 q5_5 q5_6 q5_7 q5_8
   clear hb
   go_wp2_with fail
   refine (HIA.out _).mono ?_
   rintro e w7 ⟨rfl, hb⟩
   have s7 : w6.heap.size ≤ w7.heap.size := (by have := hb.size; (try simp at this); omega)
   have z7_0 : w2.heap.size < w7.heap.size := (by omega)
   have z7_1 : w3.heap.size < w7.heap.size := (by omega)
   have z7_2 : w4.heap.size < w7.heap.size := (by omega)
   have q7_0 : w7.cell? ⟨w2.heap.size, 0, none⟩ = some (.int .i64 u) := ext_cell hb q6_0
   have q7_1 : w7.cell? ⟨w2.heap.size, 1, none⟩ = some (.int .i64 lo) := ext_cell hb q6_1
   have q7_2 : w7.cell? ⟨w2.heap.size, 2, none⟩ = some (.slice As l.length cs) := ext_cell hb q6_2
   have q7_3 : w7.cell? ⟨w3.heap.size, 0, none⟩ = some (.int .i64 U) := ext_cell hb q6_3
   have q7_4 : w7.cell? ⟨w3.heap.size, 1, none⟩ = some (.int .i64 LO) := ext_cell hb q6_4
   have q7_5 : w7.cell? ⟨w3.heap.size, 2, none⟩ = some (.slice Ab L.length cb) := ext_cell hb q6_5
   have q7_6 : w7.cell? ⟨w4.heap.size, 0, none⟩ = some (.int .i64 U) := ext_cell hb q6_6
   have q7_7 : w7.cell? ⟨w4.heap.size, 1, none⟩ = some (.int .i64 LO) := ext_cell hb q6_7
   have q7_8 : w7.cell? ⟨w4.heap.size, 2, none⟩ = some (.slice Aa L.length ca) := ext_cell hb q6_8
   have b7 := Lib.hid (ext_trans b6.out hb)
   have t7 : w.heap.size ≤ w7.heap.size := b7.out.size
   have o7_s := Lib.hid (own_ext o6_s.out hb)
   have o7_b := Lib.hid (own_ext o6_b.out hb)
   have o7_a := Lib.hid (own_ext o6_a.out hb)
   clear q6_0 q6_1 q6_2 q6_3 q6_4 q6_5 q6_6 q6_7 q6_8
   clear hb
   go_wp2_with fail
   refine (HCB.out _ (Reads.of_own o7_s.out)).mono ?_
   rintro e w8 ⟨Am, cm, rfl, ho_m, hb⟩
   have s8 : w7.heap.size ≤ w8.heap.size := (by have := hb.size; (try simp at this); omega)
   have z8_0 : w2.heap.size < w8.heap.size := (by omega)
   have z8_1 : w3.heap.size < w8.heap.size := (by omega)
   have z8_2 : w4.heap.size < w8.heap.size := (by omega)
   have q8_0 : w8.cell? ⟨w2.heap.size, 0, none⟩ = some (.int .i64 u) := ext_cell hb q7_0
   have q8_1 : w8.cell? ⟨w2.heap.size, 1, none⟩ = some (.int .i64 lo) := ext_cell hb q7_1
   have q8_2 : w8.cell? ⟨w2.heap.size, 2, none⟩ = some (.slice As l.length cs) := ext_cell hb q7_2
   have q8_3 : w8.cell? ⟨w3.heap.size, 0, none⟩ = some (.int .i64 U) := ext_cell hb q7_3
   have q8_4 : w8.cell? ⟨w3.heap.size, 1, none⟩ = some (.int .i64 LO) := ext_cell hb q7_4
   have q8_5 : w8.cell? ⟨w3.heap.size, 2, none⟩ = some (.slice Ab L.length cb) := ext_cell hb q7_5
   have q8_6 : w8.cell? ⟨w4.heap.size, 0, none⟩ = some (.int .i64 U) := ext_cell hb q7_6
   have q8_7 : w8.cell? ⟨w4.heap.size, 1, none⟩ = some (.int .i64 LO) := ext_cell hb q7_7
   have q8_8 : w8.cell? ⟨w4.heap.size, 2, none⟩ = some (.slice Aa L.length ca) := ext_cell hb q7_8
   have b8 := Lib.hid (ext_trans b7.out hb)
   have t8 : w.heap.size ≤ w8.heap.size := b8.out.size
   have o8_s := Lib.hid (own_ext o7_s.out hb)
   have o8_b := Lib.hid (own_ext o7_b.out hb)
   have o8_a := Lib.hid (own_ext o7_a.out hb)
   clear q7_0 q7_1 q7_2 q7_3 q7_4 q7_5 q7_6 q7_7 q7_8
   have oc_m := Lib.hid (own_base (base' := w7.heap.size + 0) ho_m (by simp))
   clear ho_m
   clear hb
   go_wp2_with fail
   refine (HCA.out _ (Reads.of_own o8_s.out)).mono ?_
   rintro e w9 ⟨Ak, ck, rfl, ho_k, hb⟩
   have s9 : w8.heap.size ≤ w9.heap.size := (by have := hb.size; (try simp at this); omega)
   have z9_0 : w2.heap.size < w9.heap.size := (by omega)
   have z9_1 : w3.heap.size < w9.heap.size := (by omega)
   have z9_2 : w4.heap.size < w9.heap.size := (by omega)
   have q9_0 : w9.cell? ⟨w2.heap.size, 0, none⟩ = some (.int .i64 u) := ext_cell hb q8_0
   have q9_1 : w9.cell? ⟨w2.heap.size, 1, none⟩ = some (.int .i64 lo) := ext_cell hb q8_1
   have q9_2 : w9.cell? ⟨w2.heap.size, 2, none⟩ = some (.slice As l.length cs) := ext_cell hb q8_2
   have q9_3 : w9.cell? ⟨w3.heap.size, 0, none⟩ = some (.int .i64 U) := ext_cell hb q8_3
   have q9_4 : w9.cell? ⟨w3.heap.size, 1, none⟩ = some (.int .i64 LO) := ext_cell hb q8_4
   have q9_5 : w9.cell? ⟨w3.heap.size, 2, none⟩ = some (.slice Ab L.length cb) := ext_cell hb q8_5
   have q9_6 : w9.cell? ⟨w4.heap.size, 0, none⟩ = some (.int .i64 U) := ext_cell hb q8_6
   have q9_7 : w9.cell? ⟨w4.heap.size, 1, none⟩ = some (.int .i64 LO) := ext_cell hb q8_7
   have q9_8 : w9.cell? ⟨w4.heap.size, 2, none⟩ = some (.slice Aa L.length ca) := ext_cell hb q8_8
   have b9 := Lib.hid (ext_trans b8.out hb)
   have t9 : w.heap.size ≤ w9.heap.size := b9.out.size
   have o9_s := Lib.hid (own_ext o8_s.out hb)
   have o9_b := Lib.hid (own_ext o8_b.out hb)
   have o9_a := Lib.hid (own_ext o8_a.out hb)
   have o9_m := Lib.hid (own_ext oc_m.out hb)
   clear q8_0 q8_1 q8_2 q8_3 q8_4 q8_5 q8_6 q8_7 q8_8
   have oc_k := Lib.hid (own_base (base' := w8.heap.size + 0) ho_k (by simp))
   clear ho_k
   clear hb
   go_wp2_with fail
   refine (vMoves_same Am Ak nm cm ck ms _ (by omega) (Reads.of_own o9_m.out) (Reads.of_own oc_k.out)).mono ?_
   rintro e w10 ⟨rfl, hb⟩
   have s10 : w9.heap.size ≤ w10.heap.size := (by have := hb.size; (try simp at this); omega)
   have z10_0 : w2.heap.size < w10.heap.size := (by omega)
   have z10_1 : w3.heap.size < w10.heap.size := (by omega)
   have z10_2 : w4.heap.size < w10.heap.size := (by omega)
   have q10_0 : w10.cell? ⟨w2.heap.size, 0, none⟩ = some (.int .i64 u) := ext_cell hb q9_0
   have q10_1 : w10.cell? ⟨w2.heap.size, 1, none⟩ = some (.int .i64 lo) := ext_cell hb q9_1
   have q10_2 : w10.cell? ⟨w2.heap.size, 2, none⟩ = some (.slice As l.length cs) := ext_cell hb q9_2
   have q10_3 : w10.cell? ⟨w3.heap.size, 0, none⟩ = some (.int .i64 U) := ext_cell hb q9_3
   have q10_4 : w10.cell? ⟨w3.heap.size, 1, none⟩ = some (.int .i64 LO) := ext_cell hb q9_4
   have q10_5 : w10.cell? ⟨w3.heap.size, 2, none⟩ = some (.slice Ab L.length cb) := ext_cell hb q9_5
   have q10_6 : w10.cell? ⟨w4.heap.size, 0, none⟩ = some (.int .i64 U) := ext_cell hb q9_6
   have q10_7 : w10.cell? ⟨w4.heap.size, 1, none⟩ = some (.int .i64 LO) := ext_cell hb q9_7
   have q10_8 : w10.cell? ⟨w4.heap.size, 2, none⟩ = some (.slice Aa L.length ca) := ext_cell hb q9_8
   have b10 := Lib.hid (ext_trans b9.out hb)
   have t10 : w.heap.size ≤ w10.heap.size := b10.out.size
   have o10_s := Lib.hid (own_ext o9_s.out hb)
   have o10_b := Lib.hid (own_ext o9_b.out hb)
   have o10_a := Lib.hid (own_ext o9_a.out hb)
   have o10_m := Lib.hid (own_ext o9_m.out hb)
   have o10_k := Lib.hid (own_ext oc_k.out hb)
   clear q9_0 q9_1 q9_2 q9_3 q9_4 q9_5 q9_6 q9_7 q9_8
   clear hb
   go_upto_if 86 with fail
   go_cut [86] (fun s86 wx => Below w10.heap.size w10 wx)
   case first => as_aux_lemma =>
    rcases okm with _ | _
    · go_wp2_with fail
      go_meet
      exact ext_refl _
    obtain ⟨rfl, hpf, hpo⟩ := HLAW.out rfl
    have HP := Lib.hid (fun (w : World) h hm => implPlayMoves_any u lo As l.length cs l Am nm cm ms w (by omega) (by omega) h hm)
    rw [hpf, hpo] at HP
    unfold RetFrB at HP
    dsimp only at HP
    clear hpf hpo
    go_wp2_with fail
    refine (HP.out _ (Reads.of_own o10_s.out) (Reads.of_own o10_m.out)).mono ?_
    rintro e wp ⟨Ap, cp, rfl, hop, hbp⟩
    have y0 := ext_cell hbp q10_0
    have y1 := ext_cell hbp q10_1
    have y2 := ext_cell hbp q10_2
    have y3 := ext_cell hbp q10_3
    have y4 := ext_cell hbp q10_4
    have y5 := ext_cell hbp q10_5
    have zz0 : w3.heap.size < wp.heap.size := Nat.lt_of_lt_of_le (by omega) hbp.size
    have HV2 := Lib.hid (fun (w : World) h h' => vFrame_same U LO Ap Ab L.length cp cb L w (by omega) h h')
    have HO1 := Lib.hid (hop.alloc (.cells #[.int .i64 U, .int .i64 LO, .slice Ap L.length cp] 26))
    have HO2 := Lib.hid ((own_ext o10_b.out hbp).alloc (.cells #[.int .i64 U, .int .i64 LO, .slice Ap L.length cp] 26))
    have HBP := Lib.hid (ext_alloc hbp (.cells #[.int .i64 U, .int .i64 LO, .slice Ap L.length cp] 26))
    clear hop hbp q10_0 q10_1 q10_2 q10_3 q10_4 q10_5
    go_wp2_with fail
    refine (HV2.out _ (Reads.of_own HO1.out) (Reads.of_own HO2.out)).mono ?_
    rintro e wq ⟨rfl, hbq⟩
    go_wp2_with fail
    go_meet
    exact ext_trans HBP.out hbq
   case rest => as_aux_lemma =>
    have hb := hcut
    obtain ⟨w11, hw11⟩ : ∃ x : World, x = wc := ⟨_, rfl⟩
    subst hw11
    have s11 : w10.heap.size ≤ w11.heap.size := (by have := hb.size; (try simp at this); omega)
    have z11_0 : w2.heap.size < w11.heap.size := (by omega)
    have z11_1 : w3.heap.size < w11.heap.size := (by omega)
    have z11_2 : w4.heap.size < w11.heap.size := (by omega)
    have q11_0 : w11.cell? ⟨w2.heap.size, 0, none⟩ = some (.int .i64 u) := ext_cell hb q10_0
    have q11_1 : w11.cell? ⟨w2.heap.size, 1, none⟩ = some (.int .i64 lo) := ext_cell hb q10_1
    have q11_2 : w11.cell? ⟨w2.heap.size, 2, none⟩ = some (.slice As l.length cs) := ext_cell hb q10_2
    have b11 := Lib.hid (ext_trans b10.out hb)
    have t11 : w.heap.size ≤ w11.heap.size := b11.out.size
    have o11_s := Lib.hid (own_ext o10_s.out hb)
    clear q10_0 q10_1 q10_2
    clear hb hcut HLAW HNM HRA HRB HCA HCB HIA HIB k1 k2 k3
    go_wp2_with fail
    refine (HFB.out _ (Reads.of_own o11_s.out)).mono ?_
    rintro e w12 ⟨rfl, hb⟩
    have s12 : w11.heap.size ≤ w12.heap.size := (by have := hb.size; (try simp at this); omega)
    have z12_0 : w2.heap.size < w12.heap.size := (by omega)
    have z12_1 : w3.heap.size < w12.heap.size := (by omega)
    have z12_2 : w4.heap.size < w12.heap.size := (by omega)
    have q12_0 : w12.cell? ⟨w2.heap.size, 0, none⟩ = some (.int .i64 u) := ext_cell hb q11_0
    have q12_1 : w12.cell? ⟨w2.heap.size, 1, none⟩ = some (.int .i64 lo) := ext_cell hb q11_1
    have q12_2 : w12.cell? ⟨w2.heap.size, 2, none⟩ = some (.slice As l.length cs) := ext_cell hb q11_2
    have b12 := Lib.hid (ext_trans b11.out hb)
    have t12 : w.heap.size ≤ w12.heap.size := b12.out.size
    have o12_s := Lib.hid (own_ext o11_s.out hb)
    clear q11_0 q11_1 q11_2
    clear hb
    go_wp2_with fail
    refine (HFA.out _ (Reads.of_own o12_s.out)).mono ?_
    rintro e w13 ⟨rfl, hb⟩
    have s13 : w12.heap.size ≤ w13.heap.size := (by have := hb.size; (try simp at this); omega)
    have z13_0 : w2.heap.size < w13.heap.size := (by omega)
    have z13_1 : w3.heap.size < w13.heap.size := (by omega)
    have z13_2 : w4.heap.size < w13.heap.size := (by omega)
    have q13_0 : w13.cell? ⟨w2.heap.size, 0, none⟩ = some (.int .i64 u) := ext_cell hb q12_0
    have q13_1 : w13.cell? ⟨w2.heap.size, 1, none⟩ = some (.int .i64 lo) := ext_cell hb q12_1
    have q13_2 : w13.cell? ⟨w2.heap.size, 2, none⟩ = some (.slice As l.length cs) := ext_cell hb q12_2
    have b13 := Lib.hid (ext_trans b12.out hb)
    have t13 : w.heap.size ≤ w13.heap.size := b13.out.size
    have o13_s := Lib.hid (own_ext o12_s.out hb)
    clear q12_0 q12_1 q12_2
    clear hb
    go_wp2_with fail
    refine (drawScriptFor_any A n c _ ((H.out.below b13.out).more b13.out.size) hn).mono ?_
    rintro e w14 ⟨z, rfl, z0, z9, hb⟩
    have s14 : w13.heap.size ≤ w14.heap.size := (by have := hb.size; (try simp at this); omega)
    have z14_0 : w2.heap.size < w14.heap.size := (by omega)
    have z14_1 : w3.heap.size < w14.heap.size := (by omega)
    have z14_2 : w4.heap.size < w14.heap.size := (by omega)
    have q14_0 : w14.cell? ⟨w2.heap.size, 0, none⟩ = some (.int .i64 u) := ext_cell hb q13_0
    have q14_1 : w14.cell? ⟨w2.heap.size, 1, none⟩ = some (.int .i64 lo) := ext_cell hb q13_1
    have q14_2 : w14.cell? ⟨w2.heap.size, 2, none⟩ = some (.slice As l.length cs) := ext_cell hb q13_2
    have b14 := Lib.hid (ext_trans b13.out hb)
    have t14 : w.heap.size ≤ w14.heap.size := b14.out.size
    clear q13_0 q13_1 q13_2
    clear hb
    have HSB := Lib.hid (fun (w : World) => implScriptFor_any z w ⟨z0, z9⟩)
    have HSA := Lib.hid (fun (w : World) => specScriptFor_any z w ⟨z0, z9⟩)
    have hlaw := sfLaw z
    obtain ⟨O, hO⟩ : ∃ x, sfO z = x := ⟨_, rfl⟩
    unfold RetSf at HSA HSB
    rw [hO] at HSA HSB hlaw
    obtain ⟨tx, htx⟩ : ∃ x, O.getD ⟨#[]⟩ = x := ⟨_, rfl⟩
    obtain ⟨kn, hkn⟩ : ∃ x, O.isSome = x := ⟨_, rfl⟩
    rw [htx, hkn] at HSA HSB hlaw
    have HLAW := Lib.hid hlaw
    have k6 : (kn != kn) = false := by cases kn <;> rfl
    have k7 := tx_nyes (rfl : tx = tx)
    clear hO htx hkn hlaw
    go_wp2_with fail
    refine (HSB.out _).mono ?_
    rintro e w15 ⟨rfl, hb⟩
    have s15 : w14.heap.size ≤ w15.heap.size := (by have := hb.size; (try simp at this); omega)
    have z15_0 : w2.heap.size < w15.heap.size := (by omega)
    have z15_1 : w3.heap.size < w15.heap.size := (by omega)
    have z15_2 : w4.heap.size < w15.heap.size := (by omega)
    have q15_0 : w15.cell? ⟨w2.heap.size, 0, none⟩ = some (.int .i64 u) := ext_cell hb q14_0
    have q15_1 : w15.cell? ⟨w2.heap.size, 1, none⟩ = some (.int .i64 lo) := ext_cell hb q14_1
    have q15_2 : w15.cell? ⟨w2.heap.size, 2, none⟩ = some (.slice As l.length cs) := ext_cell hb q14_2
    have b15 := Lib.hid (ext_trans b14.out hb)
    have t15 : w.heap.size ≤ w15.heap.size := b15.out.size
    clear q14_0 q14_1 q14_2
    clear hb
    go_wp2_with fail
    refine (HSA.out _).mono ?_
    rintro e w16 ⟨rfl, hb⟩
    have s16 : w15.heap.size ≤ w16.heap.size := (by have := hb.size; (try simp at this); omega)
    have z16_0 : w2.heap.size < w16.heap.size := (by omega)
    have z16_1 : w3.heap.size < w16.heap.size := (by omega)
    have z16_2 : w4.heap.size < w16.heap.size := (by omega)
    have q16_0 : w16.cell? ⟨w2.heap.size, 0, none⟩ = some (.int .i64 u) := ext_cell hb q15_0
    have q16_1 : w16.cell? ⟨w2.heap.size, 1, none⟩ = some (.int .i64 lo) := ext_cell hb q15_1
    have q16_2 : w16.cell? ⟨w2.heap.size, 2, none⟩ = some (.slice As l.length cs) := ext_cell hb q15_2
    have b16 := Lib.hid (ext_trans b15.out hb)
    have t16 : w.heap.size ≤ w16.heap.size := b16.out.size
    clear q15_0 q15_1 q15_2
    clear hb
    rcases kn with _ | _
    · go_wp2
      go_ret
      exact ⟨rfl, b16.out⟩
    obtain ⟨htz, hro, hrf, hfr, hnum⟩ := HLAW.out rfl
    have HF8 := Lib.hid (fun (w : World) => frameFor8_any w)
    unfold RetFrB at HF8
    dsimp only at HF8
    have HR8 := Lib.hid (fun (w : World) (A : Option Addr) (c : Nat) h => implRunRules_any 1 4 A zeros8.length c zeros8 tx w htz (by decide) h)
    rw [hro] at HR8
    obtain ⟨R, hR⟩ : ∃ x, runF 1 4 zeros8 tx = x := ⟨_, rfl⟩
    rw [hR] at HR8 hfr hnum hrf
    obtain ⟨U, LO, L⟩ := R
    unfold RetFrB at HR8
    dsimp only at HR8 hfr hnum hrf
    have HN8 := Lib.hid (fun (w : World) (A : Option Addr) (c : Nat) h => nrOn_any U LO A L.length c L w (by omega) h)
    rw [hfr, if_pos rfl, hnum] at HN8
    have k8 : (z == z) = true := by simp
    clear htz hro hrf hfr hnum hR
    go_wp2_with fail
    refine (HF8.out _).mono ?_
    rintro e w17 ⟨Ae, ce, rfl, ho_e, hb⟩
    have s17 : w16.heap.size ≤ w17.heap.size := (by have := hb.size; (try simp at this); omega)
    have z17_0 : w2.heap.size < w17.heap.size := (by omega)
    have z17_1 : w3.heap.size < w17.heap.size := (by omega)
    have z17_2 : w4.heap.size < w17.heap.size := (by omega)
    have q17_0 : w17.cell? ⟨w2.heap.size, 0, none⟩ = some (.int .i64 u) := ext_cell hb q16_0
    have q17_1 : w17.cell? ⟨w2.heap.size, 1, none⟩ = some (.int .i64 lo) := ext_cell hb q16_1
    have q17_2 : w17.cell? ⟨w2.heap.size, 2, none⟩ = some (.slice As l.length cs) := ext_cell hb q16_2
    have b17 := Lib.hid (ext_trans b16.out hb)
    have t17 : w.heap.size ≤ w17.heap.size := b17.out.size
    clear q16_0 q16_1 q16_2
    have oc_e := Lib.hid (own_base (base' := w16.heap.size + 0) ho_e (by simp))
    clear ho_e
    clear hb
    go_wp2_with fail
    refine (HR8.out _ Ae ce (Reads.of_own (oc_e.out.alloc _))).mono ?_
    rintro e w18 ⟨Ar, cr, rfl, ho_r, hb⟩
    have s18 : w17.heap.size + 1 ≤ w18.heap.size := (by have := hb.size; (try simp at this); omega)
    have z18_0 : w2.heap.size < w18.heap.size := (by omega)
    have z18_1 : w3.heap.size < w18.heap.size := (by omega)
    have z18_2 : w4.heap.size < w18.heap.size := (by omega)
    have z18_3 : w17.heap.size < w18.heap.size := (by omega)
    have q18_0 : w18.cell? ⟨w2.heap.size, 0, none⟩ = some (.int .i64 u) := ext_cell hb (cell_old q17_0 _)
    have q18_1 : w18.cell? ⟨w2.heap.size, 1, none⟩ = some (.int .i64 lo) := ext_cell hb (cell_old q17_1 _)
    have q18_2 : w18.cell? ⟨w2.heap.size, 2, none⟩ = some (.slice As l.length cs) := ext_cell hb (cell_old q17_2 _)
    have q18_3 : w18.cell? ⟨w17.heap.size, 0, none⟩ = some (.int .i64 1) := ext_cell hb (by simp [go_sem])
    have q18_4 : w18.cell? ⟨w17.heap.size, 1, none⟩ = some (.int .i64 4) := ext_cell hb (by simp [go_sem])
    have q18_5 : w18.cell? ⟨w17.heap.size, 2, none⟩ = some (.slice Ae zeros8.length ce) := ext_cell hb (by simp [go_sem])
    have b18 := Lib.hid (ext_trans (ext_alloc b17.out _) hb)
    have t18 : w.heap.size ≤ w18.heap.size := b18.out.size
    have o18_e := Lib.hid (own_ext (oc_e.out.alloc _) hb)
    clear q17_0 q17_1 q17_2
    have oc_r := Lib.hid (own_base (base' := w17.heap.size + 1) ho_r (by simp))
    clear ho_r
    clear hb
    go_wp2_with fail
    refine (HN8.out _ Ar cr (Reads.of_own (oc_r.out.alloc _))).mono ?_
    rintro e w19 ⟨rfl, hb⟩
    have s19 : w18.heap.size + 1 ≤ w19.heap.size := (by have := hb.size; (try simp at this); omega)
    have z19_0 : w2.heap.size < w19.heap.size := (by omega)
    have z19_1 : w3.heap.size < w19.heap.size := (by omega)
    have z19_2 : w4.heap.size < w19.heap.size := (by omega)
    have z19_3 : w17.heap.size < w19.heap.size := (by omega)
    have z19_4 : w18.heap.size < w19.heap.size := (by omega)
    have q19_0 : w19.cell? ⟨w2.heap.size, 0, none⟩ = some (.int .i64 u) := ext_cell hb (cell_old q18_0 _)
    have q19_1 : w19.cell? ⟨w2.heap.size, 1, none⟩ = some (.int .i64 lo) := ext_cell hb (cell_old q18_1 _)
    have q19_2 : w19.cell? ⟨w2.heap.size, 2, none⟩ = some (.slice As l.length cs) := ext_cell hb (cell_old q18_2 _)
    have q19_3 : w19.cell? ⟨w17.heap.size, 0, none⟩ = some (.int .i64 1) := ext_cell hb (cell_old q18_3 _)
    have q19_4 : w19.cell? ⟨w17.heap.size, 1, none⟩ = some (.int .i64 4) := ext_cell hb (cell_old q18_4 _)
    have q19_5 : w19.cell? ⟨w17.heap.size, 2, none⟩ = some (.slice Ae zeros8.length ce) := ext_cell hb (cell_old q18_5 _)
    have q19_6 : w19.cell? ⟨w18.heap.size, 0, none⟩ = some (.int .i64 U) := ext_cell hb (by simp [go_sem])
    have q19_7 : w19.cell? ⟨w18.heap.size, 1, none⟩ = some (.int .i64 LO) := ext_cell hb (by simp [go_sem])
    have q19_8 : w19.cell? ⟨w18.heap.size, 2, none⟩ = some (.slice Ar L.length cr) := ext_cell hb (by simp [go_sem])
    have b19 := Lib.hid (ext_trans (ext_alloc b18.out _) hb)
    have t19 : w.heap.size ≤ w19.heap.size := b19.out.size
    have o19_e := Lib.hid (own_ext (o18_e.out.alloc _) hb)
    have o19_r := Lib.hid (own_ext (oc_r.out.alloc _) hb)
    clear q18_0 q18_1 q18_2 q18_3 q18_4 q18_5
    clear hb
    go_wp2
    go_ret
    exact ⟨rfl, b19.out⟩
end Go.Proofs.Ytihljhikhplegaa
