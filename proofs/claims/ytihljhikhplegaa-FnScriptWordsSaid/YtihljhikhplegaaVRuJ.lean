/- RunRules, CompiledMoves, FirstFailure: the reference's. -/
import Derived.Test.YtihljhikhplegaaVM9
namespace Go.Proofs.Ytihljhikhplegaa
open Go.RowKit
set_option linter.unusedVariables false
set_option linter.unusedSimpArgs false
set_option maxRecDepth 100000 in
theorem l15Asked_any (u lo : Int) (A : Option Addr) (n c : Nat) (l : List R2) (s : ByteArray) (w : World) (hs : s.size ≤ 16777216) (hn : n ≤ 1048576) (h : Reads w w.heap.size 2 A n (rowsV2 l)) :
 Calls Try.prog 37 #[.string s, frV u lo A n c] w (RetV (.bool (runB u lo l s)) w) := by
 have H := Lib.hid h
 have HG := Lib.hid (fun w => l15Good_any s w hs)
 clear h
 cases hsc : scrB s
 · rw [show runB u lo l s = false by simp [runB, hsc]]
   rw [hsc] at HG
   clear hsc
   go_enter Try.func37, Try.ntmps37
   go_wp2_with fail
   refine (HG.out _).mono ?_
   rintro e w1 ⟨rfl, hb1⟩
   go_wp2
   go_ret
   exact ⟨rfl, ext_trans (ext_alloc (ext_refl w) _) hb1⟩
 · rw [show runB u lo l s = goodB u lo l by simp [runB, hsc]]
   rw [hsc] at HG
   clear hsc
   go_enter Try.func37, Try.ntmps37
   go_wp2_with fail
   refine (HG.out _).mono ?_
   rintro e w1 ⟨rfl, hb1⟩
   obtain ⟨BF, hb2, hs2⟩ := box_frame (by simpa using hb1)
   have hb2 := Lib.hid hb2
   obtain ⟨d0, d1, d2⟩ := BF.q3
   clear BF hb1
   go_wp2_with fail
   refine (l2Standard_any u lo A n c l _ hn (rdx H.out hb2.out)).mono ?_
   rintro e w2 ⟨rfl, hb3⟩
   go_wp2
   go_ret
   exact ⟨rfl, ext_trans hb2.out hb3⟩
set_option maxRecDepth 100000 in
set_option maxHeartbeats 4000000 in
theorem specRunRules_any (u lo : Int) (A : Option Addr) (n c : Nat) (l : List R2) (s : ByteArray) (w : World) (hs : s.size ≤ 16777216) (hn : n ≤ 1048576) (h : Reads w w.heap.size 2 A n (rowsV2 l)) :
 Calls Try.prog 8 #[.string s, frV u lo A n c] w (RetFrB w (runF u lo l s) (runOk u lo l s)) := by
 have hl := rows_len2 h
 have H := Lib.hid h
 have HA := Lib.hid (fun (w : World) h => l15Asked_any u lo A n c l s w hs hn h)
 have BF0 := Lib.hid ((Blk.born w #[.int .i64 u, .int .i64 lo, .slice A n c] 26 (H := w.heap.size) rfl).al (.cells #[.int .i64 0, .int .i64 0, .slice none 0 0] 26))
 have BRes := Lib.hid (Blk.born (w.alloc (.cells #[.int .i64 u, .int .i64 lo, .slice A n c] 26)) #[.int .i64 0, .int .i64 0, .slice none 0 0] 26 (H := w.heap.size + 1) (by simp))
 have hbx := Lib.hid (ext_alloc (ext_alloc (ext_refl w) (.cells #[.int .i64 u, .int .i64 lo, .slice A n c] 26)) (.cells #[.int .i64 0, .int .i64 0, .slice none 0 0] 26))
 cases hrb : runB u lo l s
 · rw [show runF u lo l s = (0, 0, []) by simp [runF, runOk, hrb], show runOk u lo l s = false by simp [runOk, hrb]]
   have HB := Lib.hid hrb
   clear hrb hl
   go_enter Try.func8, Try.ntmps8
   go_wp2_with fail
   refine (HA.out _ (rdx H.out hbx.out)).mono ?_
   rw [HB.out]
   rintro e w1 ⟨rfl, hb1⟩
   have BR1 := Lib.hid (BRes.out.ext hb1)
   have hb2 := Lib.hid (ext_trans hbx.out hb1)
   obtain ⟨r0, r1, r2⟩ := BR1.out.q3
   obtain ⟨z0, z1, z2⟩ := BR1.out.z3
   have hRl := BR1.out.lt
   clear hb1
   go_wp2
   refine bodyPost_ret (v := .tuple #[frV 0 0 none 0 0, .bool false]) (by simp [results, Try.results8, go_sem, *]) rfl ?_
   exact ⟨none, 0, rfl, World.ownsRow_nil _ _ _ _, fill_below hb2.out (Nat.le_succ _)⟩
 have hgd : goodB u lo l = true := by unfold runB at hrb; simp only [Bool.and_eq_true] at hrb; exact hrb.2
 have hsc : scrB s = true := by unfold runB at hrb; simp only [Bool.and_eq_true] at hrb; exact hrb.1
 have hs80 : s.size ≤ 80 := by unfold scrB at hsc; simp only [Bool.and_eq_true, decide_eq_true_eq] at hsc; exact hsc.1
 have HWD := Lib.hid (fun w => l15Words_any s w hs80)
 have hwl : (wordsL s).length ≤ 81 := by have := wordsL_len s; omega
 have HPW := Lib.hid (show ∀ x ∈ wordsL s, (wordO x).isSome = true ∧ x.length ≤ 80 from fun x hx => ⟨by unfold scrB at hsc; simp only [Bool.and_eq_true, List.all_eq_true] at hsc; exact hsc.2 x hx, Nat.le_trans (words_part hx) hs80⟩)
 have HRN := Lib.hid (fun (w : World) (D : Option Addr) (cb : Nat) h hm => l15Run_any u lo A n c l (wordsL s) D cb w hgd HPW.out hwl h hm)
 unfold RetRun at HRN
 have eD : doneN n ((wordsL s).map wd) (st0 l) = runD l s := by unfold runD rulesL; rw [hl]
 have eQ : runO n ((wordsL s).map wd) (st0 l) = runQ l s := by unfold runQ rulesL; rw [hl]
 rw [eD, eQ] at HRN
 have eL : (rulesL s).length = (wordsL s).length := rulesL_len s
 have hdl := runD_le l s
 have h81 := rules_81 hrb
 obtain ⟨P, hP⟩ : ∃ P, wordsL s = P := ⟨_, rfl⟩
 rw [hP] at HWD HRN HPW hwl eL
 clear eD eQ hsc hgd hP
 rcases hq : runQ l s with _ | q
 · rw [show runF u lo l s = (0, 0, []) by simp [runF, runOk, hq], show runOk u lo l s = false by simp [runOk, hq]]
   have HB := Lib.hid hrb
   have hless := rules_less hq
   have hlt2 : runD l s < P.length := by omega
   clear hrb hl hq hless
   go_enter Try.func8, Try.ntmps8
   go_wp2_with fail
   refine (HA.out _ (rdx H.out hbx.out)).mono ?_
   rw [HB.out]
   rintro e w1 ⟨rfl, hb1⟩
   have BF1 := Lib.hid (BF0.out.ext hb1)
   have BR1 := Lib.hid (BRes.out.ext hb1)
   have hb2 := Lib.hid (ext_trans hbx.out hb1)
   clear hb1
   go_wp2_with fail
   refine (HWD.out _).mono ?_
   rintro e w2 ⟨D, cb, rfl, hod, hb3⟩
   have hod := Lib.hid hod
   have BF2 := Lib.hid (BF1.out.ext hb3)
   have BR2 := Lib.hid (BR1.out.ext hb3)
   have hb4 := Lib.hid (ext_trans hb2.out hb3)
   obtain ⟨f0, f1, f2⟩ := BF2.out.q3
   clear hb3
   go_wp2_with fail
   refine (HRN.out _ D cb (rdx H.out hb4.out) (Reads.of_own hod.out)).mono ?_
   rintro e w3 ⟨A1, c1, M1, m1, d1, rfl, hq1, hml, hb5⟩
   have BR3 := Lib.hid (BR2.out.ext hb5)
   have hb6 := Lib.hid (ext_trans hb4.out hb5)
   clear f0 f1 f2
   clear hq1 hb5
   obtain ⟨r0, r1, r2⟩ := BR3.out.q3
   obtain ⟨z0, z1, z2⟩ := BR3.out.z3
   have hRl := BR3.out.lt
   have hne1 : ¬ w3.heap.size = w.heap.size + 1 := by omega
   have hne2 : ¬ w.heap.size + 1 = w3.heap.size := by omega
   go_wp2
   refine bodyPost_ret (v := .tuple #[frV 0 0 none 0 0, .bool false]) (by simp [results, Try.results8, go_sem, *]) rfl ?_
   refine ⟨none, 0, rfl, World.ownsRow_nil _ _ _ _, ?_⟩
   repeat (first | (with_reducible exact hb6.out) | (with_reducible refine ext_alloc ?_ _) | (with_reducible refine fill_below ?_ (Nat.le_succ _)))
 · have heq := rules_all hq
   have heq' : ¬ runD l s < P.length := by omega
   obtain ⟨hql, _⟩ := runQ_len hrb hq
   rw [hl] at hql
   rw [show runF u lo l s = (u, lo, rodsD q.1.ds) by simp [runF, runOk, hrb, hq, runW], show runOk u lo l s = true by simp [runOk, hrb, hq]]
   have HB := Lib.hid hrb
   have HQL := Lib.hid hql
   have HQ := Lib.hid hq
   clear hrb hl hq heq hql
   go_enter Try.func8, Try.ntmps8
   go_wp2_with fail
   refine (HA.out _ (rdx H.out hbx.out)).mono ?_
   rw [HB.out]
   rintro e w1 ⟨rfl, hb1⟩
   have BF1 := Lib.hid (BF0.out.ext hb1)
   have BR1 := Lib.hid (BRes.out.ext hb1)
   have hb2 := Lib.hid (ext_trans hbx.out hb1)
   clear hb1
   go_wp2_with fail
   refine (HWD.out _).mono ?_
   rintro e w2 ⟨D, cb, rfl, hod, hb3⟩
   have hod := Lib.hid hod
   have BF2 := Lib.hid (BF1.out.ext hb3)
   have BR2 := Lib.hid (BR1.out.ext hb3)
   have hb4 := Lib.hid (ext_trans hb2.out hb3)
   obtain ⟨f0, f1, f2⟩ := BF2.out.q3
   clear hb3
   go_wp2_with fail
   refine (HRN.out _ D cb (rdx H.out hb4.out) (Reads.of_own hod.out)).mono ?_
   rintro e w3 ⟨A1, c1, M1, m1, d1, rfl, hq1, hml, hb5⟩
   have BR3 := Lib.hid (BR2.out.ext hb5)
   have hb6 := Lib.hid (ext_trans hb4.out hb5)
   clear f0 f1 f2
   obtain ⟨_, hr7, _⟩ := hq1 q HQ.out
   have hr8 := Lib.hid (own_base (base' := w.heap.size) hr7 hb4.out.size)
   clear hq1 hr7 hb5
   obtain ⟨r0, r1, r2⟩ := BR3.out.q3
   obtain ⟨z0, z1, z2⟩ := BR3.out.z3
   have hRl := BR3.out.lt
   have hne1 : ¬ w3.heap.size = w.heap.size + 1 := by omega
   have hne2 : ¬ w.heap.size + 1 = w3.heap.size := by omega
   go_wp2
   refine bodyPost_ret (v := .tuple #[frV u lo A1 n c1, .bool true]) (by simp [results, Try.results8, go_sem, *]) rfl ?_
   refine ⟨A1, c1, by dsimp only; rw [rodsD_len, HQL.out], ?_, ?_⟩
   · dsimp only
     rw [rodsD_len, HQL.out]
     repeat (first | (with_reducible exact hr8.out) | (with_reducible refine World.ownsRow.alloc ?_ _) | (with_reducible refine fill_own' ?_ (own_nbT hr8.out BR3.out (by decide))))
   · repeat (first | (with_reducible exact hb6.out) | (with_reducible refine ext_alloc ?_ _) | (with_reducible refine fill_below ?_ (Nat.le_succ _)))
set_option maxRecDepth 100000 in
set_option maxHeartbeats 4000000 in
theorem specCompiledMoves_any (u lo : Int) (A : Option Addr) (n c : Nat) (l : List R2) (s : ByteArray) (w : World) (hs : s.size ≤ 16777216) (hn : n ≤ 1048576) (h : Reads w w.heap.size 2 A n (rowsV2 l)) :
 Calls Try.prog 13 #[.string s, frV u lo A n c] w (RetMv w (cmpMs u lo l s) (cmpOk u lo l s)) := by
 have hl := rows_len2 h
 have H := Lib.hid h
 have HA := Lib.hid (fun (w : World) h => l15Asked_any u lo A n c l s w hs hn h)
 have BF0 := Lib.hid (Blk.born w #[.int .i64 u, .int .i64 lo, .slice A n c] 26 (H := w.heap.size) rfl)
 have hbx := Lib.hid (ext_alloc (ext_refl w) (.cells #[.int .i64 u, .int .i64 lo, .slice A n c] 26))
 cases hrb : runB u lo l s
 · rw [show cmpMs u lo l s = [] by simp [cmpMs, cmpOk, runOk, hrb], show cmpOk u lo l s = false by simp [cmpOk, runOk, hrb]]
   have HB := Lib.hid hrb
   clear hrb hl
   go_enter Try.func13, Try.ntmps13
   go_wp2_with fail
   refine (HA.out _ (rdx H.out hbx.out)).mono ?_
   rw [HB.out]
   rintro e w1 ⟨rfl, hb1⟩
   have hb2 := Lib.hid (ext_trans hbx.out hb1)
   have ho := Lib.hid (own_lit_at w1 75 3 (H := w1.heap.size) (B := w.heap.size) rfl hb2.out.size)
   clear hb1
   go_wp2
   go_ret2
   exact ⟨_, _, rfl, ho.out, ext_alloc hb2.out _⟩
 have hgd : goodB u lo l = true := by unfold runB at hrb; simp only [Bool.and_eq_true] at hrb; exact hrb.2
 have hsc : scrB s = true := by unfold runB at hrb; simp only [Bool.and_eq_true] at hrb; exact hrb.1
 have hs80 : s.size ≤ 80 := by unfold scrB at hsc; simp only [Bool.and_eq_true, decide_eq_true_eq] at hsc; exact hsc.1
 have HWD := Lib.hid (fun w => l15Words_any s w hs80)
 have hwl : (wordsL s).length ≤ 81 := by have := wordsL_len s; omega
 have HPW := Lib.hid (show ∀ x ∈ wordsL s, (wordO x).isSome = true ∧ x.length ≤ 80 from fun x hx => ⟨by unfold scrB at hsc; simp only [Bool.and_eq_true, List.all_eq_true] at hsc; exact hsc.2 x hx, Nat.le_trans (words_part hx) hs80⟩)
 have HRN := Lib.hid (fun (w : World) (D : Option Addr) (cb : Nat) h hm => l15Run_any u lo A n c l (wordsL s) D cb w hgd HPW.out hwl h hm)
 unfold RetRun at HRN
 have eD : doneN n ((wordsL s).map wd) (st0 l) = runD l s := by unfold runD rulesL; rw [hl]
 have eQ : runO n ((wordsL s).map wd) (st0 l) = runQ l s := by unfold runQ rulesL; rw [hl]
 rw [eD, eQ] at HRN
 have eL : (rulesL s).length = (wordsL s).length := rulesL_len s
 have hdl := runD_le l s
 have h81 := rules_81 hrb
 obtain ⟨P, hP⟩ : ∃ P, wordsL s = P := ⟨_, rfl⟩
 rw [hP] at HWD HRN HPW hwl eL
 clear eD eQ hsc hgd hP
 rcases hq : runQ l s with _ | q
 · rw [show cmpMs u lo l s = [] by simp [cmpMs, cmpOk, runOk, hq], show cmpOk u lo l s = false by simp [cmpOk, runOk, hq]]
   have HB := Lib.hid hrb
   have hless := rules_less hq
   have hlt2 : runD l s < P.length := by omega
   clear hrb hl hq hless
   go_enter Try.func13, Try.ntmps13
   go_wp2_with fail
   refine (HA.out _ (rdx H.out hbx.out)).mono ?_
   rw [HB.out]
   rintro e w1 ⟨rfl, hb1⟩
   have BF1 := Lib.hid (BF0.out.ext hb1)
   have hb2 := Lib.hid (ext_trans hbx.out hb1)
   clear hb1
   go_wp2_with fail
   refine (HWD.out _).mono ?_
   rintro e w2 ⟨D, cb, rfl, hod, hb3⟩
   have hod := Lib.hid hod
   have BF2 := Lib.hid (BF1.out.ext hb3)
   have hb4 := Lib.hid (ext_trans hb2.out hb3)
   obtain ⟨f0, f1, f2⟩ := BF2.out.q3
   clear hb3
   go_wp2_with fail
   refine (HRN.out _ D cb (rdx H.out hb4.out) (Reads.of_own hod.out)).mono ?_
   rintro e w3 ⟨A1, c1, M1, m1, d1, rfl, hq1, hml, hb5⟩
   have hb6 := Lib.hid (ext_trans hb4.out hb5)
   clear f0 f1 f2
   clear hq1 hb5
   have ho := Lib.hid (own_lit_at (w3.alloc (.cells #[.int .i64 u, .int .i64 lo, .slice A1 n c1] 26)) 75 3 (H := w3.heap.size + 1) (B := w.heap.size) (by simp) (by have := hb6.out.size; omega))
   go_wp2
   go_ret2
   exact ⟨_, _, rfl, ho.out, ext_alloc (ext_alloc hb6.out _) _⟩
 · have heq := rules_all hq
   have heq' : ¬ runD l s < P.length := by omega
   by_cases h60 : q.1.ms.length ≤ 60
   · rw [show cmpMs u lo l s = q.1.ms by simp [cmpMs, cmpOk, runOk, hrb, hq, runW, h60], show cmpOk u lo l s = true by simp [cmpOk, runOk, hrb, hq, runW, h60]]
     have HB := Lib.hid hrb
     have HQ := Lib.hid hq
     clear hrb hl hq heq
     go_enter Try.func13, Try.ntmps13
     go_wp2_with fail
     refine (HA.out _ (rdx H.out hbx.out)).mono ?_
     rw [HB.out]
     rintro e w1 ⟨rfl, hb1⟩
     have BF1 := Lib.hid (BF0.out.ext hb1)
     have hb2 := Lib.hid (ext_trans hbx.out hb1)
     clear hb1
     go_wp2_with fail
     refine (HWD.out _).mono ?_
     rintro e w2 ⟨D, cb, rfl, hod, hb3⟩
     have hod := Lib.hid hod
     have BF2 := Lib.hid (BF1.out.ext hb3)
     have hb4 := Lib.hid (ext_trans hb2.out hb3)
     obtain ⟨f0, f1, f2⟩ := BF2.out.q3
     clear hb3
     go_wp2_with fail
     refine (HRN.out _ D cb (rdx H.out hb4.out) (Reads.of_own hod.out)).mono ?_
     rintro e w3 ⟨A1, c1, M1, m1, d1, rfl, hq1, hml, hb5⟩
     have hb6 := Lib.hid (ext_trans hb4.out hb5)
     clear f0 f1 f2
     obtain ⟨rfl, _, hm7⟩ := hq1 q HQ.out
     have hm8 := Lib.hid (own_base (base' := w.heap.size) hm7 hb4.out.size)
     clear hq1 hm7 hb5
     go_wp2
     go_ret2
     exact ⟨_, _, rfl, hm8.out.alloc _, ext_alloc hb6.out _⟩
   · rw [show cmpMs u lo l s = [] by simp [cmpMs, cmpOk, runOk, hrb, hq, runW, h60], show cmpOk u lo l s = false by simp [cmpOk, runOk, hrb, hq, runW, h60]]
     have HB := Lib.hid hrb
     have HQ := Lib.hid hq
     clear hrb hl hq heq
     go_enter Try.func13, Try.ntmps13
     go_wp2_with fail
     refine (HA.out _ (rdx H.out hbx.out)).mono ?_
     rw [HB.out]
     rintro e w1 ⟨rfl, hb1⟩
     have BF1 := Lib.hid (BF0.out.ext hb1)
     have hb2 := Lib.hid (ext_trans hbx.out hb1)
     clear hb1
     go_wp2_with fail
     refine (HWD.out _).mono ?_
     rintro e w2 ⟨D, cb, rfl, hod, hb3⟩
     have hod := Lib.hid hod
     have BF2 := Lib.hid (BF1.out.ext hb3)
     have hb4 := Lib.hid (ext_trans hb2.out hb3)
     obtain ⟨f0, f1, f2⟩ := BF2.out.q3
     clear hb3
     go_wp2_with fail
     refine (HRN.out _ D cb (rdx H.out hb4.out) (Reads.of_own hod.out)).mono ?_
     rintro e w3 ⟨A1, c1, M1, m1, d1, rfl, hq1, hml, hb5⟩
     have hb6 := Lib.hid (ext_trans hb4.out hb5)
     clear f0 f1 f2
     obtain ⟨rfl, _, _⟩ := hq1 q HQ.out
     clear hq1 hb5
     have ho := Lib.hid (own_lit_at (w3.alloc (.cells #[.int .i64 u, .int .i64 lo, .slice A1 n c1] 26)) 75 3 (H := w3.heap.size + 1) (B := w.heap.size) (by simp) (by have := hb6.out.size; omega))
     go_wp2
     go_ret2
     exact ⟨_, _, rfl, ho.out, ext_alloc (ext_alloc hb6.out _) _⟩

set_option maxRecDepth 100000 in
set_option maxHeartbeats 4000000 in
theorem specFirstFailure_any (u lo : Int) (A : Option Addr) (n c : Nat) (l : List R2) (s : ByteArray) (w : World) (hs : s.size ≤ 16777216) (hn : n ≤ 1048576) (h : Reads w w.heap.size 2 A n (rowsV2 l)) :
 Calls Try.prog 17 #[.string s, frV u lo A n c] w (RetV (.tuple #[.int .i64 (ffV u lo l s), .bool (runB u lo l s)]) w) := by
 have hl := rows_len2 h
 have H := Lib.hid h
 have HA := Lib.hid (fun (w : World) h => l15Asked_any u lo A n c l s w hs hn h)
 have BF0 := Lib.hid (Blk.born w #[.int .i64 u, .int .i64 lo, .slice A n c] 26 (H := w.heap.size) rfl)
 have hbx := Lib.hid (ext_alloc (ext_refl w) (.cells #[.int .i64 u, .int .i64 lo, .slice A n c] 26))
 cases hrb : runB u lo l s
 · rw [show ffV u lo l s = 0 by simp [ffV, hrb]] -- hrb
   have HB := Lib.hid hrb
   clear hrb hl
   go_enter Try.func17, Try.ntmps17
   go_wp2_with fail
   refine (HA.out _ (rdx H.out hbx.out)).mono ?_
   rw [HB.out]
   rintro e w1 ⟨rfl, hb1⟩
   go_wp2
   go_ret2
   exact ⟨rfl, ext_trans hbx.out hb1⟩
 have hgd : goodB u lo l = true := by unfold runB at hrb; simp only [Bool.and_eq_true] at hrb; exact hrb.2
 have hsc : scrB s = true := by unfold runB at hrb; simp only [Bool.and_eq_true] at hrb; exact hrb.1
 have hs80 : s.size ≤ 80 := by unfold scrB at hsc; simp only [Bool.and_eq_true, decide_eq_true_eq] at hsc; exact hsc.1
 have HWD := Lib.hid (fun w => l15Words_any s w hs80)
 have hwl : (wordsL s).length ≤ 81 := by have := wordsL_len s; omega
 have HPW := Lib.hid (show ∀ x ∈ wordsL s, (wordO x).isSome = true ∧ x.length ≤ 80 from fun x hx => ⟨by unfold scrB at hsc; simp only [Bool.and_eq_true, List.all_eq_true] at hsc; exact hsc.2 x hx, Nat.le_trans (words_part hx) hs80⟩)
 have HRN := Lib.hid (fun (w : World) (D : Option Addr) (cb : Nat) h hm => l15Run_any u lo A n c l (wordsL s) D cb w hgd HPW.out hwl h hm)
 unfold RetRun at HRN
 have eD : doneN n ((wordsL s).map wd) (st0 l) = runD l s := by unfold runD rulesL; rw [hl]
 have eQ : runO n ((wordsL s).map wd) (st0 l) = runQ l s := by unfold runQ rulesL; rw [hl]
 rw [eD, eQ] at HRN
 have eL : (rulesL s).length = (wordsL s).length := rulesL_len s
 have hdl := runD_le l s
 have h81 := rules_81 hrb
 obtain ⟨P, hP⟩ : ∃ P, wordsL s = P := ⟨_, rfl⟩
 rw [hP] at HWD HRN HPW hwl eL
 clear eD eQ hsc hgd hP
 rw [show ffV u lo l s = (runD l s : Int) by simp [ffV, hrb]]
 · have HB := Lib.hid hrb
   clear hrb hl
   go_enter Try.func17, Try.ntmps17
   go_wp2_with fail
   refine (HA.out _ (rdx H.out hbx.out)).mono ?_
   rw [HB.out]
   rintro e w1 ⟨rfl, hb1⟩
   have BF1 := Lib.hid (BF0.out.ext hb1)
   have hb2 := Lib.hid (ext_trans hbx.out hb1)
   clear hb1
   obtain ⟨f0, f1, f2⟩ := BF1.out.q3
   have hFl := BF1.out.lt
   go_upto_region 3 with fail
   go_cut [8] (fun s8 wx => s8 = .int .i64 (runD l s : Int) ∧ Hid (Below w1.heap.size w1 wx))
   case first =>
    go_region_held3 (fun w' => w'.cell? ⟨w.heap.size, 0, none⟩ = some (.int .i64 u) ∧ w'.cell? ⟨w.heap.size, 1, none⟩ = some (.int .i64 lo) ∧ w'.cell? ⟨w.heap.size, 2, none⟩ = some (.slice A n c)) (first | (go_split_ands; ((repeat' refine And.intro ?_ ?_) <;> with_reducible (repeat (first | assumption | refine cell_drew ?_ | refine cell_old ?_ _ | refine cell_set_far (by simp <;> omega) ?_))))) (first
     | (go_at_call 38; (refine (HWD.out _).mono ?_); rintro e wA ⟨D, cb, rfl, hod, hbA⟩; refine hvR (p := Below w1.heap.size w1 wA) ?_ fun hcA => ?_; (focus ((repeat (first | (with_reducible exact ext_refl _) | (with_reducible refine ext_drew ?_) | (with_reducible refine ext_alloc ?_ _) | (with_reducible refine ext_trans ?_ hbA))); done)); have f0A := ext_cell hcA f0; have f1A := ext_cell hcA f1; have f2A := ext_cell hcA f2; obtain ⟨hcAc, hfAc⟩ := bcell hbA; have hz := hbA.size; (try simp at hz); (try have hy3 := Nat.lt_of_lt_of_le hy2 hbA.size); (try have hy2 := Nat.lt_of_lt_of_le hy1 hbA.size); (try have hy1 := Nat.lt_of_lt_of_le hy hbA.size); (try have hy := Nat.lt_of_succ_le hz); have hcA := Lib.hid hcA; have hodA := Lib.hid hod; clear hod)
     | (go_at_call 39; (refine (HRN.out _ D cb ?_ ?_).mono ?_); (focus (refine rdx H.out ?_; (repeat (first | (with_reducible exact ext_trans hb2.out hcA.out) | (with_reducible refine ext_drew ?_) | (with_reducible refine ext_alloc ?_ _))); done)); (focus (first | (exact Reads.of_own hodA.out) | (exact Reads.of_own (hodA.out.alloc _)))); rintro e wR ⟨A1, c1, M1, m1, d1, rfl, hq1, hml, hbR⟩; refine hvR (p := Below w1.heap.size w1 wR) ?_ fun hcR => ?_; (focus ((repeat (first | (with_reducible exact hcA.out) | (with_reducible refine ext_drew ?_) | (with_reducible refine ext_alloc ?_ _) | (with_reducible refine ext_trans ?_ hbR))); done)); have f0R := ext_cell hcR f0; have f1R := ext_cell hcR f1; have f2R := ext_cell hcR f2; obtain ⟨hcRc, hfRc⟩ := bcell hbR; have hz := hbR.size; (try simp at hz); (try have hy3 := Nat.lt_of_lt_of_le hy2 hbR.size); (try have hy2 := Nat.lt_of_lt_of_le hy1 hbR.size); (try have hy1 := Nat.lt_of_lt_of_le hy hbR.size); (try have hy := Nat.lt_of_succ_le hz); have hcR := Lib.hid hcR; clear hq1))
    all_goals
     go_wp2_with fail
     go_meet
     refine ⟨rfl, Lib.hid ?_⟩
     repeat (first | (with_reducible exact hcR.out) | (with_reducible refine ext_alloc ?_ _) | (with_reducible refine fill_below ?_ (by first | omega | (simp <;> omega))))
   case rest =>
    obtain ⟨rfl, hbC⟩ := hcut
    go_wp2
    go_ret2
    exact ⟨rfl, ext_trans hb2.out hbC.out⟩
end Go.Proofs.Ytihljhikhplegaa
