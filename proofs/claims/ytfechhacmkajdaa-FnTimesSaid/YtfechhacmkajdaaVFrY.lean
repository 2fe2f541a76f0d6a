/- AddNumber, ProductOn: the program's and the reference's. -/
import Derived.Test.YtfechhacmkajdaaVM6
namespace Go.Proofs.Ytfechhacmkajdaa
open Go.RowKit
set_option linter.unusedVariables false
set_option linter.unusedSimpArgs false
def addNF (u lo : Int) (l : List R2) (m : Int) : Int × Int × List R2 := if addNok u lo l m = true then (u, lo, rodsD (addNst l m).ds) else (0, 0, [])
set_option maxRecDepth 100000 in
set_option maxHeartbeats 1000000 in
theorem implAddNumber_any (u lo : Int) (A : Option Addr) (n c : Nat) (l : List R2) (m : Int) (w : World) (hn : n ≤ 1048576) (h : Reads w w.heap.size 2 A n (rowsV2 l)) :
 Calls Try.prog 42 #[frV u lo A n c, .int .i64 m] w (RetFrB w (addNF u lo l m) (addNok u lo l m)) := by
 have hl := rows_len2 h
 have H := Lib.hid h
 have BRes := Lib.hid (Blk.born (w.alloc (.cells #[.int .i64 u, .int .i64 lo, .slice A n c] 42)) #[.int .i64 0, .int .i64 0, .slice none 0 0] 42 (H := w.heap.size + 1) (by simp))
 have hbx := Lib.hid (ext_alloc (ext_alloc (ext_refl w) (.cells #[.int .i64 u, .int .i64 lo, .slice A n c] 42)) (.cells #[.int .i64 0, .int .i64 0, .slice none 0 0] 42))
 cases hg : addNok u lo l m
 · rw [show addNF u lo l m = (0, 0, []) by simp [addNF, hg]]
   have HG := Lib.hid hg
   clear h hg hl
   go_enter Try.func42, Try.ntmps42
   go_wp2_with fail
   refine (addNumber_no u lo A n c l m _ hn (rdx H.out hbx.out) HG.out).mono ?_
   rintro e w1 ⟨rfl, hb1⟩
   have BR1 := Lib.hid (BRes.out.ext hb1)
   have hb2 := Lib.hid (ext_trans hbx.out hb1)
   obtain ⟨r0, r1, r2⟩ := BR1.out.q3
   obtain ⟨f0, f1, f2⟩ := BR1.out.z3
   have hRl := BR1.out.lt
   clear hb1
   go_wp2
   refine bodyPost_ret (v := .tuple #[frV 0 0 none 0 0, .bool false]) (by simp [results, Try.results42, go_sem, *]) rfl ?_
   exact ⟨none, 0, rfl, World.ownsRow_nil _ _ _ _, fill_below hb2.out (Nat.le_succ _)⟩
 · rw [show addNF u lo l m = (u, lo, rodsD (addNst l m).ds) by simp [addNF, hg]]
   have HG := Lib.hid hg
   have ES : addNst l m = addN n m ⟨dsOf l, [], 0⟩ n := by rw [← hl]; rfl
   obtain ⟨st, hst⟩ : ∃ st, st = addN n m ⟨dsOf l, [], 0⟩ n := ⟨_, rfl⟩
   rw [ES, ← hst]
   have HST := Lib.hid hst
   clear h hg hl ES hst
   go_enter Try.func42, Try.ntmps42
   go_wp2_with fail
   refine (addNumber_yes u lo A n c l m _ hn (rdx H.out hbx.out) HG.out).mono ?_
   rw [← HST.out]
   rintro e w1 ⟨g, rfl, hW, hb1⟩
   obtain ⟨hh, cr, cm, Am, hB, _, hr, _⟩ := hW
   obtain ⟨q0, q1, q2, q3, q4⟩ := hB.q5
   have hr := Lib.hid (own_base (base' := w.heap.size) hr hbx.out.size)
   have BR1 := Lib.hid (BRes.out.ext hb1)
   have hb2 := Lib.hid (ext_trans hbx.out hb1)
   obtain ⟨r0, r1, r2⟩ := BR1.out.q3
   obtain ⟨f0, f1, f2⟩ := BR1.out.z3
   have hRl := BR1.out.lt
   clear hb1 hB
   go_wp2
   refine bodyPost_ret (v := .tuple #[frV u lo (some ⟨hh, 0, none⟩) st.ds.length cr, .bool true]) (by simp [results, Try.results42, go_sem, *]) rfl ?_
   refine ⟨some ⟨hh, 0, none⟩, cr, by rw [rodsD_len], ?_, fill_below hb2.out (Nat.le_succ _)⟩
   rw [rodsD_len]
   exact fill_own' hr.out (own_nbT hr.out BR1.out (by decide))
set_option maxRecDepth 100000 in
set_option maxHeartbeats 1000000 in
theorem specAddNumber_any (u lo : Int) (A : Option Addr) (n c : Nat) (l : List R2) (m : Int) (w : World) (hn : n ≤ 1048576) (h : Reads w w.heap.size 2 A n (rowsV2 l)) :
 Calls Try.prog 43 #[frV u lo A n c, .int .i64 m] w (RetFrB w (addNF u lo l m) (addNok u lo l m)) := by
 have hl := rows_len2 h
 have H := Lib.hid h
 have BF0 := Lib.hid ((Blk.born w #[.int .i64 u, .int .i64 lo, .slice A n c] 42 (H := w.heap.size) rfl).al (.cells #[.int .i64 0, .int .i64 0, .slice none 0 0] 42))
 have BRes := Lib.hid (Blk.born (w.alloc (.cells #[.int .i64 u, .int .i64 lo, .slice A n c] 42)) #[.int .i64 0, .int .i64 0, .slice none 0 0] 42 (H := w.heap.size + 1) (by simp))
 have hbx := Lib.hid (ext_alloc (ext_alloc (ext_refl w) (.cells #[.int .i64 u, .int .i64 lo, .slice A n c] 42)) (.cells #[.int .i64 0, .int .i64 0, .slice none 0 0] 42))
 cases hg : addNok u lo l m
 · rw [show addNF u lo l m = (0, 0, []) by simp [addNF, hg]]
   have HG := Lib.hid hg
   clear h hg hl
   go_enter Try.func43, Try.ntmps43
   go_wp2_with fail
   refine (l6Can_any u lo A n c l m _ hn (rdx H.out hbx.out)).mono ?_
   rw [HG.out]
   rintro e w1 ⟨rfl, hb1⟩
   have BR1 := Lib.hid (BRes.out.ext hb1)
   have hb2 := Lib.hid (ext_trans hbx.out hb1)
   obtain ⟨r0, r1, r2⟩ := BR1.out.q3
   obtain ⟨f0, f1, f2⟩ := BR1.out.z3
   have hRl := BR1.out.lt
   clear hb1
   go_wp2
   refine bodyPost_ret (v := .tuple #[frV 0 0 none 0 0, .bool false]) (by simp [results, Try.results43, go_sem, *]) rfl ?_
   exact ⟨none, 0, rfl, World.ownsRow_nil _ _ _ _, fill_below hb2.out (Nat.le_succ _)⟩
 · rw [show addNF u lo l m = (u, lo, rodsD (addNst l m).ds) by simp [addNF, hg]]
   have HG := Lib.hid hg
   have ES : addNst l m = addN n m ⟨dsOf l, [], 0⟩ n := by rw [← hl]; rfl
   have hg' := hg
   unfold addNok at hg'
   simp only [Bool.and_eq_true] at hg'
   obtain ⟨hgd, hcb⟩ := hg'
   have hf := good_fr hgd
   have hs := good_std hgd
   have hn1 := (frB_head hf).2.2.1
   have hn8 := (frB_head hf).2.2.2
   rw [hl] at hn1 hn8
   have hdl : (dsOf l).length = n := by rw [dsOf_len, hl]
   have m0 : 0 ≤ m := canAdd_nonneg hcb
   have m1 : m < 200000000 := canAdd_bound hf hcb
   have FIT0 : ∀ k, k < n → AddFit (k + 1) (dg n m k) (addN n m ⟨dsOf l, [], 0⟩ k).ds := by
    intro k hk
    have := (addN_facts (s := ⟨dsOf l, [], 0⟩) (m := m) (dsOf_WF hf hs) m0 (canAdd_fit hcb) k (by show k ≤ (dsOf l).length; omega)).2 (by show k < (dsOf l).length; omega)
    rwa [show (WS.ds ⟨dsOf l, [], 0⟩).length = n from hdl] at this
   have FIT := Lib.hid FIT0
   have H2 := Lib.hid (show Reads w w.heap.size 2 A n (rowsV2 (rodsD (dsOf l))) by rw [rodsD_dsOf hf hs]; exact h)
   have HDL := Lib.hid hdl
   obtain ⟨st, hst⟩ : ∃ st, st = addN n m ⟨dsOf l, [], 0⟩ n := ⟨_, rfl⟩
   rw [ES, ← hst]
   have HST := Lib.hid hst
   clear h hg hgd hcb hf hs hdl hl ES hst FIT0
   go_enter Try.func43, Try.ntmps43
   go_wp2_with fail
   refine (l6Can_any u lo A n c l m _ hn (rdx H.out hbx.out)).mono ?_
   rw [HG.out]
   rintro e w1 ⟨rfl, hb1⟩
   have BR1 := Lib.hid (BRes.out.ext hb1)
   have hb2 := Lib.hid (ext_trans hbx.out hb1)
   obtain ⟨c0, c1, c2⟩ := (BF0.out.ext hb1).q3
   clear hb1
   go_wp2_with fail
   refine (l6Number_any u lo A n c (dsOf l) m _ HDL.out hn1 hn8 m0 m1 FIT.out (rdx H2.out hb2.out)).mono ?_
   rw [← HST.out]
   rintro e w2 ⟨A1, c1', h1, cr1, rfl, hm1, hr1, hb3⟩
   have hr1 := Lib.hid (own_base (base' := w.heap.size) hr1 hb2.out.size)
   have BR2 := Lib.hid (BR1.out.ext hb3)
   have hb4 := Lib.hid (ext_trans hb2.out hb3)
   obtain ⟨r0, r1, r2⟩ := BR2.out.q3
   obtain ⟨f0, f1, f2⟩ := BR2.out.z3
   have hRl := BR2.out.lt
   clear hb3 hm1 c0 c1 c2
   have hne1 : ¬ w2.heap.size = w.heap.size + 1 := by omega
   have hne2 : ¬ w.heap.size + 1 = w2.heap.size := by omega
   go_wp2
   refine bodyPost_ret (v := .tuple #[frV u lo (some ⟨h1, 0, none⟩) st.ds.length cr1, .bool true]) (by simp [results, Try.results43, go_sem, *]) rfl ?_
   refine ⟨some ⟨h1, 0, none⟩, cr1, by rw [rodsD_len], ?_, ?_⟩
   · rw [rodsD_len]
     repeat (first | (with_reducible exact hr1.out) | (with_reducible refine World.ownsRow.alloc ?_ _) | (with_reducible refine fill_own' ?_ (own_nbT hr1.out BR2.out (by decide))))
   · repeat (first | (with_reducible exact hb4.out) | (with_reducible refine ext_alloc ?_ _) | (with_reducible refine fill_below ?_ (Nat.le_succ _)))
/-- two factors -/
def facB (a b : Int) : Bool := inB a 0 9999 && inB b 0 9999
theorem isFactor_any (a : Int) (w : World) : Calls Try.prog 46 #[.int .i64 a] w fun e w' => e = .returned (.bool (inB a 0 9999)) ∧ w = w' := by
 go_enter Try.func46, Try.ntmps46
 go_wp2_with (go_at_call 51; refine (inB_within _ _ _ _).mono ?_; rintro e w' ⟨rfl, rfl⟩)
 go_ret
 exact ⟨rfl, rfl⟩
theorem l9Factor_any (a : Int) (w : World) : Calls Try.prog 49 #[.int .i64 a] w fun e w' => e = .returned (.bool (inB a 0 9999)) ∧ w = w' := by
 go_enter Try.func49, Try.ntmps49
 go_wp2_with (go_at_call 66; refine (inB_l1In _ _ _ _).mono ?_; rintro e w' ⟨rfl, rfl⟩)
 go_ret
 exact ⟨rfl, rfl⟩
theorem areFactors_any (a b : Int) (w : World) : Calls Try.prog 26 #[.int .i64 a, .int .i64 b] w fun e w' => e = .returned (.bool (facB a b)) ∧ w = w' := by
 have HA := Lib.hid (fun w => isFactor_any a w)
 have HB := Lib.hid (fun w => isFactor_any b w)
 unfold facB
 cases ha : inB a 0 9999
 · rw [ha] at HA
   have HX := Lib.hid ha
   clear ha
   go_enter Try.func26, Try.ntmps26
   go_wp2_with (go_at_call 46; refine (HA.out _).mono ?_; rintro e w' ⟨rfl, rfl⟩)
   go_ret
   exact ⟨rfl, rfl⟩
 · rw [ha] at HA
   have HX := Lib.hid ha
   clear ha
   go_enter Try.func26, Try.ntmps26
   go_wp2_with (first | (go_at_call 46; with_reducible refine (HA.out _).mono ?_; rintro e w' ⟨rfl, rfl⟩) | (go_at_call 46; with_reducible refine (HB.out _).mono ?_; rintro e w' ⟨rfl, rfl⟩))
   go_ret
   exact ⟨rfl, rfl⟩
theorem l9Both_any (a b : Int) (w : World) : Calls Try.prog 29 #[.int .i64 a, .int .i64 b] w fun e w' => e = .returned (.bool (facB a b)) ∧ w = w' := by
 have HA := Lib.hid (fun w => l9Factor_any a w)
 have HB := Lib.hid (fun w => l9Factor_any b w)
 unfold facB
 cases ha : inB a 0 9999
 · rw [ha] at HA
   have HX := Lib.hid ha
   clear ha
   go_enter Try.func29, Try.ntmps29
   go_wp2_with (go_at_call 49; refine (HA.out _).mono ?_; rintro e w' ⟨rfl, rfl⟩)
   go_ret
   exact ⟨rfl, rfl⟩
 · rw [ha] at HA
   have HX := Lib.hid ha
   clear ha
   go_enter Try.func29, Try.ntmps29
   go_wp2_with (first | (go_at_call 49; with_reducible refine (HA.out _).mono ?_; rintro e w' ⟨rfl, rfl⟩) | (go_at_call 49; with_reducible refine (HB.out _).mono ?_; rintro e w' ⟨rfl, rfl⟩))
   go_ret
   exact ⟨rfl, rfl⟩
def prodOk (u lo : Int) (l : List R2) (a b : Int) : Bool := facB a b && addNok u lo l (a * b)
def prodF (u lo : Int) (l : List R2) (a b : Int) : Int × Int × List R2 := if facB a b = true then addNF u lo l (a * b) else (0, 0, [])
set_option maxRecDepth 100000 in
set_option maxHeartbeats 1000000 in
theorem implProductOn_any (u lo : Int) (A : Option Addr) (n c : Nat) (l : List R2) (a b : Int) (w : World) (hn : n ≤ 1048576) (h : Reads w w.heap.size 2 A n (rowsV2 l)) :
 Calls Try.prog 21 #[frV u lo A n c, .int .i64 a, .int .i64 b] w (RetFrB w (prodF u lo l a b) (prodOk u lo l a b)) := by
 have H := Lib.hid h
 have BF0 := Lib.hid ((Blk.born w #[.int .i64 u, .int .i64 lo, .slice A n c] 42 (H := w.heap.size) rfl).al (.cells #[.int .i64 0, .int .i64 0, .slice none 0 0] 42))
 have BRes := Lib.hid (Blk.born (w.alloc (.cells #[.int .i64 u, .int .i64 lo, .slice A n c] 42)) #[.int .i64 0, .int .i64 0, .slice none 0 0] 42 (H := w.heap.size + 1) (by simp))
 have hbx := Lib.hid (ext_alloc (ext_alloc (ext_refl w) (.cells #[.int .i64 u, .int .i64 lo, .slice A n c] 42)) (.cells #[.int .i64 0, .int .i64 0, .slice none 0 0] 42))
 clear h
 cases hg : facB a b
 · rw [show prodF u lo l a b = (0, 0, []) by simp [prodF, hg], show prodOk u lo l a b = false by simp [prodOk, hg]]
   have HG := Lib.hid hg
   clear hg
   go_enter Try.func21, Try.ntmps21
   go_wp2_with fail
   refine (areFactors_any a b _).mono ?_
   rw [HG.out]
   rintro e w1 ⟨rfl, rfl⟩
   go_wp2
   refine bodyPost_ret (v := .tuple #[frV 0 0 none 0 0, .bool false]) (by simp [results, Try.results21, go_sem, *]) rfl ?_
   exact ⟨none, 0, rfl, World.ownsRow_nil _ _ _ _, by first | exact hbx.out | exact fill_below hbx.out (Nat.le_succ _)⟩
 · rw [show prodF u lo l a b = addNF u lo l (a * b) by simp [prodF, hg], show prodOk u lo l a b = addNok u lo l (a * b) by simp [prodOk, hg]]
   have hfb := hg
   simp only [facB, Bool.and_eq_true, inB_iff] at hfb
   obtain ⟨⟨a0, a9⟩, b0, b9⟩ := hfb
   have q0 : 0 ≤ a * b := Int.mul_nonneg a0 b0
   have q1 : a * b ≤ 9999 * 9999 := Int.mul_le_mul a9 b9 b0 (by omega)
   have HG := Lib.hid hg
   have HADD := Lib.hid (fun (w : World) h => implAddNumber_any u lo A n c l (a * b) w hn h)
   obtain ⟨X, hX⟩ : ∃ X, addNF u lo l (a * b) = X := ⟨_, rfl⟩
   obtain ⟨ok, hok⟩ : ∃ ok, addNok u lo l (a * b) = ok := ⟨_, rfl⟩
   rw [hX, hok] at HADD ⊢
   obtain ⟨U, LO, L⟩ := X
   clear hg hX hok
   go_enter Try.func21, Try.ntmps21
   go_wp2_with fail
   refine (areFactors_any a b _).mono ?_
   rw [HG.out]
   rintro e w1 ⟨rfl, rfl⟩
   go_wp2_with fail
   refine (HADD.out _ (rdx H.out hbx.out)).mono ?_
   rintro e w2 ⟨A1, c1, rfl, hr1, hb1⟩
   have hr1 := Lib.hid (own_base (base' := w.heap.size) hr1 hbx.out.size)
   have BR2 := Lib.hid (BRes.out.ext hb1)
   have hb4 := Lib.hid (ext_trans hbx.out hb1)
   obtain ⟨r0, r1, r2⟩ := BR2.out.q3
   obtain ⟨f0, f1, f2⟩ := BR2.out.z3
   have hRl := BR2.out.lt
   clear hb1
   have hne1 : ¬ w2.heap.size = w.heap.size + 1 := by omega
   have hne2 : ¬ w.heap.size + 1 = w2.heap.size := by omega
   go_wp2
   refine bodyPost_ret (v := .tuple #[frV U LO A1 L.length c1, .bool ok]) (by simp [results, Try.results21, go_sem, *]) rfl ?_
   refine ⟨A1, c1, rfl, ?_, ?_⟩
   · repeat (first | (with_reducible exact hr1.out) | (with_reducible refine World.ownsRow.alloc ?_ _) | (with_reducible refine fill_own' ?_ (own_nbT hr1.out BR2.out (by decide))))
   · repeat (first | (with_reducible exact hb4.out) | (with_reducible refine ext_alloc ?_ _) | (with_reducible refine fill_below ?_ (Nat.le_succ _)))
set_option maxRecDepth 100000 in
set_option maxHeartbeats 1000000 in
theorem specProductOn_any (u lo : Int) (A : Option Addr) (n c : Nat) (l : List R2) (a b : Int) (w : World) (hn : n ≤ 1048576) (h : Reads w w.heap.size 2 A n (rowsV2 l)) :
 Calls Try.prog 22 #[frV u lo A n c, .int .i64 a, .int .i64 b] w (RetFrB w (prodF u lo l a b) (prodOk u lo l a b)) := by
 have H := Lib.hid h
 have BF0 := Lib.hid ((Blk.born w #[.int .i64 u, .int .i64 lo, .slice A n c] 42 (H := w.heap.size) rfl).al (.cells #[.int .i64 0, .int .i64 0, .slice none 0 0] 42))
 have BRes := Lib.hid (Blk.born (w.alloc (.cells #[.int .i64 u, .int .i64 lo, .slice A n c] 42)) #[.int .i64 0, .int .i64 0, .slice none 0 0] 42 (H := w.heap.size + 1) (by simp))
 have hbx := Lib.hid (ext_alloc (ext_alloc (ext_refl w) (.cells #[.int .i64 u, .int .i64 lo, .slice A n c] 42)) (.cells #[.int .i64 0, .int .i64 0, .slice none 0 0] 42))
 clear h
 cases hg : facB a b
 · rw [show prodF u lo l a b = (0, 0, []) by simp [prodF, hg], show prodOk u lo l a b = false by simp [prodOk, hg]]
   have HG := Lib.hid hg
   clear hg
   go_enter Try.func22, Try.ntmps22
   go_wp2_with fail
   refine (l9Both_any a b _).mono ?_
   rw [HG.out]
   rintro e w1 ⟨rfl, rfl⟩
   go_wp2
   refine bodyPost_ret (v := .tuple #[frV 0 0 none 0 0, .bool false]) (by simp [results, Try.results22, go_sem, *]) rfl ?_
   exact ⟨none, 0, rfl, World.ownsRow_nil _ _ _ _, by first | exact hbx.out | exact fill_below hbx.out (Nat.le_succ _)⟩
 · rw [show prodF u lo l a b = addNF u lo l (a * b) by simp [prodF, hg], show prodOk u lo l a b = addNok u lo l (a * b) by simp [prodOk, hg]]
   have hfb := hg
   simp only [facB, Bool.and_eq_true, inB_iff] at hfb
   obtain ⟨⟨a0, a9⟩, b0, b9⟩ := hfb
   have q0 : 0 ≤ a * b := Int.mul_nonneg a0 b0
   have q1 : a * b ≤ 9999 * 9999 := Int.mul_le_mul a9 b9 b0 (by omega)
   have HG := Lib.hid hg
   have HADD := Lib.hid (fun (w : World) h => specAddNumber_any u lo A n c l (a * b) w hn h)
   obtain ⟨X, hX⟩ : ∃ X, addNF u lo l (a * b) = X := ⟨_, rfl⟩
   obtain ⟨ok, hok⟩ : ∃ ok, addNok u lo l (a * b) = ok := ⟨_, rfl⟩
   rw [hX, hok] at HADD ⊢
   obtain ⟨U, LO, L⟩ := X
   clear hg hX hok
   go_enter Try.func22, Try.ntmps22
   go_wp2_with fail
   refine (l9Both_any a b _).mono ?_
   rw [HG.out]
   rintro e w1 ⟨rfl, rfl⟩
   go_wp2_with fail
   refine (HADD.out _ (rdx H.out hbx.out)).mono ?_
   rintro e w2 ⟨A1, c1, rfl, hr1, hb1⟩
   have hr1 := Lib.hid (own_base (base' := w.heap.size) hr1 hbx.out.size)
   have BR2 := Lib.hid (BRes.out.ext hb1)
   have hb4 := Lib.hid (ext_trans hbx.out hb1)
   obtain ⟨r0, r1, r2⟩ := BR2.out.q3
   obtain ⟨f0, f1, f2⟩ := BR2.out.z3
   have hRl := BR2.out.lt
   clear hb1
   have hne1 : ¬ w2.heap.size = w.heap.size + 1 := by omega
   have hne2 : ¬ w.heap.size + 1 = w2.heap.size := by omega
   go_wp2
   refine bodyPost_ret (v := .tuple #[frV U LO A1 L.length c1, .bool ok]) (by simp [results, Try.results22, go_sem, *]) rfl ?_
   refine ⟨A1, c1, rfl, ?_, ?_⟩
   · repeat (first | (with_reducible exact hr1.out) | (with_reducible refine World.ownsRow.alloc ?_ _) | (with_reducible refine fill_own' ?_ (own_nbT hr1.out BR2.out (by decide))))
   · repeat (first | (with_reducible exact hb4.out) | (with_reducible refine ext_alloc ?_ _) | (with_reducible refine fill_below ?_ (Nat.le_succ _)))
end Go.Proofs.Ytfechhacmkajdaa
