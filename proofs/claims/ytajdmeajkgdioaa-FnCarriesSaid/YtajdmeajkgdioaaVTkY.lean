/- TakeNumber, BorrowsOf both; AddDigit, TakeDigit, CarriesOf: the program's. -/
import Derived.Test.YtajdmeajkgdioaaVM9
import Derived.Test.YtajdmeajkgdioaaVM7
namespace Go.Proofs.Ytajdmeajkgdioaa
open Go.RowKit
set_option linter.unusedVariables false
set_option linter.unusedSimpArgs false
def takeNF (u lo : Int) (l : List R2) (m : Int) : Int × Int × List R2 := if takeNok u lo l m = true then (u, lo, rodsD (takeNst l m).ds) else (0, 0, [])
set_option maxRecDepth 100000 in
set_option maxHeartbeats 1000000 in
theorem implTakeNumber_any (u lo : Int) (A : Option Addr) (n c : Nat) (l : List R2) (m : Int) (w : World) (hn : n ≤ 1048576) (h : Reads w w.heap.size 2 A n (rowsV2 l)) :
 Calls Try.prog 23 #[frV u lo A n c, .int .i64 m] w (RetFrB w (takeNF u lo l m) (takeNok u lo l m)) := by
 have hl := rows_len2 h
 have H := Lib.hid h
 have BRes := Lib.hid (Blk.born (w.alloc (.cells #[.int .i64 u, .int .i64 lo, .slice A n c] 26)) #[.int .i64 0, .int .i64 0, .slice none 0 0] 26 (H := w.heap.size + 1) (by simp))
 have hbx := Lib.hid (ext_alloc (ext_alloc (ext_refl w) (.cells #[.int .i64 u, .int .i64 lo, .slice A n c] 26)) (.cells #[.int .i64 0, .int .i64 0, .slice none 0 0] 26))
 cases hg : takeNok u lo l m
 · rw [show takeNF u lo l m = (0, 0, []) by simp [takeNF, hg]]
   have HG := Lib.hid hg
   clear h hg hl
   go_enter Try.func23, Try.ntmps23
   go_wp2_with fail
   refine (takeNumber_no u lo A n c l m _ hn (rdx H.out hbx.out) HG.out).mono ?_
   rintro e w1 ⟨rfl, hb1⟩
   have BR1 := Lib.hid (BRes.out.ext hb1)
   have hb2 := Lib.hid (ext_trans hbx.out hb1)
   obtain ⟨r0, r1, r2⟩ := BR1.out.q3
   obtain ⟨f0, f1, f2⟩ := BR1.out.z3
   have hRl := BR1.out.lt
   clear hb1
   go_wp2
   refine bodyPost_ret (v := .tuple #[frV 0 0 none 0 0, .bool false]) (by simp [results, Try.results23, go_sem, *]) rfl ?_
   exact ⟨none, 0, rfl, World.ownsRow_nil _ _ _ _, fill_below hb2.out (Nat.le_succ _)⟩
 · rw [show takeNF u lo l m = (u, lo, rodsD (takeNst l m).ds) by simp [takeNF, hg]]
   have HG := Lib.hid hg
   have ES : takeNst l m = takeN n m ⟨dsOf l, [], 0⟩ n := by rw [← hl]; rfl
   obtain ⟨st, hst⟩ : ∃ st, st = takeN n m ⟨dsOf l, [], 0⟩ n := ⟨_, rfl⟩
   rw [ES, ← hst]
   have HST := Lib.hid hst
   clear h hg hl ES hst
   go_enter Try.func23, Try.ntmps23
   go_wp2_with fail
   refine (takeNumber_yes u lo A n c l m _ hn (rdx H.out hbx.out) HG.out).mono ?_
   rw [← HST.out]
   rintro e w1 ⟨g, rfl, hW, hb1⟩
   obtain ⟨hh, cr, cm, Am, hB, _, hr, _⟩ := hW
   obtain ⟨q0, q1, q2, q3, q4⟩ := hB.q5
   have hr := Lib.hid (own_base (base' := w.heap.size) hr hbx.out.size)
   have BR1 := Lib.hid (BRes.out.ext hb1)
   have hb2 := Lib.hid (ext_trans hbx.out hb1)
   obtain ⟨r0, r1, r2⟩ := BR1.out.q3
   obtain ⟨f0, f1, f2⟩ := BR1.out.z3
   have hRl := BR1.out.lt
   clear hb1 hB
   go_wp2
   refine bodyPost_ret (v := .tuple #[frV u lo (some ⟨hh, 0, none⟩) st.ds.length cr, .bool true]) (by simp [results, Try.results23, go_sem, *]) rfl ?_
   refine ⟨some ⟨hh, 0, none⟩, cr, by rw [rodsD_len], ?_, fill_below hb2.out (Nat.le_succ _)⟩
   rw [rodsD_len]
   exact fill_own' hr.out (own_nbT hr.out BR1.out (by decide))
set_option maxRecDepth 100000 in
set_option maxHeartbeats 1000000 in
theorem specTakeNumber_any (u lo : Int) (A : Option Addr) (n c : Nat) (l : List R2) (m : Int) (w : World) (hn : n ≤ 1048576) (h : Reads w w.heap.size 2 A n (rowsV2 l)) :
 Calls Try.prog 24 #[frV u lo A n c, .int .i64 m] w (RetFrB w (takeNF u lo l m) (takeNok u lo l m)) := by
 have hl := rows_len2 h
 have H := Lib.hid h
 have BF0 := Lib.hid ((Blk.born w #[.int .i64 u, .int .i64 lo, .slice A n c] 26 (H := w.heap.size) rfl).al (.cells #[.int .i64 0, .int .i64 0, .slice none 0 0] 26))
 have BRes := Lib.hid (Blk.born (w.alloc (.cells #[.int .i64 u, .int .i64 lo, .slice A n c] 26)) #[.int .i64 0, .int .i64 0, .slice none 0 0] 26 (H := w.heap.size + 1) (by simp))
 have hbx := Lib.hid (ext_alloc (ext_alloc (ext_refl w) (.cells #[.int .i64 u, .int .i64 lo, .slice A n c] 26)) (.cells #[.int .i64 0, .int .i64 0, .slice none 0 0] 26))
 cases hg : takeNok u lo l m
 · rw [show takeNF u lo l m = (0, 0, []) by simp [takeNF, hg]]
   have HG := Lib.hid hg
   clear h hg hl
   go_enter Try.func24, Try.ntmps24
   go_wp2_with fail
   refine (l8Can_any u lo A n c l m _ hn (rdx H.out hbx.out)).mono ?_
   rw [HG.out]
   rintro e w1 ⟨rfl, hb1⟩
   have BR1 := Lib.hid (BRes.out.ext hb1)
   have hb2 := Lib.hid (ext_trans hbx.out hb1)
   obtain ⟨r0, r1, r2⟩ := BR1.out.q3
   obtain ⟨f0, f1, f2⟩ := BR1.out.z3
   have hRl := BR1.out.lt
   clear hb1
   go_wp2
   refine bodyPost_ret (v := .tuple #[frV 0 0 none 0 0, .bool false]) (by simp [results, Try.results24, go_sem, *]) rfl ?_
   exact ⟨none, 0, rfl, World.ownsRow_nil _ _ _ _, fill_below hb2.out (Nat.le_succ _)⟩
 · rw [show takeNF u lo l m = (u, lo, rodsD (takeNst l m).ds) by simp [takeNF, hg]]
   have HG := Lib.hid hg
   have ES : takeNst l m = takeN n m ⟨dsOf l, [], 0⟩ n := by rw [← hl]; rfl
   have hg' := hg
   unfold takeNok at hg'
   simp only [Bool.and_eq_true] at hg'
   obtain ⟨hgd, hcb⟩ := hg'
   have hf := good_fr hgd
   have hs := good_std hgd
   have hn1 := (frB_head hf).2.2.1
   have hn8 := (frB_head hf).2.2.2
   rw [hl] at hn1 hn8
   have hdl : (dsOf l).length = n := by rw [dsOf_len, hl]
   have m0 : 0 ≤ m := canTake_nonneg hcb
   have m1 : m < 200000000 := canTake_bound hf hcb
   have FIT0 : ∀ k, k < n → TakeFit (k + 1) (dg n m k) (takeN n m ⟨dsOf l, [], 0⟩ k).ds := by
    intro k hk
    have := (takeN_facts (s := ⟨dsOf l, [], 0⟩) (m := m) (dsOf_WF hf hs) m0 (canTake_fit hcb) k (by show k ≤ (dsOf l).length; omega)).2 (by show k < (dsOf l).length; omega)
    rwa [show (WS.ds ⟨dsOf l, [], 0⟩).length = n from hdl] at this
   have FIT := Lib.hid FIT0
   have H2 := Lib.hid (show Reads w w.heap.size 2 A n (rowsV2 (rodsD (dsOf l))) by rw [rodsD_dsOf hf hs]; exact h)
   have HDL := Lib.hid hdl
   obtain ⟨st, hst⟩ : ∃ st, st = takeN n m ⟨dsOf l, [], 0⟩ n := ⟨_, rfl⟩
   rw [ES, ← hst]
   have HST := Lib.hid hst
   clear h hg hgd hcb hf hs hdl hl ES hst FIT0
   go_enter Try.func24, Try.ntmps24
   go_wp2_with fail
   refine (l8Can_any u lo A n c l m _ hn (rdx H.out hbx.out)).mono ?_
   rw [HG.out]
   rintro e w1 ⟨rfl, hb1⟩
   have BR1 := Lib.hid (BRes.out.ext hb1)
   have hb2 := Lib.hid (ext_trans hbx.out hb1)
   obtain ⟨c0, c1, c2⟩ := (BF0.out.ext hb1).q3
   clear hb1
   go_wp2_with fail
   refine (l8Number_any u lo A n c (dsOf l) m _ HDL.out hn1 hn8 m0 m1 FIT.out (rdx H2.out hb2.out)).mono ?_
   rw [← HST.out]
   rintro e w2 ⟨A1, c1', h1, cr1, rfl, hm1, hr1, hb3⟩
   have hr1 := Lib.hid (own_base (base' := w.heap.size) hr1 hb2.out.size)
   have BR2 := Lib.hid (BR1.out.ext hb3)
   have hb4 := Lib.hid (ext_trans hb2.out hb3)
   obtain ⟨r0, r1, r2⟩ := BR2.out.q3
   obtain ⟨f0, f1, f2⟩ := BR2.out.z3
   have hRl := BR2.out.lt
   clear hb3 hm1 c0 c1 c2
   have hne1 : ¬ w2.heap.size = w.heap.size + 1 := by omega
   have hne2 : ¬ w.heap.size + 1 = w2.heap.size := by omega
   go_wp2
   refine bodyPost_ret (v := .tuple #[frV u lo (some ⟨h1, 0, none⟩) st.ds.length cr1, .bool true]) (by simp [results, Try.results24, go_sem, *]) rfl ?_
   refine ⟨some ⟨h1, 0, none⟩, cr1, by rw [rodsD_len], ?_, ?_⟩
   · rw [rodsD_len]
     repeat (first | (with_reducible exact hr1.out) | (with_reducible refine World.ownsRow.alloc ?_ _) | (with_reducible refine fill_own' ?_ (own_nbT hr1.out BR2.out (by decide))))
   · repeat (first | (with_reducible exact hb4.out) | (with_reducible refine ext_alloc ?_ _) | (with_reducible refine fill_below ?_ (Nat.le_succ _)))
set_option maxRecDepth 100000 in
set_option maxHeartbeats 2000000 in
theorem implAddDigit_any (u lo : Int) (A : Option Addr) (n c : Nat) (l : List R2) (rod d : Int) (w : World) (hn : n ≤ 1048576) (h : Reads w w.heap.size 2 A n (rowsV2 l)) :
 Calls Try.prog 18 #[frV u lo A n c, .int .i64 rod, .int .i64 d] w (RetFrB w (addDF u lo l rod d) (addDigitB u lo l rod d)) := by
 have hl := rows_len2 h
 have H := Lib.hid h
 have BRes := Lib.hid (Blk.born (w.alloc (.cells #[.int .i64 u, .int .i64 lo, .slice A n c] 26)) #[.int .i64 0, .int .i64 0, .slice none 0 0] 26 (H := w.heap.size + 1) (by simp))
 have hbx := Lib.hid (ext_alloc (ext_alloc (ext_refl w) (.cells #[.int .i64 u, .int .i64 lo, .slice A n c] 26)) (.cells #[.int .i64 0, .int .i64 0, .slice none 0 0] 26))
 cases hg : addDigitB u lo l rod d
 · rw [show addDF u lo l rod d = (0, 0, []) by simp [addDF, hg]]
   have HG := Lib.hid hg
   clear h hg hl
   go_enter Try.func18, Try.ntmps18
   go_wp2_with fail
   refine (addDigit_no u lo A n c l rod d _ hn (rdx H.out hbx.out) HG.out).mono ?_
   rintro e w1 ⟨rfl, hb1⟩
   have BR1 := Lib.hid (BRes.out.ext hb1)
   have hb2 := Lib.hid (ext_trans hbx.out hb1)
   obtain ⟨r0, r1, r2⟩ := BR1.out.q3
   obtain ⟨f0, f1, f2⟩ := BR1.out.z3
   have hRl := BR1.out.lt
   clear hb1
   go_wp2
   refine bodyPost_ret (v := .tuple #[frV 0 0 none 0 0, .bool false]) (by simp [results, Try.results18, go_sem, *]) rfl ?_
   exact ⟨none, 0, rfl, World.ownsRow_nil _ _ _ _, fill_below hb2.out (Nat.le_succ _)⟩
 · rw [show addDF u lo l rod d = (u, lo, rodsD (addS (rod.toNat + 1) d ⟨dsOf l, [], 0⟩).ds) by simp [addDF, hg]]
   have HG := Lib.hid hg
   obtain ⟨st, hst⟩ : ∃ st, addS (rod.toNat + 1) d ⟨dsOf l, [], 0⟩ = st := ⟨_, rfl⟩
   have HY := Lib.hid (fun w h => addDigit_yes u lo A n c l rod d w hn h HG.out)
   rw [hst] at HY ⊢
   clear h hg hl hst
   go_enter Try.func18, Try.ntmps18
   go_wp2_with fail
   refine (HY.out _ (rdx H.out hbx.out)).mono ?_
   rintro e w1 ⟨g, rfl, hW, hb1⟩
   obtain ⟨hh, cr, cm, Am, hB, _, hr, _⟩ := hW
   obtain ⟨q0, q1, q2, q3, q4⟩ := hB.q5
   have hr := Lib.hid (own_base (base' := w.heap.size) hr hbx.out.size)
   have BR1 := Lib.hid (BRes.out.ext hb1)
   have hb2 := Lib.hid (ext_trans hbx.out hb1)
   obtain ⟨r0, r1, r2⟩ := BR1.out.q3
   obtain ⟨f0, f1, f2⟩ := BR1.out.z3
   have hRl := BR1.out.lt
   clear hb1 hB
   go_wp2
   refine bodyPost_ret (v := .tuple #[frV u lo (some ⟨hh, 0, none⟩) st.ds.length cr, .bool true]) (by simp [results, Try.results18, go_sem, *]) rfl ?_
   refine ⟨some ⟨hh, 0, none⟩, cr, by rw [rodsD_len], ?_, fill_below hb2.out (Nat.le_succ _)⟩
   rw [rodsD_len]
   exact fill_own' hr.out (own_nbT hr.out BR1.out (by decide))
set_option maxRecDepth 100000 in
set_option maxHeartbeats 2000000 in
theorem implTakeDigit_any (u lo : Int) (A : Option Addr) (n c : Nat) (l : List R2) (rod d : Int) (w : World) (hn : n ≤ 1048576) (h : Reads w w.heap.size 2 A n (rowsV2 l)) :
 Calls Try.prog 31 #[frV u lo A n c, .int .i64 rod, .int .i64 d] w (RetFrB w (takeDF u lo l rod d) (takeDigitB u lo l rod d)) := by
 have hl := rows_len2 h
 have H := Lib.hid h
 have BRes := Lib.hid (Blk.born (w.alloc (.cells #[.int .i64 u, .int .i64 lo, .slice A n c] 26)) #[.int .i64 0, .int .i64 0, .slice none 0 0] 26 (H := w.heap.size + 1) (by simp))
 have hbx := Lib.hid (ext_alloc (ext_alloc (ext_refl w) (.cells #[.int .i64 u, .int .i64 lo, .slice A n c] 26)) (.cells #[.int .i64 0, .int .i64 0, .slice none 0 0] 26))
 cases hg : takeDigitB u lo l rod d
 · rw [show takeDF u lo l rod d = (0, 0, []) by simp [takeDF, hg]]
   have HG := Lib.hid hg
   clear h hg hl
   go_enter Try.func31, Try.ntmps31
   go_wp2_with fail
   refine (takeDigit_no u lo A n c l rod d _ hn (rdx H.out hbx.out) HG.out).mono ?_
   rintro e w1 ⟨rfl, hb1⟩
   have BR1 := Lib.hid (BRes.out.ext hb1)
   have hb2 := Lib.hid (ext_trans hbx.out hb1)
   obtain ⟨r0, r1, r2⟩ := BR1.out.q3
   obtain ⟨f0, f1, f2⟩ := BR1.out.z3
   have hRl := BR1.out.lt
   clear hb1
   go_wp2
   refine bodyPost_ret (v := .tuple #[frV 0 0 none 0 0, .bool false]) (by simp [results, Try.results31, go_sem, *]) rfl ?_
   exact ⟨none, 0, rfl, World.ownsRow_nil _ _ _ _, fill_below hb2.out (Nat.le_succ _)⟩
 · rw [show takeDF u lo l rod d = (u, lo, rodsD (takeS (rod.toNat + 1) d ⟨dsOf l, [], 0⟩).ds) by simp [takeDF, hg]]
   have HG := Lib.hid hg
   obtain ⟨st, hst⟩ : ∃ st, takeS (rod.toNat + 1) d ⟨dsOf l, [], 0⟩ = st := ⟨_, rfl⟩
   have HY := Lib.hid (fun w h => takeDigit_yes u lo A n c l rod d w hn h HG.out)
   rw [hst] at HY ⊢
   clear h hg hl hst
   go_enter Try.func31, Try.ntmps31
   go_wp2_with fail
   refine (HY.out _ (rdx H.out hbx.out)).mono ?_
   rintro e w1 ⟨g, rfl, hW, hb1⟩
   obtain ⟨hh, cr, cm, Am, hB, _, hr, _⟩ := hW
   obtain ⟨q0, q1, q2, q3, q4⟩ := hB.q5
   have hr := Lib.hid (own_base (base' := w.heap.size) hr hbx.out.size)
   have BR1 := Lib.hid (BRes.out.ext hb1)
   have hb2 := Lib.hid (ext_trans hbx.out hb1)
   obtain ⟨r0, r1, r2⟩ := BR1.out.q3
   obtain ⟨f0, f1, f2⟩ := BR1.out.z3
   have hRl := BR1.out.lt
   clear hb1 hB
   go_wp2
   refine bodyPost_ret (v := .tuple #[frV u lo (some ⟨hh, 0, none⟩) st.ds.length cr, .bool true]) (by simp [results, Try.results31, go_sem, *]) rfl ?_
   refine ⟨some ⟨hh, 0, none⟩, cr, by rw [rodsD_len], ?_, fill_below hb2.out (Nat.le_succ _)⟩
   rw [rodsD_len]
   exact fill_own' hr.out (own_nbT hr.out BR1.out (by decide))
set_option maxRecDepth 100000 in
set_option maxHeartbeats 2000000 in
theorem implCarriesOf_any (u lo : Int) (A : Option Addr) (n c : Nat) (l : List R2) (m : Int) (w : World) (hn : n ≤ 1048576) (h : Reads w w.heap.size 2 A n (rowsV2 l)) :
 Calls Try.prog 36 #[frV u lo A n c, .int .i64 m] w (RetV (.tuple #[.int .i64 (if addNok u lo l m = true then (addNst l m).ask else 0), .bool (addNok u lo l m)]) w) := by
 have hl := rows_len2 h
 have H := Lib.hid h
 have hbx := Lib.hid (ext_alloc (ext_refl w) (.cells #[.int .i64 u, .int .i64 lo, .slice A n c] 26))
 cases hg : addNok u lo l m
 · have HG := Lib.hid hg
   rw [if_neg (by simp)]
   clear h hg hl
   go_enter Try.func36, Try.ntmps36
   go_wp2_with fail
   refine (addNumber_no u lo A n c l m _ hn (rdx H.out hbx.out) HG.out).mono ?_
   rintro e w1 ⟨rfl, hb1⟩
   have hb2 := Lib.hid (ext_trans hbx.out hb1)
   clear hb1
   go_wp2
   go_ret2
   exact ⟨rfl, hb2.out⟩
 · have HG := Lib.hid hg
   rw [if_pos rfl]
   have ES : addNst l m = addN n m ⟨dsOf l, [], 0⟩ n := by rw [← hl]; rfl
   obtain ⟨st, hst⟩ : ∃ st, addN n m ⟨dsOf l, [], 0⟩ n = st := ⟨_, rfl⟩
   have HY := Lib.hid (fun w h => addNumber_yes u lo A n c l m w hn h HG.out)
   rw [hst] at HY
   rw [ES, hst]
   clear h hg hl hst ES
   go_enter Try.func36, Try.ntmps36
   go_wp2_with fail
   refine (HY.out _ (rdx H.out hbx.out)).mono ?_
   rintro e w1 ⟨g, rfl, hW, hb1⟩
   obtain ⟨hh, cr, cm, Am, hB, _, hr, _⟩ := hW
   obtain ⟨q0, q1, q2, q3, q4⟩ := hB.q5
   have hb2 := Lib.hid (ext_trans hbx.out hb1)
   clear hb1 hB hr
   go_wp2
   go_ret2
   exact ⟨rfl, hb2.out⟩
set_option maxRecDepth 100000 in
set_option maxHeartbeats 2000000 in
theorem implBorrowsOf_any (u lo : Int) (A : Option Addr) (n c : Nat) (l : List R2) (m : Int) (w : World) (hn : n ≤ 1048576) (h : Reads w w.heap.size 2 A n (rowsV2 l)) :
 Calls Try.prog 27 #[frV u lo A n c, .int .i64 m] w (RetV (.tuple #[.int .i64 (if takeNok u lo l m = true then (takeNst l m).ask else 0), .bool (takeNok u lo l m)]) w) := by
 have hl := rows_len2 h
 have H := Lib.hid h
 have hbx := Lib.hid (ext_alloc (ext_refl w) (.cells #[.int .i64 u, .int .i64 lo, .slice A n c] 26))
 cases hg : takeNok u lo l m
 · have HG := Lib.hid hg
   rw [if_neg (by simp)]
   clear h hg hl
   go_enter Try.func27, Try.ntmps27
   go_wp2_with fail
   refine (takeNumber_no u lo A n c l m _ hn (rdx H.out hbx.out) HG.out).mono ?_
   rintro e w1 ⟨rfl, hb1⟩
   have hb2 := Lib.hid (ext_trans hbx.out hb1)
   clear hb1
   go_wp2
   go_ret2
   exact ⟨rfl, hb2.out⟩
 · have HG := Lib.hid hg
   rw [if_pos rfl]
   have ES : takeNst l m = takeN n m ⟨dsOf l, [], 0⟩ n := by rw [← hl]; rfl
   obtain ⟨st, hst⟩ : ∃ st, takeN n m ⟨dsOf l, [], 0⟩ n = st := ⟨_, rfl⟩
   have HY := Lib.hid (fun w h => takeNumber_yes u lo A n c l m w hn h HG.out)
   rw [hst] at HY
   rw [ES, hst]
   clear h hg hl hst ES
   go_enter Try.func27, Try.ntmps27
   go_wp2_with fail
   refine (HY.out _ (rdx H.out hbx.out)).mono ?_
   rintro e w1 ⟨g, rfl, hW, hb1⟩
   obtain ⟨hh, cr, cm, Am, hB, _, hr, _⟩ := hW
   obtain ⟨q0, q1, q2, q3, q4⟩ := hB.q5
   have hb2 := Lib.hid (ext_trans hbx.out hb1)
   clear hb1 hB hr
   go_wp2
   go_ret2
   exact ⟨rfl, hb2.out⟩
set_option maxRecDepth 100000 in
set_option maxHeartbeats 1000000 in
theorem specBorrowsOf_any (u lo : Int) (A : Option Addr) (n c : Nat) (l : List R2) (m : Int) (w : World) (hn : n ≤ 1048576) (h : Reads w w.heap.size 2 A n (rowsV2 l)) :
 Calls Try.prog 28 #[frV u lo A n c, .int .i64 m] w (RetV (.tuple #[.int .i64 (if takeNok u lo l m = true then (takeNst l m).ask else 0), .bool (takeNok u lo l m)]) w) := by
 have hl := rows_len2 h
 have H := Lib.hid h
 have BF0 := Lib.hid ((Blk.born w #[.int .i64 u, .int .i64 lo, .slice A n c] 26 (H := w.heap.size) rfl))
 have hbx := Lib.hid (ext_alloc (ext_refl w) (.cells #[.int .i64 u, .int .i64 lo, .slice A n c] 26))
 cases hg : takeNok u lo l m
 · rw [if_neg (by simp)]
   have HG := Lib.hid hg
   clear h hg hl
   go_enter Try.func28, Try.ntmps28
   go_wp2_with fail
   refine (l8Can_any u lo A n c l m _ hn (rdx H.out hbx.out)).mono ?_
   rw [HG.out]
   rintro e w1 ⟨rfl, hb1⟩
   have hb2 := Lib.hid (ext_trans hbx.out hb1)
   clear hb1
   go_wp2
   go_ret2
   exact ⟨rfl, hb2.out⟩
 · rw [if_pos rfl]
   have HG := Lib.hid hg
   have ES : takeNst l m = takeN n m ⟨dsOf l, [], 0⟩ n := by rw [← hl]; rfl
   have hg' := hg
   unfold takeNok at hg'
   simp only [Bool.and_eq_true] at hg'
   obtain ⟨hgd, hcb⟩ := hg'
   have hf := good_fr hgd
   have hs := good_std hgd
   have hn1 := (frB_head hf).2.2.1
   have hn8 := (frB_head hf).2.2.2
   rw [hl] at hn1 hn8
   have hdl : (dsOf l).length = n := by rw [dsOf_len, hl]
   have m0 : 0 ≤ m := canTake_nonneg hcb
   have m1 : m < 200000000 := canTake_bound hf hcb
   have FIT0 : ∀ k, k < n → TakeFit (k + 1) (dg n m k) (takeN n m ⟨dsOf l, [], 0⟩ k).ds := by
    intro k hk
    have := (takeN_facts (s := ⟨dsOf l, [], 0⟩) (m := m) (dsOf_WF hf hs) m0 (canTake_fit hcb) k (by show k ≤ (dsOf l).length; omega)).2 (by show k < (dsOf l).length; omega)
    rwa [show (WS.ds ⟨dsOf l, [], 0⟩).length = n from hdl] at this
   have FIT := Lib.hid FIT0
   have H2 := Lib.hid (show Reads w w.heap.size 2 A n (rowsV2 (rodsD (dsOf l))) by rw [rodsD_dsOf hf hs]; exact h)
   have HDL := Lib.hid hdl
   obtain ⟨st, hst⟩ : ∃ st, st = takeN n m ⟨dsOf l, [], 0⟩ n := ⟨_, rfl⟩
   rw [ES, ← hst]
   have HST := Lib.hid hst
   clear h hg hgd hcb hf hs hdl hl ES hst FIT0
   go_enter Try.func28, Try.ntmps28
   go_wp2_with fail
   refine (l8Can_any u lo A n c l m _ hn (rdx H.out hbx.out)).mono ?_
   rw [HG.out]
   rintro e w1 ⟨rfl, hb1⟩
   have hb2 := Lib.hid (ext_trans hbx.out hb1)
   obtain ⟨c0, c1, c2⟩ := (BF0.out.ext hb1).q3
   clear hb1
   go_wp2_with fail
   refine (l8Number_any u lo A n c (dsOf l) m _ HDL.out hn1 hn8 m0 m1 FIT.out (rdx H2.out hb2.out)).mono ?_
   rw [← HST.out]
   rintro e w2 ⟨A1, c1', h1, cr1, rfl, hm1, hr1, hb3⟩
   have hb4 := Lib.hid (ext_trans hb2.out hb3)
   clear hb3 hm1 hr1 c0 c1 c2
   go_wp2
   go_ret2
   exact ⟨rfl, ext_alloc hb4.out _⟩
end Go.Proofs.Ytajdmeajkgdioaa
