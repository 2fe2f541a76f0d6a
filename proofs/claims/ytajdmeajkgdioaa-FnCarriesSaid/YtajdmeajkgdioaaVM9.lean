/- AddNumber, ProductOn: the program's and the reference's. -/
import Derived.Test.YtajdmeajkgdioaaVFrR
import Derived.Test.YtajdmeajkgdioaaVM6
namespace Go.Proofs.Ytajdmeajkgdioaa
open Go.RowKit
set_option linter.unusedVariables false
set_option linter.unusedSimpArgs false
def addNF (u lo : Int) (l : List R2) (m : Int) : Int × Int × List R2 := if addNok u lo l m = true then (u, lo, rodsD (addNst l m).ds) else (0, 0, [])
set_option maxRecDepth 100000 in
set_option maxHeartbeats 1000000 in
theorem implAddNumber_any (u lo : Int) (A : Option Addr) (n c : Nat) (l : List R2) (m : Int) (w : World) (hn : n ≤ 1048576) (h : Reads w w.heap.size 2 A n (rowsV2 l)) :
 Calls Try.prog 8 #[frV u lo A n c, .int .i64 m] w (RetFrB w (addNF u lo l m) (addNok u lo l m)) := by
 have hl := rows_len2 h
 have H := Lib.hid h
 have BRes := Lib.hid (Blk.born (w.alloc (.cells #[.int .i64 u, .int .i64 lo, .slice A n c] 26)) #[.int .i64 0, .int .i64 0, .slice none 0 0] 26 (H := w.heap.size + 1) (by simp))
 have hbx := Lib.hid (ext_alloc (ext_alloc (ext_refl w) (.cells #[.int .i64 u, .int .i64 lo, .slice A n c] 26)) (.cells #[.int .i64 0, .int .i64 0, .slice none 0 0] 26))
 cases hg : addNok u lo l m
 · rw [show addNF u lo l m = (0, 0, []) by simp [addNF, hg]]
   have HG := Lib.hid hg
   clear h hg hl
   go_enter Try.func8, Try.ntmps8
   go_wp2_with fail
   refine (addNumber_no u lo A n c l m _ hn (rdx H.out hbx.out) HG.out).mono ?_
   rintro e w1 ⟨rfl, hb1⟩
   have BR1 := Lib.hid (BRes.out.ext hb1)
   have hb2 := Lib.hid (ext_trans hbx.out hb1)
   obtain ⟨r0, r1, r2⟩ := BR1.out.q3
   obtain ⟨f0, f1, f2⟩ := BR1.out.z3
   have hRl := BR1.out.lt
   clear hb1
   go_wp2
   refine bodyPost_ret (v := .tuple #[frV 0 0 none 0 0, .bool false]) (by simp [results, Try.results8, go_sem, *]) rfl ?_
   exact ⟨none, 0, rfl, World.ownsRow_nil _ _ _ _, fill_below hb2.out (Nat.le_succ _)⟩
 · rw [show addNF u lo l m = (u, lo, rodsD (addNst l m).ds) by simp [addNF, hg]]
   have HG := Lib.hid hg
   have ES : addNst l m = addN n m ⟨dsOf l, [], 0⟩ n := by rw [← hl]; rfl
   obtain ⟨st, hst⟩ : ∃ st, st = addN n m ⟨dsOf l, [], 0⟩ n := ⟨_, rfl⟩
   rw [ES, ← hst]
   have HST := Lib.hid hst
   clear h hg hl ES hst
   go_enter Try.func8, Try.ntmps8
   go_wp2_with fail
   refine (addNumber_yes u lo A n c l m _ hn (rdx H.out hbx.out) HG.out).mono ?_
   rw [← HST.out]
   rintro e w1 ⟨g, rfl, hW, hb1⟩
   obtain ⟨hh, cr, cm, Am, hB, _, hr, _⟩ := hW
   obtain ⟨q0, q1, q2, q3, q4⟩ := hB.q5
   have hr := Lib.hid (own_base (base' := w.heap.size) hr hbx.out.size)
   have BR1 := Lib.hid (BRes.out.ext hb1)
   have hb2 := Lib.hid (ext_trans hbx.out hb1)
   obtain ⟨r0, r1, r2⟩ := BR1.out.q3
   obtain ⟨f0, f1, f2⟩ := BR1.out.z3
   have hRl := BR1.out.lt
   clear hb1 hB
   go_wp2
   refine bodyPost_ret (v := .tuple #[frV u lo (some ⟨hh, 0, none⟩) st.ds.length cr, .bool true]) (by simp [results, Try.results8, go_sem, *]) rfl ?_
   refine ⟨some ⟨hh, 0, none⟩, cr, by rw [rodsD_len], ?_, fill_below hb2.out (Nat.le_succ _)⟩
   rw [rodsD_len]
   exact fill_own' hr.out (own_nbT hr.out BR1.out (by decide))
set_option maxRecDepth 100000 in
set_option maxHeartbeats 1000000 in
theorem specAddNumber_any (u lo : Int) (A : Option Addr) (n c : Nat) (l : List R2) (m : Int) (w : World) (hn : n ≤ 1048576) (h : Reads w w.heap.size 2 A n (rowsV2 l)) :
 Calls Try.prog 9 #[frV u lo A n c, .int .i64 m] w (RetFrB w (addNF u lo l m) (addNok u lo l m)) := by
 have hl := rows_len2 h
 have H := Lib.hid h
 have BF0 := Lib.hid ((Blk.born w #[.int .i64 u, .int .i64 lo, .slice A n c] 26 (H := w.heap.size) rfl).al (.cells #[.int .i64 0, .int .i64 0, .slice none 0 0] 26))
 have BRes := Lib.hid (Blk.born (w.alloc (.cells #[.int .i64 u, .int .i64 lo, .slice A n c] 26)) #[.int .i64 0, .int .i64 0, .slice none 0 0] 26 (H := w.heap.size + 1) (by simp))
 have hbx := Lib.hid (ext_alloc (ext_alloc (ext_refl w) (.cells #[.int .i64 u, .int .i64 lo, .slice A n c] 26)) (.cells #[.int .i64 0, .int .i64 0, .slice none 0 0] 26))
 cases hg : addNok u lo l m
 · rw [show addNF u lo l m = (0, 0, []) by simp [addNF, hg]]
   have HG := Lib.hid hg
   clear h hg hl
   go_enter Try.func9, Try.ntmps9
   go_wp2_with fail
   refine (l6Can_any u lo A n c l m _ hn (rdx H.out hbx.out)).mono ?_
   rw [HG.out]
   rintro e w1 ⟨rfl, hb1⟩
   have BR1 := Lib.hid (BRes.out.ext hb1)
   have hb2 := Lib.hid (ext_trans hbx.out hb1)
   obtain ⟨r0, r1, r2⟩ := BR1.out.q3
   obtain ⟨f0, f1, f2⟩ := BR1.out.z3
   have hRl := BR1.out.lt
   clear hb1
   go_wp2
   refine bodyPost_ret (v := .tuple #[frV 0 0 none 0 0, .bool false]) (by simp [results, Try.results9, go_sem, *]) rfl ?_
   exact ⟨none, 0, rfl, World.ownsRow_nil _ _ _ _, fill_below hb2.out (Nat.le_succ _)⟩
 · rw [show addNF u lo l m = (u, lo, rodsD (addNst l m).ds) by simp [addNF, hg]]
   have HG := Lib.hid hg
   have ES : addNst l m = addN n m ⟨dsOf l, [], 0⟩ n := by rw [← hl]; rfl
   have hg' := hg
   unfold addNok at hg'
   simp only [Bool.and_eq_true] at hg'
   obtain ⟨hgd, hcb⟩ := hg'
   have hf := good_fr hgd
   have hs := good_std hgd
   have hn1 := (frB_head hf).2.2.1
   have hn8 := (frB_head hf).2.2.2
   rw [hl] at hn1 hn8
   have hdl : (dsOf l).length = n := by rw [dsOf_len, hl]
   have m0 : 0 ≤ m := canAdd_nonneg hcb
   have m1 : m < 200000000 := canAdd_bound hf hcb
   have FIT0 : ∀ k, k < n → AddFit (k + 1) (dg n m k) (addN n m ⟨dsOf l, [], 0⟩ k).ds := by
    intro k hk
    have := (addN_facts (s := ⟨dsOf l, [], 0⟩) (m := m) (dsOf_WF hf hs) m0 (canAdd_fit hcb) k (by show k ≤ (dsOf l).length; omega)).2 (by show k < (dsOf l).length; omega)
    rwa [show (WS.ds ⟨dsOf l, [], 0⟩).length = n from hdl] at this
   have FIT := Lib.hid FIT0
   have H2 := Lib.hid (show Reads w w.heap.size 2 A n (rowsV2 (rodsD (dsOf l))) by rw [rodsD_dsOf hf hs]; exact h)
   have HDL := Lib.hid hdl
   obtain ⟨st, hst⟩ : ∃ st, st = addN n m ⟨dsOf l, [], 0⟩ n := ⟨_, rfl⟩
   rw [ES, ← hst]
   have HST := Lib.hid hst
   clear h hg hgd hcb hf hs hdl hl ES hst FIT0
   go_enter Try.func9, Try.ntmps9
   go_wp2_with fail
   refine (l6Can_any u lo A n c l m _ hn (rdx H.out hbx.out)).mono ?_
   rw [HG.out]
   rintro e w1 ⟨rfl, hb1⟩
   have BR1 := Lib.hid (BRes.out.ext hb1)
   have hb2 := Lib.hid (ext_trans hbx.out hb1)
   obtain ⟨c0, c1, c2⟩ := (BF0.out.ext hb1).q3
   clear hb1
   go_wp2_with fail
   refine (l6Number_any u lo A n c (dsOf l) m _ HDL.out hn1 hn8 m0 m1 FIT.out (rdx H2.out hb2.out)).mono ?_
   rw [← HST.out]
   rintro e w2 ⟨A1, c1', h1, cr1, rfl, hm1, hr1, hb3⟩
   have hr1 := Lib.hid (own_base (base' := w.heap.size) hr1 hb2.out.size)
   have BR2 := Lib.hid (BR1.out.ext hb3)
   have hb4 := Lib.hid (ext_trans hb2.out hb3)
   obtain ⟨r0, r1, r2⟩ := BR2.out.q3
   obtain ⟨f0, f1, f2⟩ := BR2.out.z3
   have hRl := BR2.out.lt
   clear hb3 hm1 c0 c1 c2
   have hne1 : ¬ w2.heap.size = w.heap.size + 1 := by omega
   have hne2 : ¬ w.heap.size + 1 = w2.heap.size := by omega
   go_wp2
   refine bodyPost_ret (v := .tuple #[frV u lo (some ⟨h1, 0, none⟩) st.ds.length cr1, .bool true]) (by simp [results, Try.results9, go_sem, *]) rfl ?_
   refine ⟨some ⟨h1, 0, none⟩, cr1, by rw [rodsD_len], ?_, ?_⟩
   · rw [rodsD_len]
     repeat (first | (with_reducible exact hr1.out) | (with_reducible refine World.ownsRow.alloc ?_ _) | (with_reducible refine fill_own' ?_ (own_nbT hr1.out BR2.out (by decide))))
   · repeat (first | (with_reducible exact hb4.out) | (with_reducible refine ext_alloc ?_ _) | (with_reducible refine fill_below ?_ (Nat.le_succ _)))
/-- two factors -/
def facB (a b : Int) : Bool := inB a 0 9999 && inB b 0 9999
def prodOk (u lo : Int) (l : List R2) (a b : Int) : Bool := facB a b && addNok u lo l (a * b)
def prodF (u lo : Int) (l : List R2) (a b : Int) : Int × Int × List R2 := if facB a b = true then addNF u lo l (a * b) else (0, 0, [])
end Go.Proofs.Ytajdmeajkgdioaa
namespace Go.Proofs.Ytajdmeajkgdioaa
open Go.RowKit
set_option linter.unusedVariables false
set_option linter.unusedSimpArgs false
theorem addNF_len (u lo : Int) (l : List R2) (m : Int) : (addNF u lo l m).2.2.length ≤ 8 := by
 unfold addNF
 split
 · rename_i h
   unfold addNok at h
   simp only [Bool.and_eq_true] at h
   have hn := (frB_head (good_fr h.1)).2.2.2
   show (rodsD _).length ≤ 8
   rw [rodsD_len, addNst, addN_len]
   show (dsOf l).length ≤ 8
   rw [dsOf_len]
   exact hn
 · exact Nat.zero_le _
theorem prodF_len (u lo : Int) (l : List R2) (a b : Int) : (prodF u lo l a b).2.2.length ≤ 8 := by
 unfold prodF
 split
 · exact addNF_len _ _ _ _
 · exact Nat.zero_le _
end Go.Proofs.Ytajdmeajkgdioaa
