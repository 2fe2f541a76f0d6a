/- AddDigitMoves, AddNumberMoves, TakeDigitMoves, TakeNumberMoves: the program's. -/
import Derived.Test.YtphhelmcaehclaaVFrG
import Derived.Test.YtphhelmcaehclaaVM4
import Derived.Test.YtphhelmcaehclaaVFrL
import Derived.Test.YtphhelmcaehclaaVM3
namespace Go.Proofs.Ytphhelmcaehclaa
open Go.RowKit
set_option linter.unusedVariables false
set_option linter.unusedSimpArgs false
/-- moves come back beside a bool -/
abbrev RetMv (w : World) (l : List R3) (ok : Bool) : Ending → World → Prop := RetSliceB w 75 3 l.length (rowsV3 l) ok
def addDms (u lo : Int) (l : List R2) (rod d : Int) : List R3 := if addDigitB u lo l rod d = true then (addS (rod.toNat + 1) d ⟨dsOf l, [], 0⟩).ms else []
def takeDms (u lo : Int) (l : List R2) (rod d : Int) : List R3 := if takeDigitB u lo l rod d = true then (takeS (rod.toNat + 1) d ⟨dsOf l, [], 0⟩).ms else []
def addNst (l : List R2) (m : Int) : WS := addN l.length m ⟨dsOf l, [], 0⟩ l.length
def takeNst (l : List R2) (m : Int) : WS := takeN l.length m ⟨dsOf l, [], 0⟩ l.length
def addNok (u lo : Int) (l : List R2) (m : Int) : Bool := goodB u lo l && canB l m
def takeNok (u lo : Int) (l : List R2) (m : Int) : Bool := goodB u lo l && canTB l m
def addNmok (u lo : Int) (l : List R2) (m : Int) : Bool := addNok u lo l m && decide ((addNst l m).ms.length ≤ 60)
def takeNmok (u lo : Int) (l : List R2) (m : Int) : Bool := takeNok u lo l m && decide ((takeNst l m).ms.length ≤ 60)
def addNms (u lo : Int) (l : List R2) (m : Int) : List R3 := if addNmok u lo l m = true then (addNst l m).ms else []
def takeNms (u lo : Int) (l : List R2) (m : Int) : List R3 := if takeNmok u lo l m = true then (takeNst l m).ms else []
set_option maxRecDepth 100000 in
theorem implAddDigitMoves_any (u lo : Int) (A : Option Addr) (n c : Nat) (l : List R2) (rod d : Int) (w : World) (hn : n ≤ 1048576) (h : Reads w w.heap.size 2 A n (rowsV2 l)) :
 Calls Try.prog 32 #[frV u lo A n c, .int .i64 rod, .int .i64 d] w (RetMv w (addDms u lo l rod d) (addDigitB u lo l rod d)) := by
 have H := Lib.hid h
 cases hg : addDigitB u lo l rod d
 · have e : addDms u lo l rod d = [] := by simp [addDms, hg]
   rw [e]
   have HG := Lib.hid hg
   clear h e hg
   go_enter Try.func32, Try.ntmps32
   go_wp2_with fail
   refine (addDigit_no u lo A n c l rod d _ hn (rdx H.out (ext_alloc (ext_refl w) _)) HG.out).mono ?_
   rintro e w1 ⟨rfl, hb1⟩
   go_wp2
   go_ret2
   exact ⟨none, 0, rfl, World.ownsRow_nil _ _ _ _, (by repeat (first | exact ext_refl _ | assumption | refine ext_alloc ?_ _ | refine ext_drew ?_ | refine ext_drewN ?_ _ | refine ext_set ?_ (by simp <;> omega) _ | refine ext_trans ?_ (by assumption)))⟩
 · have e : addDms u lo l rod d = (addS (rod.toNat + 1) d ⟨dsOf l, [], 0⟩).ms := by simp [addDms, hg]
   rw [e]
   have HG := Lib.hid hg
   obtain ⟨st, hst⟩ : ∃ st, st = addS (rod.toNat + 1) d ⟨dsOf l, [], 0⟩ := ⟨_, rfl⟩
   rw [← hst]
   have HST := Lib.hid hst
   clear h e hg hst
   go_enter Try.func32, Try.ntmps32
   go_wp2_with fail
   refine (addDigit_yes u lo A n c l rod d _ hn (rdx H.out (ext_alloc (ext_refl w) _)) HG.out).mono ?_
   rw [← HST.out]
   rintro e w1 ⟨g, rfl, hW, hb1⟩
   obtain ⟨hh, cr, cm, Am, hB, _, _, hm⟩ := hW
   obtain ⟨q0, q1, q2, q3, q4⟩ := hB.q5
   have hb2 := Lib.hid (ext_trans (ext_alloc (ext_refl w) _) hb1)
   have hm := Lib.hid (own_base (base' := w.heap.size) hm (by simp))
   clear hb1 hB
   go_wp2
   go_ret2
   exact ⟨Am, cm, rfl, hm.out, hb2.out⟩
set_option maxRecDepth 100000 in
theorem implAddNumberMoves_any (u lo : Int) (A : Option Addr) (n c : Nat) (l : List R2) (m : Int) (w : World) (hn : n ≤ 1048576) (h : Reads w w.heap.size 2 A n (rowsV2 l)) :
 Calls Try.prog 23 #[frV u lo A n c, .int .i64 m] w (RetMv w (addNms u lo l m) (addNmok u lo l m)) := by
 have hl := rows_len2 h
 have H := Lib.hid h
 cases hg : addNok u lo l m
 · have e0 : addNmok u lo l m = false := by simp [addNmok, hg]
   have e : addNms u lo l m = [] := by simp [addNms, e0]
   rw [e, e0]
   have HG := Lib.hid hg
   clear h e e0 hg hl
   go_enter Try.func23, Try.ntmps23
   go_wp2_with fail
   refine (addNumber_no u lo A n c l m _ hn (rdx H.out (ext_alloc (ext_refl w) _)) HG.out).mono ?_
   rintro e w1 ⟨rfl, hb1⟩
   go_wp2
   go_ret2
   exact ⟨none, 0, rfl, World.ownsRow_nil _ _ _ _, (by repeat (first | exact ext_refl _ | assumption | refine ext_alloc ?_ _ | refine ext_drew ?_ | refine ext_drewN ?_ _ | refine ext_set ?_ (by simp <;> omega) _ | refine ext_trans ?_ (by assumption)))⟩
 · have HG := Lib.hid hg
   have ES : addNst l m = addN n m ⟨dsOf l, [], 0⟩ n := by rw [← hl]; rfl
   have EB : addNmok u lo l m = decide ((addNst l m).ms.length ≤ 60) := by simp [addNmok, hg]
   have EM : addNms u lo l m = if (addNst l m).ms.length ≤ 60 then (addNst l m).ms else [] := by simp [addNms, EB]
   have EN := Lib.hid (show (addNst l m).ms.length ≤ 16 * n by
    obtain ⟨hgd, _⟩ : goodB u lo l = true ∧ canB l m = true := by simpa [addNok] using hg
    obtain ⟨hf, _⟩ : frB u lo l = true ∧ stdB l = true := by simpa [goodB] using hgd
    have := (frB_head hf).2.2.2
    rw [ES]
    have := addN_msl n m ⟨dsOf l, [], 0⟩ n (by omega)
    simpa using this)
   obtain ⟨st, hst⟩ : ∃ st, st = addN n m ⟨dsOf l, [], 0⟩ n := ⟨_, rfl⟩
   rw [EB, EM, ES, ← hst]
   rw [ES, ← hst] at EN
   have EN := EN.out
   have HST := Lib.hid hst
   clear h hg hl EB EM ES hst
   by_cases h60 : st.ms.length ≤ 60
   · rw [if_pos h60]
     have hd : decide (st.ms.length ≤ 60) = true := by simpa using h60
     rw [hd]
     clear hd
     go_enter Try.func23, Try.ntmps23
     go_wp2_with fail
     refine (addNumber_yes u lo A n c l m _ hn (rdx H.out (ext_alloc (ext_refl w) _)) HG.out).mono ?_
     rw [← HST.out]
     rintro e w1 ⟨g, rfl, hW, hb1⟩
     obtain ⟨hh, cr, cm, Am, hB, _, _, hm⟩ := hW
     obtain ⟨q0, q1, q2, q3, q4⟩ := hB.q5
     have hb2 := Lib.hid (ext_trans (ext_alloc (ext_refl w) _) hb1)
     have hm := Lib.hid (own_base (base' := w.heap.size) hm (by simp))
     clear hb1 hB
     go_wp2
     go_ret2
     exact ⟨Am, cm, rfl, hm.out, hb2.out⟩
   · rw [if_neg h60]
     have hd : decide (st.ms.length ≤ 60) = false := by simpa using h60
     rw [hd]
     clear hd
     go_enter Try.func23, Try.ntmps23
     go_wp2_with fail
     refine (addNumber_yes u lo A n c l m _ hn (rdx H.out (ext_alloc (ext_refl w) _)) HG.out).mono ?_
     rw [← HST.out]
     rintro e w1 ⟨g, rfl, hW, hb1⟩
     obtain ⟨hh, cr, cm, Am, hB, _, _, hm⟩ := hW
     obtain ⟨q0, q1, q2, q3, q4⟩ := hB.q5
     have hb2 := Lib.hid (ext_trans (ext_alloc (ext_refl w) _) hb1)
     clear hb1 hB hm
     go_wp2
     go_ret2
     exact ⟨none, 0, rfl, World.ownsRow_nil _ _ _ _, hb2.out⟩
end Go.Proofs.Ytphhelmcaehclaa
namespace Go.Proofs.Ytphhelmcaehclaa
open Go.RowKit
set_option linter.unusedVariables false
set_option linter.unusedSimpArgs false
theorem l2Standard_b (u lo : Int) (A : Option Addr) (n c : Nat) (l : List R2) (w : World) (b : Bool) (hn : n ≤ 1048576) (h : Reads w w.heap.size 2 A n (rowsV2 l)) (hb : goodB u lo l = b) :
 Calls Try.prog 85 #[frV u lo A n c] w (RetV (.bool b) w) := by subst hb; exact l2Standard_any u lo A n c l w hn h
theorem good_fr {u lo : Int} {l : List R2} (h : goodB u lo l = true) : frB u lo l = true := by simp only [goodB, Bool.and_eq_true] at h; exact h.1
theorem good_std {u lo : Int} {l : List R2} (h : goodB u lo l = true) : stdB l = true := by simp only [goodB, Bool.and_eq_true] at h; exact h.2
/-- what the reference asks of a number to be added is what the program asks -/
theorem canB_ref {u lo : Int} {l : List R2} {m : Int} (hf : frB u lo l = true) (m0 : 0 ≤ m) : canB l m = decide (numR l + m < pw l.length) := by
 have hb := numR_bounds hf l.length
 rw [numR_all l _ (Nat.le_refl _)] at hb
 rw [Bool.eq_iff_iff]
 simp only [canB, Bool.and_eq_true, inB_iff, decide_eq_true_eq]
 omega
theorem canTB_ref {l : List R2} {m : Int} (m0 : 0 ≤ m) : canTB l m = decide (m ≤ numR l) := by
 rw [Bool.eq_iff_iff]
 simp only [canTB, inB_iff, decide_eq_true_eq]
 omega
set_option maxRecDepth 100000 in
theorem l6At_any (u lo : Int) (A : Option Addr) (n c r : Nat) (m : Int) (w : World) (hn : n ≤ 8) (hr : r < n) (m0 : 0 ≤ m) (m1 : m < 200000000) :
 Calls Try.prog 91 #[frV u lo A n c, .int .i64 m, .int .i64 (r : Int)] w fun e w' => e = .returned (.int .i64 (dg n m r)) ∧ Below w.heap.size w w' := by
 have hp0 := pw_pos (n - (r + 1))
 have hp1 := pw_lt (n := n - (r + 1)) (by omega)
 have hq0 : 0 ≤ m / pw (n - (r + 1)) := Int.ediv_nonneg m0 (by omega)
 have hq1 : m / pw (n - (r + 1)) ≤ m := Int.ediv_le_self _ m0
 have hne : ¬ pw (n - (r + 1)) = 0 := by omega
 have E := Lib.hid (show dg n m r = m / pw (n - (r + 1)) % 10 from rfl)
 go_enter Try.func91, Try.ntmps91
 go_wp2_with fail
 refine (l2Power_any _ (n - (r + 1)) _ (by omega) (by omega)).mono ?_
 rintro e w1 ⟨rfl, rfl⟩
 go_wp2
 go_ret
 exact ⟨ret_int (by rw [E.out]), (by repeat (first | exact ext_refl _ | assumption | refine ext_alloc ?_ _ | refine ext_drew ?_ | refine ext_drewN ?_ _ | refine ext_set ?_ (by simp <;> omega) _ | refine ext_trans ?_ (by assumption)))⟩
set_option maxRecDepth 100000 in
theorem l6CanDigit_any (u lo : Int) (A : Option Addr) (n c : Nat) (l : List R2) (rod d : Int) (w : World) (hn : n ≤ 1048576) (h : Reads w w.heap.size 2 A n (rowsV2 l)) :
 Calls Try.prog 68 #[frV u lo A n c, .int .i64 rod, .int .i64 d] w (RetV (.bool (addDigitB u lo l rod d)) w) := by
 have hl := rows_len2 h
 have H := Lib.hid h
 clear h
 cases hgd : goodB u lo l
 · rw [show addDigitB u lo l rod d = false by simp [addDigitB, hgd]]
   have hgd := Lib.hid hgd
   have hl := Lib.hid hl
   go_enter Try.func68, Try.ntmps68
   go_wp2_with fail
   refine (l2Standard_b u lo A n c l _ _ hn (rdx H.out (ext_alloc (ext_refl w) _)) hgd.out).mono ?_
   rintro e w1 ⟨rfl, hb1⟩
   go_wp2
   go_ret
   exact ⟨rfl, ext_trans (ext_alloc (ext_refl w) _) hb1⟩
 have hf := good_fr hgd
 have hn8 := (frB_head hf).2.2.2
 rw [hl] at hn8
 cases hr : inB rod 0 ((n : Int) - 1)
 · rw [show addDigitB u lo l rod d = false by simp [addDigitB, hl, hr]]
   have hgd := Lib.hid hgd
   have hf := Lib.hid hf
   have hl := Lib.hid hl
   go_enter Try.func68, Try.ntmps68
   go_wp2_with fail
   refine (l2Standard_b u lo A n c l _ _ hn (rdx H.out (ext_alloc (ext_refl w) _)) hgd.out).mono ?_
   rintro e w1 ⟨rfl, hb1⟩
   obtain ⟨BF, hb2, hs2⟩ := box_frame (by simpa using hb1)
   have hb2 := Lib.hid hb2
   obtain ⟨d0, d1, d2⟩ := BF.q3
   clear BF hb1
   go_wp2_with fail
   refine (l1In_b _ _ _ _ _ hr).mono ?_
   rintro e w2 ⟨rfl, hb3⟩
   go_wp2
   go_ret
   exact ⟨rfl, ext_trans hb2.out hb3⟩
 cases hd : inB d 0 9
 · rw [show addDigitB u lo l rod d = false by simp [addDigitB, hd]]
   have hgd := Lib.hid hgd
   have hf := Lib.hid hf
   have hl := Lib.hid hl
   go_enter Try.func68, Try.ntmps68
   go_wp2_with fail
   refine (l2Standard_b u lo A n c l _ _ hn (rdx H.out (ext_alloc (ext_refl w) _)) hgd.out).mono ?_
   rintro e w1 ⟨rfl, hb1⟩
   obtain ⟨BF, hb2, hs2⟩ := box_frame (by simpa using hb1)
   have hb2 := Lib.hid hb2
   obtain ⟨d0, d1, d2⟩ := BF.q3
   clear BF hb1
   go_wp2_with fail
   refine (l1In_b _ _ _ _ _ hr).mono ?_
   rintro e w2 ⟨rfl, hb3⟩
   have hb4 := Lib.hid (ext_trans hb2.out hb3)
   clear hb3
   go_wp2_with fail
   refine (l1In_b _ _ _ _ _ hd).mono ?_
   rintro e w3 ⟨rfl, hb5⟩
   go_wp2
   go_ret
   exact ⟨rfl, ext_trans hb4.out hb5⟩
 obtain ⟨r0, r1⟩ := inB_iff.1 hr
 obtain ⟨d0, d9⟩ := inB_iff.1 hd
 obtain ⟨r, rfl⟩ := Int.eq_ofNat_of_zero_le r0
 have hrn : r < n := by omega
 have hnb := numR_bounds hf l.length
 rw [numR_all l _ (Nat.le_refl _)] at hnb
 obtain ⟨n0, n1⟩ := hnb
 have hp0 := pw_pos n
 have hp1 := pw_lt hn8
 have hpr0 := pw_pos (n - (r + 1))
 have hpr1 := pw_lt (n := n - (r + 1)) (by omega)
 have q0 : 0 ≤ d * pw (n - (r + 1)) := Int.mul_nonneg d0 (by omega)
 have q1 : d * pw (n - (r + 1)) ≤ 9 * 100000000 := Int.mul_le_mul d9 hpr1 (by omega) (by omega)
 have E := Lib.hid (show addDigitB u lo l (r : Int) d = decide (numR l + d * pw (n - (r + 1)) < pw n) by
  rw [addDigitB, hgd, hl, hr, hd, show (r : Int).toNat = r from rfl, canB_ref hf q0]
  try rw [hl]
  rfl)
 have HZ := Lib.hid (show (n : Int) - 1 - r = ((n - (r + 1) : Nat) : Int) by omega)
 have hn7 : n - (r + 1) ≤ 8 := by omega
 have hgd := Lib.hid hgd
 have hf := Lib.hid hf
 have hl := Lib.hid hl
 rw [E.out]
 go_enter Try.func68, Try.ntmps68
 go_wp2_with fail
 refine (l2Standard_b u lo A n c l _ _ hn (rdx H.out (ext_alloc (ext_refl w) _)) hgd.out).mono ?_
 rintro e w1 ⟨rfl, hb1⟩
 obtain ⟨BF, hb2, hs2⟩ := box_frame (by simpa using hb1)
 have hb2 := Lib.hid hb2
 obtain ⟨c0, c1, c2⟩ := BF.q3
 clear hb1
 go_wp2_with fail
 refine (l1In_b _ _ _ _ _ hr).mono ?_
 rintro e w2 ⟨rfl, hb3⟩
 have hb4 := Lib.hid (ext_trans hb2.out hb3)
 have BF := BF.ext hb3
 have hs3 := hb3.size
 clear hb3 c0 c1 c2
 go_wp2_with fail
 refine (l1In_b _ _ _ _ _ hd).mono ?_
 rintro e w3 ⟨rfl, hb5⟩
 have hb6 := Lib.hid (ext_trans hb4.out hb5)
 obtain ⟨c0, c1, c2⟩ := (BF.ext hb5).q3
 have hs5 := hb5.size
 have hs6 : w.heap.size < w3.heap.size := by omega
 clear hb5 BF
 go_wp2
 (refine wp_region_later (by kernel_rfl) (by kernel_rfl) ?_; (repeat (go_big_quiet_step (first | (go_at_call 83; with_reducible exact Calls.later_same (l2Power_any ((n : Int) - 1 - r) (n - (r + 1)) _ HZ.out hn7)) | (go_at_call 83; with_reducible exact Calls.later_same (l2Power_any n n _ rfl hn8)) | (go_at_call 86; with_reducible exact Calls.later_of (l2Number_any u lo A n c l _ hf.out (rdx (rdx H.out hb6.out) (Later.h _))))))); refine wpQuiet_nil ?_; intro w1 hw1; obtain ⟨⟨wl, hbL⟩, hw1'⟩ := hw1; simp only at hw1'; subst hw1'; obtain ⟨hcL, hfL⟩ := bcell hbL)
 have hb7 := Lib.hid (ext_trans hb6.out hbL)
 clear hbL hcL hfL
 go_wp2
 go_ret
 exact ⟨rfl, hb7.out⟩
theorem l6Can_any (u lo : Int) (A : Option Addr) (n c : Nat) (l : List R2) (m : Int) (w : World) (hn : n ≤ 1048576) (h : Reads w w.heap.size 2 A n (rowsV2 l)) :
 Calls Try.prog 60 #[frV u lo A n c, .int .i64 m] w (RetV (.bool (addNok u lo l m)) w) := by
 have hl := rows_len2 h
 have H := Lib.hid h
 clear h
 cases hgd : goodB u lo l
 · rw [show addNok u lo l m = false by simp [addNok, hgd]]
   have hgd := Lib.hid hgd
   have hl := Lib.hid hl
   go_enter Try.func60, Try.ntmps60
   go_wp2
   (refine wp_region_later (by kernel_rfl) (by kernel_rfl) ?_; (repeat (go_big_quiet_step (first | (go_at_call 85; with_reducible exact Calls.later_of (l2Standard_b u lo A n c l _ _ hn (rdx (rdx H.out (ext_alloc (ext_refl w) _)) (Later.h _)) hgd.out))))); refine wpQuiet_nil ?_; intro w1 hw1; obtain ⟨⟨wl, hbL⟩, hw1'⟩ := hw1; simp only at hw1'; subst hw1'; obtain ⟨hcL, hfL⟩ := bcell hbL)
   go_wp2
   go_ret
   exact ⟨rfl, (by repeat (first | exact ext_refl _ | assumption | refine ext_alloc ?_ _ | refine ext_drew ?_ | refine ext_drewN ?_ _ | refine ext_set ?_ (by simp <;> omega) _ | refine ext_trans ?_ (by assumption)))⟩
 have hf := good_fr hgd
 have hn8 := (frB_head hf).2.2.2
 rw [hl] at hn8
 have hp0 := pw_pos n
 have hp1 := pw_lt hn8
 cases hb : inB m 0 (pw n - 1)
 · rw [show addNok u lo l m = false by simp [addNok, canB, hl, hb]]
   have hgd := Lib.hid hgd
   have hf := Lib.hid hf
   have hl := Lib.hid hl
   go_enter Try.func60, Try.ntmps60
   go_wp2
   (refine wp_region_later (by kernel_rfl) (by kernel_rfl) ?_; (repeat (go_big_quiet_step (first | (go_at_call 85; with_reducible exact Calls.later_of (l2Standard_b u lo A n c l _ _ hn (rdx (rdx H.out (ext_alloc (ext_refl w) _)) (Later.h _)) hgd.out)) | (go_at_call 83; with_reducible exact Calls.later_same (l2Power_any n n _ rfl hn8)) | (go_at_call 54; with_reducible exact Calls.later_of (l1In_b _ _ _ _ _ hb))))); refine wpQuiet_nil ?_; intro w1 hw1; obtain ⟨⟨wl, hbL⟩, hw1'⟩ := hw1; simp only at hw1'; subst hw1'; obtain ⟨hcL, hfL⟩ := bcell hbL)
   go_wp2
   go_ret
   exact ⟨rfl, (by repeat (first | exact ext_refl _ | assumption | refine ext_alloc ?_ _ | refine ext_drew ?_ | refine ext_drewN ?_ _ | refine ext_set ?_ (by simp <;> omega) _ | refine ext_trans ?_ (by assumption)))⟩
 obtain ⟨m0, m1⟩ := inB_iff.1 hb
 have hnb := numR_bounds hf l.length
 rw [numR_all l _ (Nat.le_refl _)] at hnb
 obtain ⟨n0, n1⟩ := hnb
 have E := Lib.hid (show addNok u lo l m = decide (numR l + m < pw n) by rw [addNok, hgd, canB_ref hf m0, hl]; rfl)
 have hgd := Lib.hid hgd
 have hf := Lib.hid hf
 have hl := Lib.hid hl
 go_enter Try.func60, Try.ntmps60
 go_wp2
 (refine wp_region_later (by kernel_rfl) (by kernel_rfl) ?_; (repeat (go_big_quiet_step (first | (go_at_call 85; with_reducible exact Calls.later_of (l2Standard_b u lo A n c l _ _ hn (rdx (rdx H.out (ext_alloc (ext_refl w) _)) (Later.h _)) hgd.out)) | (go_at_call 83; with_reducible exact Calls.later_same (l2Power_any n n _ rfl hn8)) | (go_at_call 54; with_reducible exact Calls.later_of (l1In_b _ _ _ _ _ hb)) | (go_at_call 86; with_reducible exact Calls.later_of (l2Number_any u lo A n c l _ hf.out (rdx (rdx H.out (ext_alloc (ext_refl w) _)) (Later.h _))))))); refine wpQuiet_nil ?_; intro w1 hw1; obtain ⟨⟨wl, hbL⟩, hw1'⟩ := hw1; simp only at hw1'; subst hw1'; obtain ⟨hcL, hfL⟩ := bcell hbL)
 go_wp2
 go_ret
 exact ⟨ret_bool (by rw [E.out]), (by repeat (first | exact ext_refl _ | assumption | refine ext_alloc ?_ _ | refine ext_drew ?_ | refine ext_drewN ?_ _ | refine ext_set ?_ (by simp <;> omega) _ | refine ext_trans ?_ (by assumption)))⟩
end Go.Proofs.Ytphhelmcaehclaa
namespace Go.Proofs.Ytphhelmcaehclaa
open Go.RowKit
set_option linter.unusedVariables false
set_option linter.unusedSimpArgs false
end Go.Proofs.Ytphhelmcaehclaa
namespace Go.Proofs.Ytphhelmcaehclaa
open Go.RowKit
set_option linter.unusedVariables false
set_option linter.unusedSimpArgs false
theorem addDms_len (u lo : Int) (l : List R2) (rod d : Int) : (addDms u lo l rod d).length ≤ 16 := by
 unfold addDms
 split
 · rename_i h
   unfold addDigitB at h
   simp only [Bool.and_eq_true] at h
   have hn := (frB_head (good_fr h.1.1.1)).2.2.2
   have hr := inB_iff.1 h.1.1.2
   have := addS_msl (rod.toNat + 1) d ⟨dsOf l, [], 0⟩
   simp at this
   omega
 · simp
theorem takeDms_len (u lo : Int) (l : List R2) (rod d : Int) : (takeDms u lo l rod d).length ≤ 16 := by
 unfold takeDms
 split
 · rename_i h
   unfold takeDigitB at h
   simp only [Bool.and_eq_true] at h
   have hn := (frB_head (good_fr h.1.1.1)).2.2.2
   have hr := inB_iff.1 h.1.1.2
   have := takeS_msl (rod.toNat + 1) d ⟨dsOf l, [], 0⟩
   simp at this
   omega
 · simp
theorem addNms_len (u lo : Int) (l : List R2) (m : Int) : (addNms u lo l m).length ≤ 60 := by
 unfold addNms
 split
 · rename_i h
   unfold addNmok at h
   simp only [Bool.and_eq_true, decide_eq_true_eq] at h
   exact h.2
 · simp
theorem takeNms_len (u lo : Int) (l : List R2) (m : Int) : (takeNms u lo l m).length ≤ 60 := by
 unfold takeNms
 split
 · rename_i h
   unfold takeNmok at h
   simp only [Bool.and_eq_true, decide_eq_true_eq] at h
   exact h.2
 · simp
end Go.Proofs.Ytphhelmcaehclaa
