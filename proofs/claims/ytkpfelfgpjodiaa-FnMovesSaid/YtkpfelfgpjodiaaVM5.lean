/- AddDigitMoves, AddNumberMoves, TakeDigitMoves, TakeNumberMoves: the program's. -/
import Derived.Test.YtkpfelfgpjodiaaVFrG
namespace Go.Proofs.Ytkpfelfgpjodiaa
open Go.RowKit
set_option linter.unusedVariables false
set_option linter.unusedSimpArgs false
/-- moves come back beside a bool -/
abbrev RetMv (w : World) (l : List R3) (ok : Bool) : Ending → World → Prop := RetSliceB w 41 3 l.length (rowsV3 l) ok
def addDms (u lo : Int) (l : List R2) (rod d : Int) : List R3 := if addDigitB u lo l rod d = true then (addS (rod.toNat + 1) d ⟨dsOf l, [], 0⟩).ms else []
def takeDms (u lo : Int) (l : List R2) (rod d : Int) : List R3 := if takeDigitB u lo l rod d = true then (takeS (rod.toNat + 1) d ⟨dsOf l, [], 0⟩).ms else []
def addNst (l : List R2) (m : Int) : WS := addN l.length m ⟨dsOf l, [], 0⟩ l.length
def takeNst (l : List R2) (m : Int) : WS := takeN l.length m ⟨dsOf l, [], 0⟩ l.length
def addNok (u lo : Int) (l : List R2) (m : Int) : Bool := goodB u lo l && canB l m
def takeNok (u lo : Int) (l : List R2) (m : Int) : Bool := goodB u lo l && canTB l m
def addNmok (u lo : Int) (l : List R2) (m : Int) : Bool := addNok u lo l m && decide ((addNst l m).ms.length ≤ 60)
def takeNmok (u lo : Int) (l : List R2) (m : Int) : Bool := takeNok u lo l m && decide ((takeNst l m).ms.length ≤ 60)
def addNms (u lo : Int) (l : List R2) (m : Int) : List R3 := if addNmok u lo l m = true then (addNst l m).ms else []
def takeNms (u lo : Int) (l : List R2) (m : Int) : List R3 := if takeNmok u lo l m = true then (takeNst l m).ms else []
set_option maxRecDepth 100000 in
theorem implAddDigitMoves_any (u lo : Int) (A : Option Addr) (n c : Nat) (l : List R2) (rod d : Int) (w : World) (hn : n ≤ 1048576) (h : Reads w w.heap.size 2 A n (rowsV2 l)) :
 Calls Try.prog 36 #[frV u lo A n c, .int .i64 rod, .int .i64 d] w (RetMv w (addDms u lo l rod d) (addDigitB u lo l rod d)) := by
 have H := Lib.hid h
 cases hg : addDigitB u lo l rod d
 · have e : addDms u lo l rod d = [] := by simp [addDms, hg]
   rw [e]
   have HG := Lib.hid hg
   clear h e hg
   go_enter Try.func36, Try.ntmps36
   go_wp2_with fail
   refine (addDigit_no u lo A n c l rod d _ hn (rdx H.out (ext_alloc (ext_refl w) _)) HG.out).mono ?_
   rintro e w1 ⟨rfl, hb1⟩
   go_wp2
   go_ret2
   exact ⟨none, 0, rfl, World.ownsRow_nil _ _ _ _, (by repeat (first | exact ext_refl _ | assumption | refine ext_alloc ?_ _ | refine ext_drew ?_ | refine ext_drewN ?_ _ | refine ext_set ?_ (by simp <;> omega) _ | refine ext_trans ?_ (by assumption)))⟩
 · have e : addDms u lo l rod d = (addS (rod.toNat + 1) d ⟨dsOf l, [], 0⟩).ms := by simp [addDms, hg]
   rw [e]
   have HG := Lib.hid hg
   obtain ⟨st, hst⟩ : ∃ st, st = addS (rod.toNat + 1) d ⟨dsOf l, [], 0⟩ := ⟨_, rfl⟩
   rw [← hst]
   have HST := Lib.hid hst
   clear h e hg hst
   go_enter Try.func36, Try.ntmps36
   go_wp2_with fail
   refine (addDigit_yes u lo A n c l rod d _ hn (rdx H.out (ext_alloc (ext_refl w) _)) HG.out).mono ?_
   rw [← HST.out]
   rintro e w1 ⟨g, rfl, hW, hb1⟩
   obtain ⟨hh, cr, cm, Am, hB, _, _, hm⟩ := hW
   obtain ⟨q0, q1, q2, q3, q4⟩ := hB.q5
   have hb2 := Lib.hid (ext_trans (ext_alloc (ext_refl w) _) hb1)
   have hm := Lib.hid (own_base (base' := w.heap.size) hm (by simp))
   clear hb1 hB
   go_wp2
   go_ret2
   exact ⟨Am, cm, rfl, hm.out, hb2.out⟩
set_option maxRecDepth 100000 in
theorem implTakeDigitMoves_any (u lo : Int) (A : Option Addr) (n c : Nat) (l : List R2) (rod d : Int) (w : World) (hn : n ≤ 1048576) (h : Reads w w.heap.size 2 A n (rowsV2 l)) :
 Calls Try.prog 49 #[frV u lo A n c, .int .i64 rod, .int .i64 d] w (RetMv w (takeDms u lo l rod d) (takeDigitB u lo l rod d)) := by
 have H := Lib.hid h
 cases hg : takeDigitB u lo l rod d
 · have e : takeDms u lo l rod d = [] := by simp [takeDms, hg]
   rw [e]
   have HG := Lib.hid hg
   clear h e hg
   go_enter Try.func49, Try.ntmps49
   go_wp2_with fail
   refine (takeDigit_no u lo A n c l rod d _ hn (rdx H.out (ext_alloc (ext_refl w) _)) HG.out).mono ?_
   rintro e w1 ⟨rfl, hb1⟩
   go_wp2
   go_ret2
   exact ⟨none, 0, rfl, World.ownsRow_nil _ _ _ _, (by repeat (first | exact ext_refl _ | assumption | refine ext_alloc ?_ _ | refine ext_drew ?_ | refine ext_drewN ?_ _ | refine ext_set ?_ (by simp <;> omega) _ | refine ext_trans ?_ (by assumption)))⟩
 · have e : takeDms u lo l rod d = (takeS (rod.toNat + 1) d ⟨dsOf l, [], 0⟩).ms := by simp [takeDms, hg]
   rw [e]
   have HG := Lib.hid hg
   obtain ⟨st, hst⟩ : ∃ st, st = takeS (rod.toNat + 1) d ⟨dsOf l, [], 0⟩ := ⟨_, rfl⟩
   rw [← hst]
   have HST := Lib.hid hst
   clear h e hg hst
   go_enter Try.func49, Try.ntmps49
   go_wp2_with fail
   refine (takeDigit_yes u lo A n c l rod d _ hn (rdx H.out (ext_alloc (ext_refl w) _)) HG.out).mono ?_
   rw [← HST.out]
   rintro e w1 ⟨g, rfl, hW, hb1⟩
   obtain ⟨hh, cr, cm, Am, hB, _, _, hm⟩ := hW
   obtain ⟨q0, q1, q2, q3, q4⟩ := hB.q5
   have hb2 := Lib.hid (ext_trans (ext_alloc (ext_refl w) _) hb1)
   have hm := Lib.hid (own_base (base' := w.heap.size) hm (by simp))
   clear hb1 hB
   go_wp2
   go_ret2
   exact ⟨Am, cm, rfl, hm.out, hb2.out⟩
set_option maxRecDepth 100000 in
theorem implAddNumberMoves_any (u lo : Int) (A : Option Addr) (n c : Nat) (l : List R2) (m : Int) (w : World) (hn : n ≤ 1048576) (h : Reads w w.heap.size 2 A n (rowsV2 l)) :
 Calls Try.prog 30 #[frV u lo A n c, .int .i64 m] w (RetMv w (addNms u lo l m) (addNmok u lo l m)) := by
 have hl := rows_len2 h
 have H := Lib.hid h
 cases hg : addNok u lo l m
 · have e0 : addNmok u lo l m = false := by simp [addNmok, hg]
   have e : addNms u lo l m = [] := by simp [addNms, e0]
   rw [e, e0]
   have HG := Lib.hid hg
   clear h e e0 hg hl
   go_enter Try.func30, Try.ntmps30
   go_wp2_with fail
   refine (addNumber_no u lo A n c l m _ hn (rdx H.out (ext_alloc (ext_refl w) _)) HG.out).mono ?_
   rintro e w1 ⟨rfl, hb1⟩
   go_wp2
   go_ret2
   exact ⟨none, 0, rfl, World.ownsRow_nil _ _ _ _, (by repeat (first | exact ext_refl _ | assumption | refine ext_alloc ?_ _ | refine ext_drew ?_ | refine ext_drewN ?_ _ | refine ext_set ?_ (by simp <;> omega) _ | refine ext_trans ?_ (by assumption)))⟩
 · have HG := Lib.hid hg
   have ES : addNst l m = addN n m ⟨dsOf l, [], 0⟩ n := by rw [← hl]; rfl
   have EB : addNmok u lo l m = decide ((addNst l m).ms.length ≤ 60) := by simp [addNmok, hg]
   have EM : addNms u lo l m = if (addNst l m).ms.length ≤ 60 then (addNst l m).ms else [] := by simp [addNms, EB]
   have EN := Lib.hid (show (addNst l m).ms.length ≤ 16 * n by
    obtain ⟨hgd, _⟩ : goodB u lo l = true ∧ canB l m = true := by simpa [addNok] using hg
    obtain ⟨hf, _⟩ : frB u lo l = true ∧ stdB l = true := by simpa [goodB] using hgd
    have := (frB_head hf).2.2.2
    rw [ES]
    have := addN_msl n m ⟨dsOf l, [], 0⟩ n (by omega)
    simpa using this)
   obtain ⟨st, hst⟩ : ∃ st, st = addN n m ⟨dsOf l, [], 0⟩ n := ⟨_, rfl⟩
   rw [EB, EM, ES, ← hst]
   rw [ES, ← hst] at EN
   have EN := EN.out
   have HST := Lib.hid hst
   clear h hg hl EB EM ES hst
   by_cases h60 : st.ms.length ≤ 60
   · rw [if_pos h60]
     have hd : decide (st.ms.length ≤ 60) = true := by simpa using h60
     rw [hd]
     clear hd
     go_enter Try.func30, Try.ntmps30
     go_wp2_with fail
     refine (addNumber_yes u lo A n c l m _ hn (rdx H.out (ext_alloc (ext_refl w) _)) HG.out).mono ?_
     rw [← HST.out]
     rintro e w1 ⟨g, rfl, hW, hb1⟩
     obtain ⟨hh, cr, cm, Am, hB, _, _, hm⟩ := hW
     obtain ⟨q0, q1, q2, q3, q4⟩ := hB.q5
     have hb2 := Lib.hid (ext_trans (ext_alloc (ext_refl w) _) hb1)
     have hm := Lib.hid (own_base (base' := w.heap.size) hm (by simp))
     clear hb1 hB
     go_wp2
     go_ret2
     exact ⟨Am, cm, rfl, hm.out, hb2.out⟩
   · rw [if_neg h60]
     have hd : decide (st.ms.length ≤ 60) = false := by simpa using h60
     rw [hd]
     clear hd
     go_enter Try.func30, Try.ntmps30
     go_wp2_with fail
     refine (addNumber_yes u lo A n c l m _ hn (rdx H.out (ext_alloc (ext_refl w) _)) HG.out).mono ?_
     rw [← HST.out]
     rintro e w1 ⟨g, rfl, hW, hb1⟩
     obtain ⟨hh, cr, cm, Am, hB, _, _, hm⟩ := hW
     obtain ⟨q0, q1, q2, q3, q4⟩ := hB.q5
     have hb2 := Lib.hid (ext_trans (ext_alloc (ext_refl w) _) hb1)
     clear hb1 hB hm
     go_wp2
     go_ret2
     exact ⟨none, 0, rfl, World.ownsRow_nil _ _ _ _, hb2.out⟩
set_option maxRecDepth 100000 in
theorem implTakeNumberMoves_any (u lo : Int) (A : Option Addr) (n c : Nat) (l : List R2) (m : Int) (w : World) (hn : n ≤ 1048576) (h : Reads w w.heap.size 2 A n (rowsV2 l)) :
 Calls Try.prog 41 #[frV u lo A n c, .int .i64 m] w (RetMv w (takeNms u lo l m) (takeNmok u lo l m)) := by
 have hl := rows_len2 h
 have H := Lib.hid h
 cases hg : takeNok u lo l m
 · have e0 : takeNmok u lo l m = false := by simp [takeNmok, hg]
   have e : takeNms u lo l m = [] := by simp [takeNms, e0]
   rw [e, e0]
   have HG := Lib.hid hg
   clear h e e0 hg hl
   go_enter Try.func41, Try.ntmps41
   go_wp2_with fail
   refine (takeNumber_no u lo A n c l m _ hn (rdx H.out (ext_alloc (ext_refl w) _)) HG.out).mono ?_
   rintro e w1 ⟨rfl, hb1⟩
   go_wp2
   go_ret2
   exact ⟨none, 0, rfl, World.ownsRow_nil _ _ _ _, (by repeat (first | exact ext_refl _ | assumption | refine ext_alloc ?_ _ | refine ext_drew ?_ | refine ext_drewN ?_ _ | refine ext_set ?_ (by simp <;> omega) _ | refine ext_trans ?_ (by assumption)))⟩
 · have HG := Lib.hid hg
   have ES : takeNst l m = takeN n m ⟨dsOf l, [], 0⟩ n := by rw [← hl]; rfl
   have EB : takeNmok u lo l m = decide ((takeNst l m).ms.length ≤ 60) := by simp [takeNmok, hg]
   have EM : takeNms u lo l m = if (takeNst l m).ms.length ≤ 60 then (takeNst l m).ms else [] := by simp [takeNms, EB]
   have EN := Lib.hid (show (takeNst l m).ms.length ≤ 16 * n by
    obtain ⟨hgd, _⟩ : goodB u lo l = true ∧ canTB l m = true := by simpa [takeNok] using hg
    obtain ⟨hf, _⟩ : frB u lo l = true ∧ stdB l = true := by simpa [goodB] using hgd
    have := (frB_head hf).2.2.2
    rw [ES]
    have := takeN_msl n m ⟨dsOf l, [], 0⟩ n (by omega)
    simpa using this)
   obtain ⟨st, hst⟩ : ∃ st, st = takeN n m ⟨dsOf l, [], 0⟩ n := ⟨_, rfl⟩
   rw [EB, EM, ES, ← hst]
   rw [ES, ← hst] at EN
   have EN := EN.out
   have HST := Lib.hid hst
   clear h hg hl EB EM ES hst
   by_cases h60 : st.ms.length ≤ 60
   · rw [if_pos h60]
     have hd : decide (st.ms.length ≤ 60) = true := by simpa using h60
     rw [hd]
     clear hd
     go_enter Try.func41, Try.ntmps41
     go_wp2_with fail
     refine (takeNumber_yes u lo A n c l m _ hn (rdx H.out (ext_alloc (ext_refl w) _)) HG.out).mono ?_
     rw [← HST.out]
     rintro e w1 ⟨g, rfl, hW, hb1⟩
     obtain ⟨hh, cr, cm, Am, hB, _, _, hm⟩ := hW
     obtain ⟨q0, q1, q2, q3, q4⟩ := hB.q5
     have hb2 := Lib.hid (ext_trans (ext_alloc (ext_refl w) _) hb1)
     have hm := Lib.hid (own_base (base' := w.heap.size) hm (by simp))
     clear hb1 hB
     go_wp2
     go_ret2
     exact ⟨Am, cm, rfl, hm.out, hb2.out⟩
   · rw [if_neg h60]
     have hd : decide (st.ms.length ≤ 60) = false := by simpa using h60
     rw [hd]
     clear hd
     go_enter Try.func41, Try.ntmps41
     go_wp2_with fail
     refine (takeNumber_yes u lo A n c l m _ hn (rdx H.out (ext_alloc (ext_refl w) _)) HG.out).mono ?_
     rw [← HST.out]
     rintro e w1 ⟨g, rfl, hW, hb1⟩
     obtain ⟨hh, cr, cm, Am, hB, _, _, hm⟩ := hW
     obtain ⟨q0, q1, q2, q3, q4⟩ := hB.q5
     have hb2 := Lib.hid (ext_trans (ext_alloc (ext_refl w) _) hb1)
     clear hb1 hB hm
     go_wp2
     go_ret2
     exact ⟨none, 0, rfl, World.ownsRow_nil _ _ _ _, hb2.out⟩
end Go.Proofs.Ytkpfelfgpjodiaa
