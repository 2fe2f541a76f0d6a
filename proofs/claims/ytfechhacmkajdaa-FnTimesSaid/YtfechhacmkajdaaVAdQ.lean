/- Adding and taking, plainly: what the laws FnAdding, FnTaking, FnCarries ask. -/
import Derived.Test.YtfechhacmkajdaaVM7
import Derived.Test.YtfechhacmkajdaaVM4
namespace Go.Proofs.Ytfechhacmkajdaa
open Go.RowKit
set_option linter.unusedVariables false
set_option linter.unusedSimpArgs false
theorem rodsD_stdb {ds : List Int} (h : WF ds) : stdB (rodsD ds) = true := by
 unfold stdB
 rw [List.all_eq_true]
 intro r hr
 obtain ⟨d, hd, rfl⟩ := List.mem_map.1 hr
 have := h d hd
 show (decide (d / 5 ≤ 1) && decide (d % 5 ≤ 4)) = true
 rw [decide_eq_true (show d / 5 ≤ 1 by omega), decide_eq_true (show d % 5 ≤ 4 by omega)]
 rfl
theorem frB_headB {u lo : Int} {l : List R2} (h : frB u lo l = true) : headB u lo l.length = true := by
 unfold frB at h
 simp only [Bool.and_eq_true] at h
 exact h.1
/-- moves that lead from a standard frame, as PlayMoves answers -/
theorem plays_play {u lo : Int} {l : List R2} {s : WS} (hf : frB u lo l = true) (hs : stdB l = true) (h : Plays u lo ⟨dsOf l, [], 0⟩ s) (h60 : s.ms.length ≤ 60) :
 (if frB u lo l && mvsB s.ms then playF u lo l s.ms else (0, 0, [])) = (u, lo, rodsD s.ds) ∧ (frB u lo l && mvsB s.ms && (playS u lo l s.ms).isSome) = true := by
 obtain ⟨_, ns, e1, o1, p1⟩ := h
 have e2 : s.ms = ns := by rw [e1]; rfl
 rw [show (WS.ds ⟨dsOf l, [], 0⟩) = dsOf l from rfl, rodsD_dsOf hf hs, ← e2] at p1
 rw [← e2] at o1
 have hmv : mvsB s.ms = true := by unfold mvsB; simp only [Bool.and_eq_true, decide_eq_true_eq]; exact ⟨h60, o1⟩
 rw [hf, hmv]
 refine ⟨?_, ?_⟩
 · show playF u lo l s.ms = _
   unfold playF
   rw [p1]
 · rw [p1]; rfl
theorem addN_law {u lo : Int} {l : List R2} {m : Int} (h : addNok u lo l m = true) : frB u lo l = true ∧ stdB l = true ∧ WF (addNst l m).ds ∧ (addNst l m).ds.length = l.length ∧ numD (addNst l m).ds = numR l + m ∧ Plays u lo ⟨dsOf l, [], 0⟩ (addNst l m) ∧ 0 ≤ m := by
 unfold addNok at h
 simp only [Bool.and_eq_true] at h
 have hf := good_fr h.1
 have hs := good_std h.1
 have m0 := canAdd_nonneg h.2
 have hfit := canAdd_fit h.2
 have hw := dsOf_WF hf hs
 have hl : l.length = (WS.ds ⟨dsOf l, [], 0⟩).length := (dsOf_len l).symm
 unfold addNst
 rw [hl]
 refine ⟨hf, hs, addN_WF _ _ _ hw _, addN_len _ _ _ _, ?_, addN_plays (by rw [← hl]; exact frB_headB hf) hw m0 hfit _ (Nat.le_refl _), m0⟩
 have := (addN_facts (s := ⟨dsOf l, [], 0⟩) hw m0 hfit _ (Nat.le_refl _)).1
 rw [this]
 simp [pw_zero]
 rfl
theorem takeN_law {u lo : Int} {l : List R2} {m : Int} (h : takeNok u lo l m = true) : frB u lo l = true ∧ stdB l = true ∧ WF (takeNst l m).ds ∧ (takeNst l m).ds.length = l.length ∧ numD (takeNst l m).ds = numR l - m ∧ Plays u lo ⟨dsOf l, [], 0⟩ (takeNst l m) ∧ 0 ≤ m ∧ m ≤ numR l := by
 unfold takeNok at h
 simp only [Bool.and_eq_true] at h
 have hf := good_fr h.1
 have hs := good_std h.1
 have m0 := canTake_nonneg h.2
 have hfit := canTake_fit h.2
 have hw := dsOf_WF hf hs
 have hl : l.length = (WS.ds ⟨dsOf l, [], 0⟩).length := (dsOf_len l).symm
 unfold takeNst
 rw [hl]
 refine ⟨hf, hs, takeN_WF _ _ _ hw _, takeN_len _ _ _ _, ?_, takeN_plays (by rw [← hl]; exact frB_headB hf) hw m0 hfit _ (Nat.le_refl _), m0, hfit⟩
 have := (takeN_facts (s := ⟨dsOf l, [], 0⟩) hw m0 hfit _ (Nat.le_refl _)).1
 rw [this]
 simp [pw_zero]
 rfl
theorem takeNF_len (u lo : Int) (l : List R2) (m : Int) : (takeNF u lo l m).2.2.length ≤ 8 := by
 unfold takeNF
 split
 · rename_i h
   obtain ⟨hf, _, _, hl, _⟩ := takeN_law h
   show (rodsD _).length ≤ 8
   rw [rodsD_len, hl]
   exact (frB_head hf).2.2.2
 · exact Nat.zero_le _
/-- what the law FnAdding asks of a number added -/
theorem fadLaw (u lo : Int) (l : List R2) (m : Int) : addNok u lo l m = true → frB u lo l = true ∧ frB (addNF u lo l m).1 (addNF u lo l m).2.1 (addNF u lo l m).2.2 = true ∧ stdB (addNF u lo l m).2.2 = true ∧ numR (addNF u lo l m).2.2 = numR l + m ∧ (0 ≤ m ∧ m ≤ 200000000) ∧ (0 ≤ numR l ∧ numR l < 200000000) ∧
 (addNmok u lo l m = true → (if frB u lo l && mvsB (addNms u lo l m) then playF u lo l (addNms u lo l m) else (0, 0, [])) = addNF u lo l m ∧ (frB u lo l && mvsB (addNms u lo l m) && (playS u lo l (addNms u lo l m)).isSome) = true) := by
 intro h
 obtain ⟨hf, hs, hw, hl, hn, hp, m0⟩ := addN_law h
 have e : addNF u lo l m = (u, lo, rodsD (addNst l m).ds) := by unfold addNF; rw [if_pos h]
 have hb := numR_bounds hf l.length
 rw [List.take_of_length_le (Nat.le_refl _)] at hb
 have hfb : frB u lo (rodsD (addNst l m).ds) = true := frB_rodsD (by rw [hl]; exact frB_headB hf) hw
 rw [e]
 refine ⟨hf, hfb, rodsD_stdb hw, by rw [numR_rodsD]; exact hn, ⟨m0, ?_⟩, hb, ?_⟩
 · have h2 := h
   unfold addNok at h2
   simp only [Bool.and_eq_true] at h2
   have := canAdd_bound hf h2.2
   omega
 · intro hm
   have h60 : (addNst l m).ms.length ≤ 60 := by
    unfold addNmok at hm
    simp only [Bool.and_eq_true, decide_eq_true_eq] at hm
    exact hm.2
   have em : addNms u lo l m = (addNst l m).ms := by unfold addNms; rw [if_pos hm]
   rw [em]
   exact plays_play hf hs hp h60
theorem dsFit {u lo : Int} {l : List R2} {rod d : Int} (h : addDigitB u lo l rod d = true) : frB u lo l = true ∧ stdB l = true ∧ AddFit (rod.toNat + 1) d (dsOf l) := by
 unfold addDigitB at h
 simp only [Bool.and_eq_true] at h
 obtain ⟨⟨⟨h1, h2⟩, h3⟩, h4⟩ := h
 have hf := good_fr h1
 have hs := good_std h1
 have h2 := inB_iff.1 h2
 have h3 := inB_iff.1 h3
 have := canAdd_fit h4
 exact ⟨hf, hs, by rw [dsOf_len]; omega, h3.1, h3.2, dsOf_WF hf hs, by rw [dsOf_len]; rw [dsOf_len] at this; exact this⟩
theorem dtFit {u lo : Int} {l : List R2} {rod d : Int} (h : takeDigitB u lo l rod d = true) : frB u lo l = true ∧ stdB l = true ∧ TakeFit (rod.toNat + 1) d (dsOf l) := by
 unfold takeDigitB at h
 simp only [Bool.and_eq_true] at h
 obtain ⟨⟨⟨h1, h2⟩, h3⟩, h4⟩ := h
 have hf := good_fr h1
 have hs := good_std h1
 have h2 := inB_iff.1 h2
 have h3 := inB_iff.1 h3
 have := canTake_fit h4
 exact ⟨hf, hs, by rw [dsOf_len]; omega, h3.1, h3.2, dsOf_WF hf hs, by rw [dsOf_len]; exact this⟩
theorem addDF_len (u lo : Int) (l : List R2) (rod d : Int) : (addDF u lo l rod d).2.2.length ≤ 8 := by
 unfold addDF
 split
 · rename_i h
   obtain ⟨hf, _, _⟩ := dsFit h
   show (rodsD _).length ≤ 8
   rw [rodsD_len, addS_len]
   show (dsOf l).length ≤ 8
   rw [dsOf_len]
   exact (frB_head hf).2.2.2
 · exact Nat.zero_le _
theorem takeDF_len (u lo : Int) (l : List R2) (rod d : Int) : (takeDF u lo l rod d).2.2.length ≤ 8 := by
 unfold takeDF
 split
 · rename_i h
   obtain ⟨hf, _, _⟩ := dtFit h
   show (rodsD _).length ≤ 8
   rw [rodsD_len, takeS_len]
   show (dsOf l).length ≤ 8
   rw [dsOf_len]
   exact (frB_head hf).2.2.2
 · exact Nat.zero_le _
/-- a digit added: the moves lead there -/
theorem fadDLaw (u lo : Int) (l : List R2) (rod d : Int) : addDigitB u lo l rod d = true → (if frB u lo l && mvsB (addDms u lo l rod d) then playF u lo l (addDms u lo l rod d) else (0, 0, [])) = addDF u lo l rod d ∧ (frB u lo l && mvsB (addDms u lo l rod d) && (playS u lo l (addDms u lo l rod d)).isSome) = true := by
 intro h
 obtain ⟨hf, hs, hfit⟩ := dsFit h
 have h60 := addDms_len u lo l rod d
 have em : addDms u lo l rod d = (addS (rod.toNat + 1) d ⟨dsOf l, [], 0⟩).ms := by unfold addDms; rw [if_pos h]
 have ef : addDF u lo l rod d = (u, lo, rodsD (addS (rod.toNat + 1) d ⟨dsOf l, [], 0⟩).ds) := by unfold addDF; rw [if_pos h]
 rw [em] at h60 ⊢
 rw [ef]
 exact plays_play hf hs (addS_plays _ _ _ (by show headB u lo (dsOf l).length = true; rw [dsOf_len]; exact frB_headB hf) hfit) (by omega)
/-- a digit taken and added again -/
theorem fatDLaw (u lo : Int) (l : List R2) (rod d : Int) : takeDigitB u lo l rod d = true → addDF (takeDF u lo l rod d).1 (takeDF u lo l rod d).2.1 (takeDF u lo l rod d).2.2 rod d = (u, lo, l) ∧ addDigitB (takeDF u lo l rod d).1 (takeDF u lo l rod d).2.1 (takeDF u lo l rod d).2.2 rod d = true := by
 intro h
 obtain ⟨hf, hs, hfit⟩ := dtFit h
 have ef : takeDF u lo l rod d = (u, lo, rodsD (takeS (rod.toNat + 1) d ⟨dsOf l, [], 0⟩).ds) := by unfold takeDF; rw [if_pos h]
 rw [ef]
 have hw : WF (takeS (rod.toNat + 1) d ⟨dsOf l, [], 0⟩).ds := takeS_WF _ _ _ hfit.2.1 hfit.2.2.1 hfit.2.2.2.1
 have hl : (takeS (rod.toNat + 1) d ⟨dsOf l, [], 0⟩).ds.length = l.length := by rw [takeS_len]; exact dsOf_len l
 have hnum := takeS_num (rod.toNat + 1) d ⟨dsOf l, [], 0⟩ hfit
 obtain ⟨T, hT⟩ : ∃ T, (takeS (rod.toNat + 1) d ⟨dsOf l, [], 0⟩).ds = T := ⟨_, rfl⟩
 rw [hT] at hw hl hnum ⊢
 have hlen : (WS.ds ⟨dsOf l, [], 0⟩).length = l.length := dsOf_len l
 rw [hlen] at hnum
 have hnum : numD T = numR l - d * pw (l.length - (rod.toNat + 1)) := hnum
 have hfb : frB u lo (rodsD T) = true := frB_rodsD (by rw [hl]; exact frB_headB hf) hw
 have hb := numD_bounds (dsOf_WF hf hs)
 rw [dsOf_len] at hb
 have hb : 0 ≤ numR l ∧ numR l < pw l.length := hb
 have hB : addDigitB u lo (rodsD T) rod d = true := by
  unfold addDigitB
  rw [rodsD_len, hl]
  have hg : goodB u lo (rodsD T) = true := by unfold goodB; rw [hfb, rodsD_stdb hw]; rfl
  have h0 := h
  unfold takeDigitB at h0
  simp only [Bool.and_eq_true] at h0
  obtain ⟨⟨⟨h1, h2⟩, h3⟩, h4⟩ := h0
  rw [hg, h2, h3]
  unfold canB
  rw [rodsD_len, hl, numR_rodsD, hnum]
  have h5 : 0 ≤ d * pw (l.length - (rod.toNat + 1)) := Int.mul_nonneg hfit.2.1 (by have := pw_pos (l.length - (rod.toNat + 1)); omega)
  have h6 := canTake_fit h4
  have h6 : d * pw (l.length - (rod.toNat + 1)) ≤ numR l := h6
  rw [inB_iff.2 (show 0 ≤ d * pw (l.length - (rod.toNat + 1)) ∧ d * pw (l.length - (rod.toNat + 1)) ≤ pw l.length - 1 by omega), inB_iff.2 (show 0 ≤ numR l - d * pw (l.length - (rod.toNat + 1)) + d * pw (l.length - (rod.toNat + 1)) ∧ numR l - d * pw (l.length - (rod.toNat + 1)) + d * pw (l.length - (rod.toNat + 1)) ≤ pw l.length - 1 by omega)]
  rfl
 refine ⟨?_, hB⟩
 show addDF u lo (rodsD T) rod d = _
 unfold addDF
 rw [if_pos hB]
 obtain ⟨_, _, hfit2⟩ := dsFit hB
 have hnum2 := addS_num (rod.toNat + 1) d ⟨dsOf (rodsD T), [], 0⟩ hfit2
 have hw2 : WF (addS (rod.toNat + 1) d ⟨dsOf (rodsD T), [], 0⟩).ds := addS_WF _ _ _ hfit2.2.1 hfit2.2.2.2.1
 have hl2 : (addS (rod.toNat + 1) d ⟨dsOf (rodsD T), [], 0⟩).ds.length = l.length := by rw [addS_len]; show (dsOf (rodsD T)).length = _; rw [dsOf_rodsD, hl]
 have e3 : (addS (rod.toNat + 1) d ⟨dsOf (rodsD T), [], 0⟩).ds = dsOf l := by
  refine numD_inj hw2 (dsOf_WF hf hs) (by rw [hl2, dsOf_len]) ?_
  rw [hnum2]
  show numD (dsOf (rodsD T)) + d * pw ((dsOf (rodsD T)).length - (rod.toNat + 1)) = numR l
  rw [dsOf_rodsD, hl, hnum]
  omega
 rw [e3, rodsD_dsOf hf hs]
/-- what the law FnTaking asks of a number taken -/
theorem ftkLaw (u lo : Int) (l : List R2) (m : Int) : takeNok u lo l m = true → frB u lo l = true ∧ (0 ≤ m ∧ m ≤ numR l) ∧ (0 ≤ numR l ∧ numR l < 200000000) ∧ addNF (takeNF u lo l m).1 (takeNF u lo l m).2.1 (takeNF u lo l m).2.2 m = (u, lo, l) ∧ addNok (takeNF u lo l m).1 (takeNF u lo l m).2.1 (takeNF u lo l m).2.2 m = true ∧
 (takeNmok u lo l m = true → (if frB u lo l && mvsB (takeNms u lo l m) then playF u lo l (takeNms u lo l m) else (0, 0, [])) = takeNF u lo l m ∧ (frB u lo l && mvsB (takeNms u lo l m) && (playS u lo l (takeNms u lo l m)).isSome) = true) := by
 intro h
 obtain ⟨hf, hs, hw, hl, hn, hp, m0, m1⟩ := takeN_law h
 have e : takeNF u lo l m = (u, lo, rodsD (takeNst l m).ds) := by unfold takeNF; rw [if_pos h]
 have hb := numR_bounds hf l.length
 rw [List.take_of_length_le (Nat.le_refl _)] at hb
 have hb2 := numD_bounds (dsOf_WF hf hs)
 rw [dsOf_len] at hb2
 have hb2 : 0 ≤ numR l ∧ numR l < pw l.length := hb2
 rw [e]
 have hfb : frB u lo (rodsD (takeNst l m).ds) = true := frB_rodsD (by rw [hl]; exact frB_headB hf) hw
 have hB : addNok u lo (rodsD (takeNst l m).ds) m = true := by
  unfold addNok
  have hg : goodB u lo (rodsD (takeNst l m).ds) = true := by unfold goodB; rw [hfb, rodsD_stdb hw]; rfl
  rw [hg]
  unfold canB
  rw [rodsD_len, hl, numR_rodsD, hn, inB_iff.2 (show 0 ≤ m ∧ m ≤ pw l.length - 1 by omega), inB_iff.2 (show 0 ≤ numR l - m + m ∧ numR l - m + m ≤ pw l.length - 1 by omega)]
  rfl
 refine ⟨hf, ⟨m0, m1⟩, hb, ?_, hB, ?_⟩
 · show addNF u lo (rodsD (takeNst l m).ds) m = _
   unfold addNF
   rw [if_pos hB]
   obtain ⟨_, _, hw2, hl2, hn2, _⟩ := addN_law hB
   have e3 : (addNst (rodsD (takeNst l m).ds) m).ds = dsOf l := by
    refine numD_inj hw2 (dsOf_WF hf hs) (by rw [hl2, rodsD_len, hl, dsOf_len]) ?_
    rw [hn2, numR_rodsD, hn]
    show _ = numR l
    omega
   rw [e3, rodsD_dsOf hf hs]
 · intro hm
   have h60 : (takeNst l m).ms.length ≤ 60 := by
    unfold takeNmok at hm
    simp only [Bool.and_eq_true, decide_eq_true_eq] at hm
    exact hm.2
   have em : takeNms u lo l m = (takeNst l m).ms := by unfold takeNms; rw [if_pos hm]
   rw [em]
   exact plays_play hf hs hp h60
end Go.Proofs.Ytfechhacmkajdaa
