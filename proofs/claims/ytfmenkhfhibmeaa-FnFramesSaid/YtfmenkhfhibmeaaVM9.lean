/- What the law FnFrames asks, plainly. -/
import Derived.Test.YtfmenkhfhibmeaaVFxA
import Derived.Test.YtfmenkhfhibmeaaVMsA
import Derived.Test.YtfmenkhfhibmeaaVM4
import Derived.Test.YtfmenkhfhibmeaaVM5
import Derived.Test.YtfmenkhfhibmeaaVFrN
namespace Go.Proofs.Ytfmenkhfhibmeaa
open Go.RowKit
set_option linter.unusedVariables false
set_option linter.unusedSimpArgs false
theorem fx_stdb {ds : List Int} (h : WF ds) : stdB (rodsD ds) = true := by
 unfold stdB
 rw [List.all_eq_true]
 intro r hr
 obtain ⟨d, hd, rfl⟩ := List.mem_map.1 hr
 have := h d hd
 show (decide (d / 5 ≤ 1) && decide (d % 5 ≤ 4)) = true
 rw [decide_eq_true (show d / 5 ≤ 1 by omega), decide_eq_true (show d % 5 ≤ 4 by omega)]
 rfl
theorem fx_headB {u lo : Int} {l : List R2} (h : frB u lo l = true) : headB u lo l.length = true := by
 unfold frB at h
 simp only [Bool.and_eq_true] at h
 exact h.1
theorem WF_digs (n : Nat) (m : Int) : WF (digs n m) := by
 intro d hd
 obtain ⟨k, _, rfl⟩ := List.mem_map.1 hd
 exact dg_bounds n m k
theorem numD_digs {n : Nat} {m : Int} (h0 : 0 ≤ m) (h1 : m < pw n) : numD (digs n m) = m := by
 have h := digs_part n m n (Nat.le_refl _)
 rw [Nat.sub_self, pw_zero, Int.ediv_one, Int.ediv_eq_zero_of_lt h0 h1] at h
 unfold digs
 rw [h]
 omega
/-- a standard frame is made as it is -/
theorem ms_good {u lo : Int} {l : List R2} (h : goodB u lo l = true) : msB u lo l = true ∧ msF u lo l = (u, lo, l) := by
 have hf := good_fr h
 have hs := good_std h
 have hw := dsOf_WF hf hs
 have hb := numD_bounds hw
 rw [dsOf_len] at hb
 have hm : msB u lo l = true := by
  unfold msB
  rw [hf, Bool.true_and, inB_iff]
  exact ⟨hb.1, by have := hb.2; unfold numR; omega⟩
 refine ⟨hm, ?_⟩
 unfold msF
 have e : digs l.length (numR l) = dsOf l := numD_inj (WF_digs _ _) hw (by rw [digs_len, dsOf_len]) (numD_digs (m := numR l) hb.1 hb.2)
 rw [if_pos hm, e, rodsD_dsOf hf hs]
/-- what is made is standard and has the number -/
theorem ms_law (u lo : Int) (l : List R2) : msB u lo l = true → frB u lo l = true ∧ frB (msF u lo l).1 (msF u lo l).2.1 (msF u lo l).2.2 = true ∧ goodB (msF u lo l).1 (msF u lo l).2.1 (msF u lo l).2.2 = true ∧ numR (msF u lo l).2.2 = numR l := by
 intro h
 have e : msF u lo l = (u, lo, rodsD (digs l.length (numR l))) := by unfold msF; rw [if_pos h]
 unfold msB at h
 rw [Bool.and_eq_true, inB_iff] at h
 obtain ⟨hf, h0, h1⟩ := h
 have hw := WF_digs l.length (numR l)
 have hf2 : frB u lo (rodsD (digs l.length (numR l))) = true := frB_rodsD (by rw [digs_len]; exact fx_headB hf) hw
 rw [e]
 refine ⟨hf, hf2, ?_, ?_⟩
 · show goodB u lo (rodsD _) = true
   unfold goodB
   rw [hf2, fx_stdb hw]
   rfl
 · show numR (rodsD _) = _
   rw [numR_rodsD, numD_digs h0 (by omega)]
theorem msF_len (u lo : Int) (l : List R2) : (msF u lo l).2.2.length ≤ 8 := by
 cases h : msB u lo l
 · unfold msF; rw [if_neg (by rw [h]; simp)]; exact Nat.zero_le _
 · exact (frB_head (ms_law u lo l h).2.1).2.2.2
theorem pf_text {u lo : Int} {l : List R2} (h : frB u lo l = true) : pfO (ftV u lo l) = some (u, lo, l) := by
 unfold ftV
 rw [if_pos h, pf_iff]
 exact ⟨h, by rw [bl_str]⟩
theorem ftV_size (u lo : Int) {l : List R2} (h : l.length ≤ 9) : (ftV u lo l).size ≤ 100 := by
 unfold ftV
 split
 · rw [str_sz, tF_len]; omega
 · exact Nat.zero_le _
theorem pf_back (s : ByteArray) : (pfO s).isSome = true → frB ((pfO s).getD (0, 0, [])).1 ((pfO s).getD (0, 0, [])).2.1 ((pfO s).getD (0, 0, [])).2.2 = true ∧ ftV ((pfO s).getD (0, 0, [])).1 ((pfO s).getD (0, 0, [])).2.1 ((pfO s).getD (0, 0, [])).2.2 = s := by
 intro h
 obtain ⟨⟨u, lo, l⟩, hp⟩ := Option.isSome_iff_exists.1 h
 obtain ⟨h1, h2⟩ := pf_iff.1 hp
 rw [hp]
 show frB u lo l = true ∧ ftV u lo l = s
 refine ⟨h1, ?_⟩
 unfold ftV
 rw [if_pos h1]
 exact bl_inj (by rw [bl_str, h2])
theorem pfF_len (s : ByteArray) : ((pfO s).getD (0, 0, [])).2.2.length ≤ 8 := by
 cases h : pfO s with
 | none => exact Nat.zero_le _
 | some x =>
   obtain ⟨u, lo, l⟩ := x
   exact (frB_head (pf_iff.1 h).1).2.2.2
end Go.Proofs.Ytfmenkhfhibmeaa
