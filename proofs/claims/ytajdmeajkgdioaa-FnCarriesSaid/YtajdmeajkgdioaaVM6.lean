/- How many moves come back. -/
import Derived.Test.YtajdmeajkgdioaaVM3
import Derived.Test.YtajdmeajkgdioaaVFrN
namespace Go.Proofs.Ytajdmeajkgdioaa
open Go.RowKit
set_option linter.unusedVariables false
set_option linter.unusedSimpArgs false
theorem addDms_len (u lo : Int) (l : List R2) (rod d : Int) : (addDms u lo l rod d).length ≤ 16 := by
 unfold addDms
 split
 · rename_i h
   unfold addDigitB at h
   simp only [Bool.and_eq_true] at h
   have hn := (frB_head (good_fr h.1.1.1)).2.2.2
   have hr := inB_iff.1 h.1.1.2
   have := addS_msl (rod.toNat + 1) d ⟨dsOf l, [], 0⟩
   simp at this
   omega
 · simp
theorem takeDms_len (u lo : Int) (l : List R2) (rod d : Int) : (takeDms u lo l rod d).length ≤ 16 := by
 unfold takeDms
 split
 · rename_i h
   unfold takeDigitB at h
   simp only [Bool.and_eq_true] at h
   have hn := (frB_head (good_fr h.1.1.1)).2.2.2
   have hr := inB_iff.1 h.1.1.2
   have := takeS_msl (rod.toNat + 1) d ⟨dsOf l, [], 0⟩
   simp at this
   omega
 · simp
theorem addNms_len (u lo : Int) (l : List R2) (m : Int) : (addNms u lo l m).length ≤ 60 := by
 unfold addNms
 split
 · rename_i h
   unfold addNmok at h
   simp only [Bool.and_eq_true, decide_eq_true_eq] at h
   exact h.2
 · simp
theorem takeNms_len (u lo : Int) (l : List R2) (m : Int) : (takeNms u lo l m).length ≤ 60 := by
 unfold takeNms
 split
 · rename_i h
   unfold takeNmok at h
   simp only [Bool.and_eq_true, decide_eq_true_eq] at h
   exact h.2
 · simp
end Go.Proofs.Ytajdmeajkgdioaa
