/- The asked functions of fewest moves: the reference's. -/
import Derived.Deep.CutBlock
import Derived.Test.YtaghjaiaoajpiaaVBsK
import Derived.Test.YtaghjaiaoajpiaaVM4
import Derived.Test.YtaghjaiaoajpiaaVM5
import Derived.Test.YtaghjaiaoajpiaaVM7
import Derived.Test.YtaghjaiaoajpiaaVFdB
import Derived.Test.YtaghjaiaoajpiaaVM1
import Derived.Test.YtaghjaiaoajpiaaVAdA
namespace Go.Proofs.Ytaghjaiaoajpiaa
open Go.RowKit
set_option linter.unusedVariables false
set_option linter.unusedSimpArgs false
end Go.Proofs.Ytaghjaiaoajpiaa
namespace Go.Proofs.Ytaghjaiaoajpiaa
open Go.RowKit
set_option linter.unusedVariables false
set_option linter.unusedSimpArgs false
theorem few_end {u lo : Int} {l : List R2} {m : Int} (ha : askB u lo l m = true) : (minT fewP l l.length (tgP u lo l.length m)).ok = (fewW u lo l m).ok ∧ ((fewW u lo l m).ok = true → (minT fewP l l.length (tgP u lo l.length m)).b = (fewW u lo l m).b) ∧ ((fewW u lo l m).ok = false → (fewW u lo l m).b = 0) := by
 have e : fewW u lo l m = bestP fewP u lo l l.length m := by unfold fewW; rw [if_pos ha]
 obtain ⟨h1, h2⟩ := few_eq u lo l l.length m
 refine ⟨by rw [e]; exact h1, by rw [e]; exact h2, fun h => ?_⟩
 rcases few_is u lo l m with ⟨_, h3, _⟩ | ⟨h3, _⟩
 · rw [h3]; rfl
 · rw [h3] at h; cases h
end Go.Proofs.Ytaghjaiaoajpiaa
namespace Go.Proofs.Ytaghjaiaoajpiaa
open Go.RowKit
set_option linter.unusedVariables false
set_option linter.unusedSimpArgs false
end Go.Proofs.Ytaghjaiaoajpiaa
namespace Go.Proofs.Ytaghjaiaoajpiaa
open Go.RowKit
set_option linter.unusedVariables false
set_option linter.unusedSimpArgs false
def savB (u lo : Int) (l : List R2) (m : Int) : Bool := frB u lo l && inB m 0 (pw l.length - 1)
def savV (u lo : Int) (l : List R2) (m : Int) : Int := if savB u lo l m = true then ((btw l (rodsD (digs l.length m)) l.length).length : Int) - (nearW u lo l m).m else 0
theorem std_len (n : Nat) (m : Int) : (rodsD (digs n m)).length = n := by rw [rodsD_len, digs_len]
theorem std_mem {u lo : Int} {l : List R2} {n : Nat} (hf : frB u lo l = true) (m : Int) : ∀ y ∈ rodsD (digs n m), 0 ≤ y.a ∧ y.a ≤ u ∧ 0 ≤ y.b ∧ y.b ≤ lo := by
 intro y hy
 have hh := frB_head hf
 obtain ⟨d, hd, rfl⟩ := List.mem_map.1 hy
 obtain ⟨k, _, rfl⟩ := List.mem_map.1 hd
 have := dg_bounds n m k
 unfold rodD
 dsimp only
 omega
theorem std_fr {u lo : Int} {l : List R2} {n : Nat} (hf : frB u lo l = true) (hl : l.length = n) (m : Int) : frB u lo (rodsD (digs n m)) = true := frB_mk hf (by rw [std_len, hl]) (std_mem hf m)
theorem std_num {n : Nat} {m : Int} (h0 : 0 ≤ m) (h1 : m < pw n) : numR (rodsD (digs n m)) = m := by
 have h := digs_part n m n (Nat.le_refl _)
 rw [Nat.sub_self, pw_zero, Int.ediv_one, Int.ediv_eq_zero_of_lt h0 h1] at h
 unfold numR
 rw [dsOf_rodsD]
 unfold digs
 rw [h]
 omega
theorem std_in {u lo : Int} {l : List R2} {n : Nat} {m : Int} (hf : frB u lo l = true) (hl : l.length = n) (h0 : 0 ≤ m) (h1 : m < pw n) : rodsD (digs n m) ∈ tgP u lo n m :=
 (tgP_iff (by have := frB_head hf; omega) (by have := frB_head hf; omega) n m _ h0).2 ⟨std_len n m, std_mem hf m, std_num h0 h1⟩
theorem way_field (k : Nat) (m b : Int) (o : Bool) (A : Option Addr) (c : Nat) (w : World) : (Instr.field 69 (.agg #[.slice A k c, .int .i64 m, .int .i64 b, .bool o]) 1).run Try.prog w = .ok (.int .i64 m) w := by
 kernel_rfl
end Go.Proofs.Ytaghjaiaoajpiaa
namespace Go.Proofs.Ytaghjaiaoajpiaa
open Go.RowKit
set_option linter.unusedVariables false
set_option linter.unusedSimpArgs false
def nearF (u lo : Int) (l : List R2) (m : Int) : Int × Int × List R2 := if (nearW u lo l m).ok = true then (u, lo, (nearW u lo l m).l) else (0, 0, [])
theorem nearF_len (u lo : Int) (l : List R2) (m : Int) : (nearF u lo l m).2.2.length ≤ l.length := by
 unfold nearF
 split
 · rename_i h
   exact Nat.le_of_eq (nearW_len u lo l m h)
 · exact Nat.zero_le _
theorem near_frB {u lo : Int} {l : List R2} {m : Int} {w w' : World} {e : Ending} (h : RetBest w u lo (nearW u lo l m) e w') : RetFrB w (nearF u lo l m) (nearW u lo l m).ok e w' := by
 obtain ⟨U, L, A, c, he, h1, h0, ho, hb⟩ := h
 unfold nearF
 cases hk : (nearW u lo l m).ok
 · obtain ⟨rfl, rfl⟩ := h0 hk
   rcases near_is u lo l m with ⟨_, h3, _⟩ | ⟨h3, _⟩
   · rw [h3] at ho he
     exact ⟨A, c, he, ho, hb⟩
   · rw [hk] at h3; cases h3
 · obtain ⟨rfl, rfl⟩ := h1 hk
   rw [if_pos rfl]
   rw [hk] at he
   exact ⟨A, c, he, ho, hb⟩
theorem beads_mvR (k : Int) (r s : R2) : ((mvR k r s).length : Int) ≤ beads (mvR k r s) := by
 unfold mvR
 split
 · split
   · exact Int.le_refl _
   · rename_i h
     show (1 : Int) ≤ 0 + ab (s.b - r.b)
     unfold ab
     split <;> omega
 · split
   · rename_i h _
     show (1 : Int) ≤ 0 + ab (s.a - r.a)
     unfold ab
     split <;> omega
   · rename_i h h2
     show (2 : Int) ≤ 0 + ab (s.a - r.a) + ab (s.b - r.b)
     unfold ab
     split <;> split <;> omega
theorem beads_btw (l t : List R2) : ∀ k, ((btw l t k).length : Int) ≤ beads (btw l t k) := by
 intro k
 induction k with
 | zero => exact Int.le_refl _
 | succ k ih =>
   rw [btw, List.length_append, beads_app]
   have := beads_mvR (k : Int) (l.getD k ⟨0, 0⟩) (t.getD k ⟨0, 0⟩)
   omega
theorem nearMs_len (u lo : Int) (l : List R2) (m : Int) : (nearMs u lo l m).length ≤ 2 * l.length := by
 unfold nearMs
 split
 · exact btw_len _ _ _
 · exact Nat.zero_le _
theorem ask_ok (u lo : Int) (l : List R2) (m : Int) : (nearW u lo l m).ok = (askB u lo l m && decide ((0 : Int) < (tgN u lo l m : Int))) := by
 rcases near_is u lo l m with ⟨h1, _, h2⟩ | ⟨h1, ha, t, ht, _⟩
 · rw [h1]
   cases ha : askB u lo l m
   · rfl
   · rw [Bool.true_and, show tgN u lo l m = 0 by unfold tgN; rw [if_pos ha, h2 ha]; rfl]
     rfl
 · rw [h1, ha, Bool.true_and]
   have : 0 < tgN u lo l m := by unfold tgN; rw [if_pos ha]; exact List.length_pos_of_mem ht
   exact (decide_eq_true (by omega)).symm
structure Near (u lo : Int) (l : List R2) (m : Int) (s : Way) (ms : List R3) (fw : Way) : Prop where
 fr : frB u lo l = true
 fr2 : frB u lo s.l = true
 num : numR s.l = m
 pf : plF u lo l ms = (u, lo, s.l)
 pb : plB u lo l ms = true
 len : (ms.length : Int) = s.m
 mv : mvsB ms = true
 few : fw.ok = true
 le : fw.b ≤ beads ms
 ge : s.m ≤ fw.b
theorem near_law {u lo : Int} {l : List R2} {m : Int} (h : (nearW u lo l m).ok = true) : Near u lo l m (nearW u lo l m) (nearMs u lo l m) (fewW u lo l m) := by
 rcases near_is u lo l m with ⟨h1, _⟩ | ⟨_, ha, t, ht, h1, h2⟩
 · rw [h1] at h; cases h
 · have hf : frB u lo l = true := by unfold askB at ha; simp at ha; exact ha.1
   have hm0 : 0 ≤ m := by unfold askB at ha; simp at ha; exact ha.2
   have hh := frB_head hf
   have hms : nearMs u lo l m = btw l t l.length := by unfold nearMs; rw [if_pos h, h1]; rfl
   obtain ⟨e1, e2, e3⟩ := (tgP_iff (by omega) (by omega) l.length m t hm0).1 ht
   have hft := frB_mk hf e1 e2
   have hp := play_between hf hft e1
   have hmv := mvs_btw hf hft e1
   obtain ⟨p1, p2⟩ := pl_of hf hmv hp
   rw [hms, h1]
   have hfew : (fewW u lo l m).ok = true ∧ (fewW u lo l m).b ≤ beads (btw l t l.length) ∧ ((btw l t l.length).length : Int) ≤ (fewW u lo l m).b := by
    rcases few_is u lo l m with ⟨_, _, h4⟩ | ⟨h3, _, x, hx, h4, h5⟩
    · rw [h4 ha] at ht; cases ht
    · refine ⟨h3, by rw [h4]; exact h5 t ht, ?_⟩
      have h6 := h2 x hx
      rw [nearP_no rfl rfl] at h6
      have h7 := beads_btw l x l.length
      rw [h4]
      unfold wayT at h6 ⊢
      dsimp only at h6 ⊢
      omega
   exact ⟨hf, hft, e3, p1, p2, rfl, hmv, hfew.1, hfew.2.1, hfew.2.2⟩
theorem sav_ge (u lo : Int) (l : List R2) (m : Int) : 0 ≤ savV u lo l m := by
 unfold savV
 split
 · rename_i hs
   unfold savB at hs
   rw [Bool.and_eq_true, inB_iff] at hs
   have hin := std_in hs.1 rfl hs.2.1 (by omega)
   rcases near_is u lo l m with ⟨h1, h2, _⟩ | ⟨_, _, t, _, h1, h2⟩
   · rw [h2]
     show (0 : Int) ≤ _ - 0
     omega
   · have h6 := h2 _ hin
     rw [nearP_no rfl rfl] at h6
     rw [h1]
     unfold wayT at h6 ⊢
     dsimp only at h6 ⊢
     omega
 · exact Int.le_refl _
theorem nearW_le (u lo : Int) (l : List R2) (m : Int) : 0 ≤ (nearW u lo l m).m ∧ (nearW u lo l m).m ≤ 2 * (l.length : Int) := by
 rcases near_is u lo l m with ⟨_, h2, _⟩ | ⟨_, _, t, _, h1, _⟩
 · rw [h2]; show (0 : Int) ≤ 0 ∧ (0 : Int) ≤ _; omega
 · rw [h1]
   have := btw_len l t l.length
   show (0 : Int) ≤ ((btw l t l.length).length : Int) ∧ ((btw l t l.length).length : Int) ≤ _
   omega
end Go.Proofs.Ytaghjaiaoajpiaa
namespace Go.Proofs.Ytaghjaiaoajpiaa
open Go.RowKit
set_option linter.unusedVariables false
set_option linter.unusedSimpArgs false
def DFrN (w : World) (e : Ending) (w' : World) : Prop := ∃ (u lo : Int) (l : List R2) (A : Option Addr) (c : Nat) (z : Int), e = .returned (.tuple #[frV u lo A l.length c, .int .i64 z]) ∧ FrIn u lo l ∧ -1 ≤ z ∧ z ≤ 200000000 ∧ w'.ownsRow w.heap.size 42 2 (.slice A l.length c) l.length (rowsV2 l) ∧ Below w.heap.size w w'
end Go.Proofs.Ytaghjaiaoajpiaa
