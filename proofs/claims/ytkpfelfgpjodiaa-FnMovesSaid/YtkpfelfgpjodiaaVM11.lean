/- What FnMoves asks, plainly. -/
import Derived.Test.YtkpfelfgpjodiaaVMvC
import Derived.Test.YtkpfelfgpjodiaaVM10
import Derived.Test.YtkpfelfgpjodiaaVGmF
import Derived.Test.YtkpfelfgpjodiaaVMvB
namespace Go.Proofs.Ytkpfelfgpjodiaa
open Go.RowKit
set_option linter.unusedVariables false
set_option linter.unusedSimpArgs false
theorem bump_neg (r : R2) (m : R3) : bump (bump r m) (negM m) = r := by
 obtain ⟨a, b⟩ := r
 unfold bump negM
 dsimp only
 by_cases h : m.b = 0
 · rw [if_pos h, if_pos h]
   dsimp only
   rw [show a + m.c + -m.c = a by omega]
 · rw [if_neg h, if_neg h]
   dsimp only
   rw [show b + m.c + -m.c = b by omega]
theorem mvL_neg {y : List R2} {m : R3} (h0 : 0 ≤ m.a) (h1 : m.a < y.length) : mvL (mvL y m) (negM m) = y := by
 have hi : m.a.toNat < y.length := by omega
 unfold mvL
 rw [show (negM m).a = m.a from rfl]
 rw [List.getD_eq_getElem?_getD, List.getD_eq_getElem?_getD, List.getElem?_set_self hi, Option.getD_some, bump_neg, List.set_set]
 exact set_same (by rw [List.getElem?_eq_getElem hi]; rfl)
theorem mvB_neg {u lo : Int} {y : List R2} {m : R3} (hf : frB u lo y = true) (h0 : 0 ≤ m.a) (h : mvB u lo y m = true) : mvB u lo (mvL y m) (negM m) = true ∧ mvL (mvL y m) (negM m) = y := by
 unfold mvB at h
 simp only [Bool.and_eq_true, decide_eq_true_eq] at h
 have e := mvL_neg h0 h.1
 refine ⟨?_, e⟩
 unfold mvB
 rw [e, hf, mvL_len, Bool.and_true, decide_eq_true_iff]
 exact h.1
theorem play_cons (u lo : Int) (l : List R2) (m : R3) (ms : List R3) : playS u lo l (m :: ms) = if mvB u lo l m = true then playS u lo (mvL l m) ms else none := by
 unfold playS
 rw [List.foldl_cons]
 split
 · rename_i h
   rw [show (some l).bind (fun x => if mvB u lo x m = true then some (mvL x m) else none) = some (mvL l m) by simp [h]]
 · rename_i h
   rw [show (some l).bind (fun x => if mvB u lo x m = true then some (mvL x m) else none) = none by simp [h]]
   exact fold_none ms
theorem play_snoc {u lo : Int} {l x : List R2} {ms : List R3} {m : R3} (h : playS u lo l (ms ++ [m]) = some x) : ∃ y, playS u lo l ms = some y ∧ mvB u lo y m = true ∧ x = mvL y m := by
 unfold playS at h
 rw [List.foldl_append, List.foldl_cons, List.foldl_nil] at h
 cases hy : playS u lo l ms with
 | none => unfold playS at hy; rw [hy] at h; cases h
 | some y =>
   unfold playS at hy
   rw [hy] at h
   refine ⟨y, rfl, ?_⟩
   simp only [Option.bind_some] at h
   split at h
   · rename_i h2
     injection h with h
     exact ⟨h2, h.symm⟩
   · cases h
/-- moves undone lead back -/
theorem undo_back {u lo : Int} {l : List R2} (hf : frB u lo l = true) (ms : List R3) (hm : ∀ m ∈ ms, okM m = true) : ∀ k x, playS u lo l (ms.take k) = some x → playS u lo x (undo (ms.take k)) = some l := by
 intro k
 induction k with
 | zero =>
   intro x h
   rw [List.take_zero] at h ⊢
   injection h with h
   subst h
   rfl
 | succ k ih =>
   intro x h
   by_cases hk : k < ms.length
   · obtain ⟨m, hx⟩ := list_split (l := ms) (k := k) hk
     rw [List.take_add_one, hx] at h ⊢
     obtain ⟨y, h1, h2, rfl⟩ := play_snoc h
     have hfy := play_fr hf h1
     have hmo := (okM_iff.1 (hm m (List.mem_of_getElem? hx))).1.1
     obtain ⟨e1, e2⟩ := mvB_neg hfy hmo h2
     show playS u lo (mvL y m) (undo (ms.take k ++ [m])) = some l
     rw [show undo (ms.take k ++ [m]) = negM m :: undo (ms.take k) by unfold undo; rw [List.map_append, List.reverse_append]; rfl, play_cons, if_pos e1, e2]
     exact ih y h1
   · rw [List.take_of_length_le (by omega)] at h ⊢
     rw [List.take_of_length_le (by omega)] at ih
     exact ih x h
theorem dsOf_set (l : List R2) (i : Nat) (r : R2) : dsOf (l.set i r) = (dsOf l).set i (5 * r.a + r.b) := by
 unfold dsOf
 rw [List.map_set]
 rfl
/-- a move changes the number by what it is worth -/
theorem num_mv {y : List R2} {m : R3} (h0 : 0 ≤ m.a) (h1 : m.a < y.length) (hb : m.b = 0 ∨ m.b = 1) : numR (mvL y m) = numR y + chW y.length m := by
 have hi : m.a.toNat < y.length := by omega
 unfold mvL numR
 rw [dsOf_set, numD_set _ _ _ (by rw [dsOf_len]; exact hi), dsOf_len]
 obtain ⟨r, hr⟩ := list_split (l := y) (k := m.a.toNat) hi
 rw [List.getD_eq_getElem?_getD, hr, Option.getD_some]
 have e : (dsOf y).getD m.a.toNat 0 = 5 * r.a + r.b := by
  rw [List.getD_eq_getElem?_getD]
  unfold dsOf
  rw [List.getElem?_map, hr]
  rfl
 rw [e]
 unfold chW bump
 congr 1
 rcases hb with hb | hb
 · rw [if_pos hb, if_pos hb]
   dsimp only
   rw [show 5 * (r.a + m.c) + r.b - (5 * r.a + r.b) = m.c * 5 by omega, Int.mul_assoc, Int.mul_assoc, Int.mul_comm 5]
 · rw [if_neg (by omega), if_neg (by omega)]
   dsimp only
   rw [show 5 * r.a + (r.b + m.c) - (5 * r.a + r.b) = m.c by omega, Int.mul_one]
theorem num_play {u lo : Int} {l : List R2} (ms : List R3) (hm : ∀ m ∈ ms, okM m = true) : ∀ k x, playS u lo l (ms.take k) = some x → numR x = numR l + chg l.length (ms.take k) := by
 intro k
 induction k with
 | zero =>
   intro x h
   rw [List.take_zero] at h ⊢
   injection h with h
   subst h
   unfold chg
   simp
 | succ k ih =>
   intro x h
   by_cases hk : k < ms.length
   · obtain ⟨m, hx⟩ := list_split (l := ms) (k := k) hk
     rw [chg_take hx]
     rw [List.take_add_one, hx] at h
     obtain ⟨y, h1, h2, rfl⟩ := play_snoc h
     have ho := okM_iff.1 (hm m (List.mem_of_getElem? hx))
     have hl := play_len h1
     unfold mvB at h2
     simp only [Bool.and_eq_true, decide_eq_true_eq] at h2
     rw [num_mv ho.1.1 h2.1 (by omega), ih y h1, hl]
     omega
   · rw [List.take_of_length_le (by omega)] at h ⊢
     rw [List.take_of_length_le (by omega)] at ih
     exact ih x h
end Go.Proofs.Ytkpfelfgpjodiaa
namespace Go.Proofs.Ytkpfelfgpjodiaa
open Go.RowKit
set_option linter.unusedVariables false
set_option linter.unusedSimpArgs false
theorem frB_set {u lo : Int} {y : List R2} (hf : frB u lo y = true) (k : Nat) {r : R2} (h : 0 ≤ r.a ∧ r.a ≤ u ∧ 0 ≤ r.b ∧ r.b ≤ lo) : frB u lo (y.set k r) = true := by
 unfold frB at hf ⊢
 simp only [Bool.and_eq_true, List.all_eq_true] at hf ⊢
 refine ⟨by rw [List.length_set]; exact hf.1, fun q hq => ?_⟩
 rcases List.mem_or_eq_of_mem_set hq with h2 | h2
 · exact hf.2 q h2
 · subst h2
   unfold rodB
   rw [Bool.and_eq_true, inB_iff, inB_iff]
   omega
theorem play_app (u lo : Int) (l : List R2) (a b : List R3) : playS u lo l (a ++ b) = (playS u lo l a).bind fun y => playS u lo y b := by
 cases h : playS u lo l a with
 | none =>
   unfold playS at h ⊢
   rw [List.foldl_append, h]
   exact fold_none b
 | some y =>
   unfold playS at h ⊢
   rw [List.foldl_append, h]
   rfl
theorem play_up {u lo : Int} {y : List R2} {k : Nat} {r : R2} {z : Int} (hf : frB u lo y = true) (hr : y[k]? = some r) (hz : 0 ≤ z ∧ z ≤ u) : playS u lo y (if z - r.a = 0 then [] else [⟨(k : Int), 0, z - r.a⟩]) = some (y.set k ⟨z, r.b⟩) := by
 have hk : k < y.length := (List.getElem?_eq_some_iff.1 hr).1
 have hb := frB_rod hf hr
 by_cases h : z - r.a = 0
 · rw [if_pos h]
   have e : (⟨z, r.b⟩ : R2) = r := by obtain ⟨a, b⟩ := r; rw [show z = a by dsimp only at h; omega]
   rw [e, set_same hr]
   rfl
 · rw [if_neg h, play_cons]
   have e : mvL y ⟨(k : Int), 0, z - r.a⟩ = y.set k ⟨z, r.b⟩ := by
    unfold mvL bump
    rw [show ((k : Int)).toNat = k from Int.toNat_natCast k, List.getD_eq_getElem?_getD, hr, Option.getD_some, if_pos rfl]
    dsimp only
    rw [show r.a + (z - r.a) = z by omega]
   have hv : mvB u lo y ⟨(k : Int), 0, z - r.a⟩ = true := by
    unfold mvB
    rw [e, frB_set hf k (r := ⟨z, r.b⟩) ⟨hz.1, hz.2, hb.2.2.1, hb.2.2.2⟩, Bool.and_true, decide_eq_true_iff]
    dsimp only
    omega
   rw [if_pos hv, e]
   rfl
theorem play_low {u lo : Int} {y : List R2} {k : Nat} {r : R2} {z : Int} (hf : frB u lo y = true) (hr : y[k]? = some r) (hz : 0 ≤ z ∧ z ≤ lo) : playS u lo y (if z - r.b = 0 then [] else [⟨(k : Int), 1, z - r.b⟩]) = some (y.set k ⟨r.a, z⟩) := by
 have hk : k < y.length := (List.getElem?_eq_some_iff.1 hr).1
 have hb := frB_rod hf hr
 by_cases h : z - r.b = 0
 · rw [if_pos h]
   have e : (⟨r.a, z⟩ : R2) = r := by obtain ⟨a, b⟩ := r; rw [show z = b by dsimp only at h; omega]
   rw [e, set_same hr]
   rfl
 · rw [if_neg h, play_cons]
   have e : mvL y ⟨(k : Int), 1, z - r.b⟩ = y.set k ⟨r.a, z⟩ := by
    unfold mvL bump
    rw [show ((k : Int)).toNat = k from Int.toNat_natCast k, List.getD_eq_getElem?_getD, hr, Option.getD_some, if_neg (show ¬ (1 : Int) = 0 by decide)]
    dsimp only
    rw [show r.b + (z - r.b) = z by omega]
   have hv : mvB u lo y ⟨(k : Int), 1, z - r.b⟩ = true := by
    unfold mvB
    rw [e, frB_set hf k (r := ⟨r.a, z⟩) ⟨hb.1, hb.2.1, hz.1, hz.2⟩, Bool.and_true, decide_eq_true_iff]
    dsimp only
    omega
   rw [if_pos hv, e]
   rfl
/-- a rod's moves lead it to its end -/
theorem play_mvR {u lo : Int} {y : List R2} {k : Nat} {r s : R2} (hf : frB u lo y = true) (hr : y[k]? = some r) (hs : 0 ≤ s.a ∧ s.a ≤ u ∧ 0 ≤ s.b ∧ s.b ≤ lo) : playS u lo y (mvR (k : Int) r s) = some (y.set k s) := by
 have hk : k < y.length := (List.getElem?_eq_some_iff.1 hr).1
 have hb := frB_rod hf hr
 unfold mvR
 rw [play_app, play_up hf hr ⟨hs.1, hs.2.1⟩, Option.bind_some]
 have h2 := play_low (k := k) (r := ⟨s.a, r.b⟩) (z := s.b) (frB_set hf k (r := ⟨s.a, r.b⟩) ⟨hs.1, hs.2.1, hb.2.2.1, hb.2.2.2⟩) (by rw [List.getElem?_set_self hk]) ⟨hs.2.2.1, hs.2.2.2⟩
 dsimp only at h2
 rw [h2, List.set_set]
/-- the moves between lead from one to the other -/
theorem play_btw {u lo : Int} {l x : List R2} (hf : frB u lo l = true) (hx : frB u lo x = true) (hl : x.length = l.length) : ∀ k, k ≤ l.length → playS u lo l (btw l x k) = some (x.take k ++ l.drop k) := by
 intro k
 induction k with
 | zero => intro _; rw [List.take_zero, List.drop_zero]; rfl
 | succ k ih =>
   intro hk
   obtain ⟨r, hr⟩ := list_split (l := l) (k := k) (by omega)
   obtain ⟨s, hs⟩ := list_split (l := x) (k := k) (by omega)
   have h1 := ih (by omega)
   rw [btw_step hr hs, play_app, h1, Option.bind_some]
   have hy := play_fr hf h1
   have e1 : (x.take k ++ l.drop k)[k]? = some r := by
    rw [List.getElem?_append_right (by rw [List.length_take]; omega), List.length_take, Nat.min_eq_left (by omega), Nat.sub_self, List.getElem?_drop, Nat.add_zero]
    exact hr
   rw [play_mvR hy e1 (frB_rod hx hs)]
   congr 1
   rw [List.set_append_right _ _ (by rw [List.length_take]; omega), List.length_take, Nat.min_eq_left (by omega), Nat.sub_self, List.take_add_one, hs, List.append_assoc]
   congr 1
   obtain ⟨hk2, e2⟩ := List.getElem?_eq_some_iff.1 hr
   rw [List.drop_eq_getElem_cons hk2]
   rfl
theorem play_between {u lo : Int} {l x : List R2} (hf : frB u lo l = true) (hx : frB u lo x = true) (hl : x.length = l.length) : playS u lo l (btw l x l.length) = some x := by
 rw [play_btw hf hx hl _ (Nat.le_refl _), List.drop_of_length_le (Nat.le_refl _), List.append_nil, List.take_of_length_le (by omega)]
end Go.Proofs.Ytkpfelfgpjodiaa
namespace Go.Proofs.Ytkpfelfgpjodiaa
open Go.RowKit
set_option linter.unusedVariables false
set_option linter.unusedSimpArgs false
theorem fold_add (ms : List R3) : ∀ s : Int, ms.foldl (fun s m => s + ab m.c) s = s + beads ms := by
 unfold beads
 induction ms with
 | nil => intro s; simp
 | cons m ms ih =>
   intro s
   rw [List.foldl_cons, List.foldl_cons, ih, ih (0 + ab m.c)]
   omega
theorem bd_app (a b : List R3) : beads (a ++ b) = beads a + beads b := by
 have h := fold_add b (beads a)
 rw [← h]
 unfold beads
 rw [List.foldl_append]
theorem ab_nonneg (z : Int) : 0 ≤ ab z := by unfold ab; split <;> omega
theorem ab_tri (x y c : Int) (h : y = x + c) : ab y ≤ ab x + ab c := by unfold ab; split <;> split <;> split <;> omega
theorem ab_zero {z : Int} (h : z = 0) : ab z = 0 := by subst h; rfl
theorem bd_mvR (k : Int) (r s : R2) : beads (mvR k r s) = ab (s.a - r.a) + ab (s.b - r.b) := by
 unfold mvR
 rw [bd_app]
 congr 1
 · split
   · rename_i h; rw [ab_zero h]; rfl
   · unfold beads; simp
 · split
   · rename_i h; rw [ab_zero h]; rfl
   · unfold beads; simp
theorem len_mvR (k : Int) (r s : R2) : (mvR k r s).length = (if s.a - r.a = 0 then 0 else 1) + (if s.b - r.b = 0 then 0 else 1) := by
 unfold mvR
 rw [List.length_append]
 congr 1
 · split <;> rfl
 · split <;> rfl
/-- one move more: at most its beads more, at most one move more -/
theorem mvR_bump (k : Int) (r s : R2) (m : R3) : beads (mvR k r (bump s m)) ≤ beads (mvR k r s) + ab m.c ∧ (mvR k r (bump s m)).length ≤ (mvR k r s).length + 1 := by
 rw [bd_mvR, bd_mvR, len_mvR, len_mvR]
 unfold bump
 by_cases h : m.b = 0
 · rw [if_pos h]
   dsimp only
   have := ab_tri (s.a - r.a) (s.a + m.c - r.a) m.c (by omega)
   refine ⟨by omega, ?_⟩
   split <;> split <;> omega
 · rw [if_neg h]
   dsimp only
   have := ab_tri (s.b - r.b) (s.b + m.c - r.b) m.c (by omega)
   refine ⟨by omega, ?_⟩
   split <;> split <;> (try split) <;> omega
theorem btw_mv (l y : List R2) {m : R3} (h1 : m.a.toNat < y.length) : ∀ n, beads (btw l (mvL y m) n) ≤ beads (btw l y n) + (if m.a.toNat < n then ab m.c else 0) ∧ (btw l (mvL y m) n).length ≤ (btw l y n).length + (if m.a.toNat < n then 1 else 0) := by
 intro n
 induction n with
 | zero => simp [btw]
 | succ n ih =>
   rw [btw, btw, bd_app, bd_app, List.length_append, List.length_append]
   have ha := ab_nonneg m.c
   by_cases hi : m.a.toNat = n
   · have e : (mvL y m).getD n ⟨0, 0⟩ = bump (y.getD n ⟨0, 0⟩) m := by
      unfold mvL
      rw [hi, List.getD_eq_getElem?_getD, List.getElem?_set_self (by omega), Option.getD_some]
     rw [e]
     have := mvR_bump (n : Int) (l.getD n ⟨0, 0⟩) (y.getD n ⟨0, 0⟩) m
     rw [if_neg (by omega), if_neg (by omega)] at ih
     rw [if_pos (by omega), if_pos (by omega)]
     omega
   · have e : (mvL y m).getD n ⟨0, 0⟩ = y.getD n ⟨0, 0⟩ := by
      unfold mvL
      rw [List.getD_eq_getElem?_getD, List.getElem?_set_ne hi, ← List.getD_eq_getElem?_getD]
     rw [e]
     by_cases hn : m.a.toNat < n
     · rw [if_pos hn, if_pos hn] at ih
       rw [if_pos (by omega), if_pos (by omega)]
       omega
     · rw [if_neg hn, if_neg hn] at ih
       rw [if_neg (by omega), if_neg (by omega)]
       omega
theorem mvR_self (k : Int) (r : R2) : mvR k r r = [] := by unfold mvR; rw [if_pos (by omega), if_pos (by omega)]; rfl
theorem btw_self (l : List R2) : ∀ n, btw l l n = [] := by
 intro n
 induction n with
 | zero => rfl
 | succ n ih => rw [btw, ih, mvR_self]; rfl
/-- no moves that lead there have fewer beads, or are fewer -/
theorem btw_least {u lo : Int} {l : List R2} (n : Nat) (ms : List R3) (hm : ∀ m ∈ ms, okM m = true) : ∀ k x, playS u lo l (ms.take k) = some x → beads (btw l x n) ≤ beads (ms.take k) ∧ (btw l x n).length ≤ (ms.take k).length := by
 intro k
 induction k with
 | zero =>
   intro x h
   rw [List.take_zero] at h ⊢
   injection h with h
   subst h
   rw [btw_self]
   exact ⟨Int.le_refl _, Nat.le_refl _⟩
 | succ k ih =>
   intro x h
   by_cases hk : k < ms.length
   · obtain ⟨m, hx⟩ := list_split (l := ms) (k := k) hk
     rw [beads_take hx]
     rw [List.take_add_one, hx] at h ⊢
     obtain ⟨y, h1, h2, rfl⟩ := play_snoc h
     have ho := okM_iff.1 (hm m (List.mem_of_getElem? hx))
     unfold mvB at h2
     simp only [Bool.and_eq_true, decide_eq_true_eq] at h2
     have hb := btw_mv l y (m := m) (by omega) n
     have hi := ih y h1
     have ha := ab_nonneg m.c
     have e1 : (if m.a.toNat < n then ab m.c else 0) ≤ ab m.c := by split <;> omega
     have e2 : (if m.a.toNat < n then 1 else 0) ≤ 1 := by split <;> omega
     refine ⟨by omega, ?_⟩
     rw [List.length_append]
     show _ ≤ _ + 1
     omega
   · rw [List.take_of_length_le (by omega)] at h ⊢
     rw [List.take_of_length_le (by omega)] at ih
     exact ih x h
end Go.Proofs.Ytkpfelfgpjodiaa
namespace Go.Proofs.Ytkpfelfgpjodiaa
open Go.RowKit
set_option linter.unusedVariables false
set_option linter.unusedSimpArgs false
theorem okM_neg {m : R3} (h : okM m = true) : okM (negM m) = true := by
 rw [okM_iff] at h ⊢
 obtain ⟨h1, h2, h3, h4⟩ := h
 exact ⟨h1, h2, ⟨by show -5 ≤ -m.c; omega, by show -m.c ≤ 5; omega⟩, by show -m.c ≠ 0; omega⟩
theorem mvs_undo {ms : List R3} (h : mvsB ms = true) : mvsB (undo ms) = true := by
 unfold mvsB at h ⊢
 simp only [Bool.and_eq_true, decide_eq_true_eq, List.all_eq_true] at h ⊢
 refine ⟨by unfold undo; rw [List.length_reverse, List.length_map]; exact h.1, fun m hm => ?_⟩
 unfold undo at hm
 obtain ⟨q, hq, rfl⟩ := List.mem_map.1 (List.mem_reverse.1 hm)
 exact okM_neg (h.2 q hq)
theorem undo_len (ms : List R3) : (undo ms).length = ms.length := by unfold undo; rw [List.length_reverse, List.length_map]
theorem mvR_ok {u lo : Int} {l x : List R2} (hf : frB u lo l = true) (hx : frB u lo x = true) {k : Nat} {r s : R2} (hr : l[k]? = some r) (hs : x[k]? = some s) : ∀ m ∈ mvR (k : Int) r s, okM m = true := by
 have h1 := frB_rod hf hr
 have h2 := frB_rod hx hs
 have hh := frB_head hf
 have hk : k < l.length := (List.getElem?_eq_some_iff.1 hr).1
 intro m hm
 unfold mvR at hm
 rcases List.mem_append.1 hm with h | h
 · split at h
   · cases h
   · rename_i hne
     simp only [List.mem_cons, List.not_mem_nil, or_false] at h
     subst h
     rw [okM_iff]
     dsimp only
     omega
 · split at h
   · cases h
   · rename_i hne
     simp only [List.mem_cons, List.not_mem_nil, or_false] at h
     subst h
     rw [okM_iff]
     dsimp only
     omega
theorem btw_ok {u lo : Int} {l x : List R2} (hf : frB u lo l = true) (hx : frB u lo x = true) (hl : x.length = l.length) : ∀ n, n ≤ l.length → ∀ m ∈ btw l x n, okM m = true := by
 intro n
 induction n with
 | zero => intro _ m hm; cases hm
 | succ n ih =>
   intro hn m hm
   obtain ⟨r, hr⟩ := list_split (l := l) (k := n) (by omega)
   obtain ⟨s, hs⟩ := list_split (l := x) (k := n) (by omega)
   rw [btw_step hr hs] at hm
   rcases List.mem_append.1 hm with h | h
   · exact ih (by omega) m h
   · exact mvR_ok hf hx hr hs m h
theorem mvs_btw {u lo : Int} {l x : List R2} (hf : frB u lo l = true) (hx : frB u lo x = true) (hl : x.length = l.length) : mvsB (btw l x l.length) = true := by
 have h := btw_len l x l.length
 have hh := frB_head hf
 unfold mvsB
 simp only [Bool.and_eq_true, decide_eq_true_eq, List.all_eq_true]
 exact ⟨by omega, btw_ok hf hx hl _ (Nat.le_refl _)⟩
end Go.Proofs.Ytkpfelfgpjodiaa
namespace Go.Proofs.Ytkpfelfgpjodiaa
open Go.RowKit
set_option linter.unusedVariables false
set_option linter.unusedSimpArgs false
/-- what PlayMoves gives -/
def plF (u lo : Int) (l : List R2) (ms : List R3) : Int × Int × List R2 := if frB u lo l && mvsB ms then playF u lo l ms else (0, 0, [])
def plB (u lo : Int) (l : List R2) (ms : List R3) : Bool := frB u lo l && mvsB ms && (playS u lo l ms).isSome
theorem pl_of {u lo : Int} {l x : List R2} {ms : List R3} (hf : frB u lo l = true) (hm : mvsB ms = true) (h : playS u lo l ms = some x) : plF u lo l ms = (u, lo, x) ∧ plB u lo l ms = true := by
 unfold plF plB playF
 rw [hf, hm, h]
 exact ⟨rfl, rfl⟩
theorem pl_to {u lo : Int} {l : List R2} {ms : List R3} (h : plB u lo l ms = true) : frB u lo l = true ∧ mvsB ms = true ∧ ∃ x, playS u lo l ms = some x ∧ plF u lo l ms = (u, lo, x) := by
 have h0 := h
 unfold plB at h
 simp only [Bool.and_eq_true] at h
 obtain ⟨⟨hf, hm⟩, hs⟩ := h
 obtain ⟨x, hx⟩ := Option.isSome_iff_exists.1 hs
 exact ⟨hf, hm, x, hx, (pl_of hf hm hx).1⟩
theorem plF_len (u lo : Int) (l : List R2) (ms : List R3) : (plF u lo l ms).2.2.length ≤ l.length := by
 by_cases h : plB u lo l ms = true
 · obtain ⟨hf, _, x, hx, e⟩ := pl_to h
   rw [e]
   exact Nat.le_of_eq (play_len hx)
 · unfold plF playF
   split
   · rename_i h2
     split
     · rename_i x hx
       exact Nat.le_of_eq (play_len hx)
     · exact Nat.zero_le _
   · exact Nat.zero_le _
theorem play_lt {u lo : Int} (ms : List R3) : ∀ (l : List R2) (x : List R2), playS u lo l ms = some x → ∀ m ∈ ms, m.a < (l.length : Int) := by
 induction ms with
 | nil => intro l x _ m hm; cases hm
 | cons a ms ih =>
   intro l x h m hm
   rw [play_cons] at h
   by_cases hb : mvB u lo l a = true
   · rw [if_pos hb] at h
     rcases List.mem_cons.1 hm with rfl | hm
     · unfold mvB at hb
       simp only [Bool.and_eq_true, decide_eq_true_eq] at hb
       exact hb.1
     · have := ih _ _ h m hm
       rwa [mvL_len] at this
   · rw [if_neg hb] at h
     cases h
/-- what the law asks of a play that goes -/
theorem fmv_law {u lo : Int} {l : List R2} {ms : List R3} (h : plB u lo l ms = true) : ∃ bt : List R3,
 frB u lo l = true ∧ frB (plF u lo l ms).1 (plF u lo l ms).2.1 (plF u lo l ms).2.2 = true ∧ mvsB ms = true ∧ plF (plF u lo l ms).1 (plF u lo l ms).2.1 (plF u lo l ms).2.2 (undo ms) = (u, lo, l) ∧ plB (plF u lo l ms).1 (plF u lo l ms).2.1 (plF u lo l ms).2.2 (undo ms) = true ∧ chB ms (l.length : Int) = true ∧ numR (plF u lo l ms).2.2 = numR l + chV ms (l.length : Int) ∧
 mbB u lo l (plF u lo l ms).1 (plF u lo l ms).2.1 (plF u lo l ms).2.2 = true ∧ mbL u lo l (plF u lo l ms).1 (plF u lo l ms).2.1 (plF u lo l ms).2.2 = bt ∧ mvsB bt = true ∧ plF u lo l bt = plF u lo l ms ∧ plB u lo l bt = true ∧ beads bt ≤ beads ms ∧ bt.length ≤ ms.length := by
 obtain ⟨hf, hm, x, hx, e⟩ := pl_to h
 have hfx := play_fr hf hx
 have hlx := play_len hx
 have hok : ∀ m ∈ ms, okM m = true := by
  unfold mvsB at hm
  simp only [Bool.and_eq_true, List.all_eq_true] at hm
  exact hm.2
 have hun := undo_back hf ms hok ms.length x (by rw [List.take_length]; exact hx)
 rw [List.take_length] at hun
 have hnum := num_play ms hok ms.length x (by rw [List.take_length]; exact hx)
 rw [List.take_length] at hnum
 have hle := btw_least (u := u) (lo := lo) (l := l) l.length ms hok ms.length x (by rw [List.take_length]; exact hx)
 rw [List.take_length] at hle
 have hbt := play_between hf hfx hlx
 have hmb : mbB u lo l u lo x = true := by unfold mbB; rw [hf, hfx, hlx]; simp
 have hmbt := mvs_btw hf hfx hlx
 have hh := frB_head hf
 have hcb : chB ms (l.length : Int) = true := by
  unfold chB
  rw [hm, (inB_iff).2 (by omega), Bool.true_and, Bool.true_and, List.all_eq_true]
  intro m hmm
  exact decide_eq_true (play_lt ms l x hx m hmm)
 have u1 := pl_of hfx (mvs_undo hm) hun
 have b1 := pl_of hf hmbt hbt
 rw [e]
 refine ⟨btw l x l.length, hf, hfx, hm, u1.1, u1.2, hcb, ?_, hmb, ?_, hmbt, b1.1, b1.2, hle.1, hle.2⟩
 · unfold chV
   rw [if_pos hcb, hnum]
   simp
 · unfold mbL
   rw [if_pos hmb]
theorem mbL_len (u lo : Int) (l : List R2) (u' lo' : Int) (l' : List R2) : (mbL u lo l u' lo' l').length ≤ 2 * l.length := by
 unfold mbL
 split
 · exact btw_len _ _ _
 · exact Nat.zero_le _
theorem unL_len (ms : List R3) : (unL ms).length ≤ ms.length := by
 unfold unL
 split
 · rw [undo_len]; exact Nat.le_refl _
 · exact Nat.zero_le _
theorem mbeF_len (u lo : Int) (l : List R2) (m : R3) : (mbeF u lo l m).2.2.length ≤ l.length := by
 unfold mbeF mvF
 split
 · split
   · exact Nat.le_of_eq (mvL_len l m)
   · exact Nat.zero_le _
 · exact Nat.zero_le _
end Go.Proofs.Ytkpfelfgpjodiaa
