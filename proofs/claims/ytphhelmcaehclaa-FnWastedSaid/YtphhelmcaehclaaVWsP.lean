/- FnWasted, plainly: beads come in pairs, errors of rods, the distance of two lists. -/
import Derived.Test.YtphhelmcaehclaaVM9
import Derived.Test.YtphhelmcaehclaaVGmF
namespace Go.Proofs.Ytphhelmcaehclaa
open Go.RowKit
set_option linter.unusedVariables false
set_option linter.unusedSimpArgs false
theorem R3.ext3 {m n : R3} (h1 : m.a = n.a) (h2 : m.b = n.b) (h3 : m.c = n.c) : m = n := by
 obtain ⟨a, b, c⟩ := m
 obtain ⟨a', b', c'⟩ := n
 simp only at h1 h2 h3
 rw [h1, h2, h3]
theorem rcd_parts {ms : List R3} (h : rcdB ms = true) : ms.length ≤ 12 ∧ ∀ m ∈ ms, okM m = true := by
 unfold rcdB mvsB at h
 simp only [Bool.and_eq_true, List.all_eq_true, decide_eq_true_eq] at h
 exact ⟨h.1, h.2.2⟩
theorem bd_nonneg (ms : List R3) : 0 ≤ beads ms := by
 induction ms with
 | nil => exact Int.le_refl _
 | cons m ms ih =>
   have e : beads (m :: ms) = ab m.c + beads ms := by
    have := fold_add ms (0 + ab m.c)
    show ms.foldl (fun s m => s + ab m.c) (0 + ab m.c) = _
    rw [this]
    omega
   have := ab_nonneg m.c
   omega
theorem ab_par (z : Int) : (ab z - z) % 2 = 0 := by unfold ab; split <;> omega
theorem bd_par (k : Int) (r s : R2) (m : R3) : (beads (mvR k r s) + ab m.c - beads (mvR k r (bump s m))) % 2 = 0 := by
 rw [bd_mvR, bd_mvR]
 have h3 := ab_par m.c
 unfold bump
 by_cases h : m.b = 0
 · rw [if_pos h]
   dsimp only
   have h1 := ab_par (s.a - r.a)
   have h2 := ab_par (s.a + m.c - r.a)
   omega
 · rw [if_neg h]
   dsimp only
   have h1 := ab_par (s.b - r.b)
   have h2 := ab_par (s.b + m.c - r.b)
   omega
theorem btw_mv_par (l y : List R2) {m : R3} (h1 : m.a.toNat < y.length) : ∀ n, (beads (btw l y n) + (if m.a.toNat < n then ab m.c else 0) - beads (btw l (mvL y m) n)) % 2 = 0 := by
 intro n
 induction n with
 | zero => simp [btw]
 | succ n ih =>
   rw [btw, btw, bd_app, bd_app]
   by_cases hi : m.a.toNat = n
   · have e : (mvL y m).getD n ⟨0, 0⟩ = bump (y.getD n ⟨0, 0⟩) m := by
      unfold mvL
      rw [hi, List.getD_eq_getElem?_getD, List.getElem?_set_self (by omega), Option.getD_some]
     rw [e]
     have := bd_par (n : Int) (l.getD n ⟨0, 0⟩) (y.getD n ⟨0, 0⟩) m
     rw [if_neg (by omega)] at ih
     rw [if_pos (by omega)]
     omega
   · have e : (mvL y m).getD n ⟨0, 0⟩ = y.getD n ⟨0, 0⟩ := by
      unfold mvL
      rw [List.getD_eq_getElem?_getD, List.getElem?_set_ne hi, ← List.getD_eq_getElem?_getD]
     rw [e]
     by_cases hn : m.a.toNat < n
     · rw [if_pos hn] at ih
       rw [if_pos (by omega)]
       omega
     · rw [if_neg hn] at ih
       rw [if_neg (by omega)]
       omega
theorem btw_par {u lo : Int} {l : List R2} (ms : List R3) (hm : ∀ m ∈ ms, okM m = true) : ∀ k x, playS u lo l (ms.take k) = some x → (beads (ms.take k) - beads (btw l x l.length)) % 2 = 0 := by
 intro k
 induction k with
 | zero =>
   intro x h
   rw [List.take_zero] at h ⊢
   injection h with h
   subst h
   rw [btw_self]
   rfl
 | succ k ih =>
   intro x h
   by_cases hk : k < ms.length
   · obtain ⟨m, hx⟩ := list_split (l := ms) (k := k) hk
     rw [beads_take hx]
     rw [List.take_add_one, hx] at h
     obtain ⟨y, h1, h2, rfl⟩ := play_snoc h
     have ho := okM_iff.1 (hm m (List.mem_of_getElem? hx))
     have hl := play_len h1
     unfold mvB at h2
     simp only [Bool.and_eq_true, decide_eq_true_eq] at h2
     have hb := btw_mv_par l y (m := m) (by omega) l.length
     have hi := ih y h1
     rw [if_pos (by omega)] at hb
     omega
   · rw [List.take_of_length_le (by omega)] at h ⊢
     rw [List.take_of_length_le (by omega)] at ih
     exact ih x h
/-- beads moved too often: not negative, even -/
theorem waste_law (u lo : Int) (l : List R2) (ms : List R3) : 0 ≤ wasteV u lo l ms ∧ wasteV u lo l ms % 2 = 0 ∧ wasteV u lo l ms ≤ 60000 := by
 unfold wasteV
 split
 · rename_i h
   unfold wasteOk at h
   simp only [Bool.and_eq_true] at h
   have hm := (rcd_parts h.1.2).2
   obtain ⟨x, hx⟩ := Option.isSome_iff_exists.1 h.2
   rw [hx, Option.getD_some]
   have hx' : playS u lo l (ms.take ms.length) = some x := by rw [List.take_of_length_le (Nat.le_refl _)]; exact hx
   have h1 := (btw_least l.length ms hm ms.length x hx').1
   have h2 := btw_par ms hm ms.length x hx'
   rw [List.take_of_length_le (Nat.le_refl _)] at h1 h2
   have h3 := beads_bound (rec_small h.1.2) ms.length
   rw [List.take_of_length_le (Nat.le_refl _)] at h3
   have h4 := (rcd_parts h.1.2).1
   have h5 := bd_nonneg (btw l x l.length)
   omega
 · exact ⟨Int.le_refl _, rfl, by omega⟩
/-- two lists that end in the same frame change its number alike -/
theorem same_chg {u lo : Int} {l x : List R2} {p q : List R3} (hp : ∀ m ∈ p, okM m = true) (hq : ∀ m ∈ q, okM m = true) (h1 : playS u lo l p = some x) (h2 : playS u lo l q = some x) : chg l.length p = chg l.length q := by
 have h3 := num_play p hp p.length x (by rw [List.take_of_length_le (Nat.le_refl _)]; exact h1)
 have h4 := num_play q hq q.length x (by rw [List.take_of_length_le (Nat.le_refl _)]; exact h2)
 rw [List.take_of_length_le (Nat.le_refl _)] at h3 h4
 omega
theorem play_rods {u lo : Int} {l : List R2} (ms : List R3) : ∀ (l x : List R2), playS u lo l ms = some x → ∀ m ∈ ms, m.a < l.length := by
 induction ms with
 | nil => intro l x _ m hm; cases hm
 | cons n ms ih =>
   intro l x h m hm
   rw [play_cons] at h
   split at h
   · rename_i hb
     rcases List.mem_cons.1 hm with rfl | hm
     · unfold mvB at hb
       simp only [Bool.and_eq_true, decide_eq_true_eq] at hb
       exact hb.1
     · have := ih _ _ h m hm
       rwa [mvL_len] at this
   · cases h
def bmp (s : Int) (o : List Int) (m : R3) : List Int := o.set m.a.toNat (o.getD m.a.toNat 0 + s)
def bmps (s : Int) (o : List Int) (ms : List R3) : List Int := ms.foldl (bmp s) o
theorem bmp_len (s : Int) (o : List Int) (m : R3) : (bmp s o m).length = o.length := by simp [bmp]
theorem bmps_len (s : Int) (ms : List R3) : ∀ o : List Int, (bmps s o ms).length = o.length := by
 induction ms with
 | nil => intro o; rfl
 | cons m ms ih => intro o; show (bmps s (bmp s o m) ms).length = _; rw [ih, bmp_len]
theorem bmps_take {s : Int} {o : List Int} {ms : List R3} {k : Nat} {m : R3} (h : ms[k]? = some m) : bmps s o (ms.take (k + 1)) = bmp s (bmps s o (ms.take k)) m := by
 unfold bmps
 rw [List.take_add_one, h, List.foldl_append]
 rfl
def absS (o : List Int) : Int := (o.map ab).sum
theorem absS_nonneg (o : List Int) : 0 ≤ absS o := by
 unfold absS
 induction o with
 | nil => exact Int.le_refl _
 | cons x o ih => rw [List.map_cons, List.sum_cons]; have := ab_nonneg x; omega
theorem absS_zero (o : List Int) (h : ∀ r, o.getD r 0 = 0) : absS o = 0 := by
 unfold absS
 induction o with
 | nil => rfl
 | cons x o ih =>
   rw [List.map_cons, List.sum_cons, ih (fun r => by have := h (r + 1); rwa [List.getD_cons_succ] at this)]
   have h0 := h 0
   rw [List.getD_cons_zero] at h0
   rw [h0]
   rfl
theorem absS_mem {o : List Int} {y : Int} (h : y ∈ o) : ab y ≤ absS o := by
 unfold absS
 induction o with
 | nil => cases h
 | cons x o ih =>
   rw [List.map_cons, List.sum_cons]
   have h1 := ab_nonneg x
   have h2 := absS_nonneg o
   unfold absS at h2
   rcases List.mem_cons.1 h with rfl | h
   · omega
   · have := ih h
     omega
theorem absS_set (o : List Int) : ∀ (i : Nat) (z : Int), i < o.length → absS (o.set i z) = absS o + ab z - ab (o.getD i 0) := by
 unfold absS
 induction o with
 | nil => intro i z h; cases h
 | cons x o ih =>
   intro i z h
   cases i with
   | zero => rw [List.set_cons_zero, List.map_cons, List.sum_cons, List.map_cons, List.sum_cons, List.getD_cons_zero]; omega
   | succ i => rw [List.set_cons_succ, List.map_cons, List.sum_cons, List.map_cons, List.sum_cons, List.getD_cons_succ, ih i z (by simpa using h)]; omega
theorem absS_bmp {s : Int} (hs : s = 1 ∨ s = -1) {o : List Int} {m : R3} (h : m.a.toNat < o.length) : absS (bmp s o m) ≤ absS o + 1 := by
 unfold bmp
 rw [absS_set o _ _ h]
 have := ab_tri (o.getD m.a.toNat 0) (o.getD m.a.toNat 0 + s) s rfl
 have e : ab s = 1 := by rcases hs with rfl | rfl <;> rfl
 omega
theorem absS_bmps {s : Int} (hs : s = 1 ∨ s = -1) (ms : List R3) : ∀ o : List Int, (∀ m ∈ ms, m.a.toNat < o.length) → absS (bmps s o ms) ≤ absS o + ms.length := by
 induction ms with
 | nil => intro o _; show absS o ≤ _; simp
 | cons m ms ih =>
   intro o h
   have h1 := absS_bmp hs (h m List.mem_cons_self)
   have h2 := ih (bmp s o m) (fun n hn => by rw [bmp_len]; exact h n (List.mem_cons_of_mem _ hn))
   show absS (bmps s (bmp s o m) ms) ≤ _
   rw [List.length_cons]
   omega
theorem absS_rep (n : Nat) : absS (List.replicate n 0) = 0 := by
 unfold absS
 induction n with
 | zero => rfl
 | succ n ih => rw [List.replicate_succ, List.map_cons, List.sum_cons, ih]; rfl
def cnt (ms : List R3) (r : Nat) : Int := (ms.filter (fun m => decide (m.a.toNat = r))).length
theorem bmps_get (s : Int) (ms : List R3) : ∀ (o : List Int), (∀ m ∈ ms, m.a.toNat < o.length) → ∀ r, (bmps s o ms).getD r 0 = o.getD r 0 + s * cnt ms r := by
 induction ms with
 | nil => intro o _ r; show o.getD r 0 = _; simp [cnt]
 | cons m ms ih =>
   intro o h r
   show (bmps s (bmp s o m) ms).getD r 0 = _
   rw [ih (bmp s o m) (fun n hn => by rw [bmp_len]; exact h n (List.mem_cons_of_mem _ hn))]
   unfold bmp cnt
   rw [List.filter_cons]
   by_cases hr : m.a.toNat = r
   · rw [if_pos (by simpa using hr), ← hr, List.getD_eq_getElem?_getD, List.getElem?_set_self (h m List.mem_cons_self), Option.getD_some, List.length_cons]
     have e : s * (((ms.filter (fun n => decide (n.a.toNat = m.a.toNat))).length + 1 : Nat) : Int) = s * ((ms.filter (fun n => decide (n.a.toNat = m.a.toNat))).length : Int) + s := by
      rw [Int.natCast_add, Int.mul_add]; simp
     omega
   · rw [if_neg (by simpa using hr), List.getD_eq_getElem?_getD, List.getElem?_set_ne hr, ← List.getD_eq_getElem?_getD]
def errB (a b : List R3) (z : Int) : Bool := rcdB a && rcdB b && inB z 1 8 && a.all (fun m => decide (m.a < z)) && b.all (fun m => decide (m.a < z))
def errL (a b : List R3) (z : Int) : List Int := if errB a b z = true then (bmps (-1) (bmps 1 (List.replicate z.toNat 0) a) b).map ab else []
theorem err_parts {a b : List R3} {z : Int} (h : errB a b z = true) : rcdB a = true ∧ rcdB b = true ∧ (1 ≤ z ∧ z ≤ 8) ∧ (∀ m ∈ a, 0 ≤ m.a ∧ m.a < z) ∧ (∀ m ∈ b, 0 ≤ m.a ∧ m.a < z) := by
 unfold errB at h
 simp only [Bool.and_eq_true, List.all_eq_true, decide_eq_true_eq] at h
 refine ⟨h.1.1.1.1, h.1.1.1.2, inB_iff.1 h.1.1.2, fun m hm => ⟨?_, h.1.2 m hm⟩, fun m hm => ⟨?_, h.2 m hm⟩⟩
 · exact (okM_iff.1 ((rcd_parts h.1.1.1.1).2 m hm)).1.1
 · exact (okM_iff.1 ((rcd_parts h.1.1.1.2).2 m hm)).1.1
theorem err_law {a b : List R3} {z : Int} (h : errB a b z = true) : ((errL a b z).length : Int) = z ∧ 0 ≤ (errL a b z).sum ∧ (errL a b z).sum ≤ a.length + b.length ∧ (a = b → (errL a b z).sum = 0) ∧ ∀ x ∈ errL a b z, 0 ≤ x ∧ x ≤ 24 := by
 obtain ⟨ha, hb, hz, h1, h2⟩ := err_parts h
 have hzn : (z.toNat : Int) = z := by omega
 have k1 : ∀ m ∈ a, m.a.toNat < (List.replicate z.toNat (0 : Int)).length := fun m hm => by rw [List.length_replicate]; have := h1 m hm; omega
 have k2 : ∀ m ∈ b, m.a.toNat < (bmps 1 (List.replicate z.toNat (0 : Int)) a).length := fun m hm => by rw [bmps_len, List.length_replicate]; have := h2 m hm; omega
 have s1 := absS_bmps (.inl rfl) a _ k1
 have s2 := absS_bmps (.inr rfl) b _ k2
 rw [absS_rep] at s1
 have s0 := absS_nonneg (bmps (-1) (bmps 1 (List.replicate z.toNat (0 : Int)) a) b)
 have hra := (rcd_parts ha).1
 have hrb := (rcd_parts hb).1
 unfold errL
 rw [if_pos h]
 refine ⟨by rw [List.length_map, bmps_len, bmps_len, List.length_replicate, hzn], s0, ?_, ?_, ?_⟩
 · show absS _ ≤ _
   omega
 · rintro rfl
   show absS _ = 0
   have e : ∀ r, (bmps (-1) (bmps 1 (List.replicate z.toNat (0 : Int)) a) a).getD r 0 = 0 := by
    intro r
    rw [bmps_get _ _ _ k2, bmps_get _ _ _ k1]
    have : (List.replicate z.toNat (0 : Int)).getD r 0 = 0 := by
     rw [List.getD_eq_getElem?_getD, List.getElem?_replicate]
     split <;> rfl
    omega
   exact absS_zero _ e
 · intro x hx
   obtain ⟨y, hy, rfl⟩ := List.mem_map.1 hx
   refine ⟨ab_nonneg y, ?_⟩
   have := absS_mem hy
   omega
/-- the distance of the first i and the first k moves -/
def cost3 (m n : R3) : Int := if m.a = n.a ∧ m.b = n.b ∧ m.c = n.c then 0 else if m.a = n.a then 1 else 2
def mE (a b : List R3) : Nat → Nat → Int
 | 0, k => 2 * k
 | i + 1, 0 => 2 * (i + 1)
 | i + 1, k + 1 => min (min (mE a b i k + cost3 (a.getD i ⟨0, 0, 0⟩) (b.getD k ⟨0, 0, 0⟩)) (mE a b i (k + 1) + 2)) (mE a b (i + 1) k + 2)
theorem cost_bound (m n : R3) : 0 ≤ cost3 m n ∧ cost3 m n ≤ 2 := by unfold cost3; split <;> (try split) <;> omega
theorem mE_bound (a b : List R3) : ∀ i k, 0 ≤ mE a b i k ∧ mE a b i k ≤ 2 * (i + k) := by
 intro i
 induction i with
 | zero => intro k; rw [mE]; omega
 | succ i ih =>
   intro k
   induction k with
   | zero => rw [mE]; omega
   | succ k ik =>
     rw [mE]
     have h1 := ih k
     have h2 := ih (k + 1)
     have h3 := cost_bound (a.getD i ⟨0, 0, 0⟩) (b.getD k ⟨0, 0, 0⟩)
     omega
theorem mE_zero (a b : List R3) : ∀ i k, mE a b i k = 0 → i = k ∧ ∀ j, j < i → a.getD j ⟨0, 0, 0⟩ = b.getD j ⟨0, 0, 0⟩ := by
 intro i
 induction i with
 | zero => intro k h; rw [mE] at h; exact ⟨by omega, fun j hj => by omega⟩
 | succ i ih =>
   intro k h
   cases k with
   | zero => rw [mE] at h; omega
   | succ k =>
     rw [mE] at h
     have h1 := mE_bound a b i k
     have h2 := mE_bound a b i (k + 1)
     have h3 := cost_bound (a.getD i ⟨0, 0, 0⟩) (b.getD k ⟨0, 0, 0⟩)
     have h4 := mE_bound a b (i + 1) k
     obtain ⟨rfl, h6⟩ := ih k (by omega)
     refine ⟨rfl, fun j hj => ?_⟩
     by_cases he : j = i
     · subst he
       have hc : cost3 (a.getD j ⟨0, 0, 0⟩) (b.getD j ⟨0, 0, 0⟩) = 0 := by omega
       unfold cost3 at hc
       split at hc
       · rename_i he
         exact R3.ext3 he.1 he.2.1 he.2.2
       · split at hc <;> omega
     · exact h6 j (by omega)
theorem mE_eq {a b : List R3} (h : mE a b a.length b.length = 0) : a = b := by
 obtain ⟨h1, h2⟩ := mE_zero a b _ _ h
 refine List.ext_getElem? fun j => ?_
 by_cases hj : j < a.length
 · have := h2 j hj
   rw [List.getD_eq_getElem?_getD, List.getD_eq_getElem?_getD, List.getElem?_eq_getElem hj, List.getElem?_eq_getElem (by omega)] at this
   rw [List.getElem?_eq_getElem hj, List.getElem?_eq_getElem (by omega)]
   simpa using this
 · rw [List.getElem?_eq_none (by omega), List.getElem?_eq_none (by omega)]
end Go.Proofs.Ytphhelmcaehclaa
