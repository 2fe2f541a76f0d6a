/- Products, plainly: parts, totals, carries, doubling, wrong digits. -/
import Derived.Test.YtfechhacmkajdaaVAdQ
import Derived.Test.YtfechhacmkajdaaVM4
import Derived.Test.YtfechhacmkajdaaVM5
namespace Go.Proofs.Ytfechhacmkajdaa
open Go.RowKit
set_option linter.unusedVariables false
set_option linter.unusedSimpArgs false
theorem pw_plus (a b : Nat) : pw (a + b) = pw a * pw b := by
 induction b with
 | zero => rw [Nat.add_zero, pw_zero, Int.mul_one]
 | succ b ih => rw [← Nat.add_assoc, pw_succ, pw_succ, ih, ← Int.mul_assoc, Int.mul_comm 10 (pw a), Int.mul_assoc]
def fcB (a b : Int) : Bool := inB a 0 9999 && inB b 0 9999
/-- the pairs of halves and doubles -/
def dbl : Nat → Int → Int → List R2
 | 0, _, _ => []
 | f + 1, a, b => if 0 < a then ⟨a, b⟩ :: dbl f (a / 2) (2 * b) else []
theorem dbl_pos {f : Nat} {a b : Int} (h : 0 < a) : dbl (f + 1) a b = ⟨a, b⟩ :: dbl f (a / 2) (2 * b) := by rw [dbl, if_pos h]
theorem dbl_no {f : Nat} {a b : Int} (h : ¬ 0 < a) : dbl f a b = [] := by cases f with | zero => rfl | succ f => rw [dbl, if_neg h]
theorem dbl_len : ∀ f a b, (dbl f a b).length ≤ f := by
 intro f
 induction f with
 | zero => intro a b; exact Nat.le_refl _
 | succ f ih =>
   intro a b
   rw [dbl]
   split
   · have := ih (a / 2) (2 * b); simp; omega
   · exact Nat.zero_le _
/-- the places at which an answer is wrong -/
def wrg (p ans : Int) : Nat → List Int
 | 0 => []
 | k + 1 => wrg p ans k ++ (if ans / pw k % 10 = p / pw k % 10 then [] else [(k : Int)])
theorem wrg_len (p ans : Int) : ∀ k, (wrg p ans k).length ≤ k := by
 intro k
 induction k with
 | zero => exact Nat.le_refl _
 | succ k ih => rw [wrg, List.length_append]; split <;> simp <;> omega
def ptI (x y : List Int) (i : Nat) : Nat → List R3
 | 0 => []
 | k + 1 => ptI x y i k ++ (if 0 < x.getD i 0 * y.getD k 0 then [⟨(x.length : Int) - 1 - i, (y.length : Int) - 1 - k, x.getD i 0 * y.getD k 0⟩] else [])
def ptO (x y : List Int) : Nat → List R3
 | 0 => []
 | i + 1 => ptO x y i ++ ptI x y i y.length
theorem ptI_len (x y : List Int) (i : Nat) : ∀ k, (ptI x y i k).length ≤ k := by
 intro k
 induction k with
 | zero => exact Nat.le_refl _
 | succ k ih => rw [ptI, List.length_append]; split <;> simp <;> omega
theorem ptO_len (x y : List Int) : ∀ i, (ptO x y i).length ≤ i * y.length := by
 intro i
 induction i with
 | zero => simp [ptO]
 | succ i ih => rw [ptO, List.length_append, Nat.add_mul]; have := ptI_len x y i y.length; omega
/-- what a part counts -/
def cntP (m : R3) : Int := m.c * pw (m.a + m.b).toNat
def sumP (ps : List R3) : Int := (ps.map cntP).sum
theorem sumP_app (a b : List R3) : sumP (a ++ b) = sumP a + sumP b := by unfold sumP; rw [List.map_append, List.sum_append]
theorem sumP_one (m : R3) : sumP [m] = cntP m := by simp [sumP]
theorem getD_WF {x : List Int} (h : WF x) (i : Nat) : 0 ≤ x.getD i 0 ∧ x.getD i 0 ≤ 9 := by
 rw [List.getD_eq_getElem?_getD]
 cases e : x[i]? with
 | none => simp
 | some d => exact h d (List.mem_of_getElem? e)
/-- the digits at their places -/
theorem num_place {ds : List Int} {k : Nat} (hk : k < ds.length) : numD (ds.take (k + 1)) * pw (ds.length - (k + 1)) = numD (ds.take k) * pw (ds.length - k) + ds.getD k 0 * pw (ds.length - (k + 1)) := by
 have e : ds[k]? = some (ds.getD k 0) := by rw [List.getD_eq_getElem?_getD, List.getElem?_eq_getElem hk]; rfl
 rw [List.take_add_one, e]
 show numD (ds.take k ++ [ds.getD k 0]) * _ = _
 rw [numD_snoc, show ds.length - k = ds.length - (k + 1) + 1 by omega, pw_succ, Int.add_mul, ← Int.mul_assoc, Int.mul_comm (numD _) 10]
theorem sumI {x y : List Int} {i : Nat} (hx : WF x) (hy : WF y) (hi : i < x.length) : ∀ k, k ≤ y.length → sumP (ptI x y i k) = x.getD i 0 * pw (x.length - (i + 1)) * (numD (y.take k) * pw (y.length - k)) := by
 intro k
 induction k with
 | zero => intro _; simp [ptI, sumP, numD]
 | succ k ih =>
   intro hk
   rw [ptI, sumP_app, ih (by omega), num_place (by omega), Int.mul_add]
   congr 1
   have h1 := getD_WF hx i
   have h2 := getD_WF hy k
   by_cases hp : 0 < x.getD i 0 * y.getD k 0
   · rw [if_pos hp, sumP_one]
     unfold cntP
     dsimp only
     rw [show ((x.length : Int) - 1 - i + ((y.length : Int) - 1 - k)).toNat = (x.length - (i + 1)) + (y.length - (k + 1)) by omega, pw_plus]
     rw [Int.mul_assoc, Int.mul_assoc]
     congr 1
     rw [← Int.mul_assoc, ← Int.mul_assoc, Int.mul_comm (y.getD k 0)]
   · rw [if_neg hp]
     have h0 : x.getD i 0 * y.getD k 0 = 0 := by
      have := Int.mul_nonneg h1.1 h2.1
      omega
     rw [show x.getD i 0 * pw (x.length - (i + 1)) * (y.getD k 0 * pw (y.length - (k + 1))) = x.getD i 0 * y.getD k 0 * (pw (x.length - (i + 1)) * pw (y.length - (k + 1))) by
      rw [Int.mul_assoc, Int.mul_assoc]; congr 1; rw [← Int.mul_assoc, ← Int.mul_assoc, Int.mul_comm (pw (x.length - (i + 1)))], h0, Int.zero_mul]
     rfl
theorem sumO {x y : List Int} (hx : WF x) (hy : WF y) : ∀ i, i ≤ x.length → sumP (ptO x y i) = numD (x.take i) * pw (x.length - i) * numD y := by
 intro i
 induction i with
 | zero => intro _; simp [ptO, sumP, numD]
 | succ i ih =>
   intro hi
   rw [ptO, sumP_app, ih (by omega), sumI hx hy (by omega) y.length (Nat.le_refl _), num_place (by omega), Nat.sub_self, pw_zero, Int.mul_one, List.take_length, Int.add_mul]
theorem part_ok {x y : List Int} (hx : WF x) (hy : WF y) (hlx : x.length ≤ 4) (hly : y.length ≤ 4) : ∀ i, i ≤ x.length → ∀ m ∈ ptO x y i, (0 ≤ m.a ∧ m.a ≤ 3) ∧ (0 ≤ m.b ∧ m.b ≤ 3) ∧ (1 ≤ m.c ∧ m.c ≤ 81) := by
 have hI : ∀ i, i < x.length → ∀ k, k ≤ y.length → ∀ m ∈ ptI x y i k, (0 ≤ m.a ∧ m.a ≤ 3) ∧ (0 ≤ m.b ∧ m.b ≤ 3) ∧ (1 ≤ m.c ∧ m.c ≤ 81) := by
  intro i hi k
  induction k with
  | zero => intro _ m hm; cases hm
  | succ k ih =>
    intro hk m hm
    rw [ptI] at hm
    rcases List.mem_append.1 hm with h | h
    · exact ih (by omega) m h
    · split at h
      · rename_i hp
        obtain rfl := List.mem_singleton.1 h
        have h1 := getD_WF hx i
        have h2 := getD_WF hy k
        have h3 : x.getD i 0 * y.getD k 0 ≤ 9 * 9 := Int.mul_le_mul h1.2 h2.2 h2.1 (by omega)
        dsimp only
        omega
      · cases h
 intro i
 induction i with
 | zero => intro _ m hm; cases hm
 | succ i ih =>
   intro hi m hm
   rw [ptO] at hm
   rcases List.mem_append.1 hm with h | h
   · exact ih (by omega) m h
   · exact hI i (by omega) _ (Nat.le_refl _) m h
theorem cnt_pos {m : R3} (h : 1 ≤ m.c) : 1 ≤ cntP m := by
 unfold cntP
 have h1 := pw_pos (m.a + m.b).toNat
 have h2 := Int.mul_le_mul h h1 (by omega) (by omega)
 omega
/-- the digits of a factor -/
def dgF (a : Int) : List Int := digT 9 a
theorem dgF_facts {a : Int} (h0 : 0 ≤ a) (h1 : a ≤ 9999) : WF (dgF a) ∧ numD (dgF a) = a ∧ (dgF a).length ≤ 4 := by
 refine ⟨digT_WF _ _, digT_num 9 a h0 (by rw [show pw 9 = 1000000000 from rfl]; omega), ?_⟩
 by_cases h : 0 < a
 · obtain ⟨k, hk, hp⟩ := digT_low 9 a h (by rw [show pw 9 = 1000000000 from rfl]; omega)
   unfold dgF
   rw [hk]
   rcases Nat.lt_or_ge k 4 with h4 | h4
   · omega
   · have := pw_le h4
     rw [show pw 4 = 10000 from rfl] at this
     omega
 · have : a = 0 := by omega
   subst this
   unfold dgF
   rw [digT_zero]
   simp
/-- the parts of two factors -/
def ptsF (a b : Int) : List R3 := ptO (dgF a) (dgF b) (dgF a).length
theorem ptsF_facts {a b : Int} (h : fcB a b = true) : (ptsF a b).length ≤ 16 ∧ (∀ m ∈ ptsF a b, (0 ≤ m.a ∧ m.a ≤ 3) ∧ (0 ≤ m.b ∧ m.b ≤ 3) ∧ (1 ≤ m.c ∧ m.c ≤ 81)) ∧ sumP (ptsF a b) = a * b ∧ (0 ≤ a * b ∧ a * b ≤ 99980001) := by
 unfold fcB at h
 simp only [Bool.and_eq_true, inB_iff] at h
 obtain ⟨hx, nx, lx⟩ := dgF_facts h.1.1 h.1.2
 obtain ⟨hy, ny, ly⟩ := dgF_facts h.2.1 h.2.2
 have hl := ptO_len (dgF a) (dgF b) (dgF a).length
 have hl2 := Nat.mul_le_mul lx ly
 have hs := sumO hx hy (dgF a).length (Nat.le_refl _)
 rw [List.take_length, Nat.sub_self, pw_zero, Int.mul_one, nx, ny] at hs
 refine ⟨by unfold ptsF; omega, part_ok hx hy lx ly _ (Nat.le_refl _), hs, Int.mul_nonneg h.1.1 h.2.1, ?_⟩
 have := Int.mul_le_mul h.1.2 h.2.2 h.2.1 (by omega)
 omega
/-- the rods and the carries behind k parts -/
def tcL (ps : List R3) : Nat → List R2
 | 0 => rodsD [0, 0, 0, 0, 0, 0, 0, 0]
 | k + 1 => rodsD (addNst (tcL ps k) (cntP (ps.getD k ⟨0, 0, 0⟩))).ds
def tcA (ps : List R3) : Nat → Int
 | 0 => 0
 | k + 1 => tcA ps k + (addNst (tcL ps k) (cntP (ps.getD k ⟨0, 0, 0⟩))).ask
theorem sum_take {ps : List R3} {k : Nat} {m : R3} (h : ps[k]? = some m) : sumP (ps.take (k + 1)) = sumP (ps.take k) + cntP m := by
 rw [List.take_add_one, h]
 show sumP (ps.take k ++ [m]) = _
 rw [sumP_app, sumP_one]
theorem sum_le {ps : List R3} (hp : ∀ m ∈ ps, 1 ≤ m.c) : ∀ k, sumP (ps.take k) ≤ sumP ps ∧ 0 ≤ sumP (ps.take k) := by
 have h0 : ∀ qs : List R3, (∀ m ∈ qs, 1 ≤ m.c) → 0 ≤ sumP qs := by
  intro qs
  induction qs with
  | nil => intro _; simp [sumP]
  | cons m qs ih =>
    intro h
    have h1 := cnt_pos (h m (by simp))
    have h2 := ih (fun q hq => h q (by simp [hq]))
    rw [show m :: qs = [m] ++ qs from rfl, sumP_app, sumP_one]
    omega
 intro k
 have e : sumP ps = sumP (ps.take k) + sumP (ps.drop k) := by rw [← sumP_app, List.take_append_drop]
 have h1 := h0 (ps.drop k) (fun m hm => hp m (List.mem_of_mem_drop hm))
 have h2 := h0 (ps.take k) (fun m hm => hp m (List.mem_of_mem_take hm))
 omega
theorem tc_facts {ps : List R3} (hp : ∀ m ∈ ps, 1 ≤ m.c) (hs : sumP ps < 100000000) : ∀ k, k ≤ ps.length → goodB 1 4 (tcL ps k) = true ∧ (tcL ps k).length = 8 ∧ numR (tcL ps k) = sumP (ps.take k) ∧ ∀ m, ps[k]? = some m → addNok 1 4 (tcL ps k) (cntP m) = true := by
 intro k
 induction k with
 | zero =>
   intro _
   have hg : goodB 1 4 (tcL ps 0) = true := (by decide +kernel : goodB 1 4 (rodsD [0, 0, 0, 0, 0, 0, 0, 0]) = true)
   have hz : numR (tcL ps 0) = 0 := (by decide +kernel : numR (rodsD [0, 0, 0, 0, 0, 0, 0, 0]) = 0)
   refine ⟨hg, rfl, by rw [hz]; simp [sumP], fun m hm => ?_⟩
   have h1 := cnt_pos (hp m (List.mem_of_getElem? hm))
   have h2 := (sum_le hp 1).1
   rw [sum_take hm] at h2
   simp [sumP] at h2
   unfold addNok canB
   rw [hg]
   simp only [Bool.true_and, Bool.and_eq_true, inB_iff, decide_eq_true_eq]
   rw [hz, show (tcL ps 0).length = 8 from rfl]
   rw [show pw 8 = 100000000 from rfl]
   unfold sumP at hs
   omega
 | succ k ih =>
   intro hk
   obtain ⟨m, hm⟩ := list_split (l := ps) (k := k) (by omega)
   obtain ⟨h1, h2, h3, h4⟩ := ih (by omega)
   obtain ⟨g1, g2, g3, g4, g5, _, g7⟩ := addN_law (h4 m hm)
   have e : ps.getD k ⟨0, 0, 0⟩ = m := by rw [List.getD_eq_getElem?_getD, hm]; rfl
   have hL : tcL ps (k + 1) = rodsD (addNst (tcL ps k) (cntP m)).ds := by rw [tcL, e]
   have hlen : (tcL ps (k + 1)).length = 8 := by rw [hL, rodsD_len, g4, h2]
   have hgood : goodB 1 4 (tcL ps (k + 1)) = true := by
    unfold goodB
    rw [hL, frB_rodsD (by rw [g4, h2]; decide) g3, rodsD_stdb g3]
    rfl
   have hnum : numR (tcL ps (k + 1)) = sumP (ps.take (k + 1)) := by rw [hL, numR_rodsD, g5, h3, sum_take hm]
   refine ⟨hgood, hlen, hnum, fun q hq => ?_⟩
   have q1 := cnt_pos (hp q (List.mem_of_getElem? hq))
   have q2 := (sum_le hp (k + 1 + 1)).1
   have q3 := (sum_le hp (k + 1)).2
   rw [sum_take hq] at q2
   unfold addNok canB
   rw [hgood]
   simp only [Bool.true_and, Bool.and_eq_true, inB_iff, decide_eq_true_eq]
   rw [hnum, hlen, show pw 8 = 100000000 from rfl]
   omega
end Go.Proofs.Ytfechhacmkajdaa
namespace Go.Proofs.Ytfechhacmkajdaa
open Go.RowKit
set_option linter.unusedVariables false
set_option linter.unusedSimpArgs false
theorem ftkSum (u lo : Int) (l : List R2) (m : Int) : takeNok u lo l m = true → dsZ 10 (numR l) - dsZ 10 m + 9 * (takeNst l m).ask = dsZ 10 (numR l - m) ∧ 0 ≤ (takeNst l m).ask ∧ (takeNst l m).ask ≤ 64 := by
 intro h
 obtain ⟨hf, hs, hw, hl, hn, _, m0, m1⟩ := takeN_law h
 have h8 := (frB_head hf).2.2.2
 have hwd := dsOf_WF hf hs
 have hb := numD_bounds hwd
 rw [dsOf_len] at hb
 have hb : 0 ≤ numR l ∧ numR l < pw l.length := hb
 have e : l.length = (WS.ds ⟨dsOf l, [], 0⟩).length := (dsOf_len l).symm
 have hsum : (takeNst l m).ds.sum = (dsOf l).sum - dgS l.length m l.length + 9 * ((takeNst l m).ask - 0) := by
  have h9 := takeN_sum (s := ⟨dsOf l, [], 0⟩) hwd m0 (show m ≤ numD (dsOf l) from m1) _ (Nat.le_refl _)
  rw [← e] at h9
  exact h9
 rw [digs_sum h8 m0 (by omega)] at hsum
 have h1 := num_sum hw (by rw [hl]; exact h8)
 have h2 := num_sum hwd (by rw [dsOf_len]; exact h8)
 rw [hn] at h1
 have ha := takeN_ask l.length m ⟨dsOf l, [], 0⟩ l.length h8
 have ha : (0 : Int) ≤ (takeNst l m).ask ∧ (takeNst l m).ask ≤ 0 + 8 * (l.length : Int) := ha
 refine ⟨?_, ha.1, by omega⟩
 rw [h1, hsum]
 show dsZ 10 (numD (dsOf l)) - _ + _ = _
 rw [h2]
 omega
theorem fcaSum (u lo : Int) (l : List R2) (m : Int) : addNok u lo l m = true → dsZ 10 (numR l) + dsZ 10 m - 9 * (addNst l m).ask = dsZ 10 (numR l + m) ∧ 0 ≤ (addNst l m).ask ∧ (addNst l m).ask ≤ 64 := by
 intro h
 obtain ⟨hf, hs, hw, hl, hn, _, m0⟩ := addN_law h
 have h8 := (frB_head hf).2.2.2
 have hwd := dsOf_WF hf hs
 have hb := numD_bounds hwd
 rw [dsOf_len] at hb
 have hb : 0 ≤ numR l ∧ numR l < pw l.length := hb
 have hb2 := numD_bounds hw
 rw [hn, hl] at hb2
 have e : l.length = (WS.ds ⟨dsOf l, [], 0⟩).length := (dsOf_len l).symm
 have hsum : (addNst l m).ds.sum = (dsOf l).sum + dgS l.length m l.length - 9 * ((addNst l m).ask - 0) := by
  have h9 := addN_sum (s := ⟨dsOf l, [], 0⟩) (m := m) hwd m0 (by show numD (dsOf l) + m < pw (dsOf l).length; rw [dsOf_len]; exact hb2.2) _ (Nat.le_refl _)
  rw [← e] at h9
  exact h9
 rw [digs_sum h8 m0 (by omega)] at hsum
 have h1 := num_sum hw (by rw [hl]; exact h8)
 have h2 := num_sum hwd (by rw [dsOf_len]; exact h8)
 rw [hn] at h1
 have ha := addN_ask l.length m ⟨dsOf l, [], 0⟩ l.length h8
 have ha : (0 : Int) ≤ (addNst l m).ask ∧ (addNst l m).ask ≤ 0 + 8 * (l.length : Int) := ha
 refine ⟨?_, ha.1, by omega⟩
 rw [h1, hsum]
 show dsZ 10 (numD (dsOf l)) + _ - _ = _
 rw [h2]
 omega
end Go.Proofs.Ytfechhacmkajdaa
namespace Go.Proofs.Ytfechhacmkajdaa
open Go.RowKit
set_option linter.unusedVariables false
set_option linter.unusedSimpArgs false
/-- how often is carried from rod r - 1 on to the left -/
def cyc : Nat → Int → List Int → Int
 | 0, _, _ => 0
 | k + 1, d, ds => if 9 < ds.getD k 0 + d ∧ 0 < k then 1 + cyc k 1 ds else 0
theorem cyc_yes {k : Nat} {d : Int} {ds : List Int} (h : 9 < ds.getD (k + 1) 0 + d) : cyc (k + 1 + 1) d ds = 1 + cyc (k + 1) 1 ds := by rw [cyc, if_pos ⟨h, by omega⟩]
theorem cyc_no {k : Nat} {d : Int} {ds : List Int} (h : ¬ 9 < ds.getD k 0 + d) : cyc (k + 1) d ds = 0 := by rw [cyc, if_neg (fun h2 => h h2.1)]
theorem cyc_one (d : Int) (ds : List Int) : cyc 1 d ds = 0 := by rw [cyc, if_neg (fun h2 => absurd h2.2 (by omega))]
theorem getD_set_ne {l : List Int} {i j : Nat} {v : Int} (h : i ≠ j) : (l.set i v).getD j 0 = l.getD j 0 := by
 rw [List.getD_eq_getElem?_getD, List.getD_eq_getElem?_getD, List.getElem?_set_ne h]
theorem getD_set_eq {l : List Int} {i : Nat} {v : Int} (h : i < l.length) : (l.set i v).getD i 0 = v := by
 rw [List.getD_eq_getElem?_getD, List.getElem?_set_self h]; rfl
theorem cyc_set (v : Int) (j : Nat) : ∀ (r : Nat) (d : Int) (ds : List Int), r ≤ j → cyc r d (ds.set j v) = cyc r d ds := by
 intro r
 induction r with
 | zero => intro d ds _; rfl
 | succ r ih =>
   intro d ds h
   rw [cyc, cyc, getD_set_ne (by omega), ih 1 ds (by omega)]
theorem cyc_bounds : ∀ (r : Nat) (d : Int) (ds : List Int), 0 ≤ cyc r d ds ∧ cyc r d ds ≤ r := by
 intro r
 induction r with
 | zero => intro d ds; exact ⟨Int.le_refl _, Int.le_refl _⟩
 | succ r ih =>
   intro d ds
   rw [cyc]
   have := ih 1 ds
   split <;> omega
theorem addS_cyc : ∀ (r : Nat) (d : Int) (s : WS), AddFit r d s.ds → (addS r d s).ask = s.ask + cyc r d s.ds := by
 intro r
 induction r with
 | zero => intro d s _; show s.ask = s.ask + 0; omega
 | succ r ih =>
   intro d s h
   have hx := h.2.2.2.1.getD r
   by_cases h0 : 0 < d
   · rw [addS_pos s h0, ih _ _ h.step]
     show s.ask + _ + cyc r _ (s.ds.set r _) = _
     rw [cyc_set _ _ _ _ _ (Nat.le_refl _)]
     have hd := h.2.2.1
     by_cases hc : 0 < (s.ds.getD r 0 + d) / 10
     · rw [if_pos hc]
       have hr : 0 < r := by
        obtain ⟨k, hk, _⟩ := h.step.rod hc
        omega
       rw [cyc, if_pos ⟨by omega, hr⟩, show (s.ds.getD r 0 + d) / 10 = 1 by omega]
       omega
     · rw [if_neg hc, cyc_no (k := r) (by omega), show (s.ds.getD r 0 + d) / 10 = 0 by omega]
       have : cyc r 0 s.ds = 0 := by
        cases r with
        | zero => rfl
        | succ r =>
          have := h.2.2.2.1.getD r
          exact cyc_no (by omega)
       omega
   · rw [addS_none s h0]
     have := h.2.1
     rw [cyc_no (by omega)]
     omega
/-- the digits from r on stay -/
theorem addS_far : ∀ (r : Nat) (d : Int) (s : WS) (j : Nat), r ≤ j → (addS r d s).ds.getD j 0 = s.ds.getD j 0 := by
 intro r
 induction r with
 | zero => intro d s j _; rfl
 | succ r ih =>
   intro d s j h
   by_cases h0 : 0 < d
   · rw [addS_pos s h0, ih _ _ j (by omega)]
     exact getD_set_ne (by omega)
   · rw [addS_none s h0]
/-- how many of the first k digits differ -/
def chg (a b : List Int) : Nat → Int
 | 0 => 0
 | k + 1 => chg a b k + if a.getD k 0 = b.getD k 0 then 0 else 1
theorem chg_same (a : List Int) : ∀ k, chg a a k = 0 := by
 intro k
 induction k with
 | zero => rfl
 | succ k ih => rw [chg, ih, if_pos rfl]; rfl
theorem chg_bounds (a b : List Int) : ∀ k, 0 ≤ chg a b k ∧ chg a b k ≤ k := by
 intro k
 induction k with
 | zero => exact ⟨Int.le_refl _, Int.le_refl _⟩
 | succ k ih => rw [chg]; split <;> omega
theorem chg_set {a b : List Int} {r : Nat} {v : Int} (hr : r < a.length) (hv : b.getD r 0 = v) (hne : a.getD r 0 ≠ v) : ∀ k, chg a b k = chg (a.set r v) b k + if r < k then 1 else 0 := by
 intro k
 induction k with
 | zero => rfl
 | succ k ih =>
   rw [chg, chg, ih]
   by_cases hk : r = k
   · subst hk
     rw [getD_set_eq hr, hv, if_neg hne, if_pos rfl, if_neg (by omega), if_pos (by omega)]
   · rw [getD_set_ne hk]
     by_cases h2 : r < k
     · rw [if_pos h2, if_pos (show r < k + 1 by omega)]; omega
     · rw [if_neg h2, if_neg (show ¬ r < k + 1 by omega)]; omega
theorem addS_chg : ∀ (r : Nat) (d : Int) (s : WS) (n : Nat), s.ds.length = n → AddFit r d s.ds → 0 < d → chg s.ds (addS r d s).ds n = 1 + cyc r d s.ds := by
 intro r
 induction r with
 | zero => intro d s n _ h h0; have := h.done; omega
 | succ r ih =>
   intro d s n hn h h0
   have hx := h.2.2.2.1.getD r
   have hd := h.2.2.1
   rw [addS_pos s h0]
   obtain ⟨T, hT, hTd⟩ : ∃ T : WS, T = ⟨s.ds.set r ((s.ds.getD r 0 + d) % 10), s.ms ++ turnM r (s.ds.getD r 0) ((s.ds.getD r 0 + d) % 10), s.ask + if 0 < (s.ds.getD r 0 + d) / 10 then 1 else 0⟩ ∧ T.ds = s.ds.set r ((s.ds.getD r 0 + d) % 10) := ⟨_, rfl, rfl⟩
   rw [← hT]
   have hr1 : r < s.ds.length := h.1
   have hb : (addS r ((s.ds.getD r 0 + d) / 10) T).ds.getD r 0 = (s.ds.getD r 0 + d) % 10 := by
    rw [addS_far _ _ _ _ (Nat.le_refl _), hTd]
    exact getD_set_eq hr1
   have hst := h.step
   rw [← hTd] at hst
   rw [chg_set hr1 hb (by omega), if_pos (show r < n by omega), ← hTd]
   by_cases hc : 0 < (s.ds.getD r 0 + d) / 10
   · have hr : 0 < r := by
      obtain ⟨k, hk, _⟩ := hst.rod hc
      omega
     rw [ih _ T n (by rw [hTd]; simpa using hn) hst hc, hTd, cyc_set _ _ _ _ _ (Nat.le_refl _), show (s.ds.getD r 0 + d) / 10 = 1 by omega]
     rw [show cyc (r + 1) d s.ds = 1 + cyc r 1 s.ds by rw [cyc, if_pos ⟨by omega, hr⟩]]
     omega
   · rw [addS_none _ hc, cyc_no (by omega), chg_same]
     omega
/-- how many digits of m are not 0 -/
def czZ : Nat → Int → Int
 | 0, _ => 0
 | f + 1, m => (if 0 < m % 10 then 1 else 0) + czZ f (m / 10)
theorem czZ_zero : ∀ f, czZ f 0 = 0 := by
 intro f
 induction f with
 | zero => rfl
 | succ f ih => show (if (0 : Int) < 0 % 10 then (1 : Int) else 0) + czZ f (0 / 10) = 0; rw [show (0 : Int) / 10 = 0 from rfl, ih]; rfl
theorem czZ_bounds : ∀ f m, 0 ≤ czZ f m ∧ czZ f m ≤ f := by
 intro f
 induction f with
 | zero => intro m; exact ⟨Int.le_refl _, Int.le_refl _⟩
 | succ f ih =>
   intro m
   have := ih (m / 10)
   show 0 ≤ (if 0 < m % 10 then (1 : Int) else 0) + czZ f (m / 10) ∧ (if 0 < m % 10 then (1 : Int) else 0) + czZ f (m / 10) ≤ _
   split <;> omega
def nz (d : Int) : Int := if 0 < d then 1 else 0
theorem czZ_num : ∀ f (ds : List Int), WF ds → ds.length ≤ f → czZ f (numD ds) = (ds.map nz).sum := by
 intro f
 induction f with
 | zero =>
   intro ds _ h
   have h0 : ds = [] := List.eq_nil_of_length_eq_zero (by omega)
   subst h0
   rfl
 | succ f ih =>
   intro ds hw hl
   rcases List.eq_nil_or_concat ds with rfl | ⟨xs, d, rfl⟩
   · exact czZ_zero _
   · rw [List.concat_eq_append] at *
     have hx : WF xs := fun z hz => hw z (List.mem_append_left _ hz)
     have hd := hw d (by simp)
     rw [numD_snoc, List.map_append, List.sum_append]
     have h1 : (10 * numD xs + d) % 10 = d := by omega
     have h2 : (10 * numD xs + d) / 10 = numD xs := by omega
     show (if 0 < (10 * numD xs + d) % 10 then (1 : Int) else 0) + czZ f ((10 * numD xs + d) / 10) = _
     rw [h1, h2, ih xs hx (by simp at hl; omega)]
     simp [nz]
     omega
theorem cntN_sum (n : Nat) (m : Int) (s : WS) : ∀ k, (cntN n m s k).sum = ((List.range k).map fun i => nz (dg n m i)).sum := by
 intro k
 induction k with
 | zero => rfl
 | succ k ih =>
   rw [List.range_succ, List.map_append, List.sum_append, ← ih, cntN]
   by_cases h : 0 < dg n m k
   · rw [if_pos h, sum_set _ _ _ (by rw [cntN_len]; exact kindO_lt _ _)]
     simp [nz, h]
     omega
   · rw [if_neg h]
     simp [nz, h]
theorem kinds_sum (u lo : Int) (l : List R2) (m : Int) (h : addNok u lo l m = true) : (kindsM u lo l m).sum = czZ 10 m := by
 obtain ⟨hf, hs, hw, hl, hn, _, m0⟩ := addN_law h
 have h8 := (frB_head hf).2.2.2
 have hwd := dsOf_WF hf hs
 have hb := numD_bounds hwd
 rw [dsOf_len] at hb
 have hb : 0 ≤ numR l ∧ numR l < pw l.length := hb
 have hb2 := numD_bounds hw
 rw [hn, hl] at hb2
 have e : kindsM u lo l m = cntN l.length m ⟨dsOf l, [], 0⟩ l.length := by unfold kindsM; rw [if_pos h]
 have h2 := digs_part l.length m l.length (Nat.le_refl _)
 rw [Nat.sub_self, pw_zero, Int.ediv_one, Int.ediv_eq_zero_of_lt m0 (by omega)] at h2
 have hw3 : WF ((List.range l.length).map (dg l.length m)) := by
  intro d hd
  obtain ⟨k, _, rfl⟩ := List.mem_map.1 hd
  exact dg_bounds l.length m k
 have h3 := czZ_num 10 _ hw3 (by simp; omega)
 rw [h2, List.map_map] at h3
 rw [show m - 0 * pw l.length = m by omega] at h3
 rw [e, cntN_sum, h3]
 rfl
end Go.Proofs.Ytfechhacmkajdaa
