/- Taking and carrying, plainly: the sums of the digits. -/
import Derived.Test.YtajdmeajkgdioaaVAdQ
import Derived.Test.YtajdmeajkgdioaaVM4
import Derived.Test.YtajdmeajkgdioaaVFrV
namespace Go.Proofs.Ytajdmeajkgdioaa
open Go.RowKit
set_option linter.unusedVariables false
set_option linter.unusedSimpArgs false
theorem ftkSum (u lo : Int) (l : List R2) (m : Int) : takeNok u lo l m = true → dsZ 10 (numR l) - dsZ 10 m + 9 * (takeNst l m).ask = dsZ 10 (numR l - m) ∧ 0 ≤ (takeNst l m).ask ∧ (takeNst l m).ask ≤ 64 := by
 intro h
 obtain ⟨hf, hs, hw, hl, hn, _, m0, m1⟩ := takeN_law h
 have h8 := (frB_head hf).2.2.2
 have hwd := dsOf_WF hf hs
 have hb := numD_bounds hwd
 rw [dsOf_len] at hb
 have hb : 0 ≤ numR l ∧ numR l < pw l.length := hb
 have e : l.length = (WS.ds ⟨dsOf l, [], 0⟩).length := (dsOf_len l).symm
 have hsum : (takeNst l m).ds.sum = (dsOf l).sum - dgS l.length m l.length + 9 * ((takeNst l m).ask - 0) := by
  have h9 := takeN_sum (s := ⟨dsOf l, [], 0⟩) hwd m0 (show m ≤ numD (dsOf l) from m1) _ (Nat.le_refl _)
  rw [← e] at h9
  exact h9
 rw [digs_sum h8 m0 (by omega)] at hsum
 have h1 := num_sum hw (by rw [hl]; exact h8)
 have h2 := num_sum hwd (by rw [dsOf_len]; exact h8)
 rw [hn] at h1
 have ha := takeN_ask l.length m ⟨dsOf l, [], 0⟩ l.length h8
 have ha : (0 : Int) ≤ (takeNst l m).ask ∧ (takeNst l m).ask ≤ 0 + 8 * (l.length : Int) := ha
 refine ⟨?_, ha.1, by omega⟩
 rw [h1, hsum]
 show dsZ 10 (numD (dsOf l)) - _ + _ = _
 rw [h2]
 omega
theorem fcaSum (u lo : Int) (l : List R2) (m : Int) : addNok u lo l m = true → dsZ 10 (numR l) + dsZ 10 m - 9 * (addNst l m).ask = dsZ 10 (numR l + m) ∧ 0 ≤ (addNst l m).ask ∧ (addNst l m).ask ≤ 64 := by
 intro h
 obtain ⟨hf, hs, hw, hl, hn, _, m0⟩ := addN_law h
 have h8 := (frB_head hf).2.2.2
 have hwd := dsOf_WF hf hs
 have hb := numD_bounds hwd
 rw [dsOf_len] at hb
 have hb : 0 ≤ numR l ∧ numR l < pw l.length := hb
 have hb2 := numD_bounds hw
 rw [hn, hl] at hb2
 have e : l.length = (WS.ds ⟨dsOf l, [], 0⟩).length := (dsOf_len l).symm
 have hsum : (addNst l m).ds.sum = (dsOf l).sum + dgS l.length m l.length - 9 * ((addNst l m).ask - 0) := by
  have h9 := addN_sum (s := ⟨dsOf l, [], 0⟩) (m := m) hwd m0 (by show numD (dsOf l) + m < pw (dsOf l).length; rw [dsOf_len]; exact hb2.2) _ (Nat.le_refl _)
  rw [← e] at h9
  exact h9
 rw [digs_sum h8 m0 (by omega)] at hsum
 have h1 := num_sum hw (by rw [hl]; exact h8)
 have h2 := num_sum hwd (by rw [dsOf_len]; exact h8)
 rw [hn] at h1
 have ha := addN_ask l.length m ⟨dsOf l, [], 0⟩ l.length h8
 have ha : (0 : Int) ≤ (addNst l m).ask ∧ (addNst l m).ask ≤ 0 + 8 * (l.length : Int) := ha
 refine ⟨?_, ha.1, by omega⟩
 rw [h1, hsum]
 show dsZ 10 (numD (dsOf l)) + _ - _ = _
 rw [h2]
 omega
end Go.Proofs.Ytajdmeajkgdioaa
namespace Go.Proofs.Ytajdmeajkgdioaa
open Go.RowKit
set_option linter.unusedVariables false
set_option linter.unusedSimpArgs false
/-- how often is carried from rod r - 1 on to the left -/
def cyc : Nat → Int → List Int → Int
 | 0, _, _ => 0
 | k + 1, d, ds => if 9 < ds.getD k 0 + d ∧ 0 < k then 1 + cyc k 1 ds else 0
theorem cyc_yes {k : Nat} {d : Int} {ds : List Int} (h : 9 < ds.getD (k + 1) 0 + d) : cyc (k + 1 + 1) d ds = 1 + cyc (k + 1) 1 ds := by rw [cyc, if_pos ⟨h, by omega⟩]
theorem cyc_no {k : Nat} {d : Int} {ds : List Int} (h : ¬ 9 < ds.getD k 0 + d) : cyc (k + 1) d ds = 0 := by rw [cyc, if_neg (fun h2 => h h2.1)]
theorem cyc_one (d : Int) (ds : List Int) : cyc 1 d ds = 0 := by rw [cyc, if_neg (fun h2 => absurd h2.2 (by omega))]
theorem getD_set_ne {l : List Int} {i j : Nat} {v : Int} (h : i ≠ j) : (l.set i v).getD j 0 = l.getD j 0 := by
 rw [List.getD_eq_getElem?_getD, List.getD_eq_getElem?_getD, List.getElem?_set_ne h]
theorem getD_set_eq {l : List Int} {i : Nat} {v : Int} (h : i < l.length) : (l.set i v).getD i 0 = v := by
 rw [List.getD_eq_getElem?_getD, List.getElem?_set_self h]; rfl
theorem cyc_set (v : Int) (j : Nat) : ∀ (r : Nat) (d : Int) (ds : List Int), r ≤ j → cyc r d (ds.set j v) = cyc r d ds := by
 intro r
 induction r with
 | zero => intro d ds _; rfl
 | succ r ih =>
   intro d ds h
   rw [cyc, cyc, getD_set_ne (by omega), ih 1 ds (by omega)]
theorem cyc_bounds : ∀ (r : Nat) (d : Int) (ds : List Int), 0 ≤ cyc r d ds ∧ cyc r d ds ≤ r := by
 intro r
 induction r with
 | zero => intro d ds; exact ⟨Int.le_refl _, Int.le_refl _⟩
 | succ r ih =>
   intro d ds
   rw [cyc]
   have := ih 1 ds
   split <;> omega
theorem addS_cyc : ∀ (r : Nat) (d : Int) (s : WS), AddFit r d s.ds → (addS r d s).ask = s.ask + cyc r d s.ds := by
 intro r
 induction r with
 | zero => intro d s _; show s.ask = s.ask + 0; omega
 | succ r ih =>
   intro d s h
   have hx := h.2.2.2.1.getD r
   by_cases h0 : 0 < d
   · rw [addS_pos s h0, ih _ _ h.step]
     show s.ask + _ + cyc r _ (s.ds.set r _) = _
     rw [cyc_set _ _ _ _ _ (Nat.le_refl _)]
     have hd := h.2.2.1
     by_cases hc : 0 < (s.ds.getD r 0 + d) / 10
     · rw [if_pos hc]
       have hr : 0 < r := by
        obtain ⟨k, hk, _⟩ := h.step.rod hc
        omega
       rw [cyc, if_pos ⟨by omega, hr⟩, show (s.ds.getD r 0 + d) / 10 = 1 by omega]
       omega
     · rw [if_neg hc, cyc_no (k := r) (by omega), show (s.ds.getD r 0 + d) / 10 = 0 by omega]
       have : cyc r 0 s.ds = 0 := by
        cases r with
        | zero => rfl
        | succ r =>
          have := h.2.2.2.1.getD r
          exact cyc_no (by omega)
       omega
   · rw [addS_none s h0]
     have := h.2.1
     rw [cyc_no (by omega)]
     omega
/-- the digits from r on stay -/
theorem addS_far : ∀ (r : Nat) (d : Int) (s : WS) (j : Nat), r ≤ j → (addS r d s).ds.getD j 0 = s.ds.getD j 0 := by
 intro r
 induction r with
 | zero => intro d s j _; rfl
 | succ r ih =>
   intro d s j h
   by_cases h0 : 0 < d
   · rw [addS_pos s h0, ih _ _ j (by omega)]
     exact getD_set_ne (by omega)
   · rw [addS_none s h0]
/-- how many of the first k digits differ -/
def chg (a b : List Int) : Nat → Int
 | 0 => 0
 | k + 1 => chg a b k + if a.getD k 0 = b.getD k 0 then 0 else 1
theorem chg_same (a : List Int) : ∀ k, chg a a k = 0 := by
 intro k
 induction k with
 | zero => rfl
 | succ k ih => rw [chg, ih, if_pos rfl]; rfl
theorem chg_bounds (a b : List Int) : ∀ k, 0 ≤ chg a b k ∧ chg a b k ≤ k := by
 intro k
 induction k with
 | zero => exact ⟨Int.le_refl _, Int.le_refl _⟩
 | succ k ih => rw [chg]; split <;> omega
theorem chg_set {a b : List Int} {r : Nat} {v : Int} (hr : r < a.length) (hv : b.getD r 0 = v) (hne : a.getD r 0 ≠ v) : ∀ k, chg a b k = chg (a.set r v) b k + if r < k then 1 else 0 := by
 intro k
 induction k with
 | zero => rfl
 | succ k ih =>
   rw [chg, chg, ih]
   by_cases hk : r = k
   · subst hk
     rw [getD_set_eq hr, hv, if_neg hne, if_pos rfl, if_neg (by omega), if_pos (by omega)]
   · rw [getD_set_ne hk]
     by_cases h2 : r < k
     · rw [if_pos h2, if_pos (show r < k + 1 by omega)]; omega
     · rw [if_neg h2, if_neg (show ¬ r < k + 1 by omega)]; omega
theorem addS_chg : ∀ (r : Nat) (d : Int) (s : WS) (n : Nat), s.ds.length = n → AddFit r d s.ds → 0 < d → chg s.ds (addS r d s).ds n = 1 + cyc r d s.ds := by
 intro r
 induction r with
 | zero => intro d s n _ h h0; have := h.done; omega
 | succ r ih =>
   intro d s n hn h h0
   have hx := h.2.2.2.1.getD r
   have hd := h.2.2.1
   rw [addS_pos s h0]
   obtain ⟨T, hT, hTd⟩ : ∃ T : WS, T = ⟨s.ds.set r ((s.ds.getD r 0 + d) % 10), s.ms ++ turnM r (s.ds.getD r 0) ((s.ds.getD r 0 + d) % 10), s.ask + if 0 < (s.ds.getD r 0 + d) / 10 then 1 else 0⟩ ∧ T.ds = s.ds.set r ((s.ds.getD r 0 + d) % 10) := ⟨_, rfl, rfl⟩
   rw [← hT]
   have hr1 : r < s.ds.length := h.1
   have hb : (addS r ((s.ds.getD r 0 + d) / 10) T).ds.getD r 0 = (s.ds.getD r 0 + d) % 10 := by
    rw [addS_far _ _ _ _ (Nat.le_refl _), hTd]
    exact getD_set_eq hr1
   have hst := h.step
   rw [← hTd] at hst
   rw [chg_set hr1 hb (by omega), if_pos (show r < n by omega), ← hTd]
   by_cases hc : 0 < (s.ds.getD r 0 + d) / 10
   · have hr : 0 < r := by
      obtain ⟨k, hk, _⟩ := hst.rod hc
      omega
     rw [ih _ T n (by rw [hTd]; simpa using hn) hst hc, hTd, cyc_set _ _ _ _ _ (Nat.le_refl _), show (s.ds.getD r 0 + d) / 10 = 1 by omega]
     rw [show cyc (r + 1) d s.ds = 1 + cyc r 1 s.ds by rw [cyc, if_pos ⟨by omega, hr⟩]]
     omega
   · rw [addS_none _ hc, cyc_no (by omega), chg_same]
     omega
/-- how many digits of m are not 0 -/
def czZ : Nat → Int → Int
 | 0, _ => 0
 | f + 1, m => (if 0 < m % 10 then 1 else 0) + czZ f (m / 10)
theorem czZ_zero : ∀ f, czZ f 0 = 0 := by
 intro f
 induction f with
 | zero => rfl
 | succ f ih => show (if (0 : Int) < 0 % 10 then (1 : Int) else 0) + czZ f (0 / 10) = 0; rw [show (0 : Int) / 10 = 0 from rfl, ih]; rfl
theorem czZ_bounds : ∀ f m, 0 ≤ czZ f m ∧ czZ f m ≤ f := by
 intro f
 induction f with
 | zero => intro m; exact ⟨Int.le_refl _, Int.le_refl _⟩
 | succ f ih =>
   intro m
   have := ih (m / 10)
   show 0 ≤ (if 0 < m % 10 then (1 : Int) else 0) + czZ f (m / 10) ∧ (if 0 < m % 10 then (1 : Int) else 0) + czZ f (m / 10) ≤ _
   split <;> omega
def nz (d : Int) : Int := if 0 < d then 1 else 0
theorem czZ_num : ∀ f (ds : List Int), WF ds → ds.length ≤ f → czZ f (numD ds) = (ds.map nz).sum := by
 intro f
 induction f with
 | zero =>
   intro ds _ h
   have h0 : ds = [] := List.eq_nil_of_length_eq_zero (by omega)
   subst h0
   rfl
 | succ f ih =>
   intro ds hw hl
   rcases List.eq_nil_or_concat ds with rfl | ⟨xs, d, rfl⟩
   · exact czZ_zero _
   · rw [List.concat_eq_append] at *
     have hx : WF xs := fun z hz => hw z (List.mem_append_left _ hz)
     have hd := hw d (by simp)
     rw [numD_snoc, List.map_append, List.sum_append]
     have h1 : (10 * numD xs + d) % 10 = d := by omega
     have h2 : (10 * numD xs + d) / 10 = numD xs := by omega
     show (if 0 < (10 * numD xs + d) % 10 then (1 : Int) else 0) + czZ f ((10 * numD xs + d) / 10) = _
     rw [h1, h2, ih xs hx (by simp at hl; omega)]
     simp [nz]
     omega
theorem cntN_sum (n : Nat) (m : Int) (s : WS) : ∀ k, (cntN n m s k).sum = ((List.range k).map fun i => nz (dg n m i)).sum := by
 intro k
 induction k with
 | zero => rfl
 | succ k ih =>
   rw [List.range_succ, List.map_append, List.sum_append, ← ih, cntN]
   by_cases h : 0 < dg n m k
   · rw [if_pos h, sum_set _ _ _ (by rw [cntN_len]; exact kindO_lt _ _)]
     simp [nz, h]
     omega
   · rw [if_neg h]
     simp [nz, h]
theorem kinds_sum (u lo : Int) (l : List R2) (m : Int) (h : addNok u lo l m = true) : (kindsM u lo l m).sum = czZ 10 m := by
 obtain ⟨hf, hs, hw, hl, hn, _, m0⟩ := addN_law h
 have h8 := (frB_head hf).2.2.2
 have hwd := dsOf_WF hf hs
 have hb := numD_bounds hwd
 rw [dsOf_len] at hb
 have hb : 0 ≤ numR l ∧ numR l < pw l.length := hb
 have hb2 := numD_bounds hw
 rw [hn, hl] at hb2
 have e : kindsM u lo l m = cntN l.length m ⟨dsOf l, [], 0⟩ l.length := by unfold kindsM; rw [if_pos h]
 have h2 := digs_part l.length m l.length (Nat.le_refl _)
 rw [Nat.sub_self, pw_zero, Int.ediv_one, Int.ediv_eq_zero_of_lt m0 (by omega)] at h2
 have hw3 : WF ((List.range l.length).map (dg l.length m)) := by
  intro d hd
  obtain ⟨k, _, rfl⟩ := List.mem_map.1 hd
  exact dg_bounds l.length m k
 have h3 := czZ_num 10 _ hw3 (by simp; omega)
 rw [h2, List.map_map] at h3
 rw [show m - 0 * pw l.length = m by omega] at h3
 rw [e, cntN_sum, h3]
 rfl
end Go.Proofs.Ytajdmeajkgdioaa
