/- Products, plainly: totals and odd rows. -/
import Derived.Test.YtfechhacmkajdaaVTmC
import Derived.Test.YtfechhacmkajdaaVFrY
import Derived.Test.YtfechhacmkajdaaVAdQ
import Derived.Test.YtfechhacmkajdaaVM4
namespace Go.Proofs.Ytfechhacmkajdaa
open Go.RowKit
set_option linter.unusedVariables false
set_option linter.unusedSimpArgs false
/-- the sums of all parts up to each -/
def totK (ps : List R3) (k : Nat) : List Int := (List.range k).map (fun j => sumP (ps.take (j + 1)))
theorem totK_zero (ps : List R3) : totK ps 0 = [] := rfl
theorem totK_succ (ps : List R3) (k : Nat) : totK ps (k + 1) = totK ps k ++ [sumP (ps.take (k + 1))] := by unfold totK; rw [List.range_succ, List.map_append]; rfl
theorem totK_len (ps : List R3) (k : Nat) : (totK ps k).length = k := by unfold totK; simp
theorem totK_get {ps : List R3} {k n : Nat} (h : k < n) : (totK ps n)[k]? = some (sumP (ps.take (k + 1))) := by unfold totK; simp [h]
theorem sumP_take {ps : List R3} {k : Nat} {m : R3} (h : ps[k]? = some m) : sumP (ps.take (k + 1)) = sumP (ps.take k) + cntP m := by
 rw [List.take_add_one, h, sumP_app]
 show sumP (ps.take k) + sumP [m] = _
 rw [sumP_one]
theorem sumP_nonneg {ps : List R3} (hp : ∀ m ∈ ps, 1 ≤ m.c) : 0 ≤ sumP ps := by
 induction ps with
 | nil => exact Int.le_refl _
 | cons m ps ih =>
   have h1 := cnt_pos (hp m (List.mem_cons_self ..))
   have h2 := ih (fun x hx => hp x (List.mem_cons_of_mem _ hx))
   have h3 : sumP (m :: ps) = cntP m + sumP ps := by unfold sumP; simp
   omega
theorem sumP_bd {ps : List R3} (hp : ∀ m ∈ ps, 1 ≤ m.c) (k : Nat) : 0 ≤ sumP (ps.take k) ∧ sumP (ps.take k) ≤ sumP ps := by
 have h1 : sumP (ps.take k) + sumP (ps.drop k) = sumP ps := by rw [← sumP_app, List.take_append_drop]
 have h2 := sumP_nonneg (ps := ps.take k) (fun x hx => hp x (List.mem_of_mem_take hx))
 have h3 := sumP_nonneg (ps := ps.drop k) (fun x hx => hp x (List.mem_of_mem_drop hx))
 omega
def toL (a b : Int) : List Int := if ptB a b = true then totK (ptsF a b) (ptsF a b).length else []
/-- the rows with an odd half -/
def oddK (rs : List R2) (k : Nat) : List Int := ((rs.take k).filter (fun r => r.a % 2 == 1)).map (fun r => r.b)
theorem oddK_zero (rs : List R2) : oddK rs 0 = [] := by unfold oddK; simp
theorem oddK_yes {rs : List R2} {k : Nat} {r : R2} (h : rs[k]? = some r) (hr : (r.a % 2 == 1) = true) : oddK rs (k + 1) = oddK rs k ++ [r.b] := by
 unfold oddK
 rw [List.take_add_one, h, List.filter_append, List.map_append]
 congr 1
 simp only [Option.toList]
 rw [List.filter_cons_of_pos (by exact hr)]
 rfl
theorem oddK_no {rs : List R2} {k : Nat} {r : R2} (h : rs[k]? = some r) (hr : (r.a % 2 == 1) = false) : oddK rs (k + 1) = oddK rs k := by
 unfold oddK
 rw [List.take_add_one, h, List.filter_append, List.map_append]
 simp only [Option.toList]
 rw [List.filter_cons_of_neg (by rw [hr]; simp)]
 simp
theorem oddK_len (rs : List R2) (k : Nat) : (oddK rs k).length ≤ k := by
 unfold oddK
 rw [List.length_map]
 have h1 := List.length_filter_le (fun (r : R2) => r.a % 2 == 1) (rs.take k)
 have h2 := List.length_take_le k rs
 omega
def odL (a b : Int) : List Int := if dbB a b = true then oddK (dbl 14 a b) (dbl 14 a b).length else []
def oddS (rs : List R2) : Int := ((rs.filter (fun r => r.a % 2 == 1)).map (fun r => r.b)).sum
theorem dbl_sum : ∀ (f : Nat) (a b : Int), 0 ≤ a → a < tw f → oddS (dbl f a b) = a * b := by
 intro f
 induction f with
 | zero =>
   intro a b h0 h1
   rw [show tw 0 = 1 from rfl] at h1
   have : a = 0 := by omega
   subst this
   rw [Int.zero_mul]
   rfl
 | succ f ih =>
   intro a b h0 h1
   rw [tw_succ] at h1
   by_cases hp : 0 < a
   · rw [dbl_pos hp]
     have h2 := ih (a / 2) (2 * b) (by omega) (by omega)
     have ha : a = 2 * (a / 2) + a % 2 := by omega
     have e2 : a / 2 * (2 * b) = 2 * (a / 2) * b := by rw [← Int.mul_assoc, Int.mul_comm (a / 2) 2]
     rw [e2] at h2
     unfold oddS at h2 ⊢
     by_cases hr : a % 2 = 1
     · rw [List.filter_cons_of_pos (by simpa using hr), List.map_cons, List.sum_cons, h2]
       have e3 : (2 * (a / 2) + 1) * b = 2 * (a / 2) * b + b := by rw [Int.add_mul, Int.one_mul]
       have e4 : a * b = (2 * (a / 2) + 1) * b := by congr 1; omega
       rw [e4, e3]
       dsimp only
       omega
     · rw [List.filter_cons_of_neg (by simpa using hr), h2]
       congr 1
       omega
   · have : a = 0 := by omega
     subst this
     rw [dbl_no (by omega), Int.zero_mul]
     rfl
theorem dbl_bd : ∀ (f : Nat) (a b : Int), 0 ≤ b → b * tw f ≤ 163823616 → ∀ r ∈ dbl f a b, 0 ≤ r.b ∧ r.b ≤ 163823616 := by
 intro f
 induction f with
 | zero => intro a b _ _ r hr; cases hr
 | succ f ih =>
   intro a b h0 h1 r hr
   have hb := tw_bound h0 h1
   rw [dbl] at hr
   split at hr
   · rcases List.mem_cons.1 hr with rfl | hr
     · exact ⟨h0, hb⟩
     · refine ih (a / 2) (2 * b) (by omega) ?_ r hr
       rw [tw_succ, ← Int.mul_assoc, Int.mul_comm b 2] at h1
       exact h1
   · cases hr
theorem dbl_a : ∀ (f : Nat) (a b : Int), ∀ r ∈ dbl f a b, 0 ≤ r.a := by
 intro f
 induction f with
 | zero => intro a b r hr; cases hr
 | succ f ih =>
   intro a b r hr
   rw [dbl] at hr
   split at hr
   · rename_i h0
     rcases List.mem_cons.1 hr with rfl | hr
     · show 0 ≤ a
       omega
     · exact ih _ _ r hr
   · cases hr
theorem odL_facts {a b : Int} (h : facB a b = true) : odL a b = oddK (dbl 14 a b) (dbl 14 a b).length ∧ (odL a b).sum = a * b ∧ (∀ z ∈ odL a b, 0 ≤ z ∧ z ≤ 163823616) ∧ (odL a b).length ≤ (dbl 14 a b).length := by
 have e : odL a b = oddK (dbl 14 a b) (dbl 14 a b).length := by unfold odL; rw [if_pos (show dbB a b = true from h)]
 have e2 : oddK (dbl 14 a b) (dbl 14 a b).length = ((dbl 14 a b).filter (fun r => r.a % 2 == 1)).map (fun r => r.b) := by unfold oddK; rw [List.take_of_length_le (Nat.le_refl _)]
 have ha := inB_iff.1 (fac_parts h).1
 have hb := inB_iff.1 (fac_parts h).2
 refine ⟨e, ?_, ?_, ?_⟩
 · rw [e, e2]
   exact dbl_sum 14 a b ha.1 (by rw [show tw 14 = 16384 from rfl]; omega)
 · rw [e, e2]
   intro z hz
   obtain ⟨r, hr, rfl⟩ := List.mem_map.1 hz
   exact dbl_bd 14 a b hb.1 (by rw [show tw 14 = 16384 from rfl]; omega) r (List.mem_filter.1 hr).1
 · rw [e]
   exact oddK_len _ _
theorem toL_facts {a b : Int} (h : facB a b = true) : toL a b = totK (ptsF a b) (ptsF a b).length ∧ ptL a b = ptsF a b ∧ (ptsF a b).length ≤ 16 ∧ sumP (ptsF a b) = a * b ∧ (0 ≤ a * b ∧ a * b ≤ 99980001) ∧ (∀ k, sumP ((ptsF a b).take k) ≤ a * b ∧ 0 ≤ sumP ((ptsF a b).take k)) ∧ (∀ k, k < (ptsF a b).length → sumP ((ptsF a b).take k) < sumP ((ptsF a b).take (k + 1))) := by
 obtain ⟨h1, h2, h3, h4⟩ := ptsF_facts (a := a) (b := b) h
 have hp : ∀ m ∈ ptsF a b, 1 ≤ m.c := fun m hm => (h2 m hm).2.2.1
 refine ⟨by unfold toL; rw [if_pos (show ptB a b = true from h)], by unfold ptL; rw [if_pos (show ptB a b = true from h)], h1, h3, h4, ?_, ?_⟩
 · intro k
   have := sumP_bd hp k
   omega
 · intro k hk
   obtain ⟨m, hm⟩ := list_split (l := ptsF a b) hk
   have := cnt_pos (hp m (List.mem_of_getElem? hm))
   rw [sumP_take hm]
   omega
theorem toL_len (a b : Int) : (toL a b).length = (ptL a b).length ∧ (ptL a b).length ≤ 16 := by
 by_cases h : facB a b = true
 · obtain ⟨e1, e2, e3, _⟩ := toL_facts h
   rw [e1, e2, totK_len]
   exact ⟨rfl, e3⟩
 · unfold toL ptL
   rw [if_neg (show ¬ ptB a b = true from h), if_neg (show ¬ ptB a b = true from h)]
   exact ⟨rfl, Nat.zero_le _⟩
theorem odL_len (a b : Int) : (odL a b).length ≤ 14 := by
 unfold odL
 split
 · have := oddK_len (dbl 14 a b) (dbl 14 a b).length
   have := dbl_len 14 a b
   omega
 · exact Nat.zero_le _

end Go.Proofs.Ytfechhacmkajdaa
namespace Go.Proofs.Ytfechhacmkajdaa
open Go.RowKit
set_option linter.unusedVariables false
set_option linter.unusedSimpArgs false
theorem ftm_law {a b : Int} (h : facB a b = true) : ∃ S : Nat → Int, S 0 = 0 ∧ S (toL a b).length = a * b ∧ (∀ k, k < (toL a b).length → (toL a b)[k]? = some (S (k + 1)) ∧ S k < S (k + 1)) ∧ (odL a b).sum = a * b ∧ (∀ z ∈ odL a b, 0 ≤ z ∧ z ≤ 163823616) ∧ (odL a b).length ≤ (dbL a b).length ∧ (0 ≤ a * b ∧ a * b ≤ 99980001) ∧ 0 ≤ tcV a b := by
 obtain ⟨e1, e2, h16, hs, hp, hb, hi⟩ := toL_facts h
 obtain ⟨o1, o2, o3, o4⟩ := odL_facts h
 have hpo := (ptsF_facts (a := a) (b := b) h).2.1
 refine ⟨fun k => sumP ((ptsF a b).take k), by simp [sumP], ?_, ?_, o2, o3, ?_, hp, ?_⟩
 · show sumP ((ptsF a b).take (toL a b).length) = a * b
   rw [e1, totK_len, List.take_of_length_le (Nat.le_refl _)]
   exact hs
 · rw [e1, totK_len]
   intro k hk
   exact ⟨totK_get hk, hi k hk⟩
 · rw [show dbL a b = dbl 14 a b by unfold dbL; rw [if_pos (show dbB a b = true from h)]]
   exact o4
 · rw [show tcV a b = tcA (ptsF a b) (ptsF a b).length by unfold tcV; rw [if_pos (show tcB a b = true from h)]]
   exact (tcA_bounds (ps := ptsF a b) (fun m hm => (hpo m hm).2.2.1) (by omega) _ (Nat.le_refl _)).1
theorem dbL_len14 (a b : Int) : (dbL a b).length ≤ 14 := by
 unfold dbL
 split
 · exact dbl_len 14 a b
 · exact Nat.zero_le _
theorem ftm_prod (u lo : Int) (l : List R2) (x y : Int) : prodOk u lo l x y = true → frB u lo l = true ∧ frB (prodF u lo l x y).1 (prodF u lo l x y).2.1 (prodF u lo l x y).2.2 = true ∧ numR (prodF u lo l x y).2.2 = numR l + x * y ∧ (0 ≤ x * y ∧ x * y ≤ 200000000) ∧ (0 ≤ numR l ∧ numR l ≤ 200000000) := by
 intro h
 unfold prodOk at h
 simp only [Bool.and_eq_true] at h
 have e : prodF u lo l x y = addNF u lo l (x * y) := by unfold prodF; rw [if_pos h.1]
 rw [e]
 obtain ⟨h1, h2, _, h4, h5, h6, _⟩ := fadLaw u lo l (x * y) h.2
 exact ⟨h1, h2, h4, ⟨h5.1, by omega⟩, ⟨h6.1, by omega⟩⟩

end Go.Proofs.Ytfechhacmkajdaa
namespace Go.Proofs.Ytfechhacmkajdaa
open Go.RowKit
set_option linter.unusedVariables false
set_option linter.unusedSimpArgs false
theorem wgL_len (a b s : Int) : (wgL a b s).length ≤ 8 := by
 unfold wgL
 split
 · exact wrg_len _ _ _
 · exact Nat.zero_le _
theorem dpL_len (a d : Int) : (dpL a d).length ≤ 9 := by
 unfold dpL dgF
 split
 · rw [List.length_map]; exact digT_len _ _
 · exact Nat.zero_le _
theorem dbL_len (a b : Int) : (dbL a b).length ≤ 14 := by
 unfold dbL
 split
 · exact dbl_len _ _ _
 · exact Nat.zero_le _
/-- the digits below place k, at their places -/
theorem low_step (s : Int) (k : Nat) : s - pw (k + 1) * (s / pw (k + 1)) = (s - pw k * (s / pw k)) + pw k * (s / pw k % 10) := by
 have h0 := pw_pos k
 have e : s / pw (k + 1) = s / pw k / 10 := by
  rw [pw_succ, Int.mul_comm 10, Int.ediv_ediv_of_nonneg (by omega)]
 rw [e, pw_succ]
 obtain ⟨q, hq⟩ : ∃ o9, s / pw k = o9 := ⟨_, rfl⟩
 rw [hq]
 have h1 : q = 10 * (q / 10) + q % 10 := by omega
 obtain ⟨t, ht⟩ : ∃ o9, q / 10 = o9 := ⟨_, rfl⟩
 obtain ⟨d, hd⟩ : ∃ o9, q % 10 = o9 := ⟨_, rfl⟩
 rw [ht, hd] at h1 ⊢
 have h2 : pw k * q = 10 * pw k * t + pw k * d := by
  rw [h1, Int.mul_add, ← Int.mul_assoc, Int.mul_comm (pw k) 10]
 omega
theorem wrg_nil (p s : Int) : ∀ k, (wrg p s k).length = 0 → s - pw k * (s / pw k) = p - pw k * (p / pw k) := by
 intro k
 induction k with
 | zero => intro _; rw [pw_zero]; omega
 | succ k ih =>
   intro h
   rw [wrg, List.length_append] at h
   have h1 := ih (by omega)
   rw [low_step, low_step, h1]
   by_cases hd : s / pw k % 10 = p / pw k % 10
   · rw [hd]
   · rw [if_neg hd] at h
     simp at h
theorem wrg_same (p : Int) : ∀ k, (wrg p p k).length = 0 := by
 intro k
 induction k with
 | zero => rfl
 | succ k ih => rw [wrg, if_pos rfl, List.length_append, ih]; rfl
theorem chk_wrong {a b s : Int} (h : wgB a b s = true) : ((wgL a b s).length = 0 → s = a * b ∧ coV a b s = true ∧ coB a b s = true) ∧ (s = a * b → (wgL a b s).length = 0) := by
 have h0 := h
 unfold wgB at h
 simp only [Bool.and_eq_true, inB_iff] at h
 have hp := (ptsF_facts (a := a) (b := b) h.1).2.2.2
 have e : wgL a b s = wrg (a * b) s 8 := by unfold wgL; rw [if_pos h0]
 rw [e]
 have h8 : pw 8 = 100000000 := rfl
 refine ⟨fun hn => ?_, fun hs => by rw [hs]; exact wrg_same _ _⟩
 have h1 := wrg_nil _ _ 8 hn
 rw [h8] at h1
 have hs : s = a * b := by omega
 have hc : coB a b s = true := by unfold coB; rw [h.1, decide_eq_true h.2.1]; rfl
 exact ⟨hs, by unfold coV; rw [hc, hs]; simp, hc⟩
theorem sum_mul (ds : List Int) (d : Int) : (ds.map (fun x => x * d)).sum = d * ds.sum := by
 induction ds with
 | nil => simp
 | cons x ds ih => rw [List.map_cons, List.sum_cons, List.sum_cons, ih, Int.mul_add, Int.mul_comm x d]
theorem dp_law {a d : Int} (h : dpB a d = true) : (0 ≤ a ∧ a ≤ 9999) ∧ (0 ≤ d ∧ d ≤ 9) ∧ (dpL a d).sum = d * dsZ 10 a ∧ (∀ z ∈ dpL a d, 0 ≤ z ∧ z ≤ 81) ∧ (0 ≤ d * dsZ 10 a ∧ d * dsZ 10 a ≤ 810) := by
 have h0 := h
 unfold dpB at h
 simp only [Bool.and_eq_true, inB_iff] at h
 obtain ⟨hw, hn, hl⟩ := dgF_facts h.1.1 h.1.2
 have e : dpL a d = (dgF a).map (fun x => x * d) := by unfold dpL; rw [if_pos h0]
 have hd := dsZ_num 10 (dgF a) hw (by omega)
 rw [hn] at hd
 have hb := dsZ_bounds 10 a
 refine ⟨h.1, h.2, by rw [e, sum_mul, hd], fun z hz => ?_, Int.mul_nonneg h.2.1 hb.1, ?_⟩
 · rw [e] at hz
   obtain ⟨x, hx, rfl⟩ := List.mem_map.1 hz
   have hx9 := hw x hx
   have h1 : x * d ≤ 9 * 9 := Int.mul_le_mul hx9.2 h.2.2 h.2.1 (by omega)
   exact ⟨Int.mul_nonneg hx9.1 h.2.1, by omega⟩
 · have h1 : d * dsZ 10 a ≤ 9 * 90 := Int.mul_le_mul h.2.2 (by omega) hb.1 (by omega)
   omega
end Go.Proofs.Ytfechhacmkajdaa
