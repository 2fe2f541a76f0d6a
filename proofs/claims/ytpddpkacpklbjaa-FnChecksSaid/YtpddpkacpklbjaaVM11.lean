/- What FnChecks asks, plainly. -/
import Derived.Test.YtpddpkacpklbjaaVTmC
import Derived.Test.YtpddpkacpklbjaaVM4
namespace Go.Proofs.Ytpddpkacpklbjaa
open Go.RowKit
set_option linter.unusedVariables false
set_option linter.unusedSimpArgs false
theorem wgL_len (a b s : Int) : (wgL a b s).length ≤ 8 := by
 unfold wgL
 split
 · exact wrg_len _ _ _
 · exact Nat.zero_le _
theorem dpL_len (a d : Int) : (dpL a d).length ≤ 9 := by
 unfold dpL dgF
 split
 · rw [List.length_map]; exact digT_len _ _
 · exact Nat.zero_le _
theorem dbL_len (a b : Int) : (dbL a b).length ≤ 14 := by
 unfold dbL
 split
 · exact dbl_len _ _ _
 · exact Nat.zero_le _
/-- the digits below place k, at their places -/
theorem low_step (s : Int) (k : Nat) : s - pw (k + 1) * (s / pw (k + 1)) = (s - pw k * (s / pw k)) + pw k * (s / pw k % 10) := by
 have h0 := pw_pos k
 have e : s / pw (k + 1) = s / pw k / 10 := by
  rw [pw_succ, Int.mul_comm 10, Int.ediv_ediv_of_nonneg (by omega)]
 rw [e, pw_succ]
 obtain ⟨q, hq⟩ : ∃ o9, s / pw k = o9 := ⟨_, rfl⟩
 rw [hq]
 have h1 : q = 10 * (q / 10) + q % 10 := by omega
 obtain ⟨t, ht⟩ : ∃ o9, q / 10 = o9 := ⟨_, rfl⟩
 obtain ⟨d, hd⟩ : ∃ o9, q % 10 = o9 := ⟨_, rfl⟩
 rw [ht, hd] at h1 ⊢
 have h2 : pw k * q = 10 * pw k * t + pw k * d := by
  rw [h1, Int.mul_add, ← Int.mul_assoc, Int.mul_comm (pw k) 10]
 omega
theorem wrg_nil (p s : Int) : ∀ k, (wrg p s k).length = 0 → s - pw k * (s / pw k) = p - pw k * (p / pw k) := by
 intro k
 induction k with
 | zero => intro _; rw [pw_zero]; omega
 | succ k ih =>
   intro h
   rw [wrg, List.length_append] at h
   have h1 := ih (by omega)
   rw [low_step, low_step, h1]
   by_cases hd : s / pw k % 10 = p / pw k % 10
   · rw [hd]
   · rw [if_neg hd] at h
     simp at h
theorem wrg_same (p : Int) : ∀ k, (wrg p p k).length = 0 := by
 intro k
 induction k with
 | zero => rfl
 | succ k ih => rw [wrg, if_pos rfl, List.length_append, ih]; rfl
theorem chk_wrong {a b s : Int} (h : wgB a b s = true) : ((wgL a b s).length = 0 → s = a * b ∧ coV a b s = true ∧ coB a b s = true) ∧ (s = a * b → (wgL a b s).length = 0) := by
 have h0 := h
 unfold wgB at h
 simp only [Bool.and_eq_true, inB_iff] at h
 have hp := (ptsF_facts (a := a) (b := b) h.1).2.2.2
 have e : wgL a b s = wrg (a * b) s 8 := by unfold wgL; rw [if_pos h0]
 rw [e]
 have h8 : pw 8 = 100000000 := rfl
 refine ⟨fun hn => ?_, fun hs => by rw [hs]; exact wrg_same _ _⟩
 have h1 := wrg_nil _ _ 8 hn
 rw [h8] at h1
 have hs : s = a * b := by omega
 have hc : coB a b s = true := by unfold coB; rw [h.1, decide_eq_true h.2.1]; rfl
 exact ⟨hs, by unfold coV; rw [hc, hs]; simp, hc⟩
theorem sum_mul (ds : List Int) (d : Int) : (ds.map (fun x => x * d)).sum = d * ds.sum := by
 induction ds with
 | nil => simp
 | cons x ds ih => rw [List.map_cons, List.sum_cons, List.sum_cons, ih, Int.mul_add, Int.mul_comm x d]
theorem dp_law {a d : Int} (h : dpB a d = true) : (0 ≤ a ∧ a ≤ 9999) ∧ (0 ≤ d ∧ d ≤ 9) ∧ (dpL a d).sum = d * dsZ 10 a ∧ (∀ z ∈ dpL a d, 0 ≤ z ∧ z ≤ 81) ∧ (0 ≤ d * dsZ 10 a ∧ d * dsZ 10 a ≤ 810) := by
 have h0 := h
 unfold dpB at h
 simp only [Bool.and_eq_true, inB_iff] at h
 obtain ⟨hw, hn, hl⟩ := dgF_facts h.1.1 h.1.2
 have e : dpL a d = (dgF a).map (fun x => x * d) := by unfold dpL; rw [if_pos h0]
 have hd := dsZ_num 10 (dgF a) hw (by omega)
 rw [hn] at hd
 have hb := dsZ_bounds 10 a
 refine ⟨h.1, h.2, by rw [e, sum_mul, hd], fun z hz => ?_, Int.mul_nonneg h.2.1 hb.1, ?_⟩
 · rw [e] at hz
   obtain ⟨x, hx, rfl⟩ := List.mem_map.1 hz
   have hx9 := hw x hx
   have h1 : x * d ≤ 9 * 9 := Int.mul_le_mul hx9.2 h.2.2 h.2.1 (by omega)
   exact ⟨Int.mul_nonneg hx9.1 h.2.1, by omega⟩
 · have h1 : d * dsZ 10 a ≤ 9 * 90 := Int.mul_le_mul h.2.2 (by omega) hb.1 (by omega)
   omega
end Go.Proofs.Ytpddpkacpklbjaa
