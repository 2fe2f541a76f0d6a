
/- BestTerm: the program's and the reference's. -/
import Derived.Test.YtkgeiemelhkkcaaE
namespace Go.Proofs.Ytkgeiemelhkkcaa
open Go.RowKit
set_option linter.unusedVariables false
set_option linter.unusedSimpArgs false
def bestStep (l : List R5) (z : Int) (k : Nat) : Int := match l[k]? with
  | none => z
  | some r => if (decide (0 < r.c) && (decide (z < 0) || match l[z.toNat]? with | none => false | some s => decide (s.d * r.c < r.d * s.c))) = true then (k : Int) else z
theorem bestStep_first {l : List R5} {k : Nat} {r : R5} (hr : l[k]? = some r) (hC : 0 < r.c) : bestStep l (-1) k = k := by
  simp [bestStep, hr, hC]
theorem bestStep_none {l : List R5} {k : Nat} {z : Int} {r : R5} (hr : l[k]? = some r) (hC : ¬ 0 < r.c) : bestStep l z k = z := by
  simp [bestStep, hr, hC]
theorem bestStep_more {l : List R5} {k j : Nat} {r s : R5} (hr : l[k]? = some r) (hC : 0 < r.c) (hs : l[j]? = some s) (h : s.d * r.c < r.d * s.c) : bestStep l (j : Int) k = k := by
  simp [bestStep, hr, hC, hs, h]
theorem bestStep_less {l : List R5} {k j : Nat} {r s : R5} (hr : l[k]? = some r) (hs : l[j]? = some s) (h : ¬ s.d * r.c < r.d * s.c) : bestStep l (j : Int) k = j := by
  have h1 : ¬ ((j : Int) < 0) := by omega
  simp [bestStep, hr, hs, h]
  omega
def bestTo (l : List R5) (k : Nat) : Int := (List.range k).foldl (bestStep l) (-1)
theorem bestTo_succ' (l : List R5) (k : Nat) : bestTo l (k + 1) = bestStep l (bestTo l k) k := by simp [bestTo, List.range_succ]
theorem bestTo_succ {l : List R5} {k : Nat} {r : R5} (_hr : l[k]? = some r) : bestTo l (k + 1) = bestStep l (bestTo l k) k := bestTo_succ' l k
theorem best_cases' (l : List R5) (k : Nat) : bestTo l k = -1 ∨ ∃ j : Nat, bestTo l k = j ∧ j < k := by
  induction k with
  | zero => exact .inl rfl
  | succ k ih =>
    rw [bestTo_succ']
    have h : bestStep l (bestTo l k) k = bestTo l k ∨ bestStep l (bestTo l k) k = k := by
      unfold bestStep
      split
      · exact .inl rfl
      · have hb : ∀ (b : Bool) (x y : Int), (if b = true then x else y) = y ∨ (if b = true then x else y) = x := fun b x y => by cases b <;> simp
        exact hb _ _ _
    rcases h with h | h <;> rw [h]
    · rcases ih with ih | ⟨j, ih, hj⟩
      · exact .inl ih
      · exact .inr ⟨j, ih, by omega⟩
    · exact .inr ⟨k, rfl, by omega⟩
theorem best_cases {l : List R5} {k : Nat} {z : Int} (h : z = bestTo l k) : z = -1 ∨ ∃ j : Nat, z = j ∧ j < k := by
  rw [h]; exact best_cases' l k
def bestOk (l : List R5) : Bool := areB l && decide (0 ≤ bestTo l l.length)
def bestT (l : List R5) : Int := if areB l = true ∧ 0 ≤ bestTo l l.length then (match l[(bestTo l l.length).toNat]? with | none => 0 | some s => s.a) else 0
theorem best_bad {l : List R5} (h : areB l = false) : bestT l = 0 ∧ bestOk l = false := by simp [bestT, bestOk, h]
theorem best_none {l : List R5} (h : bestTo l l.length = -1) : bestT l = 0 ∧ bestOk l = false := by simp [bestT, bestOk, h]
theorem best_some {l : List R5} {j : Nat} {s : R5} (hg : areB l = true) (h : bestTo l l.length = (j : Int)) (hs : l[j]? = some s) : bestT l = s.a ∧ bestOk l = true := by
  simp [bestT, bestOk, h, hg, hs]
theorem are_all {l : List R5} (h : areB l = true) {k : Nat} {r : R5} (hr : l[k]? = some r) : rowB r = true := by
  simp only [areB, Bool.and_eq_true] at h
  have h2 := h.2
  rw [okTo, List.all_eq_true] at h2
  have hk : k < l.length := (List.getElem?_eq_some_iff.1 hr).1
  have := h2 k (by simpa using hk)
  simp [okAt, hr] at this
  exact this.1
theorem row_bounds {r : R5} (h : rowB r = true) : (1 ≤ r.a ∧ r.a ≤ 400) ∧ (0 ≤ r.b ∧ r.b ≤ 999) ∧ (0 ≤ r.c ∧ r.c ≤ 999) ∧ (0 ≤ r.d ∧ r.d ≤ r.c) ∧ 0 ≤ r.e ∧ r.e ≤ r.d := by
  have : (1 ≤ r.a ∧ r.a ≤ 400) ∧ (0 ≤ r.b ∧ r.b ≤ 999) ∧ (0 ≤ r.c ∧ r.c ≤ r.b) ∧ (0 ≤ r.d ∧ r.d ≤ r.c) ∧ 0 ≤ r.e ∧ r.e ≤ r.d := by simpa [rowB] using h
  omega
theorem mul_bounds {a b : Int} (h0 : 0 ≤ a) (h1 : a ≤ 999) (h2 : 0 ≤ b) (h3 : b ≤ 999) : 0 ≤ a * b ∧ a * b ≤ 998001 :=
  ⟨Int.mul_nonneg h0 h2, by have := Int.mul_le_mul h1 h3 h2 (by omega : (0 : Int) ≤ 999); omega⟩
set_option maxHeartbeats 1000000 in
theorem implBestTerm_any (A : Option Addr) (n c : Nat) (l : List R5) (w : World) (hn : n ≤ 1048576) (h : Reads w w.heap.size 5 A n (rowsV l)) :
    Calls Try.prog 26 #[.slice A n c] w fun e w' => e = .returned (.tuple #[.int .i64 (bestT l), .bool (bestOk l)]) ∧ Below w.heap.size w w' := by
  have hl := rows_len h
  have H := Lib.hid h
  have HL := Lib.hid hl
  clear h hl
  cases hg : areB l
  · rw [(best_bad hg).1, (best_bad hg).2]
    go_enter Try.func26, Try.ntmps26
    go_wp2_with (go_at_call 21; refine (areTermRows_any A n c l _ hn H.out).mono ?_; rintro e w' ⟨rfl, hb⟩; obtain ⟨hc, hf⟩ := bcell hb; have hz := hb.size; (try simp at hz))
    go_ret2
    exact ⟨rfl, (by repeat (first | exact ext_refl _ | assumption | refine ext_alloc ?_ _ | refine ext_drew ?_ | refine ext_drewN ?_ _ | refine ext_set ?_ (by simp <;> omega) _ | refine ext_trans ?_ (by assumption)))⟩
  · have HG := Lib.hid (fun (k : Nat) (r : R5) (h : l[k]? = some r) => are_all hg h)
    go_enter Try.func26, Try.ntmps26
    go_wp2_with (go_at_call 21; refine (areTermRows_any A n c l _ hn H.out).mono ?_; rintro e w' ⟨rfl, hb⟩; obtain ⟨hc, hf⟩ := bcell hb; have hz := hb.size; (try simp at hz))
    go_loopw [4, 12] (fun b i wr => ∃ (k : Nat) (z : Int), k ≤ n ∧ i = .int .i64 k ∧ b = .int .i64 z ∧ Below w.heap.size w wr ∧ Hid (z = bestTo l k)) (fun _ i _ => n - (intOf i).toNat)
    case atStart => exact ⟨0, -1, Nat.zero_le _, rfl, rfl, (by repeat (first | exact ext_refl _ | assumption | refine ext_alloc ?_ _ | refine ext_drew ?_ | refine ext_drewN ?_ _ | refine ext_set ?_ (by simp <;> omega) _ | refine ext_trans ?_ (by assumption))), Lib.hid rfl⟩
    case round =>
      obtain ⟨k, z, hk, rfl, rfl, hbl, hz⟩ := hrel
      by_cases hlt : k < n
      · obtain ⟨r, hr⟩ := list_split (l := l) (k := k) (by rw [HL.out]; exact hlt)
        obtain ⟨b, o, rfl, hb, c0, c1, c2, c3, c4⟩ := rows_at (H.out.ext hbl (Nat.le_refl _)) hr
        have hbw : b < wr.heap.size := Nat.lt_of_lt_of_le hb hbl.size
        obtain ⟨v1, v2, v3, v4, v5⟩ := row_bounds (HG.out k r hr)
        have hst := Lib.hid (bestTo_succ (l := l) (k := k) hr)
        by_cases hC : 0 < r.c
        · have hd : decide (0 < r.c) = true := by simpa using hC
          rcases best_cases hz.out with rfl | ⟨j, rfl, hjk⟩
          · have hnew := Lib.hid (show bestTo l (k + 1) = k by rw [hst.out, ← hz.out]; exact bestStep_first hr hC)
            clear hr
            go_wp2
            (refine wp_region_later (by kernel_rfl) (by kernel_rfl) ?_; (repeat (go_big_quiet_step (fail))); refine wpQuiet_nil ?_; intro w1 hw1; obtain ⟨⟨wl, hbL⟩, hw1'⟩ := hw1; simp only at hw1'; subst hw1'; obtain ⟨hcL, hfL⟩ := bcell hbL)
            go_wp2
            go_roundw
            case rel => exact ⟨k + 1, _, by omega, by go_num, rfl, (by repeat (first | exact ext_refl _ | assumption | refine ext_alloc ?_ _ | refine ext_drew ?_ | refine ext_drewN ?_ _ | refine ext_set ?_ (by simp <;> omega) _ | refine ext_trans ?_ (by assumption))), Lib.hid hnew.out.symm⟩
            case measure => simp [intOf]; omega
          · obtain ⟨s, hs⟩ := list_split (l := l) (k := j) (by rw [HL.out]; omega)
            obtain ⟨b', o', hA, hb', d0, d1, d2, d3, d4⟩ := rows_at (H.out.ext hbl (Nat.le_refl _)) hs
            injection hA with hA
            injection hA with hA1 hA2
            subst hA1 hA2
            obtain ⟨u1, u2, u3, u4, u5⟩ := row_bounds (HG.out j s hs)
            have p1 : 0 ≤ r.d * s.c ∧ r.d * s.c ≤ 998001 := mul_bounds (by omega) (by omega) (by omega) (by omega)
            have p2 : 0 ≤ s.d * r.c ∧ s.d * r.c ≤ 998001 := mul_bounds (by omega) (by omega) (by omega) (by omega)
            obtain ⟨p1, p1'⟩ := p1
            obtain ⟨p2, p2'⟩ := p2
            have hj0 : decide ((j : Int) < 0) = false := by simp
            by_cases hcmp : s.d * r.c < r.d * s.c
            · have hnew := Lib.hid (show bestTo l (k + 1) = k by rw [hst.out, ← hz.out]; exact bestStep_more hr hC hs hcmp)
              have hd2 : decide (s.d * r.c < r.d * s.c) = true := by simpa using hcmp
              clear hr hs
              go_wp2
              (refine wp_region_later (by kernel_rfl) (by kernel_rfl) ?_; (repeat (go_big_quiet_step (fail))); refine wpQuiet_nil ?_; intro w1 hw1; obtain ⟨⟨wl, hbL⟩, hw1'⟩ := hw1; simp only at hw1'; subst hw1'; obtain ⟨hcL, hfL⟩ := bcell hbL)
              go_wp2
              go_roundw
              case rel => exact ⟨k + 1, _, by omega, by go_num, rfl, (by repeat (first | exact ext_refl _ | assumption | refine ext_alloc ?_ _ | refine ext_drew ?_ | refine ext_drewN ?_ _ | refine ext_set ?_ (by simp <;> omega) _ | refine ext_trans ?_ (by assumption))), Lib.hid hnew.out.symm⟩
              case measure => simp [intOf]; omega
            · have hnew := Lib.hid (show bestTo l (k + 1) = j by rw [hst.out, ← hz.out]; exact bestStep_less hr hs hcmp)
              have hd2 : decide (s.d * r.c < r.d * s.c) = false := by simpa using hcmp
              clear hr hs
              go_wp2
              (refine wp_region_later (by kernel_rfl) (by kernel_rfl) ?_; (repeat (go_big_quiet_step (fail))); refine wpQuiet_nil ?_; intro w1 hw1; obtain ⟨⟨wl, hbL⟩, hw1'⟩ := hw1; simp only at hw1'; subst hw1'; obtain ⟨hcL, hfL⟩ := bcell hbL)
              go_wp2
              go_roundw
              case rel => exact ⟨k + 1, _, by omega, by go_num, rfl, (by repeat (first | exact ext_refl _ | assumption | refine ext_alloc ?_ _ | refine ext_drew ?_ | refine ext_drewN ?_ _ | refine ext_set ?_ (by simp <;> omega) _ | refine ext_trans ?_ (by assumption))), Lib.hid hnew.out.symm⟩
              case measure => simp [intOf]; omega
        · have hnew := Lib.hid (show bestTo l (k + 1) = z by rw [hst.out, ← hz.out]; exact bestStep_none hr hC)
          have hd : decide (0 < r.c) = false := by simpa using hC
          clear hr
          go_wp2
          (refine wp_region_later (by kernel_rfl) (by kernel_rfl) ?_; (repeat (go_big_quiet_step (fail))); refine wpQuiet_nil ?_; intro w1 hw1; obtain ⟨⟨wl, hbL⟩, hw1'⟩ := hw1; simp only at hw1'; subst hw1'; obtain ⟨hcL, hfL⟩ := bcell hbL)
          go_wp2
          go_roundw
          case rel => exact ⟨k + 1, _, by omega, by go_num, rfl, (by repeat (first | exact ext_refl _ | assumption | refine ext_alloc ?_ _ | refine ext_drew ?_ | refine ext_drewN ?_ _ | refine ext_set ?_ (by simp <;> omega) _ | refine ext_trans ?_ (by assumption))), Lib.hid hnew.out.symm⟩
          case measure => simp [intOf]; omega
      · obtain rfl : k = n := by omega
        have hzz : z = bestTo l l.length := by rw [HL.out]; exact hz.out
        rcases best_cases hz.out with rfl | ⟨j, rfl, hjk⟩
        · have E := Lib.hid (best_none (l := l) hzz.symm)
          clear hzz
          go_wp2
          go_ret2
          exact ⟨by rw [E.out.1, E.out.2]; rfl, (by repeat (first | exact ext_refl _ | assumption | refine ext_alloc ?_ _ | refine ext_drew ?_ | refine ext_drewN ?_ _ | refine ext_set ?_ (by simp <;> omega) _ | refine ext_trans ?_ (by assumption)))⟩
        · obtain ⟨s, hs⟩ := list_split (l := l) (k := j) (by rw [HL.out]; omega)
          obtain ⟨b', o', rfl, hb', d0, d1, d2, d3, d4⟩ := rows_at (H.out.ext hbl (Nat.le_refl _)) hs
          have E := Lib.hid (best_some hg hzz.symm hs)
          clear hzz hs
          go_wp2
          go_ret2
          exact ⟨by rw [E.out.1, E.out.2]; rfl, (by repeat (first | exact ext_refl _ | assumption | refine ext_alloc ?_ _ | refine ext_drew ?_ | refine ext_drewN ?_ _ | refine ext_set ?_ (by simp <;> omega) _ | refine ext_trans ?_ (by assumption)))⟩
set_option maxHeartbeats 1000000 in
theorem specBestTerm_any (A : Option Addr) (n c : Nat) (l : List R5) (w : World) (hn : n ≤ 1048576) (h : Reads w w.heap.size 5 A n (rowsV l)) :
    Calls Try.prog 25 #[.slice A n c] w fun e w' => e = .returned (.tuple #[.int .i64 (bestT l), .bool (bestOk l)]) ∧ Below w.heap.size w w' := by
  have hl := rows_len h
  have H := Lib.hid h
  have HL := Lib.hid hl
  clear h hl
  cases hg : areB l
  · rw [(best_bad hg).1, (best_bad hg).2]
    go_enter Try.func25, Try.ntmps25
    go_wp2_with (go_at_call 58; refine (l26Good_any A n c l _ hn H.out).mono ?_; rintro e w' ⟨rfl, hb⟩; obtain ⟨hc, hf⟩ := bcell hb; have hz := hb.size; (try simp at hz))
    go_ret2
    exact ⟨rfl, (by repeat (first | exact ext_refl _ | assumption | refine ext_alloc ?_ _ | refine ext_drew ?_ | refine ext_drewN ?_ _ | refine ext_set ?_ (by simp <;> omega) _ | refine ext_trans ?_ (by assumption)))⟩
  · have HG := Lib.hid (fun (k : Nat) (r : R5) (h : l[k]? = some r) => are_all hg h)
    go_enter Try.func25, Try.ntmps25
    go_wp2_with (go_at_call 58; refine (l26Good_any A n c l _ hn H.out).mono ?_; rintro e w' ⟨rfl, hb⟩; obtain ⟨hc, hf⟩ := bcell hb; have hz := hb.size; (try simp at hz))
    go_loopw [4, 5] (fun b i wr => ∃ (k : Nat) (z : Int), k ≤ n ∧ i = .int .i64 k ∧ b = .int .i64 z ∧ Below w.heap.size w wr ∧ Hid (z = bestTo l k)) (fun _ i _ => n - (intOf i).toNat)
    case atStart => exact ⟨0, -1, Nat.zero_le _, rfl, rfl, (by repeat (first | exact ext_refl _ | assumption | refine ext_alloc ?_ _ | refine ext_drew ?_ | refine ext_drewN ?_ _ | refine ext_set ?_ (by simp <;> omega) _ | refine ext_trans ?_ (by assumption))), Lib.hid rfl⟩
    case round =>
      obtain ⟨k, z, hk, rfl, rfl, hbl, hz⟩ := hrel
      by_cases hlt : k < n
      · obtain ⟨r, hr⟩ := list_split (l := l) (k := k) (by rw [HL.out]; exact hlt)
        obtain ⟨b, o, rfl, hb, c0, c1, c2, c3, c4⟩ := rows_at (H.out.ext hbl (Nat.le_refl _)) hr
        have hbw : b < wr.heap.size := Nat.lt_of_lt_of_le hb hbl.size
        obtain ⟨v1, v2, v3, v4, v5⟩ := row_bounds (HG.out k r hr)
        have hst := Lib.hid (bestTo_succ (l := l) (k := k) hr)
        by_cases hC : 0 < r.c
        · have hd : decide (0 < r.c) = true := by simpa using hC
          rcases best_cases hz.out with rfl | ⟨j, rfl, hjk⟩
          · have hnew := Lib.hid (show bestTo l (k + 1) = k by rw [hst.out, ← hz.out]; exact bestStep_first hr hC)
            clear hr
            go_wp2
            (refine wp_region_later (by kernel_rfl) (by kernel_rfl) ?_; (repeat (go_big_quiet_step (fail))); refine wpQuiet_nil ?_; intro w1 hw1; obtain ⟨⟨wl, hbL⟩, hw1'⟩ := hw1; simp only at hw1'; subst hw1'; obtain ⟨hcL, hfL⟩ := bcell hbL)
            go_wp2
            go_roundw
            case rel => exact ⟨k + 1, _, by omega, by go_num, rfl, (by repeat (first | exact ext_refl _ | assumption | refine ext_alloc ?_ _ | refine ext_drew ?_ | refine ext_drewN ?_ _ | refine ext_set ?_ (by simp <;> omega) _ | refine ext_trans ?_ (by assumption))), Lib.hid hnew.out.symm⟩
            case measure => simp [intOf]; omega
          · obtain ⟨s, hs⟩ := list_split (l := l) (k := j) (by rw [HL.out]; omega)
            obtain ⟨b', o', hA, hb', d0, d1, d2, d3, d4⟩ := rows_at (H.out.ext hbl (Nat.le_refl _)) hs
            injection hA with hA
            injection hA with hA1 hA2
            subst hA1 hA2
            obtain ⟨u1, u2, u3, u4, u5⟩ := row_bounds (HG.out j s hs)
            have p1 : 0 ≤ r.d * s.c ∧ r.d * s.c ≤ 998001 := mul_bounds (by omega) (by omega) (by omega) (by omega)
            have p2 : 0 ≤ s.d * r.c ∧ s.d * r.c ≤ 998001 := mul_bounds (by omega) (by omega) (by omega) (by omega)
            obtain ⟨p1, p1'⟩ := p1
            obtain ⟨p2, p2'⟩ := p2
            have hj0 : decide ((j : Int) < 0) = false := by simp
            by_cases hcmp : s.d * r.c < r.d * s.c
            · have hnew := Lib.hid (show bestTo l (k + 1) = k by rw [hst.out, ← hz.out]; exact bestStep_more hr hC hs hcmp)
              have hd2 : decide (s.d * r.c < r.d * s.c) = true := by simpa using hcmp
              clear hr hs
              go_wp2
              (refine wp_region_later (by kernel_rfl) (by kernel_rfl) ?_; (repeat (go_big_quiet_step (fail))); refine wpQuiet_nil ?_; intro w1 hw1; obtain ⟨⟨wl, hbL⟩, hw1'⟩ := hw1; simp only at hw1'; subst hw1'; obtain ⟨hcL, hfL⟩ := bcell hbL)
              go_wp2
              go_roundw
              case rel => exact ⟨k + 1, _, by omega, by go_num, rfl, (by repeat (first | exact ext_refl _ | assumption | refine ext_alloc ?_ _ | refine ext_drew ?_ | refine ext_drewN ?_ _ | refine ext_set ?_ (by simp <;> omega) _ | refine ext_trans ?_ (by assumption))), Lib.hid hnew.out.symm⟩
              case measure => simp [intOf]; omega
            · have hnew := Lib.hid (show bestTo l (k + 1) = j by rw [hst.out, ← hz.out]; exact bestStep_less hr hs hcmp)
              have hd2 : decide (s.d * r.c < r.d * s.c) = false := by simpa using hcmp
              clear hr hs
              go_wp2
              (refine wp_region_later (by kernel_rfl) (by kernel_rfl) ?_; (repeat (go_big_quiet_step (fail))); refine wpQuiet_nil ?_; intro w1 hw1; obtain ⟨⟨wl, hbL⟩, hw1'⟩ := hw1; simp only at hw1'; subst hw1'; obtain ⟨hcL, hfL⟩ := bcell hbL)
              go_wp2
              go_roundw
              case rel => exact ⟨k + 1, _, by omega, by go_num, rfl, (by repeat (first | exact ext_refl _ | assumption | refine ext_alloc ?_ _ | refine ext_drew ?_ | refine ext_drewN ?_ _ | refine ext_set ?_ (by simp <;> omega) _ | refine ext_trans ?_ (by assumption))), Lib.hid hnew.out.symm⟩
              case measure => simp [intOf]; omega
        · have hnew := Lib.hid (show bestTo l (k + 1) = z by rw [hst.out, ← hz.out]; exact bestStep_none hr hC)
          have hd : decide (0 < r.c) = false := by simpa using hC
          clear hr
          go_wp2
          (refine wp_region_later (by kernel_rfl) (by kernel_rfl) ?_; (repeat (go_big_quiet_step (fail))); refine wpQuiet_nil ?_; intro w1 hw1; obtain ⟨⟨wl, hbL⟩, hw1'⟩ := hw1; simp only at hw1'; subst hw1'; obtain ⟨hcL, hfL⟩ := bcell hbL)
          go_wp2
          go_roundw
          case rel => exact ⟨k + 1, _, by omega, by go_num, rfl, (by repeat (first | exact ext_refl _ | assumption | refine ext_alloc ?_ _ | refine ext_drew ?_ | refine ext_drewN ?_ _ | refine ext_set ?_ (by simp <;> omega) _ | refine ext_trans ?_ (by assumption))), Lib.hid hnew.out.symm⟩
          case measure => simp [intOf]; omega
      · obtain rfl : k = n := by omega
        have hzz : z = bestTo l l.length := by rw [HL.out]; exact hz.out
        rcases best_cases hz.out with rfl | ⟨j, rfl, hjk⟩
        · have E := Lib.hid (best_none (l := l) hzz.symm)
          clear hzz
          go_wp2
          go_ret2
          exact ⟨by rw [E.out.1, E.out.2]; rfl, (by repeat (first | exact ext_refl _ | assumption | refine ext_alloc ?_ _ | refine ext_drew ?_ | refine ext_drewN ?_ _ | refine ext_set ?_ (by simp <;> omega) _ | refine ext_trans ?_ (by assumption)))⟩
        · obtain ⟨s, hs⟩ := list_split (l := l) (k := j) (by rw [HL.out]; omega)
          obtain ⟨b', o', rfl, hb', d0, d1, d2, d3, d4⟩ := rows_at (H.out.ext hbl (Nat.le_refl _)) hs
          have E := Lib.hid (best_some hg hzz.symm hs)
          clear hzz hs
          go_wp2
          go_ret2
          exact ⟨by rw [E.out.1, E.out.2]; rfl, (by repeat (first | exact ext_refl _ | assumption | refine ext_alloc ?_ _ | refine ext_drew ?_ | refine ext_drewN ?_ _ | refine ext_set ?_ (by simp <;> omega) _ | refine ext_trans ?_ (by assumption)))⟩
set_option maxHeartbeats 1000000 in
theorem law_BestTerm (A : Option Addr) (n c : Nat) (l : List R5) (w : World) (hlen : n ≤ maxLen) (h : Reads w w.heap.size 5 A n (rowsV l)) :
    Calls Try.prog 6 #[.slice A n c] w fun r w' => r = .returned (.bool true) ∧ Below w.heap.size w w' := by
  unfold maxLen at hlen
  have hl := rows_len h
  by_cases hbig : (1048576 : Int) < n
  · have hs : (if (1048576 : Int) < n then (-1 : Int) else 1048576 - n) = -1 := if_pos hbig
    go_enter Try.func6, Try.ntmps6
    go_wp2_with fail
    refine (szTermRowS_any A n c 1048576 _ hlen (by omega) (by omega)).mono ?_
    rintro e w' ⟨rfl, rfl⟩
    rw [hs]
    clear hs
    go_wp2
    go_ret
    exact ⟨rfl, ext_refl _⟩
  · have hs : (if (1048576 : Int) < n then (-1 : Int) else 1048576 - n) = 1048576 - n := if_neg hbig
    go_enter Try.func6, Try.ntmps6
    go_wp2_with fail
    refine (szTermRowS_any A n c 1048576 _ hlen (by omega) (by omega)).mono ?_
    rintro e w' ⟨rfl, rfl⟩
    rw [hs]
    clear hs
    have hn : n ≤ 1048576 := by omega
    go_wp2_with fail
    refine (toTermRowS_any A n c l _ hn h).mono ?_
    rintro e w1 ⟨A1, c1, rfl, ho1, hb1⟩
    have h1 := rows_ext h hb1
    go_wp2_with fail
    refine (specBestTerm_any A1 n c1 l _ hn (Reads.of_own ho1)).mono ?_
    rintro e w2 ⟨rfl, hb2⟩
    have h2 := rows_ext h1 hb2
    go_wp2_with fail
    refine (toTermRowS_any A n c l _ hn h2).mono ?_
    rintro e w3 ⟨A3, c3, rfl, ho3, hb3⟩
    have h3 := rows_ext h2 hb3
    have x3 := Reads.of_own ho3
    go_wp2_with fail
    refine (implBestTerm_any A3 n c3 l _ hn x3).mono ?_
    rintro e w4 ⟨rfl, hb4⟩
    have h4 := rows_ext h3 hb4
    have x4 := rows_ext x3 hb4
    go_wp2_with fail
    refine (toTermRowS_any A n c l _ hn h4).mono ?_
    rintro e w5 ⟨A5, c5, rfl, ho5, hb5⟩
    have x5 := rows_ext x4 hb5
    have y5 := Reads.of_own ho5
    go_wp2_with fail
    refine (eqTermRowS_any A3 A5 n n c3 c5 l l _ hn hn x5 y5).mono ?_
    rintro e w6 ⟨rfl, hb6⟩
    go_wp2
    go_ret
    exact ⟨rfl, ext_trans (ext_trans (ext_trans (ext_trans (ext_trans hb1 hb2) hb3) hb4) hb5) hb6⟩
end Go.Proofs.Ytkgeiemelhkkcaa
