
import Derived.Test.YtkgeiemelhkkcaaD
namespace Go.Proofs.Ytkgeiemelhkkcaa
open Go.RowKit
set_option linter.unusedVariables false
set_option linter.unusedSimpArgs false
set_option maxHeartbeats 400000 in
theorem l26Good_any (A : Option Addr) (n c : Nat) (l : List R5) (w : World) (hn : n ≤ 1048576) (h : Reads w w.heap.size 5 A n (rowsV l)) :
    Calls Try.prog 58 #[.slice A n c] w fun e w' => e = .returned (.bool (areB l)) ∧ Below w.heap.size w w' := by
  have hl := rows_len h
  have H := Lib.hid h
  have HL := Lib.hid hl
  clear h hl
  go_enter Try.func58, Try.ntmps58
  go_wp2
  go_loopw [3] (fun i wr => ∃ k : Nat, k ≤ n ∧ i = .int .i64 k ∧ Below w.heap.size w wr ∧ Hid (okTo l k = true)) (fun i _ => n - (intOf i).toNat)
  case atStart => exact ⟨0, Nat.zero_le _, rfl, ext_refl _, Lib.hid rfl⟩
  case round =>
    obtain ⟨k, hk, rfl, hbl, hok⟩ := hrel
    by_cases hlt : k < n
    · obtain ⟨r, hr⟩ := list_split (l := l) (k := k) (by rw [HL.out]; exact hlt)
      obtain ⟨b, o, rfl, hb, c0, c1, c2, c3, c4⟩ := rows_at (H.out.ext hbl (Nat.le_refl _)) hr
      have hbw : b < wr.heap.size := Nat.lt_of_lt_of_le hb hbl.size
      cases hrow : rowB r
      · have hbad := Lib.hid (okTo_not (by rw [HL.out]; exact hlt) (okAt_bad hr hrow))
        clear hr
        go_wp2
        (refine wp_region_later (by kernel_rfl) (by kernel_rfl) ?_; (repeat (go_big_quiet_step (first | (go_at_call 56; exact Calls.later_of (l26One_any r _))))); refine wpQuiet_nil ?_; intro w1 hw1; obtain ⟨⟨wl, hbL⟩, hw1'⟩ := hw1; simp only at hw1'; subst hw1'; obtain ⟨hcL, hfL⟩ := bcell hbL)
        go_wp2
        go_ret
        exact ⟨ret_bool (by simp [areB, hbad.out]), (by repeat (first | exact ext_refl _ | assumption | refine ext_alloc ?_ _ | refine ext_drew ?_ | refine ext_drewN ?_ _ | refine ext_set ?_ (by simp <;> omega) _ | refine ext_trans ?_ (by assumption)))⟩
      · by_cases h0 : k = 0
        · have hgood := Lib.hid (show okAt l k = true by subst h0; exact okAt_zero hr hrow)
          have hk0 : decide (0 < k) = false := by simp; omega
          clear hr
          clear h0
          go_wp2
          (refine wp_region_later (by kernel_rfl) (by kernel_rfl) ?_; (repeat (go_big_quiet_step (first | (go_at_call 56; exact Calls.later_of (l26One_any r _))))); refine wpQuiet_nil ?_; intro w1 hw1; obtain ⟨⟨wl, hbL⟩, hw1'⟩ := hw1; simp only at hw1'; subst hw1'; obtain ⟨hcL, hfL⟩ := bcell hbL)
          go_wp2
          go_roundw
          case rel => exact ⟨k + 1, by omega, by go_num, (by repeat (first | exact ext_refl _ | assumption | refine ext_alloc ?_ _ | refine ext_drew ?_ | refine ext_drewN ?_ _ | refine ext_set ?_ (by simp <;> omega) _ | refine ext_trans ?_ (by assumption))), Lib.hid (by rw [okTo_succ, hok.out, hgood.out]; rfl)⟩
          case measure => simp [intOf]; omega
        · obtain ⟨s, hs⟩ := list_split (l := l) (k := k - 1) (by rw [HL.out]; omega)
          obtain ⟨b', o', hA, hb', d0, d1, d2, d3, d4⟩ := rows_at (H.out.ext hbl (Nat.le_refl _)) hs
          injection hA with hA
          injection hA with hA1 hA2
          subst hA1 hA2
          have hat := Lib.hid (okAt_pos hr hrow (by omega) hs)
          clear hr hs
          have hk0 : decide (0 < k) = true := by simp; omega
          by_cases hlt2 : s.a < r.a
          · have hd : decide (r.a ≤ s.a) = false := by simp; omega
            go_wp2
            (refine wp_region_later (by kernel_rfl) (by kernel_rfl) ?_; (repeat (go_big_quiet_step (first | (go_at_call 56; exact Calls.later_of (l26One_any r _))))); refine wpQuiet_nil ?_; intro w1 hw1; obtain ⟨⟨wl, hbL⟩, hw1'⟩ := hw1; simp only at hw1'; subst hw1'; obtain ⟨hcL, hfL⟩ := bcell hbL)
            go_wp2
            go_roundw
            case rel => exact ⟨k + 1, by omega, by go_num, (by repeat (first | exact ext_refl _ | assumption | refine ext_alloc ?_ _ | refine ext_drew ?_ | refine ext_drewN ?_ _ | refine ext_set ?_ (by simp <;> omega) _ | refine ext_trans ?_ (by assumption))), Lib.hid (by rw [okTo_succ, hok.out, hat.out]; simpa using hlt2)⟩
            case measure => simp [intOf]; omega
          · have hd : decide (r.a ≤ s.a) = true := by simp; omega
            have hbad := Lib.hid (okTo_not (by rw [HL.out]; exact hlt) (hat.out.trans (by simpa using hlt2)))
            go_wp2
            (refine wp_region_later (by kernel_rfl) (by kernel_rfl) ?_; (repeat (go_big_quiet_step (first | (go_at_call 56; exact Calls.later_of (l26One_any r _))))); refine wpQuiet_nil ?_; intro w1 hw1; obtain ⟨⟨wl, hbL⟩, hw1'⟩ := hw1; simp only at hw1'; subst hw1'; obtain ⟨hcL, hfL⟩ := bcell hbL)
            go_wp2
            go_ret
            exact ⟨ret_bool (by simp [areB, hbad.out]), (by repeat (first | exact ext_refl _ | assumption | refine ext_alloc ?_ _ | refine ext_drew ?_ | refine ext_drewN ?_ _ | refine ext_set ?_ (by simp <;> omega) _ | refine ext_trans ?_ (by assumption)))⟩
    · obtain rfl : k = n := by omega
      go_wp2
      go_ret
      exact ⟨ret_bool (by unfold areB; rw [HL.out, hok.out]; simp <;> omega), hbl⟩
theorem specAreTermRows_any (A : Option Addr) (n c : Nat) (l : List R5) (w : World) (hn : n ≤ 1048576) (h : Reads w w.heap.size 5 A n (rowsV l)) :
    Calls Try.prog 19 #[.slice A n c] w fun e w' => e = .returned (.bool (areB l)) ∧ Below w.heap.size w w' := by
  go_enter Try.func19, Try.ntmps19
  go_wp2_with fail
  refine (l26Good_any A n c l _ hn h).mono ?_
  rintro e w' ⟨rfl, hb⟩
  go_wp2
  go_ret
  exact ⟨rfl, hb⟩
/-- the argument handed over again in a later world -/
theorem rows_ext {w w1 : World} {A : Option Addr} {n : Nat} {xs : List Value} {K : Nat} (h : Reads w w.heap.size K A n xs) (hb : Below w.heap.size w w1) : Reads w1 w1.heap.size K A n xs := (h.ext hb (Nat.le_refl _)).more hb.size
set_option maxHeartbeats 1000000 in
theorem law_AreTermRows (A : Option Addr) (n c : Nat) (l : List R5) (w : World) (hlen : n ≤ maxLen) (h : Reads w w.heap.size 5 A n (rowsV l)) :
    Calls Try.prog 4 #[.slice A n c] w fun r w' => r = .returned (.bool true) ∧ Below w.heap.size w w' := by
  unfold maxLen at hlen
  have hl := rows_len h
  by_cases hbig : (1048576 : Int) < n
  · have hs : (if (1048576 : Int) < n then (-1 : Int) else 1048576 - n) = -1 := if_pos hbig
    go_enter Try.func4, Try.ntmps4
    go_wp2_with fail
    refine (szTermRowS_any A n c 1048576 _ hlen (by omega) (by omega)).mono ?_
    rintro e w' ⟨rfl, rfl⟩
    rw [hs]
    clear hs
    go_wp2
    go_ret
    exact ⟨rfl, ext_refl _⟩
  · have hs : (if (1048576 : Int) < n then (-1 : Int) else 1048576 - n) = 1048576 - n := if_neg hbig
    go_enter Try.func4, Try.ntmps4
    go_wp2_with fail
    refine (szTermRowS_any A n c 1048576 _ hlen (by omega) (by omega)).mono ?_
    rintro e w' ⟨rfl, rfl⟩
    rw [hs]
    clear hs
    have hn : n ≤ 1048576 := by omega
    go_wp2_with fail
    refine (toTermRowS_any A n c l _ hn h).mono ?_
    rintro e w1 ⟨A1, c1, rfl, ho1, hb1⟩
    have h1 := rows_ext h hb1
    go_wp2_with fail
    refine (specAreTermRows_any A1 n c1 l _ hn (Reads.of_own ho1)).mono ?_
    rintro e w2 ⟨rfl, hb2⟩
    have h2 := rows_ext h1 hb2
    go_wp2_with fail
    refine (toTermRowS_any A n c l _ hn h2).mono ?_
    rintro e w3 ⟨A3, c3, rfl, ho3, hb3⟩
    have h3 := rows_ext h2 hb3
    have x3 := Reads.of_own ho3
    go_wp2_with fail
    refine (areTermRows_any A3 n c3 l _ hn x3).mono ?_
    rintro e w4 ⟨rfl, hb4⟩
    have h4 := rows_ext h3 hb4
    have x4 := rows_ext x3 hb4
    go_wp2_with fail
    refine (toTermRowS_any A n c l _ hn h4).mono ?_
    rintro e w5 ⟨A5, c5, rfl, ho5, hb5⟩
    have x5 := rows_ext x4 hb5
    have y5 := Reads.of_own ho5
    go_wp2_with fail
    refine (eqTermRowS_any A3 A5 n n c3 c5 l l _ hn hn x5 y5).mono ?_
    rintro e w6 ⟨rfl, hb6⟩
    go_wp2
    go_ret
    exact ⟨rfl, ext_trans (ext_trans (ext_trans (ext_trans (ext_trans hb1 hb2) hb3) hb4) hb5) hb6⟩
end Go.Proofs.Ytkgeiemelhkkcaa
