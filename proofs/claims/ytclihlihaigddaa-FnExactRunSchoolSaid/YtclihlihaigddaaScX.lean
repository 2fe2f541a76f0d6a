
/- l25Good, walked. -/
import Derived.Test.YtclihlihaigddaaSc
namespace Go.Proofs.Ytclihlihaigddaa
open Go.RowKit
set_option linter.unusedVariables false
set_option linter.unusedSimpArgs false
set_option maxHeartbeats 4000000 in
theorem l25Good_any (day pa le : Int) (A : Option Addr) (n c : Nat) (l : List R5) (w : World) (hn : n ≤ 1048576) (h : Reads w w.heap.size 5 A n (rowsV l)) :
    Calls Try.prog 108 #[schV day A n c pa le] w fun e w' => e = .returned (.bool (schB day l pa le)) ∧ Below w.heap.size w w' := by
  have hl := rows_len h
  have HS := Lib.hid (sch_of day l pa le hl)
  have H := Lib.hid h
  have HL := Lib.hid hl
  clear h hl
  have HD := Lib.hid (fun w => l2Day_any day w)
  have HP := Lib.hid (fun w => inB_l1In pa 0 9999 w)
  have HQ := Lib.hid (fun w => inB_l1In le 0 9999 w)
  rw [HS.out]
  generalize inB day 0 4000 = b1 at HD ⊢
  generalize inB pa 0 9999 = b3 at HP ⊢
  generalize inB le 0 9999 = b4 at HQ ⊢
  cases b1
  · skip
    go_enter Try.func108, Try.ntmps108
    go_wp2_with fail
    refine (HD.out _).mono ?_
    rintro e w1 ⟨rfl, rfl⟩
    go_wp2
    go_ret
    exact ⟨rfl, (by repeat (first | exact ext_refl _ | assumption | refine ext_alloc ?_ _ | refine ext_drew ?_ | refine ext_drewN ?_ _ | refine ext_set ?_ (by simp <;> omega) _ | refine ext_trans ?_ (by assumption)))⟩
  by_cases h8 : 8 < n
  · rw [show decide (n ≤ 8) = false from by simp; omega]
    go_enter Try.func108, Try.ntmps108
    go_wp2_with fail
    refine (HD.out _).mono ?_
    rintro e w1 ⟨rfl, rfl⟩
    go_wp2
    go_ret
    exact ⟨rfl, (by repeat (first | exact ext_refl _ | assumption | refine ext_alloc ?_ _ | refine ext_drew ?_ | refine ext_drewN ?_ _ | refine ext_set ?_ (by simp <;> omega) _ | refine ext_trans ?_ (by assumption)))⟩
  rw [show decide (n ≤ 8) = true from by simp; omega]
  cases b3
  · skip
    go_enter Try.func108, Try.ntmps108
    go_wp2_with fail
    refine (HD.out _).mono ?_
    rintro e w1 ⟨rfl, rfl⟩
    go_wp2_with fail
    refine (HP.out _).mono ?_
    rintro e w1 ⟨rfl, rfl⟩
    go_wp2
    go_ret
    exact ⟨rfl, (by repeat (first | exact ext_refl _ | assumption | refine ext_alloc ?_ _ | refine ext_drew ?_ | refine ext_drewN ?_ _ | refine ext_set ?_ (by simp <;> omega) _ | refine ext_trans ?_ (by assumption)))⟩
  cases b4
  · skip
    go_enter Try.func108, Try.ntmps108
    go_wp2_with fail
    refine (HD.out _).mono ?_
    rintro e w1 ⟨rfl, rfl⟩
    go_wp2_with fail
    refine (HP.out _).mono ?_
    rintro e w1 ⟨rfl, rfl⟩
    go_wp2_with fail
    refine (HQ.out _).mono ?_
    rintro e w1 ⟨rfl, rfl⟩
    go_wp2
    go_ret
    exact ⟨rfl, (by repeat (first | exact ext_refl _ | assumption | refine ext_alloc ?_ _ | refine ext_drew ?_ | refine ext_drewN ?_ _ | refine ext_set ?_ (by simp <;> omega) _ | refine ext_trans ?_ (by assumption)))⟩
  go_enter Try.func108, Try.ntmps108
  go_wp2_with fail
  refine (HD.out _).mono ?_
  rintro e w1 ⟨rfl, rfl⟩
  go_wp2_with fail
  refine (HP.out _).mono ?_
  rintro e w1 ⟨rfl, rfl⟩
  go_wp2_with fail
  refine (HQ.out _).mono ?_
  rintro e w1 ⟨rfl, rfl⟩
  go_wp2
  have hsz : w.heap.size + 1 = (w.alloc (.cells #[.int .i64 day, .slice A n c, .int .i64 pa, .int .i64 le] 24)).heap.size := by simp
  have HSZ := Lib.hid hsz
  have HB0 : Hid ((w.alloc (.cells #[.int .i64 day, .slice A n c, .int .i64 pa, .int .i64 le] 24)).cell? ⟨w.heap.size, 1, none⟩ = some (.slice A n c)) := Lib.hid (by simp [go_sem])
  clear hsz
  go_loopw [3] (fun i wr => ∃ k : Nat, k ≤ n ∧ i = .int .i64 k ∧ Hid (Below (w.alloc (.cells #[.int .i64 day, .slice A n c, .int .i64 pa, .int .i64 le] 24)).heap.size (w.alloc (.cells #[.int .i64 day, .slice A n c, .int .i64 pa, .int .i64 le] 24)) wr) ∧ Hid (okTo l k = true)) (fun i _ => n - (intOf i).toNat)
  case atStart => exact ⟨0, Nat.zero_le _, rfl, Lib.hid (ext_refl _), Lib.hid rfl⟩
  case round =>
    obtain ⟨k, hk, rfl, hbl, hok⟩ := hrel
    have hss : w.heap.size < wr.heap.size := by have := hbl.out.size; rw [← HSZ.out] at this; omega
    have hbw := Lib.hid (ext_trans (ext_alloc (ext_refl w) _) hbl.out)
    have p1 : wr.cell? ⟨w.heap.size, 1, none⟩ = some (.slice A n c) := ext_cell hbl.out HB0.out
    by_cases hlt : k < n
    · obtain ⟨r, hr⟩ := list_split (l := l) (k := k) (by rw [HL.out]; exact hlt)
      obtain ⟨b, o, hA, hb, c0, c1, c2, c3, c4⟩ := rows_at (H.out.ext hbw.out (Nat.le_refl _)) hr
      subst hA
      have hbw2 : b < wr.heap.size := by omega
      have hne : b ≠ w.heap.size := by omega
      rcases stu_cases r with ⟨hrow, g1, g2, g3, g4, g5⟩ | hbad
      · have hrow := Lib.hid hrow
        by_cases h0 : k = 0
        · have hgood := Lib.hid (show okAt l k = true by subst h0; exact okAt_zero hr hrow.out)
          have hk0 : decide (0 < k) = false := by simp; omega
          clear hr h0
          go_wp2
          (refine wp_region_later (by kernel_rfl) (by kernel_rfl) ?_; (repeat (go_big_quiet_step (first | (go_at_call 150; exact Calls.later_same (inB_l1In _ _ _ _))))); refine wpQuiet_nil ?_; intro w1 hw1; obtain ⟨⟨wl, hbL⟩, hw1'⟩ := hw1; simp only at hw1'; subst hw1'; obtain ⟨hcL, hfL⟩ := bcell hbL)
          have hbl2 := Lib.hid (hbl.out.trans ((ext_trans (ext_alloc (ext_refl wr) _) hbL).mono hbl.out.size))
          clear hcL hfL hbL
          go_wp2
          go_roundw
          case rel => exact ⟨k + 1, by omega, by go_num, hbl2, Lib.hid (by rw [okTo_succ, hok.out, hgood.out]; rfl)⟩
          case measure => simp [intOf]; omega
        · obtain ⟨s, hs⟩ := list_split (l := l) (k := k - 1) (by rw [HL.out]; omega)
          obtain ⟨b', o', hA, hb', d0, d1, d2, d3, d4⟩ := rows_at (H.out.ext hbw.out (Nat.le_refl _)) hs
          injection hA with hA
          injection hA with hA1 hA2
          subst hA1 hA2
          have hat := Lib.hid (okAt_pos hr hrow.out (by omega) hs)
          have hk0 : decide (0 < k) = true := by simp; omega
          have hk1 : (1 : Int) ≤ k := by omega
          clear hr hs
          by_cases hlt2 : s.a < r.a
          · have hd : decide (r.a ≤ s.a) = false := by simp; omega
            go_wp2
            (refine wp_region_later (by kernel_rfl) (by kernel_rfl) ?_; (repeat (go_big_quiet_step (first | (go_at_call 150; exact Calls.later_same (inB_l1In _ _ _ _))))); refine wpQuiet_nil ?_; intro w1 hw1; obtain ⟨⟨wl, hbL⟩, hw1'⟩ := hw1; simp only at hw1'; subst hw1'; obtain ⟨hcL, hfL⟩ := bcell hbL)
            have hbl2 := Lib.hid (hbl.out.trans ((ext_trans (ext_alloc (ext_refl wr) _) hbL).mono hbl.out.size))
            clear hcL hfL hbL
            go_wp2
            go_roundw
            case rel => exact ⟨k + 1, by omega, by go_num, hbl2, Lib.hid (by rw [okTo_succ, hok.out, hat.out]; simpa using hlt2)⟩
            case measure => simp [intOf]; omega
          · have hd : decide (r.a ≤ s.a) = true := by simp; omega
            have hb2 := Lib.hid (okTo_not (by rw [HL.out]; exact hlt) (hat.out.trans (by simpa using hlt2)))
            go_wp2
            (refine wp_region_later (by kernel_rfl) (by kernel_rfl) ?_; (repeat (go_big_quiet_step (first | (go_at_call 150; exact Calls.later_same (inB_l1In _ _ _ _))))); refine wpQuiet_nil ?_; intro w1 hw1; obtain ⟨⟨wl, hbL⟩, hw1'⟩ := hw1; simp only at hw1'; subst hw1'; obtain ⟨hcL, hfL⟩ := bcell hbL)
            have hbl2 := Lib.hid (hbl.out.trans ((ext_trans (ext_alloc (ext_refl wr) _) hbL).mono hbl.out.size))
            clear hcL hfL hbL
            go_wp2
            go_ret
            exact ⟨ret_bool (by rw [(HL.out ▸ hb2.out : okTo l n = false)]; rfl), ext_trans (ext_alloc (ext_refl w) _) hbl2.out⟩
      · have hb2 : Hid (okTo l l.length = false) := Lib.hid (okTo_not (by rw [HL.out]; exact hlt) (okAt_bad hr (by rcases hbad with h | h | h | h | h <;> exact h.1)))
        clear hr
        rcases hbad with ⟨_, g1⟩ | ⟨_, g1, g2⟩ | ⟨_, g1, g2, g3⟩ | ⟨_, g1, g2, g3, g4⟩ | ⟨_, g1, g2, g3, g4, g5⟩
        all_goals
          go_wp2
          (refine wp_region_later (by kernel_rfl) (by kernel_rfl) ?_; (repeat (go_big_quiet_step (first | (go_at_call 150; exact Calls.later_same (inB_l1In _ _ _ _))))); refine wpQuiet_nil ?_; intro w1 hw1; obtain ⟨⟨wl, hbL⟩, hw1'⟩ := hw1; simp only at hw1'; subst hw1'; obtain ⟨hcL, hfL⟩ := bcell hbL)
          have hbl2 := Lib.hid (hbl.out.trans ((ext_trans (ext_alloc (ext_refl wr) _) hbL).mono hbl.out.size))
          clear hcL hfL hbL
          go_wp2
          go_ret
          exact ⟨ret_bool (by rw [(HL.out ▸ hb2.out : okTo l n = false)]; rfl), ext_trans (ext_alloc (ext_refl w) _) hbl2.out⟩
    · obtain rfl : k = n := by omega
      go_wp2
      go_ret
      exact ⟨ret_bool (by rw [hok.out]; rfl), hbw.out⟩
end Go.Proofs.Ytclihlihaigddaa
