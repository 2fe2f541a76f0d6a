
import Derived.Test.YtkgeiemelhkkcaaC
namespace Go.Proofs.Ytkgeiemelhkkcaa
open Go.RowKit
set_option linter.unusedVariables false
set_option linter.unusedSimpArgs false
def okAt (l : List R5) (k : Nat) : Bool := match l[k]? with | none => true | some r => rowB r && (decide (k = 0) || match l[k - 1]? with | none => true | some s => decide (s.a < r.a))
def okTo (l : List R5) (k : Nat) : Bool := (List.range k).all (okAt l)
def areB (l : List R5) : Bool := decide (l.length ≤ 10) && okTo l l.length
theorem okTo_succ (l : List R5) (k : Nat) : okTo l (k + 1) = (okTo l k && okAt l k) := by simp [okTo, List.range_succ]
theorem okTo_not {l : List R5} {k : Nat} (hk : k < l.length) (h : okAt l k = false) : okTo l l.length = false := by
  rw [Bool.eq_false_iff]
  intro ha
  rw [okTo, List.all_eq_true] at ha
  rw [ha k (by simpa using hk)] at h
  cases h
theorem okAt_bad {l : List R5} {k : Nat} {r : R5} (hr : l[k]? = some r) (h : rowB r = false) : okAt l k = false := by simp [okAt, hr, h]
theorem okAt_zero {l : List R5} {r : R5} (hr : l[0]? = some r) (h : rowB r = true) : okAt l 0 = true := by simp [okAt, hr, h]
theorem okAt_pos {l : List R5} {k : Nat} {r s : R5} (hr : l[k]? = some r) (h : rowB r = true) (hk : 0 < k) (hs : l[k - 1]? = some s) : okAt l k = decide (s.a < r.a) := by
  have : ¬ k = 0 := by omega
  simp [okAt, hr, h, hs, this]
set_option maxHeartbeats 400000 in
theorem areTermRows_any (A : Option Addr) (n c : Nat) (l : List R5) (w : World) (hn : n ≤ 1048576) (h : Reads w w.heap.size 5 A n (rowsV l)) :
    Calls Try.prog 21 #[.slice A n c] w fun e w' => e = .returned (.bool (areB l)) ∧ Below w.heap.size w w' := by
  have hl := rows_len h
  have H := Lib.hid h
  have HL := Lib.hid hl
  clear h hl
  by_cases hbig : 10 < n
  · go_enter Try.func21, Try.ntmps21
    go_wp2
    go_ret
    refine ⟨ret_bool ?_, ext_refl _⟩
    have : ¬ l.length ≤ 10 := by rw [HL.out]; omega
    simp [areB, this]
  · go_enter Try.func21, Try.ntmps21
    go_wp2
    go_loopw [10] (fun i wr => ∃ k : Nat, k ≤ n ∧ i = .int .i64 k ∧ Below w.heap.size w wr ∧ Hid (okTo l k = true)) (fun i _ => n - (intOf i).toNat)
    case atStart => exact ⟨0, Nat.zero_le _, rfl, ext_refl _, Lib.hid rfl⟩
    case round =>
      obtain ⟨k, hk, rfl, hbl, hok⟩ := hrel
      by_cases hlt : k < n
      · obtain ⟨r, hr⟩ := list_split (l := l) (k := k) (by rw [HL.out]; exact hlt)
        obtain ⟨b, o, rfl, hb, c0, c1, c2, c3, c4⟩ := rows_at (H.out.ext hbl (Nat.le_refl _)) hr
        have hbw : b < wr.heap.size := Nat.lt_of_lt_of_le hb hbl.size
        cases hrow : rowB r
        · have hbad := Lib.hid (okTo_not (by rw [HL.out]; exact hlt) (okAt_bad hr hrow))
          clear hr
          go_wp2
          (refine wp_region_later (by kernel_rfl) (by kernel_rfl) ?_; (repeat (go_big_quiet_step (first | (go_at_call 17; exact Calls.later_of (isTermRow_any r _))))); refine wpQuiet_nil ?_; intro w1 hw1; obtain ⟨⟨wl, hbL⟩, hw1'⟩ := hw1; simp only at hw1'; subst hw1'; obtain ⟨hcL, hfL⟩ := bcell hbL)
          go_wp2
          go_ret
          exact ⟨ret_bool (by simp [areB, hbad.out]), (by repeat (first | exact ext_refl _ | assumption | refine ext_alloc ?_ _ | refine ext_drew ?_ | refine ext_drewN ?_ _ | refine ext_set ?_ (by simp <;> omega) _ | refine ext_trans ?_ (by assumption)))⟩
        · by_cases h0 : k = 0
          · have hgood := Lib.hid (show okAt l k = true by subst h0; exact okAt_zero hr hrow)
            have hk0 : decide (0 < k) = false := by simp; omega
            clear hr
            clear h0
            go_wp2
            (refine wp_region_later (by kernel_rfl) (by kernel_rfl) ?_; (repeat (go_big_quiet_step (first | (go_at_call 17; exact Calls.later_of (isTermRow_any r _))))); refine wpQuiet_nil ?_; intro w1 hw1; obtain ⟨⟨wl, hbL⟩, hw1'⟩ := hw1; simp only at hw1'; subst hw1'; obtain ⟨hcL, hfL⟩ := bcell hbL)
            go_wp2
            go_roundw
            case rel => exact ⟨k + 1, by omega, by go_num, (by repeat (first | exact ext_refl _ | assumption | refine ext_alloc ?_ _ | refine ext_drew ?_ | refine ext_drewN ?_ _ | refine ext_set ?_ (by simp <;> omega) _ | refine ext_trans ?_ (by assumption))), Lib.hid (by rw [okTo_succ, hok.out, hgood.out]; rfl)⟩
            case measure => simp [intOf]; omega
          · obtain ⟨s, hs⟩ := list_split (l := l) (k := k - 1) (by rw [HL.out]; omega)
            obtain ⟨b', o', hA, hb', d0, d1, d2, d3, d4⟩ := rows_at (H.out.ext hbl (Nat.le_refl _)) hs
            injection hA with hA
            injection hA with hA1 hA2
            subst hA1 hA2
            have hat := Lib.hid (okAt_pos hr hrow (by omega) hs)
            clear hr hs
            have hk0 : decide (0 < k) = true := by simp; omega
            by_cases hlt2 : s.a < r.a
            · have hd : decide (r.a ≤ s.a) = false := by simp; omega
              go_wp2
              (refine wp_region_later (by kernel_rfl) (by kernel_rfl) ?_; (repeat (go_big_quiet_step (first | (go_at_call 17; exact Calls.later_of (isTermRow_any r _))))); refine wpQuiet_nil ?_; intro w1 hw1; obtain ⟨⟨wl, hbL⟩, hw1'⟩ := hw1; simp only at hw1'; subst hw1'; obtain ⟨hcL, hfL⟩ := bcell hbL)
              go_wp2
              go_roundw
              case rel => exact ⟨k + 1, by omega, by go_num, (by repeat (first | exact ext_refl _ | assumption | refine ext_alloc ?_ _ | refine ext_drew ?_ | refine ext_drewN ?_ _ | refine ext_set ?_ (by simp <;> omega) _ | refine ext_trans ?_ (by assumption))), Lib.hid (by rw [okTo_succ, hok.out, hat.out]; simpa using hlt2)⟩
              case measure => simp [intOf]; omega
            · have hd : decide (r.a ≤ s.a) = true := by simp; omega
              have hbad := Lib.hid (okTo_not (by rw [HL.out]; exact hlt) (hat.out.trans (by simpa using hlt2)))
              go_wp2
              (refine wp_region_later (by kernel_rfl) (by kernel_rfl) ?_; (repeat (go_big_quiet_step (first | (go_at_call 17; exact Calls.later_of (isTermRow_any r _))))); refine wpQuiet_nil ?_; intro w1 hw1; obtain ⟨⟨wl, hbL⟩, hw1'⟩ := hw1; simp only at hw1'; subst hw1'; obtain ⟨hcL, hfL⟩ := bcell hbL)
              go_wp2
              go_ret
              exact ⟨ret_bool (by simp [areB, hbad.out]), (by repeat (first | exact ext_refl _ | assumption | refine ext_alloc ?_ _ | refine ext_drew ?_ | refine ext_drewN ?_ _ | refine ext_set ?_ (by simp <;> omega) _ | refine ext_trans ?_ (by assumption)))⟩
      · obtain rfl : k = n := by omega
        go_wp2
        go_ret
        exact ⟨ret_bool (by unfold areB; rw [HL.out, hok.out]; simp; omega), hbl⟩
end Go.Proofs.Ytkgeiemelhkkcaa
