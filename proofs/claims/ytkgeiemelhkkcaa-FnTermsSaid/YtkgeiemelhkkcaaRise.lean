
/- LongestRise: the program's and the reference's. -/
import Derived.Test.YtkgeiemelhkkcaaGrowth
namespace Go.Proofs.Ytkgeiemelhkkcaa
open Go.RowKit
set_option linter.unusedVariables false
set_option linter.unusedSimpArgs false
def riseStep (l : List R5) (z : Nat × Nat × Nat) (k : Nat) : Nat × Nat × Nat :=
  match l[k + 1]?, l[k]? with
  | some r, some q =>
    let s := if r.b ≤ q.b then k + 1 else z.2.2
    if z.2.1 - z.1 < k + 1 - s then (s, k + 1, s) else (z.1, z.2.1, s)
  | _, _ => z
def riseTo (l : List R5) (k : Nat) : Nat × Nat × Nat := (List.range k).foldl (riseStep l) (0, 0, 0)
theorem riseTo_succ {l : List R5} {k : Nat} {r q : R5} {z : Nat × Nat × Nat} (hr : l[k + 1]? = some r) (hq : l[k]? = some q) (h : riseTo l k = z) :
    riseTo l (k + 1) = (let s := if r.b ≤ q.b then k + 1 else z.2.2; if z.2.1 - z.1 < k + 1 - s then (s, k + 1, s) else (z.1, z.2.1, s)) := by
  have : riseTo l (k + 1) = riseStep l (riseTo l k) k := by simp [riseTo, List.range_succ]
  rw [this, h, riseStep, hr, hq]
theorem rise_down {r q : R5} {f t s k : Nat} (hC : r.b ≤ q.b) (htk : t ≤ k) (hft : f ≤ t) : (let s' := if r.b ≤ q.b then k + 1 else s; if t - f < k + 1 - s' then (s', k + 1, s') else (f, t, s')) = (f, t, k + 1) := by
  simp [hC]
theorem rise_more {r q : R5} {f t s k : Nat} (hC : ¬ r.b ≤ q.b) (hD : t - f < k + 1 - s) : (let s' := if r.b ≤ q.b then k + 1 else s; if t - f < k + 1 - s' then (s', k + 1, s') else (f, t, s')) = (s, k + 1, s) := by
  simp [hC, hD]
theorem rise_less {r q : R5} {f t s k : Nat} (hC : ¬ r.b ≤ q.b) (hD : ¬ t - f < k + 1 - s) : (let s' := if r.b ≤ q.b then k + 1 else s; if t - f < k + 1 - s' then (s', k + 1, s') else (f, t, s')) = (f, t, s) := by
  simp [hC, hD]
def riseOk (l : List R5) : Bool := areB l && !l.isEmpty
def riseA (l : List R5) : Int := if riseOk l = true then ((l[(riseTo l (l.length - 1)).1]?).map R5.a).getD 0 else 0
def riseZ (l : List R5) : Int := if riseOk l = true then ((l[(riseTo l (l.length - 1)).2.1]?).map R5.a).getD 0 else 0
theorem rise_end {l : List R5} {k f t s : Nat} {x y : R5} (hok : riseOk l = true) (hk : l.length - 1 = k) (h : riseTo l k = (f, t, s)) (hx : l[f]? = some x) (hy : l[t]? = some y) : riseA l = x.a ∧ riseZ l = y.a := by
  simp [riseA, riseZ, hok, hk, h, hx, hy]
set_option maxHeartbeats 1000000 in
theorem implRise_any (A : Option Addr) (n c : Nat) (l : List R5) (w : World) (hn : n ≤ 1048576) (h : Reads w w.heap.size 5 A n (rowsV l)) :
    Calls Try.prog 28 #[.slice A n c] w fun e w' => e = .returned (.tuple #[.int .i64 (riseA l), .int .i64 (riseZ l), .bool (riseOk l)]) ∧ Below w.heap.size w w' := by
  have hl := rows_len h
  have H := Lib.hid h
  have HL := Lib.hid hl
  clear h hl
  cases hg : areB l
  · have E : riseA l = 0 ∧ riseZ l = 0 ∧ riseOk l = false := by simp [riseA, riseZ, riseOk, hg]
    rw [E.1, E.2.1, E.2.2]
    clear E
    go_enter Try.func28, Try.ntmps28
    go_wp2_with (go_at_call 21; refine (areTermRows_any A n c l _ hn H.out).mono ?_; rintro e w' ⟨rfl, hb⟩; obtain ⟨hc, hf⟩ := bcell hb; have hz := hb.size; (try simp at hz))
    go_ret3
    exact ⟨rfl, (by repeat (first | exact ext_refl _ | assumption | refine ext_alloc ?_ _ | refine ext_drew ?_ | refine ext_drewN ?_ _ | refine ext_set ?_ (by simp <;> omega) _ | refine ext_trans ?_ (by assumption)))⟩
  by_cases h0 : n = 0
  · have E : riseA l = 0 ∧ riseZ l = 0 ∧ riseOk l = false := by
      have : l = [] := List.eq_nil_of_length_eq_zero (by rw [HL.out]; exact h0)
      subst this
      simp [riseA, riseZ, riseOk]
    rw [E.1, E.2.1, E.2.2]
    clear E
    subst h0
    go_enter Try.func28, Try.ntmps28
    go_wp2_with (go_at_call 21; refine (areTermRows_any A 0 c l _ hn H.out).mono ?_; rintro e w' ⟨rfl, hb⟩; obtain ⟨hc, hf⟩ := bcell hb; have hz := hb.size; (try simp at hz))
    go_ret3
    exact ⟨rfl, (by repeat (first | exact ext_refl _ | assumption | refine ext_alloc ?_ _ | refine ext_drew ?_ | refine ext_drewN ?_ _ | refine ext_set ?_ (by simp <;> omega) _ | refine ext_trans ?_ (by assumption)))⟩
  · have hz : ((n : Int) == 0) = false := by simp; omega
    have hpos : 0 < n := by omega
    have hok : riseOk l = true := by
      have hne : l ≠ [] := fun e => by
        have := HL.out; rw [e] at this; simp at this; omega
      simp [riseOk, hg, hne]
    rw [hok]
    have HOK := Lib.hid hok
    clear h0 hok
    go_enter Try.func28, Try.ntmps28
    go_wp2_with (go_at_call 21; refine (areTermRows_any A n c l _ hn H.out).mono ?_; rintro e w' ⟨rfl, hb⟩; obtain ⟨hc, hf⟩ := bcell hb; have hz := hb.size; (try simp at hz))
    go_loopw [5, 6, 7, 8] (fun a b d i wr => ∃ k f t s : Nat, k + 1 ≤ n ∧ f ≤ t ∧ t ≤ k ∧ s ≤ k ∧ i = .int .i64 ((k : Int) + 1) ∧ a = .int .i64 f ∧ b = .int .i64 t ∧ d = .int .i64 s ∧ Below w.heap.size w wr ∧ Hid (riseTo l k = (f, t, s))) (fun _ _ _ i _ => n - (intOf i).toNat)
    case atStart => exact ⟨0, 0, 0, 0, by omega, by omega, by omega, by omega, rfl, rfl, rfl, rfl, (by repeat (first | exact ext_refl _ | assumption | refine ext_alloc ?_ _ | refine ext_drew ?_ | refine ext_drewN ?_ _ | refine ext_set ?_ (by simp <;> omega) _ | refine ext_trans ?_ (by assumption))), Lib.hid rfl⟩
    case round =>
      obtain ⟨k, f, t, s, hk, hft, htk, hsk, rfl, rfl, rfl, rfl, hbl, hst⟩ := hrel
      by_cases hlt : k + 1 < n
      · obtain ⟨r, hr⟩ := list_split (l := l) (k := k + 1) (by rw [HL.out]; exact hlt)
        obtain ⟨b, o, rfl, hbb, c0, c1, c2, c3, c4⟩ := rows_at (H.out.ext hbl (Nat.le_refl _)) hr
        obtain ⟨q, hq⟩ := list_split (l := l) (k := k) (by rw [HL.out]; omega)
        obtain ⟨b', o', hA, hb', d0, d1, d2, d3, d4⟩ := rows_at (H.out.ext hbl (Nat.le_refl _)) hq
        injection hA with hA
        injection hA with hA1 hA2
        subst hA1 hA2
        have hbw : b < wr.heap.size := Nat.lt_of_lt_of_le hbb hbl.size
        have hnew := Lib.hid (riseTo_succ hr hq hst.out)
        clear hr hq
        by_cases hC : r.b ≤ q.b
        · have e1 : decide (r.b ≤ q.b) = true := by simpa using hC
          have hnew2 := Lib.hid (hnew.out.trans (rise_down hC htk hft))
          clear hC
          by_cases hD : t - f < 0
          · omega
          have hD' : ¬ ((t : Int) - (f : Int) < 0) := by omega
          clear hD
          go_wp2
          (refine wp_region_later (by kernel_rfl) (by kernel_rfl) ?_; (repeat (go_big_quiet_step (fail))); refine wpQuiet_nil ?_; intro w1 hw1; obtain ⟨⟨wl, hbL⟩, hw1'⟩ := hw1; simp only at hw1'; subst hw1'; obtain ⟨hcL, hfL⟩ := bcell hbL)
          go_wp2
          go_roundw
          case rel => exact ⟨k + 1, f, t, k + 1, by omega, by omega, by omega, by omega, by go_num, by go_num, by go_num, by go_num, (by repeat (first | exact ext_refl _ | assumption | refine ext_alloc ?_ _ | refine ext_drew ?_ | refine ext_drewN ?_ _ | refine ext_set ?_ (by simp <;> omega) _ | refine ext_trans ?_ (by assumption))), hnew2⟩
          case measure => simp [intOf]; omega
        · have e1 : decide (r.b ≤ q.b) = false := by simpa using hC
          by_cases hD : t - f < k + 1 - s
          · have hD' : (t : Int) - (f : Int) < (k : Int) + 1 - (s : Int) := by omega
            have hnew2 := Lib.hid (hnew.out.trans (rise_more hC hD))
            clear hC
            go_wp2
            (refine wp_region_later (by kernel_rfl) (by kernel_rfl) ?_; (repeat (go_big_quiet_step (fail))); refine wpQuiet_nil ?_; intro w1 hw1; obtain ⟨⟨wl, hbL⟩, hw1'⟩ := hw1; simp only at hw1'; subst hw1'; obtain ⟨hcL, hfL⟩ := bcell hbL)
            go_wp2
            go_roundw
            case rel => exact ⟨k + 1, s, k + 1, s, by omega, by omega, by omega, by omega, by go_num, by go_num, by go_num, by go_num, (by repeat (first | exact ext_refl _ | assumption | refine ext_alloc ?_ _ | refine ext_drew ?_ | refine ext_drewN ?_ _ | refine ext_set ?_ (by simp <;> omega) _ | refine ext_trans ?_ (by assumption))), hnew2⟩
            case measure => simp [intOf]; omega
          · have hD' : ¬ ((t : Int) - (f : Int) < (k : Int) + 1 - (s : Int)) := by omega
            have hnew2 := Lib.hid (hnew.out.trans (rise_less hC hD))
            clear hC
            go_wp2
            (refine wp_region_later (by kernel_rfl) (by kernel_rfl) ?_; (repeat (go_big_quiet_step (fail))); refine wpQuiet_nil ?_; intro w1 hw1; obtain ⟨⟨wl, hbL⟩, hw1'⟩ := hw1; simp only at hw1'; subst hw1'; obtain ⟨hcL, hfL⟩ := bcell hbL)
            go_wp2
            go_roundw
            case rel => exact ⟨k + 1, f, t, s, by omega, by omega, by omega, by omega, by go_num, by go_num, by go_num, by go_num, (by repeat (first | exact ext_refl _ | assumption | refine ext_alloc ?_ _ | refine ext_drew ?_ | refine ext_drewN ?_ _ | refine ext_set ?_ (by simp <;> omega) _ | refine ext_trans ?_ (by assumption))), hnew2⟩
            case measure => simp [intOf]; omega
      · obtain ⟨x, hx⟩ := list_split (l := l) (k := f) (by rw [HL.out]; omega)
        obtain ⟨y, hy⟩ := list_split (l := l) (k := t) (by rw [HL.out]; omega)
        obtain ⟨b, o, rfl, hbb, c0, c1, c2, c3, c4⟩ := rows_at (H.out.ext hbl (Nat.le_refl _)) hx
        obtain ⟨b', o', hA, hb', d0, d1, d2, d3, d4⟩ := rows_at (H.out.ext hbl (Nat.le_refl _)) hy
        injection hA with hA
        injection hA with hA1 hA2
        subst hA1 hA2
        have hbw : b < wr.heap.size := Nat.lt_of_lt_of_le hbb hbl.size
        have hfin := Lib.hid (rise_end (l := l) (k := k) (f := f) (t := t) (s := s) HOK.out (by rw [HL.out]; omega) hst.out hx hy)
        clear hx hy
        have q1 : (f : Int) < (n : Int) := by omega
        have q2 : (t : Int) < (n : Int) := by omega
        go_wp2
        (refine wp_region_later (by kernel_rfl) (by kernel_rfl) ?_; (repeat (go_big_quiet_step (fail))); refine wpQuiet_nil ?_; intro w1 hw1; obtain ⟨⟨wl, hbL⟩, hw1'⟩ := hw1; simp only at hw1'; subst hw1'; obtain ⟨hcL, hfL⟩ := bcell hbL)
        go_wp2
        go_ret3
        exact ⟨by rw [hfin.out.1, hfin.out.2]; rfl, (by repeat (first | exact ext_refl _ | assumption | refine ext_alloc ?_ _ | refine ext_drew ?_ | refine ext_drewN ?_ _ | refine ext_set ?_ (by simp <;> omega) _ | refine ext_trans ?_ (by assumption)))⟩
set_option maxHeartbeats 1000000 in
theorem specRise_any (A : Option Addr) (n c : Nat) (l : List R5) (w : World) (hn : n ≤ 1048576) (h : Reads w w.heap.size 5 A n (rowsV l)) :
    Calls Try.prog 27 #[.slice A n c] w fun e w' => e = .returned (.tuple #[.int .i64 (riseA l), .int .i64 (riseZ l), .bool (riseOk l)]) ∧ Below w.heap.size w w' := by
  have hl := rows_len h
  have H := Lib.hid h
  have HL := Lib.hid hl
  clear h hl
  cases hg : areB l
  · have E : riseA l = 0 ∧ riseZ l = 0 ∧ riseOk l = false := by simp [riseA, riseZ, riseOk, hg]
    rw [E.1, E.2.1, E.2.2]
    clear E
    go_enter Try.func27, Try.ntmps27
    go_wp2_with (go_at_call 58; refine (l26Good_any A n c l _ hn H.out).mono ?_; rintro e w' ⟨rfl, hb⟩; obtain ⟨hc, hf⟩ := bcell hb; have hz := hb.size; (try simp at hz))
    go_ret3
    exact ⟨rfl, (by repeat (first | exact ext_refl _ | assumption | refine ext_alloc ?_ _ | refine ext_drew ?_ | refine ext_drewN ?_ _ | refine ext_set ?_ (by simp <;> omega) _ | refine ext_trans ?_ (by assumption)))⟩
  by_cases h0 : n = 0
  · have E : riseA l = 0 ∧ riseZ l = 0 ∧ riseOk l = false := by
      have : l = [] := List.eq_nil_of_length_eq_zero (by rw [HL.out]; exact h0)
      subst this
      simp [riseA, riseZ, riseOk]
    rw [E.1, E.2.1, E.2.2]
    clear E
    subst h0
    go_enter Try.func27, Try.ntmps27
    go_wp2_with (go_at_call 58; refine (l26Good_any A 0 c l _ hn H.out).mono ?_; rintro e w' ⟨rfl, hb⟩; obtain ⟨hc, hf⟩ := bcell hb; have hz := hb.size; (try simp at hz))
    go_ret3
    exact ⟨rfl, (by repeat (first | exact ext_refl _ | assumption | refine ext_alloc ?_ _ | refine ext_drew ?_ | refine ext_drewN ?_ _ | refine ext_set ?_ (by simp <;> omega) _ | refine ext_trans ?_ (by assumption)))⟩
  · have hz : ((n : Int) == 0) = false := by simp; omega
    have hpos : 0 < n := by omega
    have hok : riseOk l = true := by
      have hne : l ≠ [] := fun e => by
        have := HL.out; rw [e] at this; simp at this; omega
      simp [riseOk, hg, hne]
    rw [hok]
    have HOK := Lib.hid hok
    clear h0 hok
    go_enter Try.func27, Try.ntmps27
    go_wp2_with (go_at_call 58; refine (l26Good_any A n c l _ hn H.out).mono ?_; rintro e w' ⟨rfl, hb⟩; obtain ⟨hc, hf⟩ := bcell hb; have hz := hb.size; (try simp at hz))
    go_loopw [5, 6, 7, 8] (fun a b d i wr => ∃ k f t s : Nat, k + 1 ≤ n ∧ f ≤ t ∧ t ≤ k ∧ s ≤ k ∧ i = .int .i64 ((k : Int) + 1) ∧ a = .int .i64 s ∧ b = .int .i64 f ∧ d = .int .i64 t ∧ Below w.heap.size w wr ∧ Hid (riseTo l k = (f, t, s))) (fun _ _ _ i _ => n - (intOf i).toNat)
    case atStart => exact ⟨0, 0, 0, 0, by omega, by omega, by omega, by omega, rfl, rfl, rfl, rfl, (by repeat (first | exact ext_refl _ | assumption | refine ext_alloc ?_ _ | refine ext_drew ?_ | refine ext_drewN ?_ _ | refine ext_set ?_ (by simp <;> omega) _ | refine ext_trans ?_ (by assumption))), Lib.hid rfl⟩
    case round =>
      obtain ⟨k, f, t, s, hk, hft, htk, hsk, rfl, rfl, rfl, rfl, hbl, hst⟩ := hrel
      by_cases hlt : k + 1 < n
      · obtain ⟨r, hr⟩ := list_split (l := l) (k := k + 1) (by rw [HL.out]; exact hlt)
        obtain ⟨b, o, rfl, hbb, c0, c1, c2, c3, c4⟩ := rows_at (H.out.ext hbl (Nat.le_refl _)) hr
        obtain ⟨q, hq⟩ := list_split (l := l) (k := k) (by rw [HL.out]; omega)
        obtain ⟨b', o', hA, hb', d0, d1, d2, d3, d4⟩ := rows_at (H.out.ext hbl (Nat.le_refl _)) hq
        injection hA with hA
        injection hA with hA1 hA2
        subst hA1 hA2
        have hbw : b < wr.heap.size := Nat.lt_of_lt_of_le hbb hbl.size
        have hnew := Lib.hid (riseTo_succ hr hq hst.out)
        clear hr hq
        by_cases hC : r.b ≤ q.b
        · have e1 : decide (r.b ≤ q.b) = true := by simpa using hC
          have hnew2 := Lib.hid (hnew.out.trans (rise_down hC htk hft))
          clear hC
          by_cases hD : t - f < 0
          · omega
          have hD' : ¬ ((t : Int) - (f : Int) < 0) := by omega
          clear hD
          go_wp2
          (refine wp_region_later (by kernel_rfl) (by kernel_rfl) ?_; (repeat (go_big_quiet_step (fail))); refine wpQuiet_nil ?_; intro w1 hw1; obtain ⟨⟨wl, hbL⟩, hw1'⟩ := hw1; simp only at hw1'; subst hw1'; obtain ⟨hcL, hfL⟩ := bcell hbL)
          go_wp2
          go_roundw
          case rel => exact ⟨k + 1, f, t, k + 1, by omega, by omega, by omega, by omega, by go_num, by go_num, by go_num, by go_num, (by repeat (first | exact ext_refl _ | assumption | refine ext_alloc ?_ _ | refine ext_drew ?_ | refine ext_drewN ?_ _ | refine ext_set ?_ (by simp <;> omega) _ | refine ext_trans ?_ (by assumption))), hnew2⟩
          case measure => simp [intOf]; omega
        · have e1 : decide (r.b ≤ q.b) = false := by simpa using hC
          by_cases hD : t - f < k + 1 - s
          · have hD' : (t : Int) - (f : Int) < (k : Int) + 1 - (s : Int) := by omega
            have hnew2 := Lib.hid (hnew.out.trans (rise_more hC hD))
            clear hC
            go_wp2
            (refine wp_region_later (by kernel_rfl) (by kernel_rfl) ?_; (repeat (go_big_quiet_step (fail))); refine wpQuiet_nil ?_; intro w1 hw1; obtain ⟨⟨wl, hbL⟩, hw1'⟩ := hw1; simp only at hw1'; subst hw1'; obtain ⟨hcL, hfL⟩ := bcell hbL)
            go_wp2
            go_roundw
            case rel => exact ⟨k + 1, s, k + 1, s, by omega, by omega, by omega, by omega, by go_num, by go_num, by go_num, by go_num, (by repeat (first | exact ext_refl _ | assumption | refine ext_alloc ?_ _ | refine ext_drew ?_ | refine ext_drewN ?_ _ | refine ext_set ?_ (by simp <;> omega) _ | refine ext_trans ?_ (by assumption))), hnew2⟩
            case measure => simp [intOf]; omega
          · have hD' : ¬ ((t : Int) - (f : Int) < (k : Int) + 1 - (s : Int)) := by omega
            have hnew2 := Lib.hid (hnew.out.trans (rise_less hC hD))
            clear hC
            go_wp2
            (refine wp_region_later (by kernel_rfl) (by kernel_rfl) ?_; (repeat (go_big_quiet_step (fail))); refine wpQuiet_nil ?_; intro w1 hw1; obtain ⟨⟨wl, hbL⟩, hw1'⟩ := hw1; simp only at hw1'; subst hw1'; obtain ⟨hcL, hfL⟩ := bcell hbL)
            go_wp2
            go_roundw
            case rel => exact ⟨k + 1, f, t, s, by omega, by omega, by omega, by omega, by go_num, by go_num, by go_num, by go_num, (by repeat (first | exact ext_refl _ | assumption | refine ext_alloc ?_ _ | refine ext_drew ?_ | refine ext_drewN ?_ _ | refine ext_set ?_ (by simp <;> omega) _ | refine ext_trans ?_ (by assumption))), hnew2⟩
            case measure => simp [intOf]; omega
      · obtain ⟨x, hx⟩ := list_split (l := l) (k := f) (by rw [HL.out]; omega)
        obtain ⟨y, hy⟩ := list_split (l := l) (k := t) (by rw [HL.out]; omega)
        obtain ⟨b, o, rfl, hbb, c0, c1, c2, c3, c4⟩ := rows_at (H.out.ext hbl (Nat.le_refl _)) hx
        obtain ⟨b', o', hA, hb', d0, d1, d2, d3, d4⟩ := rows_at (H.out.ext hbl (Nat.le_refl _)) hy
        injection hA with hA
        injection hA with hA1 hA2
        subst hA1 hA2
        have hbw : b < wr.heap.size := Nat.lt_of_lt_of_le hbb hbl.size
        have hfin := Lib.hid (rise_end (l := l) (k := k) (f := f) (t := t) (s := s) HOK.out (by rw [HL.out]; omega) hst.out hx hy)
        clear hx hy
        have q1 : (f : Int) < (n : Int) := by omega
        have q2 : (t : Int) < (n : Int) := by omega
        go_wp2
        (refine wp_region_later (by kernel_rfl) (by kernel_rfl) ?_; (repeat (go_big_quiet_step (fail))); refine wpQuiet_nil ?_; intro w1 hw1; obtain ⟨⟨wl, hbL⟩, hw1'⟩ := hw1; simp only at hw1'; subst hw1'; obtain ⟨hcL, hfL⟩ := bcell hbL)
        go_wp2
        go_ret3
        exact ⟨by rw [hfin.out.1, hfin.out.2]; rfl, (by repeat (first | exact ext_refl _ | assumption | refine ext_alloc ?_ _ | refine ext_drew ?_ | refine ext_drewN ?_ _ | refine ext_set ?_ (by simp <;> omega) _ | refine ext_trans ?_ (by assumption)))⟩
set_option maxHeartbeats 1000000 in
theorem law_LongestRise (A : Option Addr) (n c : Nat) (l : List R5) (w : World) (hlen : n ≤ maxLen) (h : Reads w w.heap.size 5 A n (rowsV l)) :
    Calls Try.prog 7 #[.slice A n c] w fun r w' => r = .returned (.bool true) ∧ Below w.heap.size w w' := by
  unfold maxLen at hlen
  have hl := rows_len h
  by_cases hbig : (1048576 : Int) < n
  · have hs : (if (1048576 : Int) < n then (-1 : Int) else 1048576 - n) = -1 := if_pos hbig
    go_enter Try.func7, Try.ntmps7
    go_wp2_with fail
    refine (szTermRowS_any A n c 1048576 _ hlen (by omega) (by omega)).mono ?_
    rintro e w' ⟨rfl, rfl⟩
    rw [hs]
    clear hs
    go_wp2
    go_ret
    exact ⟨rfl, ext_refl _⟩
  · have hs : (if (1048576 : Int) < n then (-1 : Int) else 1048576 - n) = 1048576 - n := if_neg hbig
    go_enter Try.func7, Try.ntmps7
    go_wp2_with fail
    refine (szTermRowS_any A n c 1048576 _ hlen (by omega) (by omega)).mono ?_
    rintro e w' ⟨rfl, rfl⟩
    rw [hs]
    clear hs
    have hn : n ≤ 1048576 := by omega
    go_wp2_with fail
    refine (toTermRowS_any A n c l _ hn h).mono ?_
    rintro e w1 ⟨A1, c1, rfl, ho1, hb1⟩
    have h1 := rows_ext h hb1
    go_wp2_with fail
    refine (specRise_any A1 n c1 l _ hn (Reads.of_own ho1)).mono ?_
    rintro e w2 ⟨rfl, hb2⟩
    have h2 := rows_ext h1 hb2
    go_wp2_with fail
    refine (toTermRowS_any A n c l _ hn h2).mono ?_
    rintro e w3 ⟨A3, c3, rfl, ho3, hb3⟩
    have h3 := rows_ext h2 hb3
    have x3 := Reads.of_own ho3
    go_wp2_with fail
    refine (implRise_any A3 n c3 l _ hn x3).mono ?_
    rintro e w4 ⟨rfl, hb4⟩
    have h4 := rows_ext h3 hb4
    have x4 := rows_ext x3 hb4
    go_wp2_with fail
    refine (toTermRowS_any A n c l _ hn h4).mono ?_
    rintro e w5 ⟨A5, c5, rfl, ho5, hb5⟩
    have x5 := rows_ext x4 hb5
    have y5 := Reads.of_own ho5
    go_wp2_with fail
    refine (eqTermRowS_any A3 A5 n n c3 c5 l l _ hn hn x5 y5).mono ?_
    rintro e w6 ⟨rfl, hb6⟩
    go_wp2
    go_ret
    exact ⟨rfl, ext_trans (ext_trans (ext_trans (ext_trans (ext_trans hb1 hb2) hb3) hb4) hb5) hb6⟩
end Go.Proofs.Ytkgeiemelhkkcaa
