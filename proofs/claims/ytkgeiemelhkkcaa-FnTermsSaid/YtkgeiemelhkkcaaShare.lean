
/- Fractions in lowest terms; PassShare: the program's and the reference's. -/
import Derived.Test.YtkgeiemelhkkcaaBest
namespace Go.Proofs.Ytkgeiemelhkkcaa
open Go.RowKit
set_option linter.unusedVariables false
set_option linter.unusedSimpArgs false
theorem abs_any (z : Int) (w : World) (h : 0 ≤ z) : Calls Try.prog 76 #[.int .i64 z] w fun e w' => e = .returned (.int .i64 z) ∧ w = w' := by
  have h' : ¬ z < 0 := by omega
  go_enter Try.func76, Try.ntmps76
  go_wp2
  go_ret
  exact ⟨rfl, rfl⟩
theorem gcd_any (x y : Nat) (w : World) (hx : x ≤ 1000000000) (hy : y ≤ 1000000000) : Calls Try.prog 75 #[.int .i64 x, .int .i64 y] w fun e w' => e = .returned (.int .i64 (Nat.gcd x y : Nat)) ∧ Below w.heap.size w w' := by
  go_enter Try.func75, Try.ntmps75
  go_wp2
  go_loopw [0, 1] (fun a b wr => ∃ p q : Nat, p ≤ 1000000000 ∧ q ≤ 1000000000 ∧ a = .int .i64 p ∧ b = .int .i64 q ∧ Hid (Nat.gcd p q = Nat.gcd x y) ∧ Below w.heap.size w wr) (fun _ b _ => (intOf b).toNat)
  case atStart => exact ⟨x, y, hx, hy, rfl, rfl, Lib.hid rfl, ext_refl _⟩
  case round =>
    obtain ⟨p, q, hp, hq, rfl, rfl, hg, hbl⟩ := hrel
    by_cases h0 : q = 0
    · have hz : ((q : Int) != 0) = false := by simp [h0]
      have E := Lib.hid (show (p : Nat) = Nat.gcd x y by rw [← hg.out, h0]; simp)
      clear h0
      go_wp2
      go_ret
      exact ⟨by rw [← E.out]; rfl, hbl⟩
    · have hz : ((q : Int) != 0) = true := by simp; omega
      have hpos : 0 < q := by omega
      have hm : p % q < q := Nat.mod_lt _ hpos
      have E := Lib.hid (show Nat.gcd q (p % q) = Nat.gcd x y by rw [← hg.out, Nat.gcd_comm q, ← Nat.gcd_rec, Nat.gcd_comm])
      clear h0
      go_wp2
      (refine wp_region_later (by kernel_rfl) (by kernel_rfl) ?_; (repeat (go_big_quiet_step (fail))); refine wpQuiet_nil ?_; intro w1 hw1; obtain ⟨⟨wl, hbL⟩, hw1'⟩ := hw1; simp only at hw1'; subst hw1'; obtain ⟨hcL, hfL⟩ := bcell hbL)
      go_wp2
      go_roundw
      case rel => exact ⟨q, p % q, hq, by omega, rfl, by go_num, E, (by repeat (first | exact ext_refl _ | assumption | refine ext_alloc ?_ _ | refine ext_drew ?_ | refine ext_drewN ?_ _ | refine ext_set ?_ (by simp <;> omega) _ | refine ext_trans ?_ (by assumption)))⟩
      case measure => simp [intOf]; omega
theorem fraction_any (x y : Nat) (w : World) (hx : x ≤ 1000000000) (hy : y ≤ 1000000000) (h0 : 0 < y) :
    Calls Try.prog 63 #[.int .i64 x, .int .i64 y] w fun e w' => e = .returned (.tuple #[.int .i64 ((x : Int) / ((Nat.gcd x y : Nat) : Int)), .int .i64 ((y : Int) / ((Nat.gcd x y : Nat) : Int))]) ∧ Below w.heap.size w w' := by
  have hg : 0 < Nat.gcd x y := Nat.gcd_pos_of_pos_right _ h0
  generalize hG : Nat.gcd x y = G at hg
  have HG := Lib.hid hG
  clear hG
  have hz : ¬ ((G : Int) = 0) := by omega
  have q1 : 0 ≤ (x : Int) / (G : Int) := Int.ediv_nonneg (by omega) (by omega)
  have q2 : (x : Int) / (G : Int) ≤ x := Int.ediv_le_self _ (by omega)
  have q3 : 0 ≤ (y : Int) / (G : Int) := Int.ediv_nonneg (by omega) (by omega)
  have q4 : (y : Int) / (G : Int) ≤ y := Int.ediv_le_self _ (by omega)
  go_enter Try.func63, Try.ntmps63
  go_wp2_with (first | (go_at_call 76; refine (abs_any (x : Int) _ (by omega)).mono ?_; rintro e w' ⟨rfl, rfl⟩) | (go_at_call 75; refine (gcd_any x y _ hx hy).mono ?_; rw [HG.out]; rintro e w' ⟨rfl, hb⟩))
  (refine wp_region_later (by kernel_rfl) (by kernel_rfl) ?_; (repeat (go_big_quiet_step (fail))); refine wpQuiet_nil ?_; intro w1 hw1; obtain ⟨⟨wl, hbL⟩, hw1'⟩ := hw1; simp only at hw1'; subst hw1'; obtain ⟨hcL, hfL⟩ := bcell hbL)
  go_wp2
  go_ret2
  exact ⟨rfl, (by repeat (first | exact ext_refl _ | assumption | refine ext_alloc ?_ _ | refine ext_drew ?_ | refine ext_drewN ?_ _ | refine ext_set ?_ (by simp <;> omega) _ | refine ext_trans ?_ (by assumption)))⟩
theorem l1Most_any (x : Nat) (w : World) (hx : x ≤ 1000000000) : Calls Try.prog 74 #[.int .i64 x, .int .i64 (-(x : Int))] w fun e w' => e = .returned (.int .i64 x) ∧ w = w' := by
  by_cases h0 : x = 0
  · subst h0
    go_enter Try.func74, Try.ntmps74
    go_wp2
    go_ret
    exact ⟨rfl, rfl⟩
  · have h' : -(x : Int) < (x : Int) := by omega
    clear h0
    go_enter Try.func74, Try.ntmps74
    go_wp2
    go_ret
    exact ⟨rfl, rfl⟩
theorem l2Reduce_any (x y : Nat) (w : World) (hx : x ≤ 1000000000) (hy : y ≤ 1000000000) (h0 : 0 < y) :
    Calls Try.prog 62 #[.int .i64 x, .int .i64 y] w fun e w' => e = .returned (.tuple #[.int .i64 ((x : Int) / ((Nat.gcd x y : Nat) : Int)), .int .i64 ((y : Int) / ((Nat.gcd x y : Nat) : Int))]) ∧ Below w.heap.size w w' := by
  have hg : 0 < Nat.gcd x y := Nat.gcd_pos_of_pos_right _ h0
  go_enter Try.func62, Try.ntmps62
  go_wp2_with (go_at_call 74; refine (l1Most_any x _ hx).mono ?_; rintro e w' ⟨rfl, rfl⟩)
  go_loopw [6, 7] (fun a b wr => ∃ p q : Nat, p ≤ 1000000000 ∧ q ≤ 1000000000 ∧ a = .int .i64 p ∧ b = .int .i64 q ∧ Hid (Nat.gcd p q = Nat.gcd x y) ∧ Below w.heap.size w wr) (fun _ b _ => (intOf b).toNat)
  case atStart => exact ⟨x, y, hx, hy, rfl, rfl, Lib.hid rfl, ext_refl _⟩
  case round =>
    obtain ⟨p, q, hp, hq, rfl, rfl, hgg, hbl⟩ := hrel
    by_cases hq0 : q = 0
    · have hz : ((q : Int) != 0) = false := by simp [hq0]
      have hpg : p = Nat.gcd x y := by rw [← hgg.out, hq0]; simp
      have hp0 : 0 < p := by omega
      have HP := Lib.hid hpg
      clear hgg hpg hq0
      have hz2 : ¬ ((p : Int) = 0) := by omega
      have q1 : 0 ≤ (x : Int) / (p : Int) := Int.ediv_nonneg (by omega) (by omega)
      have q2 : (x : Int) / (p : Int) ≤ x := Int.ediv_le_self _ (by omega)
      have q3 : 0 ≤ (y : Int) / (p : Int) := Int.ediv_nonneg (by omega) (by omega)
      have q4 : (y : Int) / (p : Int) ≤ y := Int.ediv_le_self _ (by omega)
      go_wp2
      (refine wp_region_later (by kernel_rfl) (by kernel_rfl) ?_; (repeat (go_big_quiet_step (fail))); refine wpQuiet_nil ?_; intro w1 hw1; obtain ⟨⟨wl, hbL⟩, hw1'⟩ := hw1; simp only at hw1'; subst hw1'; obtain ⟨hcL, hfL⟩ := bcell hbL)
      go_wp2
      go_ret2
      exact ⟨by rw [← HP.out]; rfl, (by repeat (first | exact ext_refl _ | assumption | refine ext_alloc ?_ _ | refine ext_drew ?_ | refine ext_drewN ?_ _ | refine ext_set ?_ (by simp <;> omega) _ | refine ext_trans ?_ (by assumption)))⟩
    · have hz : ((q : Int) != 0) = true := by simp; omega
      have hpos : 0 < q := by omega
      have hm : p % q < q := Nat.mod_lt _ hpos
      have E := Lib.hid (show Nat.gcd q (p % q) = Nat.gcd x y by rw [← hgg.out, Nat.gcd_comm q, ← Nat.gcd_rec, Nat.gcd_comm])
      clear hq0
      go_wp2
      go_roundw
      case rel => exact ⟨q, p % q, hq, by omega, by go_num, by go_num, E, hbl⟩
      case measure => simp [intOf]; omega
def passTo (l : List R5) (k : Nat) : Nat := ((l.take k).map fun r => r.d.toNat).sum
def triedTo (l : List R5) (k : Nat) : Nat := ((l.take k).map fun r => r.c.toNat).sum
theorem sums_succ {l : List R5} {k x y : Nat} {r : R5} (hr : l[k]? = some r) (hx : passTo l k = x) (hy : triedTo l k = y) (_ : 0 ≤ r.d) (_ : 0 ≤ r.c) : passTo l (k + 1) = x + r.d.toNat ∧ triedTo l (k + 1) = y + r.c.toNat := by
  unfold passTo triedTo at *
  rw [List.take_add_one, hr]
  simp only [List.map_append, List.sum_append, hx, hy]
  simp
theorem are_len {l : List R5} (h : areB l = true) : l.length ≤ 10 := by
  simp only [areB, Bool.and_eq_true] at h
  simpa using h.1
def shareOk (l : List R5) : Bool := areB l && decide (0 < triedTo l l.length)
def shareN (l : List R5) : Int := if shareOk l = true then (passTo l l.length : Int) / ((Nat.gcd (passTo l l.length) (triedTo l l.length) : Nat) : Int) else 0
def shareD (l : List R5) : Int := if shareOk l = true then (triedTo l l.length : Int) / ((Nat.gcd (passTo l l.length) (triedTo l l.length) : Nat) : Int) else 0
theorem share_none {l : List R5} (h : triedTo l l.length = 0) : shareN l = 0 ∧ shareD l = 0 ∧ shareOk l = false := by simp [shareN, shareD, shareOk, h]
theorem share_some {l : List R5} {x y : Nat} (hg : areB l = true) (hx : passTo l l.length = x) (hy : triedTo l l.length = y) (h : 0 < y) :
    shareN l = (x : Int) / ((Nat.gcd x y : Nat) : Int) ∧ shareD l = (y : Int) / ((Nat.gcd x y : Nat) : Int) ∧ shareOk l = true := by
  simp [shareN, shareD, shareOk, hx, hy, hg, h]
set_option maxHeartbeats 1000000 in
theorem implShare_any (A : Option Addr) (n c : Nat) (l : List R5) (w : World) (hn : n ≤ 1048576) (h : Reads w w.heap.size 5 A n (rowsV l)) :
    Calls Try.prog 30 #[.slice A n c] w fun e w' => e = .returned (.tuple #[.int .i64 (shareN l), .int .i64 (shareD l), .bool (shareOk l)]) ∧ Below w.heap.size w w' := by
  have hl := rows_len h
  have H := Lib.hid h
  have HL := Lib.hid hl
  clear h hl
  cases hg : areB l
  · have E : shareN l = 0 ∧ shareD l = 0 ∧ shareOk l = false := by simp [shareN, shareD, shareOk, hg]
    rw [E.1, E.2.1, E.2.2]
    clear E
    go_enter Try.func30, Try.ntmps30
    go_wp2_with (go_at_call 21; refine (areTermRows_any A n c l _ hn H.out).mono ?_; rintro e w' ⟨rfl, hb⟩; obtain ⟨hc, hf⟩ := bcell hb; have hz := hb.size; (try simp at hz))
    go_ret3
    exact ⟨rfl, (by repeat (first | exact ext_refl _ | assumption | refine ext_alloc ?_ _ | refine ext_drew ?_ | refine ext_drewN ?_ _ | refine ext_set ?_ (by simp <;> omega) _ | refine ext_trans ?_ (by assumption)))⟩
  · have h10 : n ≤ 10 := by rw [← HL.out]; exact are_len hg
    have HG := Lib.hid (fun (k : Nat) (r : R5) (h : l[k]? = some r) => are_all hg h)
    have hg2 := Lib.hid hg
    go_enter Try.func30, Try.ntmps30
    go_wp2_with (go_at_call 21; refine (areTermRows_any A n c l _ hn H.out).mono ?_; rintro e w' ⟨rfl, hb⟩; obtain ⟨hc, hf⟩ := bcell hb; have hz := hb.size; (try simp at hz))
    go_loopw [5, 6, 16] (fun p t i wr => ∃ (k x y : Nat), k ≤ n ∧ x ≤ k * 999 ∧ y ≤ k * 999 ∧ i = .int .i64 k ∧ p = .int .i64 x ∧ t = .int .i64 y ∧ Below w.heap.size w wr ∧ Hid (passTo l k = x ∧ triedTo l k = y)) (fun _ _ i _ => n - (intOf i).toNat)
    case atStart => exact ⟨0, 0, 0, by omega, by omega, by omega, rfl, rfl, rfl, (by repeat (first | exact ext_refl _ | assumption | refine ext_alloc ?_ _ | refine ext_drew ?_ | refine ext_drewN ?_ _ | refine ext_set ?_ (by simp <;> omega) _ | refine ext_trans ?_ (by assumption))), Lib.hid ⟨rfl, rfl⟩⟩
    case round =>
      obtain ⟨k, x, y, hk, hx, hy, rfl, rfl, rfl, hbl, hst⟩ := hrel
      by_cases hlt : k < n
      · obtain ⟨r, hr⟩ := list_split (l := l) (k := k) (by rw [HL.out]; exact hlt)
        obtain ⟨b, o, rfl, hbb, c0, c1, c2, c3, c4⟩ := rows_at (H.out.ext hbl (Nat.le_refl _)) hr
        have hbw : b < wr.heap.size := Nat.lt_of_lt_of_le hbb hbl.size
        obtain ⟨y1, y2, ⟨y3, y3'⟩, ⟨y4, y4'⟩, y5⟩ := row_bounds (HG.out k r hr)
        have hs := Lib.hid (sums_succ hr hst.out.1 hst.out.2 y4 y3)
        clear hr
        go_wp2
        skip
        go_roundw
        case rel => exact ⟨k + 1, x + r.d.toNat, y + r.c.toNat, by omega, by omega, by omega, by go_num, by go_num, by go_num, (by repeat (first | exact ext_refl _ | assumption | refine ext_alloc ?_ _ | refine ext_drew ?_ | refine ext_drewN ?_ _ | refine ext_set ?_ (by simp <;> omega) _ | refine ext_trans ?_ (by assumption))), hs⟩
        case measure => simp [intOf]; omega
      · obtain rfl : k = n := by omega
        by_cases h0 : y = 0
        · have hz : ((y : Int) == 0) = true := by simp [h0]
          have E := Lib.hid (share_none (l := l) (by rw [HL.out]; exact hst.out.2.trans h0))
          clear h0
          go_wp2
          go_ret3
          exact ⟨by rw [E.out.1, E.out.2.1, E.out.2.2]; rfl, (by repeat (first | exact ext_refl _ | assumption | refine ext_alloc ?_ _ | refine ext_drew ?_ | refine ext_drewN ?_ _ | refine ext_set ?_ (by simp <;> omega) _ | refine ext_trans ?_ (by assumption)))⟩
        · have hz : ((y : Int) == 0) = false := by simp; omega
          have E := Lib.hid (share_some (l := l) (x := x) (y := y) hg2.out (by rw [HL.out]; exact hst.out.1) (by rw [HL.out]; exact hst.out.2) (by omega))
          have hpos : 0 < y := by omega
          clear h0
          go_wp2_with (go_at_call 63; refine (fraction_any x y _ (by omega) (by omega) hpos).mono ?_; rintro e w' ⟨rfl, hb⟩; obtain ⟨hc, hf⟩ := bcell hb; have hz := hb.size; (try simp at hz))
          go_ret3
          exact ⟨by rw [E.out.1, E.out.2.1, E.out.2.2]; rfl, (by repeat (first | exact ext_refl _ | assumption | refine ext_alloc ?_ _ | refine ext_drew ?_ | refine ext_drewN ?_ _ | refine ext_set ?_ (by simp <;> omega) _ | refine ext_trans ?_ (by assumption)))⟩
set_option maxHeartbeats 1000000 in
theorem specShare_any (A : Option Addr) (n c : Nat) (l : List R5) (w : World) (hn : n ≤ 1048576) (h : Reads w w.heap.size 5 A n (rowsV l)) :
    Calls Try.prog 29 #[.slice A n c] w fun e w' => e = .returned (.tuple #[.int .i64 (shareN l), .int .i64 (shareD l), .bool (shareOk l)]) ∧ Below w.heap.size w w' := by
  have hl := rows_len h
  have H := Lib.hid h
  have HL := Lib.hid hl
  clear h hl
  cases hg : areB l
  · have E : shareN l = 0 ∧ shareD l = 0 ∧ shareOk l = false := by simp [shareN, shareD, shareOk, hg]
    rw [E.1, E.2.1, E.2.2]
    clear E
    go_enter Try.func29, Try.ntmps29
    go_wp2_with (go_at_call 58; refine (l26Good_any A n c l _ hn H.out).mono ?_; rintro e w' ⟨rfl, hb⟩; obtain ⟨hc, hf⟩ := bcell hb; have hz := hb.size; (try simp at hz))
    go_ret3
    exact ⟨rfl, (by repeat (first | exact ext_refl _ | assumption | refine ext_alloc ?_ _ | refine ext_drew ?_ | refine ext_drewN ?_ _ | refine ext_set ?_ (by simp <;> omega) _ | refine ext_trans ?_ (by assumption)))⟩
  · have h10 : n ≤ 10 := by rw [← HL.out]; exact are_len hg
    have HG := Lib.hid (fun (k : Nat) (r : R5) (h : l[k]? = some r) => are_all hg h)
    have hg2 := Lib.hid hg
    go_enter Try.func29, Try.ntmps29
    go_wp2_with (go_at_call 58; refine (l26Good_any A n c l _ hn H.out).mono ?_; rintro e w' ⟨rfl, hb⟩; obtain ⟨hc, hf⟩ := bcell hb; have hz := hb.size; (try simp at hz))
    go_loopw [5, 6, 7] (fun p t i wr => ∃ (k x y : Nat), k ≤ n ∧ x ≤ k * 999 ∧ y ≤ k * 999 ∧ i = .int .i64 k ∧ p = .int .i64 x ∧ t = .int .i64 y ∧ Below w.heap.size w wr ∧ Hid (passTo l k = x ∧ triedTo l k = y)) (fun _ _ i _ => n - (intOf i).toNat)
    case atStart => exact ⟨0, 0, 0, by omega, by omega, by omega, rfl, rfl, rfl, (by repeat (first | exact ext_refl _ | assumption | refine ext_alloc ?_ _ | refine ext_drew ?_ | refine ext_drewN ?_ _ | refine ext_set ?_ (by simp <;> omega) _ | refine ext_trans ?_ (by assumption))), Lib.hid ⟨rfl, rfl⟩⟩
    case round =>
      obtain ⟨k, x, y, hk, hx, hy, rfl, rfl, rfl, hbl, hst⟩ := hrel
      by_cases hlt : k < n
      · obtain ⟨r, hr⟩ := list_split (l := l) (k := k) (by rw [HL.out]; exact hlt)
        obtain ⟨b, o, rfl, hbb, c0, c1, c2, c3, c4⟩ := rows_at (H.out.ext hbl (Nat.le_refl _)) hr
        have hbw : b < wr.heap.size := Nat.lt_of_lt_of_le hbb hbl.size
        obtain ⟨y1, y2, ⟨y3, y3'⟩, ⟨y4, y4'⟩, y5⟩ := row_bounds (HG.out k r hr)
        have hs := Lib.hid (sums_succ hr hst.out.1 hst.out.2 y4 y3)
        clear hr
        go_wp2
        skip
        go_roundw
        case rel => exact ⟨k + 1, x + r.d.toNat, y + r.c.toNat, by omega, by omega, by omega, by go_num, by go_num, by go_num, (by repeat (first | exact ext_refl _ | assumption | refine ext_alloc ?_ _ | refine ext_drew ?_ | refine ext_drewN ?_ _ | refine ext_set ?_ (by simp <;> omega) _ | refine ext_trans ?_ (by assumption))), hs⟩
        case measure => simp [intOf]; omega
      · obtain rfl : k = n := by omega
        by_cases h0 : y = 0
        · have hz : ((y : Int) == 0) = true := by simp [h0]
          have E := Lib.hid (share_none (l := l) (by rw [HL.out]; exact hst.out.2.trans h0))
          clear h0
          go_wp2
          go_ret3
          exact ⟨by rw [E.out.1, E.out.2.1, E.out.2.2]; rfl, (by repeat (first | exact ext_refl _ | assumption | refine ext_alloc ?_ _ | refine ext_drew ?_ | refine ext_drewN ?_ _ | refine ext_set ?_ (by simp <;> omega) _ | refine ext_trans ?_ (by assumption)))⟩
        · have hz : ((y : Int) == 0) = false := by simp; omega
          have E := Lib.hid (share_some (l := l) (x := x) (y := y) hg2.out (by rw [HL.out]; exact hst.out.1) (by rw [HL.out]; exact hst.out.2) (by omega))
          have hpos : 0 < y := by omega
          clear h0
          go_wp2_with (go_at_call 62; refine (l2Reduce_any x y _ (by omega) (by omega) hpos).mono ?_; rintro e w' ⟨rfl, hb⟩; obtain ⟨hc, hf⟩ := bcell hb; have hz := hb.size; (try simp at hz))
          go_ret3
          exact ⟨by rw [E.out.1, E.out.2.1, E.out.2.2]; rfl, (by repeat (first | exact ext_refl _ | assumption | refine ext_alloc ?_ _ | refine ext_drew ?_ | refine ext_drewN ?_ _ | refine ext_set ?_ (by simp <;> omega) _ | refine ext_trans ?_ (by assumption)))⟩
set_option maxHeartbeats 1000000 in
theorem law_PassShare (A : Option Addr) (n c : Nat) (l : List R5) (w : World) (hlen : n ≤ maxLen) (h : Reads w w.heap.size 5 A n (rowsV l)) :
    Calls Try.prog 8 #[.slice A n c] w fun r w' => r = .returned (.bool true) ∧ Below w.heap.size w w' := by
  unfold maxLen at hlen
  have hl := rows_len h
  by_cases hbig : (1048576 : Int) < n
  · have hs : (if (1048576 : Int) < n then (-1 : Int) else 1048576 - n) = -1 := if_pos hbig
    go_enter Try.func8, Try.ntmps8
    go_wp2_with fail
    refine (szTermRowS_any A n c 1048576 _ hlen (by omega) (by omega)).mono ?_
    rintro e w' ⟨rfl, rfl⟩
    rw [hs]
    clear hs
    go_wp2
    go_ret
    exact ⟨rfl, ext_refl _⟩
  · have hs : (if (1048576 : Int) < n then (-1 : Int) else 1048576 - n) = 1048576 - n := if_neg hbig
    go_enter Try.func8, Try.ntmps8
    go_wp2_with fail
    refine (szTermRowS_any A n c 1048576 _ hlen (by omega) (by omega)).mono ?_
    rintro e w' ⟨rfl, rfl⟩
    rw [hs]
    clear hs
    have hn : n ≤ 1048576 := by omega
    go_wp2_with fail
    refine (toTermRowS_any A n c l _ hn h).mono ?_
    rintro e w1 ⟨A1, c1, rfl, ho1, hb1⟩
    have h1 := rows_ext h hb1
    go_wp2_with fail
    refine (specShare_any A1 n c1 l _ hn (Reads.of_own ho1)).mono ?_
    rintro e w2 ⟨rfl, hb2⟩
    have h2 := rows_ext h1 hb2
    go_wp2_with fail
    refine (toTermRowS_any A n c l _ hn h2).mono ?_
    rintro e w3 ⟨A3, c3, rfl, ho3, hb3⟩
    have h3 := rows_ext h2 hb3
    have x3 := Reads.of_own ho3
    go_wp2_with fail
    refine (implShare_any A3 n c3 l _ hn x3).mono ?_
    rintro e w4 ⟨rfl, hb4⟩
    have h4 := rows_ext h3 hb4
    have x4 := rows_ext x3 hb4
    go_wp2_with fail
    refine (toTermRowS_any A n c l _ hn h4).mono ?_
    rintro e w5 ⟨A5, c5, rfl, ho5, hb5⟩
    have x5 := rows_ext x4 hb5
    have y5 := Reads.of_own ho5
    go_wp2_with fail
    refine (eqTermRowS_any A3 A5 n n c3 c5 l l _ hn hn x5 y5).mono ?_
    rintro e w6 ⟨rfl, hb6⟩
    go_wp2
    go_ret
    exact ⟨rfl, ext_trans (ext_trans (ext_trans (ext_trans (ext_trans hb1 hb2) hb3) hb4) hb5) hb6⟩
end Go.Proofs.Ytkgeiemelhkkcaa
