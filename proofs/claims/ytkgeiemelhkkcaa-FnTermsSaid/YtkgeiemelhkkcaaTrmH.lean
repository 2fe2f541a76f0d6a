
/- The helpers of the laws over reports: rBig, rInts, rTerms, rHas, rSum; the drawings out of a code. -/
import Derived.IntWalk
import Derived.Test.YtkgeiemelhkkcaaMarks
import Derived.Test.YtkgeiemelhkkcaaRows5
import Derived.Test.YtkgeiemelhkkcaaCode
import Derived.Test.YtkgeiemelhkkcaaTrmR
namespace Go.Proofs.Ytkgeiemelhkkcaa
open Go.RowKit
set_option linter.unusedVariables false
set_option linter.unusedSimpArgs false
theorem rBig_any (A : Option Addr) (n c : Nat) (w : World) : Calls Try.prog 44 #[.slice A n c] w fun e w' => e = .returned (.bool (decide ((65536 : Int) < n))) ∧ Below w.heap.size w w' := by
  go_enter Try.func44, Try.ntmps44
  go_wp2
  go_ret
  exact ⟨rfl, ext_refl _⟩
set_option maxHeartbeats 1000000 in
theorem rInts_same (A B : Option Addr) (n c d : Nat) (l : List Int) (w : World) (hn : n ≤ 1048576) (h : Reads w w.heap.size 1 A n (intsV l)) (h' : Reads w w.heap.size 1 B n (intsV l)) :
    Calls Try.prog 47 #[.slice A n c, .slice B n d] w fun e w' => e = .returned (.bool true) ∧ Below w.heap.size w w' := by
  have hl := ints_len h
  have H := Lib.hid h
  have H' := Lib.hid h'
  have HL := Lib.hid hl
  clear h h' hl
  go_enter Try.func47, Try.ntmps47
  go_wp2
  go_loopw [5] (fun i wr => ∃ k : Nat, k ≤ n ∧ i = .int .i64 k ∧ Hid (Below w.heap.size w wr)) (fun i _ => n - (intOf i).toNat)
  case atStart => exact ⟨0, Nat.zero_le _, rfl, Lib.hid (ext_refl _)⟩
  case round =>
    obtain ⟨k, hk, rfl, hbl⟩ := hrel
    by_cases hlt : k < n
    · obtain ⟨r, hr⟩ := list_split (l := l) (k := k) (by rw [HL.out]; exact hlt)
      obtain ⟨b, o, rfl, hb, c0⟩ := ints_at (H.out.ext hbl.out (Nat.le_refl _)) hr
      obtain ⟨b', o', rfl, hb', d0⟩ := ints_at (H'.out.ext hbl.out (Nat.le_refl _)) hr
      have s0 := hbl.out.size
      have hk1 : (k : Int) < (n : Int) := by omega
      have hk0 : (0 : Int) ≤ (k : Int) := by omega
      have hb2 : b < wr.heap.size := by omega
      have hb3 : b' < wr.heap.size := by omega
      clear hr
      go_wp2
      (refine wp_region_later (by kernel_rfl) (by kernel_rfl) ?_; (repeat (go_big_quiet_step (fail))); refine wpQuiet_nil ?_; intro w1 hw1; obtain ⟨⟨wl, hbL⟩, hw1'⟩ := hw1; simp only at hw1'; subst hw1'; obtain ⟨hcL, hfL⟩ := bcell hbL)
      have hbl2 := Lib.hid (ext_trans hbl.out hbL)
      clear hcL hfL hbL
      go_wp2
      go_roundw
      case rel => exact ⟨k + 1, by omega, by go_num, hbl2⟩
      case measure => simp [intOf]; omega
    · obtain rfl : k = n := by omega
      go_wp2
      go_ret
      exact ⟨rfl, hbl.out⟩
set_option maxHeartbeats 1000000 in
theorem rTerms_same (A B : Option Addr) (n c d : Nat) (l : List R5) (w : World) (hn : n ≤ 1048576) (h : Reads w w.heap.size 5 A n (rowsV l)) (h' : Reads w w.heap.size 5 B n (rowsV l)) :
    Calls Try.prog 54 #[.slice A n c, .slice B n d] w fun e w' => e = .returned (.bool true) ∧ Below w.heap.size w w' := by
  have hl := rows_len h
  have H := Lib.hid h
  have H' := Lib.hid h'
  have HL := Lib.hid hl
  clear h h' hl
  go_enter Try.func54, Try.ntmps54
  go_wp2
  go_loopw [5] (fun i wr => ∃ k : Nat, k ≤ n ∧ i = .int .i64 k ∧ Hid (Below w.heap.size w wr)) (fun i _ => n - (intOf i).toNat)
  case atStart => exact ⟨0, Nat.zero_le _, rfl, Lib.hid (ext_refl _)⟩
  case round =>
    obtain ⟨k, hk, rfl, hbl⟩ := hrel
    by_cases hlt : k < n
    · obtain ⟨r, hr⟩ := list_split (l := l) (k := k) (by rw [HL.out]; exact hlt)
      obtain ⟨b, o, rfl, hb, c0, c1, c2, c3, c4⟩ := rows_at (H.out.ext hbl.out (Nat.le_refl _)) hr
      obtain ⟨b', o', rfl, hb', d0, d1, d2, d3, d4⟩ := rows_at (H'.out.ext hbl.out (Nat.le_refl _)) hr
      have s0 := hbl.out.size
      have hk1 : (k : Int) < (n : Int) := by omega
      have hk0 : (0 : Int) ≤ (k : Int) := by omega
      have hb2 : b < wr.heap.size := by omega
      have hb3 : b' < wr.heap.size := by omega
      clear hr
      go_wp2
      (refine wp_region_later (by kernel_rfl) (by kernel_rfl) ?_; (repeat (go_big_quiet_step (fail))); refine wpQuiet_nil ?_; intro w1 hw1; obtain ⟨⟨wl, hbL⟩, hw1'⟩ := hw1; simp only at hw1'; subst hw1'; obtain ⟨hcL, hfL⟩ := bcell hbL)
      have hbl2 := Lib.hid (ext_trans hbl.out hbL)
      clear hcL hfL hbL
      go_wp2
      go_roundw
      case rel => exact ⟨k + 1, by omega, by go_num, hbl2⟩
      case measure => simp [intOf]; omega
    · obtain rfl : k = n := by omega
      go_wp2
      go_ret
      exact ⟨rfl, hbl.out⟩
set_option maxHeartbeats 1000000 in
theorem rHas_yes (A : Option Addr) (n c : Nat) (l : List Int) (x : Int) (w : World) (hn : n ≤ 1048576) (h : Reads w w.heap.size 1 A n (intsV l)) (hx : x ∈ l) :
    Calls Try.prog 48 #[.slice A n c, .int .i64 x] w fun e w' => e = .returned (.bool true) ∧ Below w.heap.size w w' := by
  have hl := ints_len h
  obtain ⟨j, hj, hjx⟩ := List.mem_iff_getElem.1 hx
  have hjl : l[j]? = some x := by rw [List.getElem?_eq_getElem hj, hjx]
  have hjn : j < n := by omega
  have H := Lib.hid h
  have HL := Lib.hid hl
  have HJ := Lib.hid hjl
  clear h hl hx hjl hjx hj
  go_enter Try.func48, Try.ntmps48
  go_wp2
  go_loopw [5] (fun i wr => ∃ k : Nat, k ≤ j ∧ i = .int .i64 k ∧ wr = w) (fun i _ => n - (intOf i).toNat)
  case atStart => exact ⟨0, Nat.zero_le _, rfl, rfl⟩
  case round =>
    obtain ⟨k, hk, rfl, rfl⟩ := hrel
    have hk1 : (k : Int) < (n : Int) := by omega
    have hk0 : (0 : Int) ≤ (k : Int) := by omega
    obtain ⟨r, hr⟩ := list_split (l := l) (k := k) (by rw [HL.out]; omega)
    obtain ⟨b, o, rfl, hb, c0⟩ := ints_at H.out hr
    by_cases hne : r = x
    · have hn2 : (r == x) = true := by simpa using hne
      clear hr hne
      go_wp2
      go_ret
      exact ⟨rfl, ext_refl _⟩
    · have hn2 : (r == x) = false := by simpa using hne
      have hkj : k ≠ j := by
        intro e
        subst e
        rw [HJ.out] at hr
        injection hr with hr
        exact hne hr.symm
      clear hr hne
      go_wp2
      go_roundw
      case rel => exact ⟨k + 1, by omega, by go_num, by first | rfl | trivial⟩
      case measure => simp [intOf]; omega
set_option maxHeartbeats 1000000 in
theorem rSum_any (A : Option Addr) (n c : Nat) (l : List Int) (M : Int) (w : World) (hn : n ≤ 1000) (hM : 0 ≤ M ∧ M ≤ 1000000) (hl0 : ∀ z ∈ l, -M ≤ z ∧ z ≤ M) (h : Reads w w.heap.size 1 A n (intsV l)) :
    Calls Try.prog 52 #[.slice A n c] w fun e w' => e = .returned (.int .i64 l.sum) ∧ Below w.heap.size w w' := by
  have hl := ints_len h
  have H := Lib.hid h
  have HL := Lib.hid hl
  have HZ := Lib.hid hl0
  clear h hl hl0
  have hs : ∀ k, k ≤ n → -(k * M) ≤ (l.take k).sum ∧ (l.take k).sum ≤ k * M := by
    intro k
    induction k with
    | zero => intro _; simp
    | succ k ih =>
      intro hk
      obtain ⟨r, hr⟩ := list_split (l := l) (k := k) (by rw [HL.out]; omega)
      obtain ⟨h1, h2⟩ := ih (by omega)
      have h3 := HZ.out r (List.mem_of_getElem? hr)
      rw [List.take_add_one, hr]
      have : ((k + 1 : Nat) : Int) * M = k * M + M := by rw [show ((k + 1 : Nat) : Int) = (k : Int) + 1 from by omega, Int.add_mul, Int.one_mul]
      simp
      rw [show ((k : Int) + 1) * M = k * M + M from by rw [Int.add_mul, Int.one_mul]]
      omega
  have HS := Lib.hid hs
  clear hs
  go_enter Try.func52, Try.ntmps52
  go_wp2
  go_loopw [3, 4] (fun s i wr => ∃ k : Nat, k ≤ n ∧ i = .int .i64 k ∧ s = .int .i64 (l.take k).sum ∧ wr = w) (fun _ i _ => n - (intOf i).toNat)
  case atStart => exact ⟨0, Nat.zero_le _, rfl, by simp, rfl⟩
  case round =>
    obtain ⟨k, hk, rfl, rfl, rfl⟩ := hrel
    by_cases hlt : k < n
    · obtain ⟨r, hr⟩ := list_split (l := l) (k := k) (by rw [HL.out]; exact hlt)
      obtain ⟨b, o, rfl, hb, c0⟩ := ints_at H.out hr
      have hk1 : (k : Int) < (n : Int) := by omega
      have hk0 : (0 : Int) ≤ (k : Int) := by omega
      have hsum : (l.take (k + 1)).sum = (l.take k).sum + r := by rw [List.take_add_one, hr]; simp
      obtain ⟨h1, h2⟩ := HS.out k hk
      obtain ⟨h3, h4⟩ := HZ.out r (List.mem_of_getElem? hr)
      have h5 : (k : Int) * M ≤ 1000 * 1000000 := Int.mul_le_mul (by omega) hM.2 hM.1 (by omega)
      obtain ⟨S, hS⟩ : ∃ S, (l.take k).sum = S := ⟨_, rfl⟩
      rw [hS] at h1 h2 hsum ⊢
      have HSM := Lib.hid hsum
      clear hr hS hsum
      go_wp2
      go_roundw
      case rel => exact ⟨k + 1, by omega, by go_num, by rw [HSM.out], by first | rfl | trivial⟩
      case measure => simp [intOf]; omega
    · obtain rfl : k = n := by omega
      have ht : l.take k = l := List.take_of_length_le (by rw [HL.out]; exact Nat.le_refl _)
      rw [ht]
      clear ht
      go_wp2
      go_ret
      exact ⟨rfl, ext_refl _⟩
/-- rows are drawn out of a code -/
def DrawnTRs (w : World) (e : Ending) (w' : World) : Prop := ∃ (l : List R5) (A : Option Addr) (c : Nat), e = .returned (.slice A l.length c) ∧ l.length ≤ 12 ∧ w'.ownsRow w.heap.size 25 5 (.slice A l.length c) l.length (rowsV l) ∧ Below w.heap.size w w'
theorem drawAre_any (Ac : Option Addr) (nc cc : Nat) (w : World) (h : Code w w.heap.size Ac nc) (hn : nc ≤ 65536) : Calls Try.prog 69 #[.slice Ac nc cc] w (DrawnTRs w) := by
  have HC := Lib.hid (h.cur (by omega) cc)
  clear h
  go_enter Try.func69, Try.ntmps69
  go_wp2_with fail
  refine (termRows_any _ 0 _ HC.out (by omega)).mono ?_
  rintro e w1 ⟨l, A, c, a1, rfl, hl, ho, ha1, hc, hg⟩
  have X1 := Lib.hid (Gr.below (ext_alloc (ext_refl w) (.cells #[.slice Ac nc cc, .int .i64 0, .int .u64 0] 73)) hg (Nat.le_refl _))
  have O1 := Lib.hid (own_base (base' := w.heap.size) ho (by omega))
  clear hc hg ho HC
  go_wp2
  go_ret
  exact ⟨l, A, c, rfl, hl, O1.out, X1.out⟩
theorem drawBestTerm_any (Ac : Option Addr) (nc cc : Nat) (w : World) (h : Code w w.heap.size Ac nc) (hn : nc ≤ 65536) : Calls Try.prog 45 #[.slice Ac nc cc] w (DrawnTRs w) := by
  go_enter Try.func45, Try.ntmps45
  go_wp2_with fail
  refine (drawAre_any Ac nc cc w h hn).mono ?_
  rintro e w1 ⟨l, A, c, rfl, hl, ho, hb⟩
  have X1 := Lib.hid hb
  have O1 := Lib.hid ho
  clear hb ho
  go_wp2
  go_ret
  exact ⟨l, A, c, rfl, hl, O1.out, X1.out⟩
theorem drawGrowth_any (Ac : Option Addr) (nc cc : Nat) (w : World) (h : Code w w.heap.size Ac nc) (hn : nc ≤ 65536) : Calls Try.prog 51 #[.slice Ac nc cc] w (DrawnTRs w) := by
  go_enter Try.func51, Try.ntmps51
  go_wp2_with fail
  refine (drawAre_any Ac nc cc w h hn).mono ?_
  rintro e w1 ⟨l, A, c, rfl, hl, ho, hb⟩
  have X1 := Lib.hid hb
  have O1 := Lib.hid ho
  clear hb ho
  go_wp2
  go_ret
  exact ⟨l, A, c, rfl, hl, O1.out, X1.out⟩
theorem drawLongestRise_any (Ac : Option Addr) (nc cc : Nat) (w : World) (h : Code w w.heap.size Ac nc) (hn : nc ≤ 65536) : Calls Try.prog 49 #[.slice Ac nc cc] w (DrawnTRs w) := by
  go_enter Try.func49, Try.ntmps49
  go_wp2_with fail
  refine (drawAre_any Ac nc cc w h hn).mono ?_
  rintro e w1 ⟨l, A, c, rfl, hl, ho, hb⟩
  have X1 := Lib.hid hb
  have O1 := Lib.hid ho
  clear hb ho
  go_wp2
  go_ret
  exact ⟨l, A, c, rfl, hl, O1.out, X1.out⟩
theorem drawPassShare_any (Ac : Option Addr) (nc cc : Nat) (w : World) (h : Code w w.heap.size Ac nc) (hn : nc ≤ 65536) : Calls Try.prog 50 #[.slice Ac nc cc] w (DrawnTRs w) := by
  go_enter Try.func50, Try.ntmps50
  go_wp2_with fail
  refine (drawAre_any Ac nc cc w h hn).mono ?_
  rintro e w1 ⟨l, A, c, rfl, hl, ho, hb⟩
  have X1 := Lib.hid hb
  have O1 := Lib.hid ho
  clear hb ho
  go_wp2
  go_ret
  exact ⟨l, A, c, rfl, hl, O1.out, X1.out⟩
theorem allAt_less {w : World} {g n m : Nat} {A : Option Addr} {P : Value → Prop} (h : AllAt w g A n P) (hm : m ≤ n) : AllAt w g A m P := by
  obtain ⟨b, o, e, hne, hc⟩ := h
  exact ⟨b, o, e, hne, fun i hi => hc i (by omega)⟩
/-- two lists of rows are drawn out of a code -/
def DrawnTJ (w : World) (e : Ending) (w' : World) : Prop := ∃ (l m : List R5) (A B : Option Addr) (c d : Nat), e = .returned (.tuple #[.slice A l.length c, .slice B m.length d]) ∧ l.length ≤ 12 ∧ m.length ≤ 12 ∧ w'.ownsRow w.heap.size 25 5 (.slice A l.length c) l.length (rowsV l) ∧ w'.ownsRow w.heap.size 25 5 (.slice B m.length d) m.length (rowsV m) ∧ Below w.heap.size w w'
theorem drawJoin_any (Ac : Option Addr) (nc cc : Nat) (w : World) (h : Code w w.heap.size Ac nc) (hn : nc ≤ 65536) : Calls Try.prog 53 #[.slice Ac nc cc] w (DrawnTJ w) := by
  have HC := Lib.hid (h.cur (by omega) cc)
  clear h
  go_enter Try.func53, Try.ntmps53
  go_wp2_with fail
  refine (termRows_any _ 0 _ HC.out (by omega)).mono ?_
  rintro e w1 ⟨l, A, c, a1, rfl, hl, ho, ha1, hc, hg⟩
  have C1 := Lib.hid hc
  have X1 := Lib.hid (Gr.below (ext_alloc (ext_refl w) (.cells #[.slice Ac nc cc, .int .i64 0, .int .u64 0] 73)) hg (Nat.le_refl _))
  have O1 := Lib.hid ho
  clear hc hg ho HC
  go_wp2_with fail
  refine (termRows_any _ a1 _ C1.out (by omega)).mono ?_
  rintro e w2 ⟨m, B, d, a2, rfl, hm, ho, ha2, hc, hg⟩
  have X2 := Lib.hid (Gr.below X1.out hg (Nat.le_refl _))
  have P1 := Lib.hid (own_base (base' := w.heap.size) (own_gr O1.out hg (Nat.lt_succ_self _)) (by omega))
  have O2 := Lib.hid (own_base (base' := w.heap.size) ho (by omega))
  clear hc hg ho X1 O1 C1
  go_wp2
  go_ret2
  exact ⟨l, m, A, B, c, d, rfl, hl, hm, P1.out, O2.out, X2.out⟩
/-- rows and a number of percent are drawn out of a code -/
def DrawnTH (w : World) (e : Ending) (w' : World) : Prop := ∃ (l : List R5) (A : Option Addr) (c : Nat) (p : Int), e = .returned (.tuple #[.slice A l.length c, .int .i64 p]) ∧ l.length ≤ 12 ∧ (0 ≤ p ∧ p ≤ 101) ∧ w'.ownsRow w.heap.size 25 5 (.slice A l.length c) l.length (rowsV l) ∧ Below w.heap.size w w'
theorem drawHonor_any (Ac : Option Addr) (nc cc : Nat) (w : World) (h : Code w w.heap.size Ac nc) (hn : nc ≤ 65536) : Calls Try.prog 46 #[.slice Ac nc cc] w (DrawnTH w) := by
  have HC := Lib.hid (h.cur (by omega) cc)
  clear h
  go_enter Try.func46, Try.ntmps46
  go_wp2_with fail
  refine (termRows_any _ 0 _ HC.out (by omega)).mono ?_
  rintro e w1 ⟨l, A, c, a1, rfl, hl, ho, ha1, hc, hg⟩
  have C1 := Lib.hid hc
  have X1 := Lib.hid (Gr.below (ext_alloc (ext_refl w) (.cells #[.slice Ac nc cc, .int .i64 0, .int .u64 0] 73)) hg (Nat.le_refl _))
  have O1 := Lib.hid ho
  clear hc hg ho HC
  have hA := Lib.hid (allAt_lit w1 w.heap.size ([1, 10, 50, 100, 0, 101].map (Value.int .i64)) 3 rfl C1.out.lt (IntIn 0 101) (by
    intro u hu
    obtain ⟨z, hz, rfl⟩ := List.mem_map.1 hu
    exact ⟨z, rfl, (by decide : ∀ z ∈ ([1, 10, 50, 100, 0, 101] : List Int), 0 ≤ z ∧ z ≤ 101) z hz⟩))
  go_wp2_with fail
  refine (pick_any w.heap.size a1 24 _ (C1.out.ext (ext_alloc (ext_refl _) _)) (by omega) (by omega) (by omega)).mono ?_
  rintro e w2 ⟨q, a2, rfl, q0, q1, ha2, hc, hg⟩
  obtain ⟨k, rfl⟩ := Int.eq_ofNat_of_zero_le q0
  have C2 := Lib.hid hc
  have X2 := Lib.hid (Gr.below (ext_alloc X1.out (.cells ([1, 10, 50, 100, 0, 101].map (Value.int .i64)).toArray 3)) hg (Nat.le_refl _))
  have O2 := Lib.hid (own_gr (own_ext O1.out (ext_alloc (ext_refl _) (.cells ([1, 10, 50, 100, 0, 101].map (Value.int .i64)).toArray 3))) hg (Nat.lt_succ_self _))
  have A2 := Lib.hid (hA.out.gr hg)
  clear hc hg X1 O1 C1 hA
  have y0 : 0 ≤ (k : Int) / 11 := by omega
  have y1 : (k : Int) / 11 ≤ 2 := by omega
  go_wp2_with fail
  refine (among_any w.heap.size a2 _ (4 + k / 11) 6 0 101 w2 C2.out (by omega) (by omega) (by omega) (allAt_less A2.out (by simp; omega))).mono ?_
  rintro e w3 ⟨p, a3, rfl, p0, p1, ha3, hc, hg⟩
  have X3 := Lib.hid (Gr.below X2.out hg (Nat.le_refl _))
  have O3 := Lib.hid (own_base (base' := w.heap.size) (own_gr O2.out hg (Nat.lt_succ_self _)) (by omega))
  clear hc hg X2 O2 C2 A2
  go_wp2
  go_ret2
  exact ⟨l, A, c, p, rfl, hl, ⟨p0, p1⟩, O3.out, X3.out⟩
/-- a row is drawn out of a code -/
def DrawnTR (w : World) (e : Ending) (w' : World) : Prop := ∃ r : R5, e = .returned r.val ∧ Below w.heap.size w w'
set_option maxHeartbeats 1000000 in
theorem drawIsTerm_any (Ac : Option Addr) (nc cc : Nat) (w : World) (h : Code w w.heap.size Ac nc) (hn : nc ≤ 65536) : Calls Try.prog 73 #[.slice Ac nc cc] w (DrawnTR w) := by
  have HC := Lib.hid (h.cur1 (by omega) cc (.cells #[.int .i64 0, .int .i64 0, .int .i64 0, .int .i64 0, .int .i64 0] 25))
  clear h
  go_enter Try.func73, Try.ntmps73
  go_wp2_with fail
  refine (among_lit (w.heap.size + 1) 0 (1) 400 [1, 42, 400] 3 _ HC.out (by omega) (by decide) (by decide) (by decide) _ rfl (by simp)).mono ?_
  rintro e w1 ⟨T, a1, rfl, t0, t1, ha1, hc, hg⟩
  have s01 : w.heap.size + 1 < w1.heap.size := hc.lt
  have C1 := Lib.hid hc
  have X1 : Hid (Below w.heap.size w w1) := Lib.hid (Gr.below (ext_alloc (ext_alloc (ext_refl w) (.cells #[.int .i64 0, .int .i64 0, .int .i64 0, .int .i64 0, .int .i64 0] 25)) (.cells #[.slice Ac nc cc, .int .i64 0, .int .u64 0] 73)) hg (by omega))
  have R1 : Hid (Blk w1 w.heap.size 25 #[.int .i64 0, .int .i64 0, .int .i64 0, .int .i64 0, .int .i64 0]) := Lib.hid (((Blk.new w _ _).ext (ext_alloc (ext_refl _) _)).gr hg (by omega))
  clear hc hg HC
  go_wp2_with fail
  refine (termRow_any _ a1 T _ C1.out (by omega) (by omega)).mono ?_
  rintro e w2 ⟨r, a2, rfl, ha2, hc, hg⟩
  have X2 : Hid (Below w.heap.size w w2) := Lib.hid (Gr.below X1.out hg (by omega))
  have R2 := Lib.hid (R1.out.gr hg (by omega))
  have sR := R2.out.lt
  obtain ⟨r0, r1, r2, r3, r4⟩ := R2.out.q5
  obtain ⟨fr0, fr1, fr2, fr3, fr4⟩ := R2.out.z5
  clear hc hg C1 X1 R1
  go_wp2
  refine bodyPost_ret (v := r.val) (by simp [results, Try.results73, go_sem, *]) rfl ⟨r, rfl, ?_⟩
  exact (by repeat (first | (with_reducible exact X2.out) | (refine ext_set ?_ (Nat.le_refl _) _)))
set_option maxHeartbeats 1000000 in
theorem drawLine_any (Ac : Option Addr) (nc cc : Nat) (w : World) (h : Code w w.heap.size Ac nc) (hn : nc ≤ 65536) : Calls Try.prog 55 #[.slice Ac nc cc] w (DrawnTR w) := by
  have HC := Lib.hid ((h.below (ext_alloc (ext_refl w) (.cells #[.int .i64 0, .int .i64 0, .int .i64 0, .int .i64 0, .int .i64 0] 25))).more (B' := (w.alloc (.cells #[.int .i64 0, .int .i64 0, .int .i64 0, .int .i64 0, .int .i64 0] 25)).heap.size) (by simp))
  clear h
  go_enter Try.func55, Try.ntmps55
  go_wp2_with fail
  refine (drawIsTerm_any Ac nc cc _ HC.out hn).mono ?_
  rintro e w2 ⟨r, rfl, hb⟩
  have X2 := Lib.hid (ext_trans (ext_alloc (ext_refl w) _) hb)
  have R2 : Hid (Blk w2 w.heap.size 25 #[.int .i64 0, .int .i64 0, .int .i64 0, .int .i64 0, .int .i64 0]) := Lib.hid ((Blk.new w _ _).ext hb)
  have sR := R2.out.lt
  obtain ⟨r0, r1, r2, r3, r4⟩ := R2.out.q5
  obtain ⟨fr0, fr1, fr2, fr3, fr4⟩ := R2.out.z5
  clear hb HC
  go_wp2
  refine bodyPost_ret (v := r.val) (by simp [results, Try.results55, go_sem, *]) rfl ⟨r, rfl, ?_⟩
  exact (by repeat (first | (with_reducible exact X2.out) | (refine ext_set ?_ (Nat.le_refl _) _)))
end Go.Proofs.Ytkgeiemelhkkcaa
