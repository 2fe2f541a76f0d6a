/- What the laws' helpers over students do. -/
import Derived.Test.YtclihlihaigddaaVM1
namespace Go.Proofs.Ytclihlihaigddaa
open Go.RowKit
set_option linter.unusedVariables false
set_option linter.unusedSimpArgs false
theorem eqStudent_any (r s : R5) (w : World) :
 Calls Try.prog 156 #[r.val, s.val] w fun e w' => e = .returned (.bool (eq5 r s)) ∧ Below w.heap.size w w' := by
 go_enter Try.func156, Try.ntmps156
 go_wp2
 all_goals go_ret
 all_goals exact ⟨by simp_all [eq5, R5.eq_iff], (by repeat (first | exact ext_refl _ | assumption | refine ext_alloc ?_ _ | refine ext_drew ?_ | refine ext_drewN ?_ _ | refine ext_set ?_ (by simp <;> omega) _ | refine ext_trans ?_ (by assumption)))⟩
set_option maxHeartbeats 1000000 in
theorem eqStudentS_any (A A' : Option Addr) (n n' c c' : Nat) (l m : List R5) (w : World) (hn : n ≤ 1048576) (hn' : n' ≤ 1048576) (h : Reads w w.heap.size 5 A n (rowsV l)) (h' : Reads w w.heap.size 5 A' n' (rowsV m)) :
 Calls Try.prog 113 #[.slice A n c, .slice A' n' c'] w fun r w' => r = .returned (.bool (decide (l = m))) ∧ Below w.heap.size w w' := by
 have hl := rows_len h
 have hm := rows_len h'
 by_cases hne : n = n'
 · subst hne
   have H := Lib.hid h
   have H' := Lib.hid h'
   have HL := Lib.hid hl
   have HM := Lib.hid hm
   clear h h' hl hm
   go_enter Try.func113, Try.ntmps113
   go_wp2
   go_loopw [5] (fun i wr => ∃ k : Nat, k ≤ n ∧ i = .int .i64 k ∧ Below w.heap.size w wr ∧ Hid (l.take k = m.take k)) (fun i _ => n - (intOf i).toNat)
   case atStart => exact ⟨0, Nat.zero_le _, rfl, Below.refl _ _, Lib.hid rfl⟩
   case round =>
    obtain ⟨k, hk, rfl, hbl, heq⟩ := hrel
    by_cases hlt : k < n
    · obtain ⟨r, hr⟩ := list_split (l := l) (k := k) (by rw [HL.out]; exact hlt)
      obtain ⟨s, hs⟩ := list_split (l := m) (k := k) (by rw [HM.out]; exact hlt)
      obtain ⟨b, o, rfl, hb, c0, c1, c2, c3, c4⟩ := rows_at (H.out.ext hbl (Nat.le_refl _)) hr
      obtain ⟨b', o', rfl, hb', d0, d1, d2, d3, d4⟩ := rows_at (H'.out.ext hbl (Nat.le_refl _)) hs
      have hsucc := Lib.hid (take_eq_succ heq.out hr hs)
      clear hr hs
      cases hrs : eq5 r s
      all_goals
       go_wp2
       go_region_held3 (fun w' => w'.cell? ⟨b, o + k * 5, none⟩ = some (.int .i64 r.a) ∧ w'.cell? ⟨b, o + k * 5 + 1, none⟩ = some (.int .i64 r.b) ∧ w'.cell? ⟨b, o + k * 5 + 2, none⟩ = some (.int .i64 r.c) ∧ w'.cell? ⟨b, o + k * 5 + 3, none⟩ = some (.int .i64 r.d) ∧ w'.cell? ⟨b, o + k * 5 + 4, none⟩ = some (.int .i64 r.e) ∧ w'.cell? ⟨b', o' + k * 5, none⟩ = some (.int .i64 s.a) ∧ w'.cell? ⟨b', o' + k * 5 + 1, none⟩ = some (.int .i64 s.b) ∧ w'.cell? ⟨b', o' + k * 5 + 2, none⟩ = some (.int .i64 s.c) ∧ w'.cell? ⟨b', o' + k * 5 + 3, none⟩ = some (.int .i64 s.d) ∧ w'.cell? ⟨b', o' + k * 5 + 4, none⟩ = some (.int .i64 s.e)) (first | go_keep | ((repeat' refine And.intro ?_ ?_) <;> first | assumption | exact ext_cell hb (by assumption))) (first | (go_at_call 156; refine (eqStudent_any r s _).mono ?_; rintro e w' ⟨rfl, hb⟩; obtain ⟨hc, hf⟩ := bcell hb; have hz := hb.size; (try simp at hz)))
       go_wp2
      · go_ret
        refine ⟨ret_bool ?_, ext_trans hbl (ext_drew_left hb)⟩
        have h1 : ¬ (r = s) := by simpa [eq5] using hrs
        simp
        intro e
        exact h1 (hsucc.out.1 (by rw [e]))
      · go_roundw
        case rel => exact ⟨k + 1, by omega, by go_num, ext_trans hbl (ext_drew_left hb), Lib.hid (hsucc.out.2 (by simpa [eq5] using hrs))⟩
        case measure => simp [intOf]; omega
    · go_wp2
      go_ret
      obtain rfl : k = n := by omega
      refine ⟨ret_bool ?_, hbl⟩
      have := heq.out
      rw [List.take_of_length_le (by rw [HL.out]; exact Nat.le_refl _), List.take_of_length_le (by rw [HM.out]; exact Nat.le_refl _)] at this
      simpa using this
 · have h1 : ((n : Int) != n') = true := by simp; omega
   go_enter Try.func113, Try.ntmps113
   go_wp2
   go_ret
   refine ⟨ret_bool ?_, ext_refl _⟩
   have : ¬ (l = m) := fun e => hne (by rw [← hl, ← hm, e])
   simpa using this
theorem szStudentS_any (A : Option Addr) (n c : Nat) (left : Int) (w : World) (hn : n ≤ 9223372036854775807) (h0 : 0 ≤ left) (h1 : left ≤ 1048576) :
 Calls Try.prog 107 #[.slice A n c, .int .i64 left] w fun e w' => e = .returned (.int .i64 (szv left n)) ∧ w = w' := by
 by_cases h : left < n
 · have h2 : left - (n : Int) < 0 := by omega
   rw [szv_no h]
   go_enter Try.func107, Try.ntmps107
   go_wp2
   go_ret
   exact ⟨rfl, rfl⟩
 · have h2 : ¬ left - (n : Int) < 0 := by omega
   rw [szv_yes h]
   go_enter Try.func107, Try.ntmps107
   go_wp2
   go_ret
   exact ⟨rfl, rfl⟩
theorem toStudent_any (r : R5) (w : World) :
 Calls Try.prog 153 #[r.val] w fun e w' => e = .returned r.val ∧ Below w.heap.size w w' := by
 go_enter Try.func153, Try.ntmps153
 go_wp2
 refine bodyPost_ret (v := r.val) (by simp [results, Try.results153, go_sem]) rfl ⟨rfl, (by repeat (first | exact ext_refl _ | assumption | refine ext_alloc ?_ _ | refine ext_drew ?_ | refine ext_drewN ?_ _ | refine ext_set ?_ (by simp <;> omega) _ | refine ext_trans ?_ (by assumption)))⟩
set_option maxHeartbeats 1000000 in
theorem toStudentS_any (A : Option Addr) (n c : Nat) (l : List R5) (w : World) (hn : n ≤ 1048576) (h : Reads w w.heap.size 5 A n (rowsV l)) :
 Calls Try.prog 111 #[.slice A n c] w (RetSlice w 109 5 n (rowsV l)) := by
 have hl := rows_len h
 have H := Lib.hid h
 have HL := Lib.hid hl
 clear h hl
 obtain ⟨i0, hi, hz0, hz1, hz2⟩ := info_parts info_stu
 go_enter Try.func111, Try.ntmps111
 go_wp2_with (at_make; refine wpList_make_full _ rfl _ _ 22 rfl w.heap.size 109 i0 _ 5 Try.underlying22 hi hz0 hz1 .i64 .i64 _ _ n rfl rfl rfl rfl (by rw [hz2]; omega) (by unfold maxLen; omega) (Nat.le_refl _) ?_; intro w0 hown0 hgrow0)
 have hb0 : Below w.heap.size w w0 := (ext_refl w).grown hgrow0 (Nat.le_refl _) (fun _ h => by cases h)
 have hfill0 : Fill w0 w.heap.size 109 (n * 5) 0 (rowsV l) := Fill.start (c := 0) hown0
 clear hown0 hgrow0
 go_loopw [4] (fun i wr => ∃ k : Nat, k ≤ n ∧ i = .int .i64 k ∧ Below w.heap.size w wr ∧ Fill wr w.heap.size 109 (n * 5) (k * 5) (rowsV l)) (fun i _ => n - (intOf i).toNat)
 case atStart => exact ⟨0, Nat.zero_le _, rfl, hb0, by simpa using hfill0⟩
 case round =>
  obtain ⟨k, hk, rfl, hbl, hfill⟩ := hrel
  by_cases hlt : k < n
  · obtain ⟨r, hr⟩ := list_split (l := l) (k := k) (by rw [HL.out]; exact hlt)
    obtain ⟨b, o, rfl, hb, c0, c1, c2, c3, c4⟩ := rows_at (H.out.ext hbl (Nat.le_refl _)) hr
    have hG := hfill.lt
    obtain ⟨u0, g0⟩ := hfill.cell (j := k * 5) (by omega) ; obtain ⟨u1, g1⟩ := hfill.cell (j := k * 5 + 1) (by omega) ; obtain ⟨u2, g2⟩ := hfill.cell (j := k * 5 + 2) (by omega) ; obtain ⟨u3, g3⟩ := hfill.cell (j := k * 5 + 3) (by omega) ; obtain ⟨u4, g4⟩ := hfill.cell (j := k * 5 + 4) (by omega)
    have f0 := hfill.frozen (k * 5) ; have f1 := hfill.frozen (k * 5 + 1) ; have f2 := hfill.frozen (k * 5 + 2) ; have f3 := hfill.frozen (k * 5 + 3) ; have f4 := hfill.frozen (k * 5 + 4)
    have hr := Lib.hid hr
    go_wp2_with (first | (go_at_call 153; refine (toStudent_any r _).mono ?_; rintro e w' ⟨rfl, hb⟩; obtain ⟨hc, hf⟩ := bcell hb; have hz := hb.size; (try simp at hz)))
    go_roundw
    case rel =>
     obtain ⟨x0, x1, x2, x3, x4⟩ := rowsV_get hr.out
     refine ⟨k + 1, by omega, by go_num, ?_, ?_⟩
     · exact below_set5 (ext_trans hbl hb) (Nat.le_refl _)
     · have hs := (hfill.ext hb).step5 (by omega) x0 x1 x2 x3 x4
       rw [show (k + 1) * 5 = k * 5 + 5 from by omega]
       exact hs
    case measure => simp [intOf]; omega
  · obtain rfl : k = n := by omega
    go_wp2
    go_ret
    exact ⟨_, _, rfl, hfill.done (Nat.le_refl _) (by unfold maxLen; omega) (by rw [rowsV_len, HL.out]), hbl⟩
set_option maxHeartbeats 1000000 in
theorem markStudentS_any (A : Option Addr) (n c base : Nat) (xs : List Value) (k0 : Int) (w : World) (hn : n ≤ 100000000) (h0 : 0 ≤ k0) (h1 : k0 ≤ 1000000000) (h : w.ownsRow base 109 5 (.slice A n c) n xs) :
 Calls Try.prog 114 #[.slice A n c, .int .i64 k0] w fun e w' => e = .returned (.int .i64 (k0 + (n : Int) * 5)) ∧ w'.ownsRow base 109 5 (.slice A n c) n (marks k0 (n * 5)) ∧ w.grownBy w' (Value.ownBlock (.slice A n c)) := by
 have hlen : xs.length = n * 5 := by have := h.1; omega
 have HL := Lib.hid hlen
 clear hlen
 go_enter Try.func114, Try.ntmps114
 go_wp2
 go_loopw [1, 5] (fun q i wr => ∃ k : Nat, k ≤ n ∧ i = .int .i64 k ∧ q = .int .i64 (k0 + (k : Int) * 5) ∧ wr.ownsRow base 109 5 (.slice A n c) n (marks k0 (k * 5) ++ xs.drop (k * 5)) ∧ w.grownBy wr (Value.ownBlock (.slice A n c))) (fun _ i _ => n - (intOf i).toNat)
 case atStart => exact ⟨0, Nat.zero_le _, rfl, by go_num, by simpa [marks] using h, World.grownBy.refl _ _⟩
 case round =>
  obtain ⟨k, hk, rfl, rfl, hown, hg⟩ := hrel
  by_cases hlt : k < n
  · obtain ⟨g, cap, hv, hbg, hglt⟩ := hown.form (by omega)
    injection hv with hA _ hcap
    subst hA hcap
    obtain ⟨x0, hx0⟩ : ∃ u, wr.cell? ⟨g, k * 5, none⟩ = some u := by rw [hown.cellAt (k * 5) (by omega)]; exact list_split (by have := hown.1; omega)
    obtain ⟨x1, hx1⟩ : ∃ u, wr.cell? ⟨g, k * 5 + 1, none⟩ = some u := by rw [hown.cellAt (k * 5 + 1) (by omega)]; exact list_split (by have := hown.1; omega)
    obtain ⟨x2, hx2⟩ : ∃ u, wr.cell? ⟨g, k * 5 + 2, none⟩ = some u := by rw [hown.cellAt (k * 5 + 2) (by omega)]; exact list_split (by have := hown.1; omega)
    obtain ⟨x3, hx3⟩ : ∃ u, wr.cell? ⟨g, k * 5 + 3, none⟩ = some u := by rw [hown.cellAt (k * 5 + 3) (by omega)]; exact list_split (by have := hown.1; omega)
    obtain ⟨x4, hx4⟩ : ∃ u, wr.cell? ⟨g, k * 5 + 4, none⟩ = some u := by rw [hown.cellAt (k * 5 + 4) (by omega)]; exact list_split (by have := hown.1; omega)
    have f0 := hown.frozenAt (k * 5)
    have f1 := hown.frozenAt (k * 5 + 1)
    have f2 := hown.frozenAt (k * 5 + 2)
    have f3 := hown.frozenAt (k * 5 + 3)
    have f4 := hown.frozenAt (k * 5 + 4)
    have s0 := (hown.stored (k * 5) (.int .i64 (k0 + (k : Int) * 5))).1
    rw [marks_set' (k := k * 5) (by rw [HL.out]; omega) (by omega)] at s0
    have s1 := (s0.stored (k * 5 + 1) (.int .i64 (k0 + (k : Int) * 5 + 1))).1
    rw [marks_set' (k := k * 5 + 1) (by rw [HL.out]; omega) (by omega)] at s1
    have s2 := (s1.stored (k * 5 + 2) (.int .i64 (k0 + (k : Int) * 5 + 1 + 1))).1
    rw [marks_set' (k := k * 5 + 2) (by rw [HL.out]; omega) (by omega)] at s2
    have s3 := (s2.stored (k * 5 + 3) (.int .i64 (k0 + (k : Int) * 5 + 1 + 1 + 1))).1
    rw [marks_set' (k := k * 5 + 3) (by rw [HL.out]; omega) (by omega)] at s3
    have s4 := (s3.stored (k * 5 + 4) (.int .i64 (k0 + (k : Int) * 5 + 1 + 1 + 1 + 1))).1
    rw [marks_set' (k := k * 5 + 4) (by rw [HL.out]; omega) (by omega)] at s4
    have hst := Lib.hid s4
    clear s0 s1 s2 s3 s4 hown
    go_wp2
    go_roundw
    case rel =>
     refine ⟨k + 1, by omega, by go_num, by go_num, ?_, ?_⟩
     · rw [show (k + 1) * 5 = k * 5 + 5 from by omega]
       exact hst.out
     · exact (only_setCell (g := g) (p := ⟨g, k * 5 + 4, none⟩) (only_setCell (g := g) (p := ⟨g, k * 5 + 3, none⟩) (only_setCell (g := g) (p := ⟨g, k * 5 + 2, none⟩) (only_setCell (g := g) (p := ⟨g, k * 5 + 1, none⟩) (only_setCell (g := g) (p := ⟨g, k * 5, none⟩) hg (.inl rfl) _) (.inl rfl) _) (.inl rfl) _) (.inl rfl) _) (.inl rfl) _)
    case measure => simp [intOf]; omega
  · obtain rfl : k = n := by omega
    go_wp2
    go_ret
    exact ⟨rfl, by have hx := hown; rw [List.drop_of_length_le (by rw [HL.out]; exact Nat.le_refl _), List.append_nil] at hx; exact hx, hg⟩

set_option maxHeartbeats 1000000 in
theorem heldStudentS_any (A : Option Addr) (n c : Nat) (k0 : Int) (w : World) (hn : n ≤ 100000000) (h0 : 0 ≤ k0) (h1 : k0 ≤ 1000000000) (h : Reads w w.heap.size 5 A n (marks k0 (n * 5))) :
 Calls Try.prog 115 #[.slice A n c, .int .i64 k0] w fun e w' => e = .returned (.int .i64 (k0 + (n : Int) * 5)) ∧ w = w' := by
 have H := Lib.hid h
 clear h
 go_enter Try.func115, Try.ntmps115
 go_wp2
 go_loop [1, 5] (fun q i => ∃ k : Nat, k ≤ n ∧ i = .int .i64 k ∧ q = .int .i64 (k0 + (k : Int) * 5)) (fun _ i => n - (intOf i).toNat)
 case atStart => exact ⟨0, Nat.zero_le _, rfl, by go_num⟩
 case round =>
  obtain ⟨k, hk, rfl, rfl⟩ := hrel
  by_cases hlt : k < n
  · obtain ⟨b, o, rfl, hb, hc⟩ := H.out.2 (by omega)
    have d0 := hc _ _ (marks_get (k0 := k0) (j := k * 5) (by omega))
    have d1 := hc _ _ (marks_get (k0 := k0) (j := k * 5 + 1) (by omega))
    have d2 := hc _ _ (marks_get (k0 := k0) (j := k * 5 + 2) (by omega))
    have d3 := hc _ _ (marks_get (k0 := k0) (j := k * 5 + 3) (by omega))
    have d4 := hc _ _ (marks_get (k0 := k0) (j := k * 5 + 4) (by omega))
    rw [show (k0 + ((k * 5 : Nat) : Int)) = k0 + (k : Int) * 5 from by omega] at d0
    rw [show (k0 + ((k * 5 + 1 : Nat) : Int)) = k0 + (k : Int) * 5 + 1 from by omega] at d1
    rw [show (k0 + ((k * 5 + 2 : Nat) : Int)) = k0 + (k : Int) * 5 + 1 + 1 from by omega] at d2
    rw [show (k0 + ((k * 5 + 3 : Nat) : Int)) = k0 + (k : Int) * 5 + 1 + 1 + 1 from by omega] at d3
    rw [show (k0 + ((k * 5 + 4 : Nat) : Int)) = k0 + (k : Int) * 5 + 1 + 1 + 1 + 1 from by omega] at d4
    rw [show o + (k * 5 + 1) = o + k * 5 + 1 from by omega] at d1
    rw [show o + (k * 5 + 2) = o + k * 5 + 2 from by omega] at d2
    rw [show o + (k * 5 + 3) = o + k * 5 + 3 from by omega] at d3
    rw [show o + (k * 5 + 4) = o + k * 5 + 4 from by omega] at d4
    clear hc
    go_wp2
    go_round
    case rel => exact ⟨k + 1, by omega, by go_num, by go_num⟩
    case measure => simp [intOf]; omega
  · obtain rfl : k = n := by omega
    go_wp2
    go_ret
    exact ⟨rfl, rfl⟩

end Go.Proofs.Ytclihlihaigddaa
