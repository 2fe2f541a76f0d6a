/- What the laws' helpers over frames and moves do. -/
import Derived.Test.YtlkfffohjeoooaaVM3
import Derived.Test.YtlkfffohjeoooaaVM1
namespace Go.Proofs.Ytlkfffohjeoooaa
open Go.RowKit
set_option linter.unusedVariables false
set_option linter.unusedSimpArgs false
set_option maxRecDepth 100000 in
theorem eqIntA2_any (r s : R2) (w : World) :
 Calls Try.prog 150 #[r.val, s.val] w fun e w' => e = .returned (.bool (eq2 r s)) ∧ Below w.heap.size w w' := by
 have BA := Lib.hid ((Blk.born w #[.int .i64 r.a, .int .i64 r.b] 155 rfl).al (.cells #[.int .i64 s.a, .int .i64 s.b] 155))
 have BB := Lib.hid (Blk.born (w.alloc (.cells #[.int .i64 r.a, .int .i64 r.b] 155)) #[.int .i64 s.a, .int .i64 s.b] 155 (H := w.heap.size + 1) (by simp))
 go_enter Try.func150, Try.ntmps150
 go_wp2
 go_loopw [5] (fun i wr => ∃ k : Nat, k ≤ 2 ∧ i = .int .i64 k ∧ Hid (∀ j, j < k → cmp r j = cmp s j) ∧ Hid (Below (w.heap.size + 1 + 1) ((w.alloc (.cells #[.int .i64 r.a, .int .i64 r.b] 155)).alloc (.cells #[.int .i64 s.a, .int .i64 s.b] 155)) wr)) (fun i _ => 2 - (intOf i).toNat)
 case atStart => exact ⟨0, by omega, rfl, Lib.hid (by intro j hj; omega), Lib.hid (Below.refl _ _)⟩
 case round =>
  obtain ⟨k, hk, rfl, hq, hbl⟩ := hrel
  have hs := hbl.out.size
  simp at hs
  have hbT := Lib.hid ((ext_alloc (ext_alloc (ext_refl w) (.cells #[.int .i64 r.a, .int .i64 r.b] 155)) (.cells #[.int .i64 s.a, .int .i64 s.b] 155)).trans (hbl.out.mono (by omega)))
  by_cases hlt : k < 2
  · have c1 := two_cells (BA.out.below hbl.out (by omega)) hlt
    have c2 := two_cells (BB.out.below hbl.out (by omega)) hlt
    have z1 : w.heap.size < wr.heap.size := by omega
    have z2 : w.heap.size + 1 < wr.heap.size := by omega
    by_cases h0 : cmp r k = cmp s k
    · have hd : (cmp r k != cmp s k) = false := by simp [h0]
      have H0 := Lib.hid h0
      clear h0
      go_wp2
      (refine wp_region_later (by kernel_rfl) (by kernel_rfl) ?_; (repeat (go_big_quiet_step (fail))); refine wpQuiet_nil ?_; intro w1 hw1; obtain ⟨⟨wl, hbL⟩, hw1'⟩ := hw1; simp only at hw1'; subst hw1'; obtain ⟨hcL, hfL⟩ := bcell hbL)
      go_wp2
      go_roundw
      case rel => exact ⟨k + 1, by omega, by go_num, Lib.hid (by intro j hj; rcases (show j < k ∨ j = k by omega) with h | h; exact hq.out j h; subst h; exact H0.out), Lib.hid (hbl.out.trans (hbL.mono hs))⟩
      case measure => simp [intOf]; omega
    · have hd : (cmp r k != cmp s k) = true := by simp [h0]
      have H0 := Lib.hid (show eq2 r s = false by
       unfold eq2
       rw [decide_eq_false_iff_not]
       intro e
       exact h0 (by rw [e]))
      clear h0
      go_wp2
      (refine wp_region_later (by kernel_rfl) (by kernel_rfl) ?_; (repeat (go_big_quiet_step (fail))); refine wpQuiet_nil ?_; intro w1 hw1; obtain ⟨⟨wl, hbL⟩, hw1'⟩ := hw1; simp only at hw1'; subst hw1'; obtain ⟨hcL, hfL⟩ := bcell hbL)
      go_wp2
      go_ret
      exact ⟨ret_bool (by rw [H0.out]), ext_trans hbT.out hbL⟩
  · obtain rfl : k = 2 := by omega
    have E := Lib.hid (show eq2 r s = true by
     unfold eq2
     rw [decide_eq_true_iff, R2.eq_iff]
     exact ⟨hq.out 0 (by omega), hq.out 1 (by omega)⟩)
    go_wp2
    go_ret
    exact ⟨ret_bool (by rw [E.out]), hbT.out⟩
set_option maxHeartbeats 1000000 in
theorem eqIntA2S_any (A A' : Option Addr) (n n' c c' : Nat) (l m : List R2) (w : World) (hn : n ≤ 1048576) (hn' : n' ≤ 1048576) (h : Reads w w.heap.size 2 A n (rowsV2 l)) (h' : Reads w w.heap.size 2 A' n' (rowsV2 m)) :
 Calls Try.prog 94 #[.slice A n c, .slice A' n' c'] w fun r w' => r = .returned (.bool (decide (l = m))) ∧ Below w.heap.size w w' := by
 have hl := rows_len2 h
 have hm := rows_len2 h'
 by_cases hne : n = n'
 · subst hne
   have H := Lib.hid h
   have H' := Lib.hid h'
   have HL := Lib.hid hl
   have HM := Lib.hid hm
   clear h h' hl hm
   go_enter Try.func94, Try.ntmps94
   go_wp2
   go_loopw [5] (fun i wr => ∃ k : Nat, k ≤ n ∧ i = .int .i64 k ∧ Below w.heap.size w wr ∧ Hid (l.take k = m.take k)) (fun i _ => n - (intOf i).toNat)
   case atStart => exact ⟨0, Nat.zero_le _, rfl, Below.refl _ _, Lib.hid rfl⟩
   case round =>
    obtain ⟨k, hk, rfl, hbl, heq⟩ := hrel
    by_cases hlt : k < n
    · obtain ⟨r, hr⟩ := list_split (l := l) (k := k) (by rw [HL.out]; exact hlt)
      obtain ⟨s, hs⟩ := list_split (l := m) (k := k) (by rw [HM.out]; exact hlt)
      obtain ⟨b, o, rfl, hb, c0, c1⟩ := rows_at2 (H.out.ext hbl (Nat.le_refl _)) hr
      obtain ⟨b', o', rfl, hb', d0, d1⟩ := rows_at2 (H'.out.ext hbl (Nat.le_refl _)) hs
      have hsucc := Lib.hid (take_eq_succ heq.out hr hs)
      clear hr hs
      cases hrs : eq2 r s
      all_goals
       go_wp2
       go_region_held3 (fun w' => w'.cell? ⟨b, o + k * 2, none⟩ = some (.int .i64 r.a) ∧ w'.cell? ⟨b, o + k * 2 + 1, none⟩ = some (.int .i64 r.b) ∧ w'.cell? ⟨b', o' + k * 2, none⟩ = some (.int .i64 s.a) ∧ w'.cell? ⟨b', o' + k * 2 + 1, none⟩ = some (.int .i64 s.b)) (first | go_keep | ((repeat' refine And.intro ?_ ?_) <;> first | assumption | exact ext_cell hb (by assumption))) (first | (go_at_call 150; refine (eqIntA2_any r s _).mono ?_; rintro e w' ⟨rfl, hb⟩; obtain ⟨hc, hf⟩ := bcell hb; have hz := hb.size; (try simp at hz)))
       go_wp2
      · go_ret
        refine ⟨ret_bool ?_, ext_trans hbl (ext_drew_left hb)⟩
        have h1 : ¬ (r = s) := by simpa [eq2] using hrs
        simp
        intro e
        exact h1 (hsucc.out.1 (by rw [e]))
      · go_roundw
        case rel => exact ⟨k + 1, by omega, by go_num, ext_trans hbl (ext_drew_left hb), Lib.hid (hsucc.out.2 (by simpa [eq2] using hrs))⟩
        case measure => simp [intOf]; omega
    · go_wp2
      go_ret
      obtain rfl : k = n := by omega
      refine ⟨ret_bool ?_, hbl⟩
      have := heq.out
      rw [List.take_of_length_le (by rw [HL.out]; exact Nat.le_refl _), List.take_of_length_le (by rw [HM.out]; exact Nat.le_refl _)] at this
      simpa using this
 · have h1 : ((n : Int) != n') = true := by simp; omega
   go_enter Try.func94, Try.ntmps94
   go_wp2
   go_ret
   refine ⟨ret_bool ?_, ext_refl _⟩
   have : ¬ (l = m) := fun e => hne (by rw [← hl, ← hm, e])
   simpa using this
theorem szIntA2S_any (A : Option Addr) (n c : Nat) (left : Int) (w : World) (hn : n ≤ 9223372036854775807) (h0 : 0 ≤ left) (h1 : left ≤ 1048576) :
 Calls Try.prog 87 #[.slice A n c, .int .i64 left] w fun e w' => e = .returned (.int .i64 (szv left n)) ∧ w = w' := by
 by_cases h : left < n
 · have h2 : left - (n : Int) < 0 := by omega
   rw [szv_no h]
   go_enter Try.func87, Try.ntmps87
   go_wp2
   go_ret
   exact ⟨rfl, rfl⟩
 · have h2 : ¬ left - (n : Int) < 0 := by omega
   rw [szv_yes h]
   go_enter Try.func87, Try.ntmps87
   go_wp2
   go_ret
   exact ⟨rfl, rfl⟩
set_option maxRecDepth 100000 in
theorem toIntA2_any (r : R2) (w : World) :
 Calls Try.prog 148 #[r.val] w fun e w' => e = .returned r.val ∧ Below w.heap.size w w' := by
 have BA := Lib.hid (((Blk.born w #[.int .i64 r.a, .int .i64 r.b] 155 rfl).al (.cells #[.int .i64 0, .int .i64 0] 155)).al (.cells #[.int .i64 0, .int .i64 0] 155))
 have BR := Lib.hid ((Blk.born (w.alloc (.cells #[.int .i64 r.a, .int .i64 r.b] 155)) #[.int .i64 0, .int .i64 0] 155 (H := w.heap.size + 1) (by simp)).al (.cells #[.int .i64 0, .int .i64 0] 155))
 have BO := Lib.hid (Blk.born ((w.alloc (.cells #[.int .i64 r.a, .int .i64 r.b] 155)).alloc (.cells #[.int .i64 0, .int .i64 0] 155)) #[.int .i64 0, .int .i64 0] 155 (H := w.heap.size + 1 + 1) (by simp))
 have hbx := Lib.hid (ext_alloc (ext_alloc (ext_alloc (ext_refl w) (.cells #[.int .i64 r.a, .int .i64 r.b] 155)) (.cells #[.int .i64 0, .int .i64 0] 155)) (.cells #[.int .i64 0, .int .i64 0] 155))
 go_enter Try.func148, Try.ntmps148
 go_wp2
 go_loopw [4] (fun i wr => ∃ x y : Int, (i = .int .i64 0 ∧ x = 0 ∧ y = 0 ∨ i = .int .i64 1 ∧ x = r.a ∧ y = 0 ∨ i = .int .i64 2 ∧ x = r.a ∧ y = r.b) ∧ Hid (Blk wr w.heap.size 155 #[.int .i64 r.a, .int .i64 r.b]) ∧ Hid (Blk wr (w.heap.size + 1) 155 #[.int .i64 0, .int .i64 0]) ∧ Hid (Blk wr (w.heap.size + 1 + 1) 155 #[.int .i64 x, .int .i64 y]) ∧ Hid (Below w.heap.size w wr)) (fun i _ => 2 - (intOf i).toNat)
 case atStart => exact ⟨0, 0, .inl ⟨rfl, rfl, rfl⟩, BA, BR, BO, hbx⟩
 case round =>
  obtain ⟨x, y, hxy, BA, BR, BO, hb⟩ := hrel
  obtain ⟨a0, a1⟩ := BA.out.q2
  obtain ⟨o0, o1⟩ := BO.out.q2
  obtain ⟨f0, f1⟩ := BO.out.z2
  obtain ⟨r0, r1⟩ := BR.out.q2
  obtain ⟨s0, s1⟩ := BR.out.z2
  have l0 := BA.out.lt
  have l1 := BO.out.lt
  have l2 := BR.out.lt
  rcases hxy with ⟨rfl, rfl, rfl⟩ | ⟨rfl, rfl, rfl⟩ | ⟨rfl, rfl, rfl⟩
  · go_wp2
    go_roundw
    case rel => exact ⟨r.a, 0, .inr (.inl ⟨rfl, rfl, rfl⟩), Lib.hid (BA.out.setF (p := ⟨w.heap.size + 1 + 1, 0, none⟩) (by simp <;> omega) _), Lib.hid (BR.out.setF (p := ⟨w.heap.size + 1 + 1, 0, none⟩) (by simp) _), Lib.hid (BO.out.set_ 0 _), Lib.hid (hb.out.setCell (p := ⟨w.heap.size + 1 + 1, 0, none⟩) (by simp <;> omega) _)⟩
    case measure => simp [intOf]
  · go_wp2
    go_roundw
    case rel => exact ⟨r.a, r.b, .inr (.inr ⟨rfl, rfl, rfl⟩), Lib.hid (BA.out.setF (p := ⟨w.heap.size + 1 + 1, 1, none⟩) (by simp <;> omega) _), Lib.hid (BR.out.setF (p := ⟨w.heap.size + 1 + 1, 1, none⟩) (by simp) _), Lib.hid (BO.out.set_ 1 _), Lib.hid (hb.out.setCell (p := ⟨w.heap.size + 1 + 1, 1, none⟩) (by simp <;> omega) _)⟩
    case measure => simp [intOf]
  · go_wp2
    refine bodyPost_ret (v := r.val) (by simp [results, Try.results148, go_sem, *]) rfl ?_
    exact ⟨rfl, (hb.out.setCell (p := ⟨w.heap.size + 1, 0, none⟩) (by simp <;> omega) _).setCell (p := ⟨w.heap.size + 1, 1, none⟩) (by simp <;> omega) _⟩
set_option maxHeartbeats 1000000 in
theorem toIntA2S_any (A : Option Addr) (n c : Nat) (l : List R2) (w : World) (hn : n ≤ 1048576) (h : Reads w w.heap.size 2 A n (rowsV2 l)) :
 Calls Try.prog 91 #[.slice A n c] w (RetSlice w 155 2 n (rowsV2 l)) := by
 have hl := rows_len2 h
 have H := Lib.hid h
 have HL := Lib.hid hl
 clear h hl
 obtain ⟨i0, hi, hz0, hz1, hz2⟩ := info_parts info_rod
 go_enter Try.func91, Try.ntmps91
 go_wp2_with (at_make; refine wpList_make_full _ rfl _ _ 22 rfl w.heap.size 155 i0 _ 2 Try.underlying22 hi hz0 hz1 .i64 .i64 _ _ n rfl rfl rfl rfl (by rw [hz2]; omega) (by unfold maxLen; omega) (Nat.le_refl _) ?_; intro w0 hown0 hgrow0)
 have hb0 : Below w.heap.size w w0 := (ext_refl w).grown hgrow0 (Nat.le_refl _) (fun _ h => by cases h)
 have hfill0 : Fill w0 w.heap.size 155 (n * 2) 0 (rowsV2 l) := Fill.start (c := 0) hown0
 clear hown0 hgrow0
 go_loopw [4] (fun i wr => ∃ k : Nat, k ≤ n ∧ i = .int .i64 k ∧ Below w.heap.size w wr ∧ Fill wr w.heap.size 155 (n * 2) (k * 2) (rowsV2 l)) (fun i _ => n - (intOf i).toNat)
 case atStart => exact ⟨0, Nat.zero_le _, rfl, hb0, by simpa using hfill0⟩
 case round =>
  obtain ⟨k, hk, rfl, hbl, hfill⟩ := hrel
  by_cases hlt : k < n
  · obtain ⟨r, hr⟩ := list_split (l := l) (k := k) (by rw [HL.out]; exact hlt)
    obtain ⟨b, o, rfl, hb, c0, c1⟩ := rows_at2 (H.out.ext hbl (Nat.le_refl _)) hr
    have hG := hfill.lt
    obtain ⟨u0, g0⟩ := hfill.cell (j := k * 2) (by omega) ; obtain ⟨u1, g1⟩ := hfill.cell (j := k * 2 + 1) (by omega)
    have f0 := hfill.frozen (k * 2) ; have f1 := hfill.frozen (k * 2 + 1)
    have hr := Lib.hid hr
    go_wp2_with (first | (go_at_call 148; refine (toIntA2_any r _).mono ?_; rintro e w' ⟨rfl, hb⟩; obtain ⟨hc, hf⟩ := bcell hb; have hz := hb.size; (try simp at hz)))
    go_roundw
    case rel =>
     obtain ⟨x0, x1⟩ := rowsV_get2 hr.out
     refine ⟨k + 1, by omega, by go_num, ?_, ?_⟩
     · exact below_set2 (ext_trans hbl hb) (Nat.le_refl _)
     · have hs := (hfill.ext hb).step2 (by omega) x0 x1
       rw [show (k + 1) * 2 = k * 2 + 2 from by omega]
       exact hs
    case measure => simp [intOf]; omega
  · obtain rfl : k = n := by omega
    go_wp2
    go_ret
    exact ⟨_, _, rfl, hfill.done (Nat.le_refl _) (by unfold maxLen; omega) (by rw [rowsV_len2, HL.out]), hbl⟩
set_option maxHeartbeats 1000000 in
theorem markIntA2S_any (A : Option Addr) (n c base : Nat) (xs : List Value) (k0 : Int) (w : World) (hn : n ≤ 100000000) (h0 : 0 ≤ k0) (h1 : k0 ≤ 1000000000) (h : w.ownsRow base 155 2 (.slice A n c) n xs) :
 Calls Try.prog 95 #[.slice A n c, .int .i64 k0] w fun e w' => e = .returned (.int .i64 (k0 + (n : Int) * 2)) ∧ w'.ownsRow base 155 2 (.slice A n c) n (marks k0 (n * 2)) ∧ w.grownBy w' (Value.ownBlock (.slice A n c)) := by
 have hlen : xs.length = n * 2 := by have := h.1; omega
 have HL := Lib.hid hlen
 clear hlen
 go_enter Try.func95, Try.ntmps95
 go_wp2
 go_loopw [1, 5] (fun q i wr => ∃ k : Nat, k ≤ n ∧ i = .int .i64 k ∧ q = .int .i64 (k0 + (k : Int) * 2) ∧ Hid (wr.ownsRow base 155 2 (.slice A n c) n (marks k0 (k * 2) ++ xs.drop (k * 2))) ∧ Hid (w.grownBy wr (Value.ownBlock (.slice A n c)))) (fun _ i _ => n - (intOf i).toNat)
 case atStart => exact ⟨0, Nat.zero_le _, rfl, by go_num, Lib.hid (by simpa [marks] using h), Lib.hid (World.grownBy.refl _ _)⟩
 case round =>
  obtain ⟨k, hk, rfl, rfl, hown, hg⟩ := hrel
  by_cases hlt : k < n
  · obtain ⟨wo, hwo⟩ : ∃ wo : World, wo = wr := ⟨_, rfl⟩
    subst hwo
    go_wp2
    go_loopw [1, 6] (fun q i wr => ∃ j : Nat, j ≤ 2 ∧ i = .int .i64 j ∧ q = .int .i64 (k0 + (k : Int) * 2 + (j : Int)) ∧ Hid (wr.ownsRow base 155 2 (.slice A n c) n (marks k0 (k * 2 + j) ++ xs.drop (k * 2 + j))) ∧ Hid (w.grownBy wr (Value.ownBlock (.slice A n c)))) (fun _ i _ => 2 - (intOf i).toNat)
    case atStart => exact ⟨0, Nat.zero_le _, rfl, by go_num, hown, hg⟩
    case round =>
     obtain ⟨j, hj, rfl, rfl, hown, hg⟩ := hrel
     by_cases hlj : j < 2
     · obtain ⟨g, cap, hv, hbg, hglt⟩ := hown.out.form (by omega)
       injection hv with hA _ hcap
       subst hA hcap
       obtain ⟨x0, hx0⟩ : ∃ u, wr.cell? ⟨g, k * 2 + j, none⟩ = some u := by rw [hown.out.cellAt (k * 2 + j) (by omega)]; exact list_split (by have := hown.out.1; omega)
       have f0 := hown.out.frozenAt (k * 2 + j)
       have s0 := (hown.out.stored (k * 2 + j) (.int .i64 (k0 + (k : Int) * 2 + (j : Int)))).1
       rw [marks_set' (k := k * 2 + j) (by rw [HL.out]; omega) (by omega)] at s0
       have hst := Lib.hid s0
       have hgg := Lib.hid (only_setCell (g := g) (p := ⟨g, k * 2 + j, none⟩) hg.out (.inl rfl) (.int .i64 (k0 + (k : Int) * 2 + (j : Int))))
       clear s0 hown
       go_wp2
       go_roundw
       case rel => exact ⟨j + 1, by omega, by go_num, by go_num, hst, hgg⟩
       case measure => simp [intOf]; omega
     · obtain rfl : j = 2 := by omega
       go_wp2
       go_roundw
       case rel => exact ⟨k + 1, by omega, by go_num, by go_num, by rw [show (k + 1) * 2 = k * 2 + 2 from by omega]; exact hown, hg⟩
       case measure => simp [intOf]; omega
  · obtain rfl : k = n := by omega
    go_wp2
    go_ret
    exact ⟨rfl, by have hx := hown.out; rw [List.drop_of_length_le (by rw [HL.out]; exact Nat.le_refl _), List.append_nil] at hx; exact hx, hg.out⟩

set_option maxHeartbeats 1000000 in
theorem heldIntA2S_any (A : Option Addr) (n c : Nat) (k0 : Int) (w : World) (hn : n ≤ 100000000) (h0 : 0 ≤ k0) (h1 : k0 ≤ 1000000000) (h : Reads w w.heap.size 2 A n (marks k0 (n * 2))) :
 Calls Try.prog 96 #[.slice A n c, .int .i64 k0] w fun e w' => e = .returned (.int .i64 (k0 + (n : Int) * 2)) ∧ w = w' := by
 have H := Lib.hid h
 clear h
 go_enter Try.func96, Try.ntmps96
 go_wp2
 go_loop [1, 5] (fun q i => ∃ k : Nat, k ≤ n ∧ i = .int .i64 k ∧ q = .int .i64 (k0 + (k : Int) * 2)) (fun _ i => n - (intOf i).toNat)
 case atStart => exact ⟨0, Nat.zero_le _, rfl, by go_num⟩
 case round =>
  obtain ⟨k, hk, rfl, rfl⟩ := hrel
  by_cases hlt : k < n
  · obtain ⟨b, o, rfl, hb, hc⟩ := H.out.2 (by omega)
    have HC := Lib.hid hc
    clear hc
    go_wp2
    go_loop [1, 6] (fun q i => ∃ j : Nat, j ≤ 2 ∧ i = .int .i64 j ∧ q = .int .i64 (k0 + (k : Int) * 2 + (j : Int))) (fun _ i => 2 - (intOf i).toNat)
    case atStart => exact ⟨0, Nat.zero_le _, rfl, by go_num⟩
    case round =>
     obtain ⟨j, hj, rfl, rfl⟩ := hrel
     by_cases hlj : j < 2
     · have d0 := HC.out _ _ (marks_get (k0 := k0) (j := k * 2 + j) (by omega))
       rw [show (k0 + ((k * 2 + j : Nat) : Int)) = k0 + (k : Int) * 2 + (j : Int) from by omega] at d0
       rw [show o + (k * 2 + j) = o + k * 2 + j from by omega] at d0
       go_wp2
       go_round
       case rel => exact ⟨j + 1, by omega, by go_num, by go_num⟩
       case measure => simp [intOf]; omega
     · obtain rfl : j = 2 := by omega
       go_wp2
       go_round
       case rel => exact ⟨k + 1, by omega, by go_num, by go_num⟩
       case measure => simp [intOf]; omega
  · obtain rfl : k = n := by omega
    go_wp2
    go_ret
    exact ⟨rfl, rfl⟩

theorem eqBeadMove_any (r s : R3) (w : World) :
 Calls Try.prog 93 #[r.val, s.val] w fun e w' => e = .returned (.bool (eq3 r s)) ∧ Below w.heap.size w w' := by
 go_enter Try.func93, Try.ntmps93
 go_wp2
 all_goals go_ret
 all_goals exact ⟨by simp_all [eq3, R3.eq_iff], (by repeat (first | exact ext_refl _ | assumption | refine ext_alloc ?_ _ | refine ext_drew ?_ | refine ext_drewN ?_ _ | refine ext_set ?_ (by simp <;> omega) _ | refine ext_trans ?_ (by assumption)))⟩
set_option maxHeartbeats 1000000 in
theorem eqBeadMoveS_any (A A' : Option Addr) (n n' c c' : Nat) (l m : List R3) (w : World) (hn : n ≤ 1048576) (hn' : n' ≤ 1048576) (h : Reads w w.heap.size 3 A n (rowsV3 l)) (h' : Reads w w.heap.size 3 A' n' (rowsV3 m)) :
 Calls Try.prog 16 #[.slice A n c, .slice A' n' c'] w fun r w' => r = .returned (.bool (decide (l = m))) ∧ Below w.heap.size w w' := by
 have hl := rows_len3 h
 have hm := rows_len3 h'
 by_cases hne : n = n'
 · subst hne
   have H := Lib.hid h
   have H' := Lib.hid h'
   have HL := Lib.hid hl
   have HM := Lib.hid hm
   clear h h' hl hm
   go_enter Try.func16, Try.ntmps16
   go_wp2
   go_loopw [5] (fun i wr => ∃ k : Nat, k ≤ n ∧ i = .int .i64 k ∧ Below w.heap.size w wr ∧ Hid (l.take k = m.take k)) (fun i _ => n - (intOf i).toNat)
   case atStart => exact ⟨0, Nat.zero_le _, rfl, Below.refl _ _, Lib.hid rfl⟩
   case round =>
    obtain ⟨k, hk, rfl, hbl, heq⟩ := hrel
    by_cases hlt : k < n
    · obtain ⟨r, hr⟩ := list_split (l := l) (k := k) (by rw [HL.out]; exact hlt)
      obtain ⟨s, hs⟩ := list_split (l := m) (k := k) (by rw [HM.out]; exact hlt)
      obtain ⟨b, o, rfl, hb, c0, c1, c2⟩ := rows_at3 (H.out.ext hbl (Nat.le_refl _)) hr
      obtain ⟨b', o', rfl, hb', d0, d1, d2⟩ := rows_at3 (H'.out.ext hbl (Nat.le_refl _)) hs
      have hsucc := Lib.hid (take_eq_succ heq.out hr hs)
      clear hr hs
      cases hrs : eq3 r s
      all_goals
       go_wp2
       go_region_held3 (fun w' => w'.cell? ⟨b, o + k * 3, none⟩ = some (.int .i64 r.a) ∧ w'.cell? ⟨b, o + k * 3 + 1, none⟩ = some (.int .i64 r.b) ∧ w'.cell? ⟨b, o + k * 3 + 2, none⟩ = some (.int .i64 r.c) ∧ w'.cell? ⟨b', o' + k * 3, none⟩ = some (.int .i64 s.a) ∧ w'.cell? ⟨b', o' + k * 3 + 1, none⟩ = some (.int .i64 s.b) ∧ w'.cell? ⟨b', o' + k * 3 + 2, none⟩ = some (.int .i64 s.c)) (first | go_keep | ((repeat' refine And.intro ?_ ?_) <;> first | assumption | exact ext_cell hb (by assumption))) (first | (go_at_call 93; refine (eqBeadMove_any r s _).mono ?_; rintro e w' ⟨rfl, hb⟩; obtain ⟨hc, hf⟩ := bcell hb; have hz := hb.size; (try simp at hz)))
       go_wp2
      · go_ret
        refine ⟨ret_bool ?_, ext_trans hbl (ext_drew_left hb)⟩
        have h1 : ¬ (r = s) := by simpa [eq3] using hrs
        simp
        intro e
        exact h1 (hsucc.out.1 (by rw [e]))
      · go_roundw
        case rel => exact ⟨k + 1, by omega, by go_num, ext_trans hbl (ext_drew_left hb), Lib.hid (hsucc.out.2 (by simpa [eq3] using hrs))⟩
        case measure => simp [intOf]; omega
    · go_wp2
      go_ret
      obtain rfl : k = n := by omega
      refine ⟨ret_bool ?_, hbl⟩
      have := heq.out
      rw [List.take_of_length_le (by rw [HL.out]; exact Nat.le_refl _), List.take_of_length_le (by rw [HM.out]; exact Nat.le_refl _)] at this
      simpa using this
 · have h1 : ((n : Int) != n') = true := by simp; omega
   go_enter Try.func16, Try.ntmps16
   go_wp2
   go_ret
   refine ⟨ret_bool ?_, ext_refl _⟩
   have : ¬ (l = m) := fun e => hne (by rw [← hl, ← hm, e])
   simpa using this
set_option maxHeartbeats 1000000 in
theorem markBeadMoveS_any (A : Option Addr) (n c base : Nat) (xs : List Value) (k0 : Int) (w : World) (hn : n ≤ 100000000) (h0 : 0 ≤ k0) (h1 : k0 ≤ 1000000000) (h : w.ownsRow base 113 3 (.slice A n c) n xs) :
 Calls Try.prog 19 #[.slice A n c, .int .i64 k0] w fun e w' => e = .returned (.int .i64 (k0 + (n : Int) * 3)) ∧ w'.ownsRow base 113 3 (.slice A n c) n (marks k0 (n * 3)) ∧ w.grownBy w' (Value.ownBlock (.slice A n c)) := by
 have hlen : xs.length = n * 3 := by have := h.1; omega
 have HL := Lib.hid hlen
 clear hlen
 go_enter Try.func19, Try.ntmps19
 go_wp2
 go_loopw [1, 5] (fun q i wr => ∃ k : Nat, k ≤ n ∧ i = .int .i64 k ∧ q = .int .i64 (k0 + (k : Int) * 3) ∧ wr.ownsRow base 113 3 (.slice A n c) n (marks k0 (k * 3) ++ xs.drop (k * 3)) ∧ w.grownBy wr (Value.ownBlock (.slice A n c))) (fun _ i _ => n - (intOf i).toNat)
 case atStart => exact ⟨0, Nat.zero_le _, rfl, by go_num, by simpa [marks] using h, World.grownBy.refl _ _⟩
 case round =>
  obtain ⟨k, hk, rfl, rfl, hown, hg⟩ := hrel
  by_cases hlt : k < n
  · obtain ⟨g, cap, hv, hbg, hglt⟩ := hown.form (by omega)
    injection hv with hA _ hcap
    subst hA hcap
    obtain ⟨x0, hx0⟩ : ∃ u, wr.cell? ⟨g, k * 3, none⟩ = some u := by rw [hown.cellAt (k * 3) (by omega)]; exact list_split (by have := hown.1; omega)
    obtain ⟨x1, hx1⟩ : ∃ u, wr.cell? ⟨g, k * 3 + 1, none⟩ = some u := by rw [hown.cellAt (k * 3 + 1) (by omega)]; exact list_split (by have := hown.1; omega)
    obtain ⟨x2, hx2⟩ : ∃ u, wr.cell? ⟨g, k * 3 + 2, none⟩ = some u := by rw [hown.cellAt (k * 3 + 2) (by omega)]; exact list_split (by have := hown.1; omega)
    have f0 := hown.frozenAt (k * 3)
    have f1 := hown.frozenAt (k * 3 + 1)
    have f2 := hown.frozenAt (k * 3 + 2)
    have s0 := (hown.stored (k * 3) (.int .i64 (k0 + (k : Int) * 3))).1
    rw [marks_set' (k := k * 3) (by rw [HL.out]; omega) (by omega)] at s0
    have s1 := (s0.stored (k * 3 + 1) (.int .i64 (k0 + (k : Int) * 3 + 1))).1
    rw [marks_set' (k := k * 3 + 1) (by rw [HL.out]; omega) (by omega)] at s1
    have s2 := (s1.stored (k * 3 + 2) (.int .i64 (k0 + (k : Int) * 3 + 1 + 1))).1
    rw [marks_set' (k := k * 3 + 2) (by rw [HL.out]; omega) (by omega)] at s2
    have hst := Lib.hid s2
    clear s0 s1 s2 hown
    go_wp2
    go_roundw
    case rel =>
     refine ⟨k + 1, by omega, by go_num, by go_num, ?_, ?_⟩
     · rw [show (k + 1) * 3 = k * 3 + 3 from by omega]
       exact hst.out
     · exact (only_setCell (g := g) (p := ⟨g, k * 3 + 2, none⟩) (only_setCell (g := g) (p := ⟨g, k * 3 + 1, none⟩) (only_setCell (g := g) (p := ⟨g, k * 3, none⟩) hg (.inl rfl) _) (.inl rfl) _) (.inl rfl) _)
    case measure => simp [intOf]; omega
  · obtain rfl : k = n := by omega
    go_wp2
    go_ret
    exact ⟨rfl, by have hx := hown; rw [List.drop_of_length_le (by rw [HL.out]; exact Nat.le_refl _), List.append_nil] at hx; exact hx, hg⟩

set_option maxHeartbeats 1000000 in
theorem heldBeadMoveS_any (A : Option Addr) (n c : Nat) (k0 : Int) (w : World) (hn : n ≤ 100000000) (h0 : 0 ≤ k0) (h1 : k0 ≤ 1000000000) (h : Reads w w.heap.size 3 A n (marks k0 (n * 3))) :
 Calls Try.prog 20 #[.slice A n c, .int .i64 k0] w fun e w' => e = .returned (.int .i64 (k0 + (n : Int) * 3)) ∧ w = w' := by
 have H := Lib.hid h
 clear h
 go_enter Try.func20, Try.ntmps20
 go_wp2
 go_loop [1, 5] (fun q i => ∃ k : Nat, k ≤ n ∧ i = .int .i64 k ∧ q = .int .i64 (k0 + (k : Int) * 3)) (fun _ i => n - (intOf i).toNat)
 case atStart => exact ⟨0, Nat.zero_le _, rfl, by go_num⟩
 case round =>
  obtain ⟨k, hk, rfl, rfl⟩ := hrel
  by_cases hlt : k < n
  · obtain ⟨b, o, rfl, hb, hc⟩ := H.out.2 (by omega)
    have d0 := hc _ _ (marks_get (k0 := k0) (j := k * 3) (by omega))
    have d1 := hc _ _ (marks_get (k0 := k0) (j := k * 3 + 1) (by omega))
    have d2 := hc _ _ (marks_get (k0 := k0) (j := k * 3 + 2) (by omega))
    rw [show (k0 + ((k * 3 : Nat) : Int)) = k0 + (k : Int) * 3 from by omega] at d0
    rw [show (k0 + ((k * 3 + 1 : Nat) : Int)) = k0 + (k : Int) * 3 + 1 from by omega] at d1
    rw [show (k0 + ((k * 3 + 2 : Nat) : Int)) = k0 + (k : Int) * 3 + 1 + 1 from by omega] at d2
    rw [show o + (k * 3 + 1) = o + k * 3 + 1 from by omega] at d1
    rw [show o + (k * 3 + 2) = o + k * 3 + 2 from by omega] at d2
    clear hc
    go_wp2
    go_round
    case rel => exact ⟨k + 1, by omega, by go_num, by go_num⟩
    case measure => simp [intOf]; omega
  · obtain rfl : k = n := by omega
    go_wp2
    go_ret
    exact ⟨rfl, rfl⟩

end Go.Proofs.Ytlkfffohjeoooaa
