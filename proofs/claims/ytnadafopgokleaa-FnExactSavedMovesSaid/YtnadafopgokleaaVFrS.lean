/- What the laws' helpers over frames and moves do. -/
import Derived.Test.YtnadafopgokleaaVM3
import Derived.Test.YtnadafopgokleaaVM1
namespace Go.Proofs.Ytnadafopgokleaa
open Go.RowKit
set_option linter.unusedVariables false
set_option linter.unusedSimpArgs false
set_option maxRecDepth 100000 in
theorem eqIntA2_any (r s : R2) (w : World) :
 Calls Try.prog 67 #[r.val, s.val] w fun e w' => e = .returned (.bool (eq2 r s)) ∧ Below w.heap.size w w' := by
 have BA := Lib.hid ((Blk.born w #[.int .i64 r.a, .int .i64 r.b] 88 rfl).al (.cells #[.int .i64 s.a, .int .i64 s.b] 88))
 have BB := Lib.hid (Blk.born (w.alloc (.cells #[.int .i64 r.a, .int .i64 r.b] 88)) #[.int .i64 s.a, .int .i64 s.b] 88 (H := w.heap.size + 1) (by simp))
 go_enter Try.func67, Try.ntmps67
 go_wp2
 go_loopw [5] (fun i wr => ∃ k : Nat, k ≤ 2 ∧ i = .int .i64 k ∧ Hid (∀ j, j < k → cmp r j = cmp s j) ∧ Hid (Below (w.heap.size + 1 + 1) ((w.alloc (.cells #[.int .i64 r.a, .int .i64 r.b] 88)).alloc (.cells #[.int .i64 s.a, .int .i64 s.b] 88)) wr)) (fun i _ => 2 - (intOf i).toNat)
 case atStart => exact ⟨0, by omega, rfl, Lib.hid (by intro j hj; omega), Lib.hid (Below.refl _ _)⟩
 case round =>
  obtain ⟨k, hk, rfl, hq, hbl⟩ := hrel
  have hs := hbl.out.size
  simp at hs
  have hbT := Lib.hid ((ext_alloc (ext_alloc (ext_refl w) (.cells #[.int .i64 r.a, .int .i64 r.b] 88)) (.cells #[.int .i64 s.a, .int .i64 s.b] 88)).trans (hbl.out.mono (by omega)))
  by_cases hlt : k < 2
  · have c1 := two_cells (BA.out.below hbl.out (by omega)) hlt
    have c2 := two_cells (BB.out.below hbl.out (by omega)) hlt
    have z1 : w.heap.size < wr.heap.size := by omega
    have z2 : w.heap.size + 1 < wr.heap.size := by omega
    by_cases h0 : cmp r k = cmp s k
    · have hd : (cmp r k != cmp s k) = false := by simp [h0]
      have H0 := Lib.hid h0
      clear h0
      go_wp2
      (refine wp_region_later (by kernel_rfl) (by kernel_rfl) ?_; (repeat (go_big_quiet_step (fail))); refine wpQuiet_nil ?_; intro w1 hw1; obtain ⟨⟨wl, hbL⟩, hw1'⟩ := hw1; simp only at hw1'; subst hw1'; obtain ⟨hcL, hfL⟩ := bcell hbL)
      go_wp2
      go_roundw
      case rel => exact ⟨k + 1, by omega, by go_num, Lib.hid (by intro j hj; rcases (show j < k ∨ j = k by omega) with h | h; exact hq.out j h; subst h; exact H0.out), Lib.hid (hbl.out.trans (hbL.mono hs))⟩
      case measure => simp [intOf]; omega
    · have hd : (cmp r k != cmp s k) = true := by simp [h0]
      have H0 := Lib.hid (show eq2 r s = false by
       unfold eq2
       rw [decide_eq_false_iff_not]
       intro e
       exact h0 (by rw [e]))
      clear h0
      go_wp2
      (refine wp_region_later (by kernel_rfl) (by kernel_rfl) ?_; (repeat (go_big_quiet_step (fail))); refine wpQuiet_nil ?_; intro w1 hw1; obtain ⟨⟨wl, hbL⟩, hw1'⟩ := hw1; simp only at hw1'; subst hw1'; obtain ⟨hcL, hfL⟩ := bcell hbL)
      go_wp2
      go_ret
      exact ⟨ret_bool (by rw [H0.out]), ext_trans hbT.out hbL⟩
  · obtain rfl : k = 2 := by omega
    have E := Lib.hid (show eq2 r s = true by
     unfold eq2
     rw [decide_eq_true_iff, R2.eq_iff]
     exact ⟨hq.out 0 (by omega), hq.out 1 (by omega)⟩)
    go_wp2
    go_ret
    exact ⟨ret_bool (by rw [E.out]), hbT.out⟩
set_option maxHeartbeats 1000000 in
theorem eqIntA2S_any (A A' : Option Addr) (n n' c c' : Nat) (l m : List R2) (w : World) (hn : n ≤ 1048576) (hn' : n' ≤ 1048576) (h : Reads w w.heap.size 2 A n (rowsV2 l)) (h' : Reads w w.heap.size 2 A' n' (rowsV2 m)) :
 Calls Try.prog 38 #[.slice A n c, .slice A' n' c'] w fun r w' => r = .returned (.bool (decide (l = m))) ∧ Below w.heap.size w w' := by
 have hl := rows_len2 h
 have hm := rows_len2 h'
 by_cases hne : n = n'
 · subst hne
   have H := Lib.hid h
   have H' := Lib.hid h'
   have HL := Lib.hid hl
   have HM := Lib.hid hm
   clear h h' hl hm
   go_enter Try.func38, Try.ntmps38
   go_wp2
   go_loopw [5] (fun i wr => ∃ k : Nat, k ≤ n ∧ i = .int .i64 k ∧ Below w.heap.size w wr ∧ Hid (l.take k = m.take k)) (fun i _ => n - (intOf i).toNat)
   case atStart => exact ⟨0, Nat.zero_le _, rfl, Below.refl _ _, Lib.hid rfl⟩
   case round =>
    obtain ⟨k, hk, rfl, hbl, heq⟩ := hrel
    by_cases hlt : k < n
    · obtain ⟨r, hr⟩ := list_split (l := l) (k := k) (by rw [HL.out]; exact hlt)
      obtain ⟨s, hs⟩ := list_split (l := m) (k := k) (by rw [HM.out]; exact hlt)
      obtain ⟨b, o, rfl, hb, c0, c1⟩ := rows_at2 (H.out.ext hbl (Nat.le_refl _)) hr
      obtain ⟨b', o', rfl, hb', d0, d1⟩ := rows_at2 (H'.out.ext hbl (Nat.le_refl _)) hs
      have hsucc := Lib.hid (take_eq_succ heq.out hr hs)
      clear hr hs
      cases hrs : eq2 r s
      all_goals
       go_wp2
       go_region_held3 (fun w' => w'.cell? ⟨b, o + k * 2, none⟩ = some (.int .i64 r.a) ∧ w'.cell? ⟨b, o + k * 2 + 1, none⟩ = some (.int .i64 r.b) ∧ w'.cell? ⟨b', o' + k * 2, none⟩ = some (.int .i64 s.a) ∧ w'.cell? ⟨b', o' + k * 2 + 1, none⟩ = some (.int .i64 s.b)) (first | go_keep | ((repeat' refine And.intro ?_ ?_) <;> first | assumption | exact ext_cell hb (by assumption))) (first | (go_at_call 67; refine (eqIntA2_any r s _).mono ?_; rintro e w' ⟨rfl, hb⟩; obtain ⟨hc, hf⟩ := bcell hb; have hz := hb.size; (try simp at hz)))
       go_wp2
      · go_ret
        refine ⟨ret_bool ?_, ext_trans hbl (ext_drew_left hb)⟩
        have h1 : ¬ (r = s) := by simpa [eq2] using hrs
        simp
        intro e
        exact h1 (hsucc.out.1 (by rw [e]))
      · go_roundw
        case rel => exact ⟨k + 1, by omega, by go_num, ext_trans hbl (ext_drew_left hb), Lib.hid (hsucc.out.2 (by simpa [eq2] using hrs))⟩
        case measure => simp [intOf]; omega
    · go_wp2
      go_ret
      obtain rfl : k = n := by omega
      refine ⟨ret_bool ?_, hbl⟩
      have := heq.out
      rw [List.take_of_length_le (by rw [HL.out]; exact Nat.le_refl _), List.take_of_length_le (by rw [HM.out]; exact Nat.le_refl _)] at this
      simpa using this
 · have h1 : ((n : Int) != n') = true := by simp; omega
   go_enter Try.func38, Try.ntmps38
   go_wp2
   go_ret
   refine ⟨ret_bool ?_, ext_refl _⟩
   have : ¬ (l = m) := fun e => hne (by rw [← hl, ← hm, e])
   simpa using this
theorem szIntA2S_any (A : Option Addr) (n c : Nat) (left : Int) (w : World) (hn : n ≤ 9223372036854775807) (h0 : 0 ≤ left) (h1 : left ≤ 1048576) :
 Calls Try.prog 26 #[.slice A n c, .int .i64 left] w fun e w' => e = .returned (.int .i64 (szv left n)) ∧ w = w' := by
 by_cases h : left < n
 · have h2 : left - (n : Int) < 0 := by omega
   rw [szv_no h]
   go_enter Try.func26, Try.ntmps26
   go_wp2
   go_ret
   exact ⟨rfl, rfl⟩
 · have h2 : ¬ left - (n : Int) < 0 := by omega
   rw [szv_yes h]
   go_enter Try.func26, Try.ntmps26
   go_wp2
   go_ret
   exact ⟨rfl, rfl⟩
set_option maxRecDepth 100000 in
theorem toIntA2_any (r : R2) (w : World) :
 Calls Try.prog 59 #[r.val] w fun e w' => e = .returned r.val ∧ Below w.heap.size w w' := by
 have BA := Lib.hid (((Blk.born w #[.int .i64 r.a, .int .i64 r.b] 88 rfl).al (.cells #[.int .i64 0, .int .i64 0] 88)).al (.cells #[.int .i64 0, .int .i64 0] 88))
 have BR := Lib.hid ((Blk.born (w.alloc (.cells #[.int .i64 r.a, .int .i64 r.b] 88)) #[.int .i64 0, .int .i64 0] 88 (H := w.heap.size + 1) (by simp)).al (.cells #[.int .i64 0, .int .i64 0] 88))
 have BO := Lib.hid (Blk.born ((w.alloc (.cells #[.int .i64 r.a, .int .i64 r.b] 88)).alloc (.cells #[.int .i64 0, .int .i64 0] 88)) #[.int .i64 0, .int .i64 0] 88 (H := w.heap.size + 1 + 1) (by simp))
 have hbx := Lib.hid (ext_alloc (ext_alloc (ext_alloc (ext_refl w) (.cells #[.int .i64 r.a, .int .i64 r.b] 88)) (.cells #[.int .i64 0, .int .i64 0] 88)) (.cells #[.int .i64 0, .int .i64 0] 88))
 go_enter Try.func59, Try.ntmps59
 go_wp2
 go_loopw [4] (fun i wr => ∃ x y : Int, (i = .int .i64 0 ∧ x = 0 ∧ y = 0 ∨ i = .int .i64 1 ∧ x = r.a ∧ y = 0 ∨ i = .int .i64 2 ∧ x = r.a ∧ y = r.b) ∧ Hid (Blk wr w.heap.size 88 #[.int .i64 r.a, .int .i64 r.b]) ∧ Hid (Blk wr (w.heap.size + 1) 88 #[.int .i64 0, .int .i64 0]) ∧ Hid (Blk wr (w.heap.size + 1 + 1) 88 #[.int .i64 x, .int .i64 y]) ∧ Hid (Below w.heap.size w wr)) (fun i _ => 2 - (intOf i).toNat)
 case atStart => exact ⟨0, 0, .inl ⟨rfl, rfl, rfl⟩, BA, BR, BO, hbx⟩
 case round =>
  obtain ⟨x, y, hxy, BA, BR, BO, hb⟩ := hrel
  obtain ⟨a0, a1⟩ := BA.out.q2
  obtain ⟨o0, o1⟩ := BO.out.q2
  obtain ⟨f0, f1⟩ := BO.out.z2
  obtain ⟨r0, r1⟩ := BR.out.q2
  obtain ⟨s0, s1⟩ := BR.out.z2
  have l0 := BA.out.lt
  have l1 := BO.out.lt
  have l2 := BR.out.lt
  rcases hxy with ⟨rfl, rfl, rfl⟩ | ⟨rfl, rfl, rfl⟩ | ⟨rfl, rfl, rfl⟩
  · go_wp2
    go_roundw
    case rel => exact ⟨r.a, 0, .inr (.inl ⟨rfl, rfl, rfl⟩), Lib.hid (BA.out.setF (p := ⟨w.heap.size + 1 + 1, 0, none⟩) (by simp <;> omega) _), Lib.hid (BR.out.setF (p := ⟨w.heap.size + 1 + 1, 0, none⟩) (by simp) _), Lib.hid (BO.out.set_ 0 _), Lib.hid (hb.out.setCell (p := ⟨w.heap.size + 1 + 1, 0, none⟩) (by simp <;> omega) _)⟩
    case measure => simp [intOf]
  · go_wp2
    go_roundw
    case rel => exact ⟨r.a, r.b, .inr (.inr ⟨rfl, rfl, rfl⟩), Lib.hid (BA.out.setF (p := ⟨w.heap.size + 1 + 1, 1, none⟩) (by simp <;> omega) _), Lib.hid (BR.out.setF (p := ⟨w.heap.size + 1 + 1, 1, none⟩) (by simp) _), Lib.hid (BO.out.set_ 1 _), Lib.hid (hb.out.setCell (p := ⟨w.heap.size + 1 + 1, 1, none⟩) (by simp <;> omega) _)⟩
    case measure => simp [intOf]
  · go_wp2
    refine bodyPost_ret (v := r.val) (by simp [results, Try.results59, go_sem, *]) rfl ?_
    exact ⟨rfl, (hb.out.setCell (p := ⟨w.heap.size + 1, 0, none⟩) (by simp <;> omega) _).setCell (p := ⟨w.heap.size + 1, 1, none⟩) (by simp <;> omega) _⟩
set_option maxHeartbeats 1000000 in
theorem toIntA2S_any (A : Option Addr) (n c : Nat) (l : List R2) (w : World) (hn : n ≤ 1048576) (h : Reads w w.heap.size 2 A n (rowsV2 l)) :
 Calls Try.prog 32 #[.slice A n c] w (RetSlice w 88 2 n (rowsV2 l)) := by
 have hl := rows_len2 h
 have H := Lib.hid h
 have HL := Lib.hid hl
 clear h hl
 obtain ⟨i0, hi, hz0, hz1, hz2⟩ := info_parts info_rod
 go_enter Try.func32, Try.ntmps32
 go_wp2_with (at_make; refine wpList_make_full _ rfl _ _ 22 rfl w.heap.size 88 i0 _ 2 Try.underlying22 hi hz0 hz1 .i64 .i64 _ _ n rfl rfl rfl rfl (by rw [hz2]; omega) (by unfold maxLen; omega) (Nat.le_refl _) ?_; intro w0 hown0 hgrow0)
 have hb0 : Below w.heap.size w w0 := (ext_refl w).grown hgrow0 (Nat.le_refl _) (fun _ h => by cases h)
 have hfill0 : Fill w0 w.heap.size 88 (n * 2) 0 (rowsV2 l) := Fill.start (c := 0) hown0
 clear hown0 hgrow0
 go_loopw [4] (fun i wr => ∃ k : Nat, k ≤ n ∧ i = .int .i64 k ∧ Below w.heap.size w wr ∧ Fill wr w.heap.size 88 (n * 2) (k * 2) (rowsV2 l)) (fun i _ => n - (intOf i).toNat)
 case atStart => exact ⟨0, Nat.zero_le _, rfl, hb0, by simpa using hfill0⟩
 case round =>
  obtain ⟨k, hk, rfl, hbl, hfill⟩ := hrel
  by_cases hlt : k < n
  · obtain ⟨r, hr⟩ := list_split (l := l) (k := k) (by rw [HL.out]; exact hlt)
    obtain ⟨b, o, rfl, hb, c0, c1⟩ := rows_at2 (H.out.ext hbl (Nat.le_refl _)) hr
    have hG := hfill.lt
    obtain ⟨u0, g0⟩ := hfill.cell (j := k * 2) (by omega) ; obtain ⟨u1, g1⟩ := hfill.cell (j := k * 2 + 1) (by omega)
    have f0 := hfill.frozen (k * 2) ; have f1 := hfill.frozen (k * 2 + 1)
    have hr := Lib.hid hr
    go_wp2_with (first | (go_at_call 59; refine (toIntA2_any r _).mono ?_; rintro e w' ⟨rfl, hb⟩; obtain ⟨hc, hf⟩ := bcell hb; have hz := hb.size; (try simp at hz)))
    go_roundw
    case rel =>
     obtain ⟨x0, x1⟩ := rowsV_get2 hr.out
     refine ⟨k + 1, by omega, by go_num, ?_, ?_⟩
     · exact below_set2 (ext_trans hbl hb) (Nat.le_refl _)
     · have hs := (hfill.ext hb).step2 (by omega) x0 x1
       rw [show (k + 1) * 2 = k * 2 + 2 from by omega]
       exact hs
    case measure => simp [intOf]; omega
  · obtain rfl : k = n := by omega
    go_wp2
    go_ret
    exact ⟨_, _, rfl, hfill.done (Nat.le_refl _) (by unfold maxLen; omega) (by rw [rowsV_len2, HL.out]), hbl⟩
end Go.Proofs.Ytnadafopgokleaa
