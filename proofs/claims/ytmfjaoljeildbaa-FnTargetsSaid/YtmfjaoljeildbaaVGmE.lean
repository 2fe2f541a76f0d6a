/- The moves between two frames: the program's and the reference's. -/
import Derived.Test.YtmfjaoljeildbaaVM4
import Derived.Test.YtmfjaoljeildbaaVM3
namespace Go.Proofs.Ytmfjaoljeildbaa
open Go.RowKit
set_option linter.unusedVariables false
set_option linter.unusedSimpArgs false
def btw (l l' : List R2) : Nat → List R3
 | 0 => []
 | k + 1 => btw l l' k ++ mvR (k : Int) (l.getD k ⟨0, 0⟩) (l'.getD k ⟨0, 0⟩)
theorem btw_len (l l' : List R2) (k : Nat) : (btw l l' k).length ≤ 2 * k := by
 induction k with
 | zero => simp [btw]
 | succ k ih => rw [btw, List.length_append]; have := mvR_len (k : Int) (l.getD k ⟨0, 0⟩) (l'.getD k ⟨0, 0⟩); omega
theorem btw_step {l l' : List R2} {k : Nat} {r s : R2} (hr : l[k]? = some r) (hs : l'[k]? = some s) : btw l l' (k + 1) = btw l l' k ++ mvR (k : Int) r s := by
 rw [btw, List.getD_eq_getElem?_getD, List.getD_eq_getElem?_getD, hr, hs]; rfl
theorem mvR_small {k : Int} {r s : R2} (hr : (0 ≤ r.a ∧ r.a ≤ 9) ∧ 0 ≤ r.b ∧ r.b ≤ 9) (hs : (0 ≤ s.a ∧ s.a ≤ 9) ∧ 0 ≤ s.b ∧ s.b ≤ 9) : smallM (mvR k r s) := by
 intro m hm
 unfold mvR at hm
 rw [List.mem_append] at hm
 rcases hm with hm | hm
 · split at hm
   · cases hm
   · simp at hm; subst hm; dsimp only; omega
 · split at hm
   · cases hm
   · simp at hm; subst hm; dsimp only; omega
theorem fr_nine {u lo : Int} {l : List R2} (h : frB u lo l = true) (k : Nat) : (0 ≤ (l.getD k ⟨0, 0⟩).a ∧ (l.getD k ⟨0, 0⟩).a ≤ 9) ∧ 0 ≤ (l.getD k ⟨0, 0⟩).b ∧ (l.getD k ⟨0, 0⟩).b ≤ 9 := by
 rw [List.getD_eq_getElem?_getD]
 rcases e : l[k]? with _ | r
 · simp
 · have h1 := frB_rod h e
   have h2 := frB_head h
   simp only [Option.getD_some]
   omega
theorem btw_small {u lo : Int} {l l' : List R2} (h : frB u lo l = true) (h' : frB u lo l' = true) (k : Nat) : smallM (btw l l' k) := by
 induction k with
 | zero => intro m hm; cases hm
 | succ k ih =>
   intro m hm
   rw [btw, List.mem_append] at hm
   rcases hm with hm | hm
   · exact ih m hm
   · exact mvR_small (fr_nine h k) (fr_nine h' k) m hm
theorem rows_cmp {w : World} {B n : Nat} {A : Option Addr} {l : List R2} (h : Reads w B 2 A n (rowsV2 l)) {k : Nat} {r : R2} (hr : l[k]? = some r) :
 ∃ b o, A = some ⟨b, o, none⟩ ∧ b < B ∧ ∀ j, j < 2 → w.cell? ⟨b, o + k * 2 + j, none⟩ = some (.int .i64 (cmp r j)) := by
 obtain ⟨b, o, hA, hb, c0, c1⟩ := rows_at2 h hr
 refine ⟨b, o, hA, hb, fun j hj => ?_⟩
 rcases (show j = 0 ∨ j = 1 by omega) with rfl | rfl
 · exact c0
 · exact c1
/-- two frames' boxes, behind them only more -/
theorem box_two {w wr : World} {u lo u' lo' : Int} {A A' : Option Addr} {n c n' c' : Nat} (hb : Below (w.heap.size + 1 + 1) ((w.alloc (.cells #[.int .i64 u, .int .i64 lo, .slice A n c] 26)).alloc (.cells #[.int .i64 u', .int .i64 lo', .slice A' n' c'] 26)) wr) :
 Blk wr w.heap.size 26 #[.int .i64 u, .int .i64 lo, .slice A n c] ∧ Blk wr (w.heap.size + 1) 26 #[.int .i64 u', .int .i64 lo', .slice A' n' c'] ∧ Below w.heap.size w wr ∧ w.heap.size + 1 < wr.heap.size := by
 have hs := hb.size
 simp at hs
 exact ⟨((Blk.born w _ _ rfl).al _).below hb (by omega), (Blk.born (w.alloc (.cells #[.int .i64 u, .int .i64 lo, .slice A n c] 26)) _ _ (H := w.heap.size + 1) (by simp)).below hb (by omega), (ext_alloc (ext_alloc (ext_refl w) _) _).trans (hb.mono (by omega)), by omega⟩
set_option maxRecDepth 100000 in
set_option maxHeartbeats 4000000 in
theorem movesBetween_any (u lo : Int) (A B : Option Addr) (n c d : Nat) (l l' : List R2) (w : World) (hf : frB u lo l = true) (hf' : frB u lo l' = true) (h : Reads w w.heap.size 2 A n (rowsV2 l)) (h' : Reads w w.heap.size 2 B n (rowsV2 l')) :
 Calls Try.prog 43 #[frV u lo A n c, frV u lo B n d] w (RetSlice w 54 3 (btw l l' n).length (rowsV3 (btw l l' n))) := by
 obtain ⟨i0, hi, hz0, hz1, hz2⟩ := info_parts info_mv
 have hl := rows_len2 h
 have hl' := rows_len2 h'
 obtain ⟨_, _, hn1, hn8⟩ := frB_head hf
 rw [hl] at hn1 hn8
 have H := Lib.hid h
 have H' := Lib.hid h'
 have HL := Lib.hid hl
 have HL' := Lib.hid hl'
 have HF := Lib.hid hf
 have HF' := Lib.hid hf'
 clear h h' hl hl' hf hf'
 go_enter Try.func43, Try.ntmps43
 go_wp2
 go_loopw [5, 10] (fun v i wr => ∃ (k : Nat) (A' : Option Addr) (c' : Nat), k ≤ n ∧ i = .int .i64 k ∧ v = .slice A' (btw l l' k).length c' ∧ Hid (wr.ownsRow (w.heap.size + 1 + 1) 54 3 (.slice A' (btw l l' k).length c') (btw l l' k).length (rowsV3 (btw l l' k))) ∧ Hid (Below (w.heap.size + 1 + 1) ((w.alloc (.cells #[.int .i64 u, .int .i64 lo, .slice A n c] 26)).alloc (.cells #[.int .i64 u, .int .i64 lo, .slice B n d] 26)) wr)) (fun _ i _ => n - (intOf i).toNat)
 case atStart => exact ⟨0, none, 0, Nat.zero_le _, rfl, rfl, Lib.hid (World.ownsRow_nil _ _ _ _), Lib.hid (Below.refl _ _)⟩
 case round =>
  obtain ⟨k, A', c', hk, rfl, rfl, hown, hbl⟩ := hrel
  obtain ⟨BA, BB, hb0, hs0⟩ := box_two hbl.out
  have hb0 := Lib.hid hb0
  obtain ⟨a0, a1, a2⟩ := BA.q3
  obtain ⟨b0, b1, b2⟩ := BB.q3
  have hs00 : w.heap.size < wr.heap.size := by omega
  clear BA BB
  have hml := btw_len l l' k
  by_cases hlt : k < n
  · obtain ⟨r, hr⟩ := list_split (l := l) (k := k) (by rw [HL.out]; exact hlt)
    obtain ⟨s, hs⟩ := list_split (l := l') (k := k) (by rw [HL'.out]; exact hlt)
    obtain ⟨ba, oa, rfl, hba, c0, c1⟩ := rows_at2 (rdx H.out hb0.out) hr
    obtain ⟨bb, ob, rfl, hbb, d0, d1⟩ := rows_at2 (rdx H'.out hb0.out) hs
    have hsr := frB_Sm HF.out hr
    have hss := frB_Sm HF'.out hs
    have hstep := Lib.hid (btw_step hr hs)
    obtain ⟨M, hM⟩ : ∃ M, M = mvR (k : Int) r s := ⟨_, rfl⟩
    have hMl := mvR_len (k : Int) r s
    rw [← hM] at hstep hMl
    have HRM := Lib.hid (fun w => rodMoves_any (k : Int) r s w hsr hss)
    rw [← hM] at HRM
    have m6 : (btw l l' k).length + M.length ≤ maxLen := by unfold maxLen; omega
    have m7 : ((btw l l' k).length + M.length) * 24 ≤ 140737488355328 := by omega
    have hbs : w.heap.size + 1 + 1 ≤ wr.heap.size := hs0
    clear hr hs hM
    go_upto_region 5 with fail
    go_region_law (first
     | (go_simp; go_at_call 74; refine (HRM.out _).mono ?_; rintro e w3 ⟨Am, cm, rfl, hm3, hb3⟩; have hb3 := Lib.hid (ext_drew_left hb3); have hm3 := Lib.hid hm3)
     | (refine step_appO rfl (.tmp 13) (.tmp 25) 34 rfl (w.heap.size + 1 + 1) 54 i0 _ 3 24 Try.underlying34 hi hz0 hz1 hz2 rfl (by decide) (.slice A' (btw l l' k).length c') _ _ rfl (own_ext hown.out hb3.out) Am M.length cm (rowsV3 M) rfl _ hm3.out (rows3_one _) m6 m7 (Nat.le_trans hbs hb3.out.size) ?_; intro A4 c4 w4 hown4 hgrow; rw [← rowsV3_app] at hown4; have hb4 := Lib.hid ((hb3.out.mono hbs).trans (below_row (own_ext hown.out hb3.out) hgrow (Nat.le_trans hbs hb3.out.size))); have hown4 := Lib.hid hown4; clear hgrow))
    all_goals
     go_wp2
     go_roundw
     case rel => exact ⟨k + 1, A4, c4, by omega, by go_num, by rw [hstep.out, List.length_append], by rw [hstep.out, List.length_append]; exact hown4, Lib.hid (hbl.out.trans hb4.out)⟩
     case measure => simp [intOf]; omega
  · obtain rfl : k = n := by omega
    go_wp2
    go_ret
    exact ⟨A', c', rfl, own_base hown.out (by omega), hb0.out⟩
set_option maxRecDepth 100000 in
set_option maxHeartbeats 4000000 in
theorem l4Between_any (u lo : Int) (A B : Option Addr) (n c d : Nat) (l l' : List R2) (w : World) (hf : frB u lo l = true) (hf' : frB u lo l' = true) (h : Reads w w.heap.size 2 A n (rowsV2 l)) (h' : Reads w w.heap.size 2 B n (rowsV2 l')) :
 Calls Try.prog 42 #[frV u lo A n c, frV u lo B n d] w (RetSlice w 54 3 (btw l l' n).length (rowsV3 (btw l l' n))) := by
 obtain ⟨i0, hi, hz0, hz1, hz2⟩ := info_parts info_mv
 have hl := rows_len2 h
 have hl' := rows_len2 h'
 obtain ⟨_, _, hn1, hn8⟩ := frB_head hf
 rw [hl] at hn1 hn8
 have H := Lib.hid h
 have H' := Lib.hid h'
 have HL := Lib.hid hl
 have HL' := Lib.hid hl'
 have HF := Lib.hid hf
 have HF' := Lib.hid hf'
 have HO := Lib.hid (own_lit_at ((w.alloc (.cells #[.int .i64 u, .int .i64 lo, .slice A n c] 26)).alloc (.cells #[.int .i64 u, .int .i64 lo, .slice B n d] 26)) 54 3 (H := w.heap.size + 1 + 1) (B := w.heap.size + 1 + 1) (by simp) (by omega))
 clear h h' hl hl' hf hf'
 go_enter Try.func42, Try.ntmps42
 go_wp2
 go_loopw [5, 6] (fun v i wr => ∃ (k : Nat) (A' : Option Addr) (c' : Nat), k ≤ n ∧ i = .int .i64 k ∧ v = .slice A' (btw l l' k).length c' ∧ Hid (wr.ownsRow (w.heap.size + 1 + 1) 54 3 (.slice A' (btw l l' k).length c') (btw l l' k).length (rowsV3 (btw l l' k))) ∧ Hid (Below (w.heap.size + 1 + 1) ((w.alloc (.cells #[.int .i64 u, .int .i64 lo, .slice A n c] 26)).alloc (.cells #[.int .i64 u, .int .i64 lo, .slice B n d] 26)) wr)) (fun _ i _ => n - (intOf i).toNat)
 case atStart => exact ⟨0, some ⟨w.heap.size + 1 + 1, 0, none⟩, 0, Nat.zero_le _, rfl, rfl, HO, Lib.hid ((ext_alloc (ext_refl _) _).mono (by simp))⟩
 case round =>
  obtain ⟨k, A', c', hk, rfl, rfl, hown, hbl⟩ := hrel
  obtain ⟨BA, BB, hb0, hs0⟩ := box_two hbl.out
  have hb0 := Lib.hid hb0
  obtain ⟨a0, a1, a2⟩ := BA.q3
  have hs00 : w.heap.size < wr.heap.size := by omega
  clear BA BB
  have hml := btw_len l l' k
  by_cases hlt : k < n
  · obtain ⟨r, hr⟩ := list_split (l := l) (k := k) (by rw [HL.out]; exact hlt)
    obtain ⟨s, hs⟩ := list_split (l := l') (k := k) (by rw [HL'.out]; exact hlt)
    have hsr := Lib.hid (frB_Sm HF.out hr)
    have hss := Lib.hid (frB_Sm HF'.out hs)
    have hstep := Lib.hid (btw_step hr hs)
    have HR := Lib.hid hr
    have HS := Lib.hid hs
    obtain ⟨Q, hQ⟩ : ∃ Q, Q = btw l l' k := ⟨_, rfl⟩
    rw [← hQ] at hown hml hstep ⊢
    obtain ⟨wo, hwo⟩ : ∃ wo : World, wo = wr := ⟨_, rfl⟩
    subst hwo
    clear hr hs hQ
    go_wp2
    go_loopw [5, 7] (fun v i wr => ∃ (j : Nat) (A' : Option Addr) (c' : Nat), j ≤ 2 ∧ i = .int .i64 j ∧ v = .slice A' (Q ++ mvTo (k : Int) r s j).length c' ∧ Hid (wr.ownsRow (w.heap.size + 1 + 1) 54 3 (.slice A' (Q ++ mvTo (k : Int) r s j).length c') (Q ++ mvTo (k : Int) r s j).length (rowsV3 (Q ++ mvTo (k : Int) r s j))) ∧ Hid (Below (w.heap.size + 1 + 1) ((w.alloc (.cells #[.int .i64 u, .int .i64 lo, .slice A n c] 26)).alloc (.cells #[.int .i64 u, .int .i64 lo, .slice B n d] 26)) wr)) (fun _ i _ => 2 - (intOf i).toNat)
    case atStart => exact ⟨0, A', c', Nat.zero_le _, rfl, by simp [mvTo], by simpa [mvTo] using hown, hbl⟩
    case round =>
     obtain ⟨j, A', c', hj, rfl, rfl, hown, hbl⟩ := hrel
     obtain ⟨BA, BB, hb0, hs0⟩ := box_two hbl.out
     have hb0 := Lib.hid hb0
     obtain ⟨a0, a1, a2⟩ := BA.q3
     obtain ⟨b0, b1, b2⟩ := BB.q3
     have hs00 : w.heap.size < wr.heap.size := by omega
     clear BA BB
     have m3 := mvTo_len (k : Int) r s j
     by_cases hlj : j < 2
     · obtain ⟨ba, oa, rfl, hba, hca⟩ := rows_cmp (rdx H.out hb0.out) HR.out
       obtain ⟨bb, ob, rfl, hbb, hcb⟩ := rows_cmp (rdx H'.out hb0.out) HS.out
       have c1 := hca j hlj
       have c2 := hcb j hlj
       have m1 := hsr.out.cmp j
       have m2 := hss.out.cmp j
       clear hca hcb
       by_cases h0 : cmp s j - cmp r j = 0
       · have hsame := Lib.hid (mvTo_same (rod := (k : Int)) h0)
         have hd : (cmp s j - cmp r j != 0) = false := by simp [h0]
         have hd2 : (cmp s j - cmp r j == 0) = true := by simp [h0]
         have H0 := Lib.hid h0
         clear h0
         go_wp2
         (refine wp_region_later (by kernel_rfl) (by kernel_rfl) ?_; (repeat (go_big_quiet_step (fail))); refine wpQuiet_nil ?_; intro w1 hw1; obtain ⟨⟨wl, hbL⟩, hw1'⟩ := hw1; simp only at hw1'; subst hw1'; obtain ⟨hcL, hfL⟩ := bcell hbL)
         go_wp2
         go_roundw
         case rel => exact ⟨j + 1, A', c', by omega, by go_num, by rw [hsame.out], by rw [hsame.out]; exact Lib.hid (own_ext hown.out hbL), Lib.hid (hbl.out.trans (hbL.mono hs0))⟩
         case measure => simp [intOf]; omega
       · have hsame := Lib.hid (mvTo_more (rod := (k : Int)) h0)
         have hd : (cmp s j - cmp r j != 0) = true := by simp [h0]
         have hd2 : (cmp s j - cmp r j == 0) = false := by simp [h0]
         have H0 := Lib.hid h0
         clear h0
         go_wp2
         (refine wp_region_later (by kernel_rfl) (by kernel_rfl) ?_; (repeat (go_big_quiet_step (fail))); refine wpQuiet_nil ?_; intro w1 hw1; obtain ⟨⟨wl, hbL⟩, hw1'⟩ := hw1; simp only at hw1'; subst hw1'; obtain ⟨hcL, hfL⟩ := bcell hbL)
         have hown1 := own_ext hown.out hbL
         have m5 := hbL.size
         have m8 : (Q ++ mvTo (k : Int) r s j).length ≤ 100 := by rw [List.length_append]; omega
         have m6 : (Q ++ mvTo (k : Int) r s j).length + 1 ≤ maxLen := by unfold maxLen; omega
         have m7 : ((Q ++ mvTo (k : Int) r s j).length + 1) * 24 ≤ 140737488355328 := by omega
         go_wp2_with (at_builtin; refine wpList_append_own _ rfl (.tmp 38) (.tmp 43) 34 rfl (w.heap.size + 1 + 1) 54 i0 _ 3 24 Try.underlying34 hi hz0 hz1 hz2 rfl (by decide) _ _ _ rfl (hown1.alloc _) _ 1 1 [.int .i64 (k : Int), .int .i64 (j : Int), .int .i64 (cmp s j - cmp r j)] rfl rfl (cells_new_at _ [.int .i64 (k : Int), .int .i64 (j : Int), .int .i64 (cmp s j - cmp r j)] _ (by simp)) (by simp [Value.oneCell']) m6 m7 (by simp; omega) ?_; intro v' w2 hown2 hgrow _; obtain ⟨A5, c5, rfl⟩ := own_shape hown2)
         go_roundw
         case rel =>
          refine ⟨j + 1, A5, c5, by omega, by go_num, by (first | (simp only [hsame.out, List.length_append, List.length_cons, List.length_nil]; done) | (simp only [hsame.out, List.length_append, List.length_cons, List.length_nil]; rfl)), ?_, Lib.hid (((hbl.out.trans (hbL.mono hs0)).trans ((ext_alloc (ext_refl w1) _).mono (by omega))).trans (below_row (hown1.alloc _) hgrow (by simp; omega)))⟩
          rw [hsame.out, ← List.append_assoc, List.length_append, rowsV3_app]
          exact Lib.hid hown2
         case measure => simp [intOf]; omega
     · obtain rfl : j = 2 := by omega
       have e2 := Lib.hid (show Q ++ mvTo (k : Int) r s 2 = btw l l' (k + 1) by rw [hstep.out, mvTo_two])
       rw [e2.out] at hown ⊢
       go_wp2
       go_roundw
       case rel => exact ⟨k + 1, A', c', by omega, by go_num, rfl, hown, hbl⟩
       case measure => simp [intOf]; omega
  · obtain rfl : k = n := by omega
    go_wp2
    go_ret
    exact ⟨A', c', rfl, own_base hown.out (by omega), hb0.out⟩
end Go.Proofs.Ytmfjaoljeildbaa
