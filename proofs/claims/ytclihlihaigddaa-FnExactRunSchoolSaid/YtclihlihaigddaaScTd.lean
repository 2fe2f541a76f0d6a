
/- taught: leaving. -/
import Derived.Test.YtclihlihaigddaaScTa
namespace Go.Proofs.Ytclihlihaigddaa
open Go.RowKit
set_option linter.unusedVariables false
set_option linter.unusedSimpArgs false
theorem rowsV_app (a b : List R5) : rowsV (a ++ b) = rowsV a ++ rowsV b := by simp [rowsV]
theorem own_prefix {w : World} {base e n c g i : Nat} {l : List R5} (h : w.ownsRow base e 5 (.slice (some ⟨g, 0, none⟩) n c) n (rowsV l)) (hi : i ≤ n) : w.ownsRow base e 5 (.slice (some ⟨g, 0, none⟩) i c) i (rowsV (l.take i)) := by
  have hl : l.length = n := by have := h.1; rw [rowsV_len] at this; omega
  have hlen : (rowsV (l.take i)).length = i * 5 := by rw [rowsV_len, List.length_take, hl, Nat.min_eq_left hi]
  rcases h.2 with ⟨h', _⟩ | ⟨g', cap', cur, h', hb, hg, hnc, hcm, hcs, htake⟩
  · simp at h'
  · simp only [Value.slice.injEq, Option.some.injEq, Addr.mk.injEq, and_true, true_and] at h'
    obtain ⟨rfl, rfl⟩ := h'
    refine ⟨hlen, .inr ⟨g, c, cur, rfl, hb, hg, by omega, hcm, hcs, ?_⟩⟩
    have e1 : rowsV l = rowsV (l.take i) ++ rowsV (l.drop i) := by rw [← rowsV_app, List.take_append_drop]
    have : (cur.toList.take (n * 5)).take (i * 5) = (rowsV l).take (i * 5) := by rw [htake]
    rw [List.take_take, Nat.min_eq_left (by omega)] at this
    rw [this, e1, ← hlen, List.take_left]
theorem rows_drop_cells {w : World} {base e n c g i : Nat} {l : List R5} (h : w.ownsRow base e 5 (.slice (some ⟨g, 0, none⟩) n c) n (rowsV l)) (ad : Addr) (hi : i ≤ n) (had : i < n → ad = ⟨g, i * 5, none⟩) :
    ∀ j u, (rowsV (l.drop i))[j]? = some u → w.cell? (ad.add j) = some u := by
  have hl : l.length = n := by have := h.1; rw [rowsV_len] at this; omega
  intro j u hj
  have hlt := (List.getElem?_eq_some_iff.1 hj).1
  rw [rowsV_len, List.length_drop, hl] at hlt
  have hin : i < n := by omega
  rw [had hin, add_flat, h.cellAt _ (by omega)]
  have e1 : rowsV l = rowsV (l.take i) ++ rowsV (l.drop i) := by rw [← rowsV_app, List.take_append_drop]
  have hlen : (rowsV (l.take i)).length = i * 5 := by rw [rowsV_len, List.length_take, hl, Nat.min_eq_left hi]
  rw [e1, List.getElem?_append_right (by omega), hlen, show i * 5 + j - i * 5 = j from by omega, hj]
theorem rows_erase (l : List R5) (i : Nat) : rowsV (l.take i) ++ rowsV (l.drop (i + 1)) = rowsV (l.eraseIdx i) := by
  rw [List.eraseIdx_eq_take_drop_succ]; simp [rowsV]
set_option maxRecDepth 100000 in
set_option maxHeartbeats 2000000 in
theorem taught_6 (day pa le id v : Int) (g n c base i : Nat) (l : List R5) (r : R5) (w : World) (h : w.ownsRow base 109 5 (.slice (some ⟨g, 0, none⟩) n c) n (rowsV l)) (hr : l[i]? = some r) (hs : stuB r = true) (hday : 0 ≤ day ∧ day ≤ 4000) (hpa : 0 ≤ pa ∧ pa ≤ 9999) (hlf : 0 ≤ le ∧ le ≤ 9999) (hg : g < w.heap.size) (hn : n ≤ 8) :
    Calls Try.prog 155 #[schV day (some ⟨g, 0, none⟩) n c pa le, .agg #[.int .i64 6, .int .i64 id, .int .i64 v], .int .i64 i] w (RetT (teach day pa le l i r 6 v) day base (some ⟨g, 0, none⟩) n c w) := by
  obtain ⟨c0, c1, c2, c3, c4⟩ := own_cells h hr
  obtain ⟨q1, q2, q3, q4, q5⟩ := stu_bounds hs
  have hi : i < n := by have := rows_len (Reads.of_own h); have := (List.getElem?_eq_some_iff.1 hr).1; omega
  have f1 := frozen_alloc3 hg (h.frozenAt (i * 5 + 1))
  have f2 := frozen_alloc3 hg (h.frozenAt (i * 5 + 2))
  have f3 := frozen_alloc3 hg (h.frozenAt (i * 5 + 3))
  have f4 := frozen_alloc3 hg (h.frozenAt (i * 5 + 4))
  have c0 := cell_alloc3 c0
  have c1 := cell_alloc3 c1
  have c2 := cell_alloc3 c2
  have c3 := cell_alloc3 c3
  have c4 := cell_alloc3 c4
  have H := Lib.hid h
  have HR := Lib.hid hr
  clear h hr
  have hin : (i : Int) < n := by omega
  have hg3 : g < w.heap.size + 1 + 1 + 1 := by omega
  have hn0 : g ≠ w.heap.size := by omega
  have hle : g ≤ w.heap.size + 1 + 1 := by omega
  have hn1 : g ≠ w.heap.size + 1 := by omega
  have hn2 : g ≠ w.heap.size + 1 + 1 := by omega
  obtain ⟨i0, ji, jz0, jz1, jz2⟩ := info_parts info_stu
  have hle0 := hpa
  by_cases hv : v = 0
  · rw [show teach day pa le l i r 6 v = some (l.eraseIdx i, pa, le + 1) from by simp [teach, hv]]
    subst hv
    have hnc : n ≤ c ∧ c ≤ maxLen := by
      rcases H.out.2 with ⟨h', _⟩ | ⟨g', cap', cur, h', _, _, hnc, hcm, _, _⟩
      · simp at h'
      · simp only [Value.slice.injEq, Option.some.injEq, Addr.mk.injEq, and_true, true_and] at h'
        obtain ⟨rfl, rfl⟩ := h'
        exact ⟨hnc, hcm⟩
    have hi1 : i + 1 ≤ n := hi
    have hi2 : (i : Int) + 1 ≤ n := by omega
    have hi3 : (i : Int) ≤ c := by omega
    have hi4 : i ≤ c := by omega
    have hnc1 := hnc.1
    have hnc2 : (n : Int) ≤ c := by omega
    have hcc : c = i + 1 ∨ ¬ c = i + 1 := by omega
    rcases hcc with rfl | hci
    · go_enter Try.func155, Try.ntmps155
      go_wp2
      (refine wp_region_later_tail 9 (by kernel_rfl) (by kernel_rfl) ?_; simp only [List.take_succ_cons, List.take_zero, List.drop_succ_cons, List.drop_zero]; (repeat (go_big_quiet_step (fail))); refine wpQuiet_nil ?_; intro w1 hw1; obtain ⟨⟨wl, hbL⟩, hw1'⟩ := hw1; simp only at hw1'; subst hw1'; obtain ⟨hcL, hfL⟩ := bcell hbL)
      have BX : Blk w1 w.heap.size 24 #[.int .i64 day, .slice (some ⟨g, 0, none⟩) n (i + 1), .int .i64 pa, .int .i64 le] := ((Blk.new w _ _).ext (ext_alloc (ext_alloc (ext_refl _) _) _)).ext hbL
      have BR : Blk w1 (w.heap.size + 1 + 1) 24 #[.int .i64 0, .slice none 0 0, .int .i64 0, .int .i64 0] := by
        have := (Blk.new ((w.alloc (.cells #[.int .i64 day, .slice (some ⟨g, 0, none⟩) n (i + 1), .int .i64 pa, .int .i64 le] 24)).alloc (.cells #[.int .i64 6, .int .i64 id, .int .i64 0] 74)) #[.int .i64 0, .slice none 0 0, .int .i64 0, .int .i64 0] 24).ext hbL
        simpa using this
      have BX := Lib.hid BX
      have BR := Lib.hid BR
      have z0 : w.heap.size + 1 + 1 < w1.heap.size := by (have := hbL.size; simp at this; omega)
      have z1 : w.heap.size + 1 < w1.heap.size := by omega
      have z2 : w.heap.size < w1.heap.size := by omega
      have zg : g < w1.heap.size := by omega
      have HB := Lib.hid (ext_trans (ext_alloc (ext_alloc (ext_alloc (ext_refl w) _) _) _) hbL)
      have HBL := Lib.hid hbL
      clear hbL
      have HO := Lib.hid (own_ext H.out HB.out)
      have HP := Lib.hid (own_prefix HO.out (show i ≤ n by omega))
      have HLN : Hid ((rowsV (l.drop (i + 1))).length = (n - (i + 1)) * 5) := Lib.hid (by rw [rowsV_len, List.length_drop, rows_len (Reads.of_own H.out)])
      have x0 : w1.cell? ⟨w.heap.size, 0, none⟩ = some (.int .i64 day) := BX.out.cell 0
      have fx0 := BX.out.frozen 0
      have x1 : w1.cell? ⟨w.heap.size, 1, none⟩ = some (.slice (some ⟨g, 0, none⟩) n (i + 1)) := BX.out.cell 1
      have fx1 := BX.out.frozen 1
      have x2 : w1.cell? ⟨w.heap.size, 2, none⟩ = some (.int .i64 pa) := BX.out.cell 2
      have fx2 := BX.out.frozen 2
      have x3 : w1.cell? ⟨w.heap.size, 3, none⟩ = some (.int .i64 le) := BX.out.cell 3
      have fx3 := BX.out.frozen 3
      go_wp2
      have hL : (l.eraseIdx i).length = i := by rw [List.length_eraseIdx, rows_len (Reads.of_own H.out), if_pos hi]; omega
      have hB1 := Lib.hid (Gr.of_ext (g := g) HB.out)
      have hE : rowsV (l.eraseIdx i) = rowsV (l.take i) := by
        rw [← rows_erase, List.drop_of_length_le (by rw [rows_len (Reads.of_own H.out)]; omega)]; simp [rowsV]
      refine bodyPost_ret (v := .tuple #[schV day (some ⟨g, 0, none⟩) i (i + 1) pa (le + 1), .bool true]) (by simp [results, Try.results155, go_sem, *]) rfl ?_
      unfold RetT
      dsimp only
      rw [hL]
      refine ⟨rfl, ?_, ?_⟩
      · iterate 6 refine own_set_ne ?_ (by show _ ≠ g; simp <;> omega) _
        rw [hE]
        exact HP.out
      · repeat refine only_setCell ?_ (by first | exact .inl rfl | (right; simp <;> omega)) _
        exact hB1.out
    · go_enter Try.func155, Try.ntmps155
      go_wp2
      (refine wp_region_later_tail 9 (by kernel_rfl) (by kernel_rfl) ?_; simp only [List.take_succ_cons, List.take_zero, List.drop_succ_cons, List.drop_zero]; (repeat (go_big_quiet_step (fail))); refine wpQuiet_nil ?_; intro w1 hw1; obtain ⟨⟨wl, hbL⟩, hw1'⟩ := hw1; simp only at hw1'; subst hw1'; obtain ⟨hcL, hfL⟩ := bcell hbL)
      have BX : Blk w1 w.heap.size 24 #[.int .i64 day, .slice (some ⟨g, 0, none⟩) n _, .int .i64 pa, .int .i64 le] := ((Blk.new w _ _).ext (ext_alloc (ext_alloc (ext_refl _) _) _)).ext hbL
      have BR : Blk w1 (w.heap.size + 1 + 1) 24 #[.int .i64 0, .slice none 0 0, .int .i64 0, .int .i64 0] := by
        have := (Blk.new ((w.alloc (.cells #[.int .i64 day, .slice (some ⟨g, 0, none⟩) n _, .int .i64 pa, .int .i64 le] 24)).alloc (.cells #[.int .i64 6, .int .i64 id, .int .i64 0] 74)) #[.int .i64 0, .slice none 0 0, .int .i64 0, .int .i64 0] 24).ext hbL
        simpa using this
      have BX := Lib.hid BX
      have BR := Lib.hid BR
      have z0 : w.heap.size + 1 + 1 < w1.heap.size := by (have := hbL.size; simp at this; omega)
      have z1 : w.heap.size + 1 < w1.heap.size := by omega
      have z2 : w.heap.size < w1.heap.size := by omega
      have zg : g < w1.heap.size := by omega
      have HB := Lib.hid (ext_trans (ext_alloc (ext_alloc (ext_alloc (ext_refl w) _) _) _) hbL)
      have HBL := Lib.hid hbL
      clear hbL
      have HO := Lib.hid (own_ext H.out HB.out)
      have HP := Lib.hid (own_prefix HO.out (show i ≤ n by omega))
      have HLN : Hid ((rowsV (l.drop (i + 1))).length = (n - (i + 1)) * 5) := Lib.hid (by rw [rowsV_len, List.length_drop, rows_len (Reads.of_own H.out)])
      go_wp2_with (at_builtin; refine wpList_append_fits_any _ rfl (.tmp 22) (.tmp 27) 22 rfl base 109 i0 5 Try.underlying22 ji jz1 g i _ (rowsV (l.take i)) rfl HP.out _ _ _ (rowsV (l.drop (i + 1))) rfl HLN.out (by intro e; first | (split at e <;> cases e) | cases e) (fun ad had => rows_drop_cells HO.out ad (by omega) (fun hlt => by have h2 := had; first | omega | (injection h2 with h2; rw [← h2]) | (split at h2 <;> first | omega | (injection h2 with h2; rw [← h2])))) (rows_one _) (by omega) ?_; intro w2 hown2 hg2; have BX2 := BX.out.grown hg2 (by intro e; injection e with e; omega); have BR2 := BR.out.grown hg2 (by intro e; injection e with e; omega); have hown2 := Lib.hid hown2; have hg2 := Lib.hid hg2; have x0 : w2.cell? ⟨w.heap.size, 0, none⟩ = some (.int .i64 day) := BX2.cell 0; have fx0 := BX2.frozen 0; have x1 : w2.cell? ⟨w.heap.size, 1, none⟩ = some (.slice (some ⟨g, 0, none⟩) n _) := BX2.cell 1; have fx1 := BX2.frozen 1; have x2 : w2.cell? ⟨w.heap.size, 2, none⟩ = some (.int .i64 pa) := BX2.cell 2; have fx2 := BX2.frozen 2; have x3 : w2.cell? ⟨w.heap.size, 3, none⟩ = some (.int .i64 le) := BX2.cell 3; have fx3 := BX2.frozen 3; have r0 : w2.cell? ⟨w.heap.size + 1 + 1, 0, none⟩ = some (.int .i64 0) := BR2.cell 0; have fr0 := BR2.frozen 0; have r1 : w2.cell? ⟨w.heap.size + 1 + 1, 1, none⟩ = some (.slice none 0 0) := BR2.cell 1; have fr1 := BR2.frozen 1; have r2 : w2.cell? ⟨w.heap.size + 1 + 1, 2, none⟩ = some (.int .i64 0) := BR2.cell 2; have fr2 := BR2.frozen 2; have r3 : w2.cell? ⟨w.heap.size + 1 + 1, 3, none⟩ = some (.int .i64 0) := BR2.cell 3; have fr3 := BR2.frozen 3; clear BX2 BR2)
      have hL : (l.eraseIdx i).length = i + (n - (i + 1)) := by rw [List.length_eraseIdx, rows_len (Reads.of_own H.out), if_pos hi]; omega
      have hB1 := Lib.hid (Gr.of_ext (g := g) HB.out)
      refine bodyPost_ret (v := .tuple #[schV day (some ⟨g, 0, none⟩) (i + (n - (i + 1))) c pa (le + 1), .bool true]) (by simp [results, Try.results155, go_sem, *]) rfl ?_
      unfold RetT
      dsimp only
      rw [hL]
      refine ⟨rfl, ?_, ?_⟩
      · iterate 6 refine own_set_ne ?_ (by show _ ≠ g; simp <;> omega) _
        have := hown2.out
        rw [rows_erase] at this
        exact this
      · repeat refine only_setCell ?_ (by first | exact .inl rfl | (right; simp <;> omega)) _
        exact Gr.trans hB1.out hg2.out
  · rw [show teach day pa le l i r 6 v = none from by simp [teach, hv]]
    have hv' : (v != 0) = true := by simpa using hv
    clear hv
    go_enter Try.func155, Try.ntmps155
    go_wp2
    go_wp2
    refine bodyPost_ret (v := .tuple #[schV 0 none 0 0 0 0, .bool false]) (by simp [results, Try.results155, go_sem, *]) rfl ⟨rfl, (by repeat (first | exact ext_refl _ | exact HB.out | assumption | refine ext_alloc ?_ _ | refine ext_set ?_ (by simp <;> omega) _ | refine ext_trans ?_ (by assumption)))⟩
end Go.Proofs.Ytclihlihaigddaa
