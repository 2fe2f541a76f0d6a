
/- The drawing of lists of reports' rows. -/
import Derived.Test.YtkgeiemelhkkcaaTrmD
namespace Go.Proofs.Ytkgeiemelhkkcaa
open Go.RowKit
set_option linter.unusedVariables false
set_option linter.unusedSimpArgs false
/-- rows are drawn -/
def DrawTRs (g a K : Nat) (w : World) (e : Ending) (w' : World) : Prop := ∃ (l : List R5) (A : Option Addr) (c a' : Nat), e = .returned (.slice A l.length c) ∧ l.length ≤ 12 ∧ w'.ownsRow (g + 1) 25 5 (.slice A l.length c) l.length (rowsV l) ∧ a' ≤ a + K ∧ CurAt w' g a' ∧ Gr g w w'
set_option maxRecDepth 100000 in
set_option maxHeartbeats 4000000 in
theorem termRows_any (g a : Nat) (w : World) (h : CurAt w g a) (ha : a ≤ 500000000000) : Calls Try.prog 70 #[.pointer (some ⟨g, 0, none⟩)] w (DrawTRs g a 400 w) := by
  have hlt := h.lt
  have H := Lib.hid h
  obtain ⟨i0, hi, hz0, hz1, hz2⟩ := info_parts info_row
  have ho0 := Lib.hid (own_lit0 w 25 5)
  clear h
  go_enter Try.func70, Try.ntmps70
  go_wp2_with fail
  refine (among_lit g a (1) 390 [1, 2, 390] 3 _ (H.out.ext (ext_alloc (ext_refl _) _)) (by omega) (by decide) (by decide) (by decide) _ rfl (by simp)).mono ?_
  rintro e w1 ⟨T0, a1, rfl, t0, t1, ha1, hc, hg⟩
  have C1 := Lib.hid hc
  have G1 := Lib.hid ((Gr.of_ext (ext_alloc (ext_refl w) _)).trans hg)
  have V1 := Lib.hid (own_gr ho0.out hg hlt)
  clear hc hg ho0
  go_wp2_with fail
  refine (pick_any g a1 8 _ C1.out (by omega) (by omega) (by omega)).mono ?_
  rintro e w2 ⟨q, a2, rfl, q0, q1, ha2, hc, hg⟩
  obtain ⟨n, rfl⟩ := Int.eq_ofNat_of_zero_le q0
  have C2 := Lib.hid hc
  have G2 := Lib.hid (G1.out.trans hg)
  have V2 := Lib.hid (own_gr V1.out hg hlt)
  clear hc hg V1 G1 C1
  go_wp2_with fail
  go_loopw [3, 4, 5] (fun v t i wr => ∃ (m : Nat) (T : Int) (l : List R5) (a2 : Nat), i = .int .i64 m ∧ t = .int .i64 T ∧ m + l.length ≤ 7 ∧ (-10 + (l.length : Int) * 0 ≤ T + l.length ∧ T ≤ 400 + 2 * l.length) ∧ a2 ≤ a + 10 + l.length * 30 ∧ Hid (wr.ownsRow w.heap.size 25 5 v l.length (rowsV l)) ∧ Hid (CurAt wr g a2) ∧ Hid (Gr g w wr)) (fun _ _ i _ => (intOf i).toNat)
  case atStart => exact ⟨n, T0, [], a2, rfl, rfl, by simp; omega, by simp; omega, by simp; omega, V2, C2, G2⟩
  case round =>
    clear V2 C2 G2
    obtain ⟨m, T, l, a2, rfl, rfl, hm, ⟨hT0, hT1⟩, ha2, HV, HC, HG⟩ := hrel
    have zw := HG.out.size
    by_cases hm0 : 0 < m
    · go_wp2_with fail
      refine (termRow_any g a2 T _ HC.out (by omega) (by omega)).mono ?_
      rintro e w5 ⟨r, a5, rfl, ha5, hc, hg⟩
      have C5 := Lib.hid hc
      have G5 := Lib.hid (HG.out.trans hg)
      have V5 := Lib.hid (own_gr HV.out hg hlt)
      have z5 := G5.out.size
      clear hc hg HC HG HV
      have m1 : l.length + 1 ≤ maxLen := by unfold maxLen; omega
      have m2 : (l.length + 1) * 40 ≤ 140737488355328 := by omega
      go_wp2_with (at_builtin; refine wpList_append_own_at _ rfl (.tmp 17) (.tmp 21) 31 rfl w.heap.size 25 i0 _ 5 40 Try.underlying31 hi hz0 hz1 hz2 rfl (by decide) _ l.length (rowsV l) rfl (V5.out.alloc _) _ 1 1 [.int .i64 r.a, .int .i64 r.b, .int .i64 r.c, .int .i64 r.d, .int .i64 r.e] rfl rfl (cells_new_at _ [.int .i64 r.a, .int .i64 r.b, .int .i64 r.c, .int .i64 r.d, .int .i64 r.e] _ (by simp)) (by simp [Value.oneCell']) m1 m2 (by simp; omega) ?_; intro v' w6 hown hgrow _ hat; have HW := Lib.hid hown; have HGR := Lib.hid hgrow; clear hown hgrow hat)
      have C6 := Lib.hid (CurAt.grown (C5.out.ext (ext_alloc (ext_refl _) _)) HGR.out (fun b hb => by have := (V5.out.lt b hb).1; omega))
      have G6 := Lib.hid (Gr.grown (G5.out.trans (Gr.of_ext (ext_alloc (ext_refl _) _))) HGR.out (fun b hb => (V5.out.lt b hb).1))
      have V6 : Hid (w6.ownsRow w.heap.size 25 5 v' (l ++ [r]).length (rowsV (l ++ [r]))) := Lib.hid (by have := HW.out; simpa [rowsV, R5.cells] using this)
      clear HGR HW V5 C5 G5
      refine (among_lit g a5 (1) 2 [1, 1, 2] 3 _ C6.out (by omega) (by decide) (by decide) (by decide) _ rfl (by simp)).mono ?_
      rintro e w7 ⟨v7, a7, rfl, v70, v71, ha7, hc, hg⟩
      have C7 := Lib.hid hc
      have G7 := Lib.hid (G6.out.trans hg)
      have V7 := Lib.hid (own_gr V6.out hg hlt)
      clear hc hg C6 G6 V6
      go_wp2_with fail
      refine (pick_any g a7 90 _ C7.out (by omega) (by omega) (by omega)).mono ?_
      rintro e w8 ⟨q8, a8, rfl, q80, q81, ha8, hc, hg⟩
      have C8 := Lib.hid hc
      have G8 := Lib.hid (G7.out.trans hg)
      have V8 := Lib.hid (own_gr V7.out hg hlt)
      clear hc hg C7 G7 V7
      have y0 : 0 ≤ q8 / 89 := by omega
      have y1 : q8 / 89 ≤ 1 := by omega
      go_wp2
      go_roundw
      case rel => exact ⟨m - 1, T + v7 - q8 / 89 * 2, l ++ [r], a8, by go_num, by go_num, by simp; omega, by simp; omega, by simp; omega, V8, C8, G8⟩
      case measure => simp [intOf]; omega
    · obtain rfl : m = 0 := by omega
      go_wp2_with fail
      refine (one_any g a2 24 _ HC.out (by omega) (by omega) (by omega)).mono ?_
      rintro e w5 ⟨b, a5, rfl, ha5, hc, hg⟩
      have C5 := Lib.hid hc
      have G5 := Lib.hid (HG.out.trans hg)
      have V5 := Lib.hid (own_gr HV.out hg hlt)
      have z5 := G5.out.size
      clear hc hg HC HG HV
      rcases b with _ | _
      · obtain ⟨A, c, rfl⟩ := own_shape V5.out
        go_wp2
        go_ret
        exact ⟨l, A, c, a5, rfl, by omega, own_base V5.out (by omega), by omega, C5.out, G5.out⟩
      · have V6 := Lib.hid (own_base (base' := w.heap.size) (own_lit0 w5 25 5) z5)
        have C6 := Lib.hid (C5.out.ext (ext_alloc (ext_refl _) (.cells #[] 25)))
        have G6 := Lib.hid (G5.out.trans (Gr.of_ext (ext_alloc (ext_refl _) (.cells #[] 25))))
        clear V5 C5 G5
        go_wp2_with fail
        go_loopw [3, 6] (fun v i wr => ∃ (l : List R5) (a2 : Nat), i = .int .i64 l.length ∧ l.length ≤ 11 ∧ a2 ≤ a + 250 + l.length * 3 ∧ Hid (wr.ownsRow w.heap.size 25 5 v l.length (rowsV l)) ∧ Hid (CurAt wr g a2) ∧ Hid (Gr g w wr)) (fun _ i _ => 12 - (intOf i).toNat)
        case atStart => exact ⟨[], a5, rfl, by simp, by simp; omega, V6, C6, G6⟩
        case round =>
          clear V6 C6 G6
          obtain ⟨l, a2, rfl, hl, ha2, HV, HC, HG⟩ := hrel
          go_wp2_with fail
          refine (pick_any g a2 2 _ HC.out (by omega) (by omega) (by omega)).mono ?_
          rintro e w7 ⟨q7, a7, rfl, q70, q71, ha7, hc, hg⟩
          have C7 := Lib.hid hc
          have G7 := Lib.hid (HG.out.trans hg)
          have V7 := Lib.hid (own_gr HV.out hg hlt)
          have z7 := G7.out.size
          clear hc hg HC HG HV
          by_cases hq : (l.length : Int) < 10 + q7
          · have m1 : l.length + 1 ≤ maxLen := by unfold maxLen; omega
            have m2 : (l.length + 1) * 40 ≤ 140737488355328 := by omega
            go_wp2_with (at_builtin; refine wpList_append_own_at _ rfl (.tmp 43) (.tmp 48) 31 rfl w.heap.size 25 i0 _ 5 40 Try.underlying31 hi hz0 hz1 hz2 rfl (by decide) _ l.length (rowsV l) rfl (V7.out.alloc _) _ 1 1 [.int .i64 ((l.length : Int) + 1), .int .i64 (l.length : Int), .int .i64 0, .int .i64 0, .int .i64 0] rfl rfl (cells_new_at _ [.int .i64 ((l.length : Int) + 1), .int .i64 (l.length : Int), .int .i64 0, .int .i64 0, .int .i64 0] _ (by simp)) (by simp [Value.oneCell']) m1 m2 (by simp; omega) ?_; intro v' w8 hown hgrow _ hat; have HW := Lib.hid hown; have HGR := Lib.hid hgrow; clear hown hgrow hat)
            have C8 := Lib.hid (CurAt.grown (C7.out.ext (ext_alloc (ext_refl _) _)) HGR.out (fun b hb => by have := (V7.out.lt b hb).1; omega))
            have G8 := Lib.hid (Gr.grown (G7.out.trans (Gr.of_ext (ext_alloc (ext_refl _) _))) HGR.out (fun b hb => (V7.out.lt b hb).1))
            have V8 : Hid (w8.ownsRow w.heap.size 25 5 v' (l ++ [(⟨(l.length : Int) + 1, (l.length : Int), 0, 0, 0⟩ : R5)]).length (rowsV (l ++ [(⟨(l.length : Int) + 1, (l.length : Int), 0, 0, 0⟩ : R5)]))) := Lib.hid (by have := HW.out; simpa [rowsV, R5.cells] using this)
            go_roundw
            case rel => exact ⟨l ++ [⟨(l.length : Int) + 1, l.length, 0, 0, 0⟩], a7, by simp, by simp; omega, by simp; omega, V8, C8, G8⟩
            case measure => simp [intOf]; omega
          · obtain ⟨A, c, rfl⟩ := own_shape V7.out
            go_wp2
            go_ret
            exact ⟨l, A, c, a7, rfl, by omega, own_base V7.out (by omega), by omega, C7.out, G7.out⟩
end Go.Proofs.Ytkgeiemelhkkcaa
