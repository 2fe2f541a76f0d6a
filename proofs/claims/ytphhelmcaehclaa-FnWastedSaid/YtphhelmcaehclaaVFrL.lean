/- A digit added, taken: the reference's. -/
import Derived.Test.YtphhelmcaehclaaVM4
namespace Go.Proofs.Ytphhelmcaehclaa
open Go.RowKit
set_option linter.unusedVariables false
set_option linter.unusedSimpArgs false
theorem l2Value_rod (x : Int) (w : World) (h0 : 0 ≤ x) (h9 : x ≤ 9) :
 Calls Try.prog 95 #[.agg #[.int .i64 (x / 5), .int .i64 (x % 5)]] w fun e w' => e = .returned (.int .i64 x) ∧ Below w.heap.size w w' := by
 have := l2Value_any (rodD x) w (rodD_Sm h0 (by omega))
 rw [dv_rodD] at this
 exact this
theorem TakeFit.nil {k : Nat} {ds : List Int} (hk : k ≤ ds.length) (h : WF ds) : TakeFit k 0 ds := ⟨hk, by omega, by omega, h, by have := numD_bounds h; simp; omega⟩
/-- moves, a frame of their own, and how often the left was asked come back -/
def RetMF3 (w : World) (u lo : Int) (s : WS) (e : Ending) (w' : World) : Prop :=
 ∃ (A : Option Addr) (c' h c : Nat), e = .returned (.tuple #[.slice A s.ms.length c', frV u lo (some ⟨h, 0, none⟩) s.ds.length c, .int .i64 s.ask]) ∧ w'.ownsRow w.heap.size 75 3 (.slice A s.ms.length c') s.ms.length (rowsV3 s.ms) ∧
  w'.ownsRow w.heap.size 96 2 (.slice (some ⟨h, 0, none⟩) s.ds.length c) s.ds.length (rowsV2 (rodsD s.ds)) ∧ Below w.heap.size w w'
set_option maxRecDepth 100000 in
set_option maxHeartbeats 4000000 in
theorem l6Digit_any (u lo : Int) (A : Option Addr) (n c : Nat) (ds : List Int) (r0 : Nat) (d0 : Int) (w : World) (hn : ds.length = n) (hn8 : n ≤ 8) (hf : AddFit (r0 + 1) d0 ds) (h : Reads w w.heap.size 2 A n (rowsV2 (rodsD ds))) :
 Calls Try.prog 69 #[frV u lo A n c, .int .i64 (r0 : Int), .int .i64 d0] w (RetMF w u lo (addS (r0 + 1) d0 ⟨ds, [], 0⟩)) := by
 obtain ⟨i0, hi, hz0, hz1, hz2⟩ := info_parts info_mv
 have hr0 : r0 + 1 ≤ n := by rw [← hn]; exact hf.1
 have HF := Lib.hid hf
 have H := Lib.hid h
 have HN := Lib.hid hn
 have HO := Lib.hid (own_lit_at ((w.alloc (.cells #[.int .i64 u, .int .i64 lo, .slice A n c] 26)).alloc (.cells #[.int .i64 0, .int .i64 0, .slice none 0 0] 26)) 75 3 (H := w.heap.size + 1 + 1) (B := w.heap.size) (by simp) (by omega))
 have BRes := Lib.hid ((Blk.born (w.alloc (.cells #[.int .i64 u, .int .i64 lo, .slice A n c] 26)) #[.int .i64 0, .int .i64 0, .slice none 0 0] 26 (H := w.heap.size + 1) (by simp)).al (.cells #[] 75))
 have hbx := Lib.hid (ext_alloc (ext_alloc (ext_alloc (ext_refl w) (.cells #[.int .i64 u, .int .i64 lo, .slice A n c] 26)) (.cells #[.int .i64 0, .int .i64 0, .slice none 0 0] 26)) (.cells #[] 75))
 clear hf h hn
 go_enter Try.func69, Try.ntmps69
 go_wp2_with fail
 refine (l2Own_fr u lo A n c (rodsD ds) _ (by omega) (by omega) (rdx H.out hbx.out)).mono ?_
 rintro e w1 ⟨h, cr, rfl, hr, hb1⟩
 have hr := Lib.hid (own_base (base' := w.heap.size) hr hbx.out.size)
 have HO1 := Lib.hid (own_ext HO.out hb1)
 have BR1 := Lib.hid (BRes.out.ext hb1)
 have hb2 := Lib.hid (ext_trans hbx.out hb1)
 have hs1 : w.heap.size + 1 + 1 < w1.heap.size := by have := hb1.size; simp at this; omega
 obtain ⟨N, hN⟩ : ∃ N, N = w1.heap.size := ⟨_, rfl⟩
 obtain ⟨W, hW⟩ : ∃ W, W = w1.alloc (.cells #[.int .i64 u, .int .i64 lo, .slice (some ⟨h, 0, none⟩) n cr] 26) := ⟨_, rfl⟩
 have BN := Lib.hid (show Blk W N 26 #[.int .i64 u, .int .i64 lo, .slice (some ⟨h, 0, none⟩) n cr] by rw [hW]; exact Blk.born _ _ _ hN)
 have BRW := Lib.hid (show Blk W (w.heap.size + 1) 26 #[.int .i64 0, .int .i64 0, .slice none 0 0] by rw [hW]; exact BR1.out.al _)
 have HOW := Lib.hid (show W.ownsRow w.heap.size 75 3 (.slice (some ⟨w.heap.size + 1 + 1, 0, none⟩) 0 0) 0 [] by rw [hW]; exact HO1.out.alloc _)
 have hrW := Lib.hid (show W.ownsRow w.heap.size 96 2 (.slice (some ⟨h, 0, none⟩) n cr) n (rowsV2 (rodsD ds)) by rw [hW]; exact hr.out.alloc _)
 have hbW := Lib.hid (show Below w.heap.size w W by rw [hW]; exact ext_alloc hb2.out _)
 have HWN := Lib.hid (And.intro hW hN)
 clear hb1 hN hW
 go_wp2
 rw [← HWN.out.2, ← HWN.out.1]
 go_loopw [1, 2, 8] (fun i d v wr => ∃ (r : Nat) (z e : Int) (t : WS) (A' : Option Addr) (c' : Nat), i = .int .i64 z ∧ z = (r : Int) - 1 ∧ d = .int .i64 e ∧ v = .slice A' t.ms.length c' ∧ Hid (AddFit r e t.ds) ∧ Hid (addS r e t = addS (r0 + 1) d0 ⟨ds, [], 0⟩) ∧ t.ds.length = n ∧ t.ms.length + 2 * r ≤ 2 * (r0 + 1) ∧ Hid (wr.ownsRow w.heap.size 75 3 (.slice A' t.ms.length c') t.ms.length (rowsV3 t.ms)) ∧ Hid (wr.ownsRow w.heap.size 96 2 (.slice (some ⟨h, 0, none⟩) n cr) n (rowsV2 (rodsD t.ds))) ∧ Hid (Blk wr N 26 #[.int .i64 u, .int .i64 lo, .slice (some ⟨h, 0, none⟩) n cr]) ∧ Hid (Blk wr (w.heap.size + 1) 26 #[.int .i64 0, .int .i64 0, .slice none 0 0]) ∧ Hid (Below w.heap.size w wr)) (fun i _ _ _ => (intOf i + 1).toNat)
 case atStart => exact ⟨r0 + 1, r0, d0, ⟨ds, [], 0⟩, some ⟨w.heap.size + 1 + 1, 0, none⟩, 0, rfl, by omega, rfl, rfl, HF, Lib.hid rfl, HN.out, by simp, HOW, hrW, BN, BRW, hbW⟩
 case round =>
  obtain ⟨r, z, e, t, A', c', rfl, hz, rfl, rfl, hfr, heq, hlen, hml, hmr, hrr, BNr, BRr, hbr⟩ := hrel
  obtain ⟨p0, p1, p2⟩ := BNr.out.q3
  have hNr := BNr.out.lt
  by_cases he : 0 < e
  · obtain ⟨k, hrk, hk⟩ := hfr.out.rod he
    subst hrk
    have hzk : z = (k : Int) := by omega
    subst hzk
    clear hz
    obtain ⟨x, hx⟩ := list_split hk
    obtain ⟨x0, x9⟩ := hfr.out.2.2.2.1.get hx
    have e9 := hfr.out.2.2.1
    have hkn : k < n := by omega
    obtain ⟨c0, c1, hlt, _⟩ := rods_cells hrr.out hx
    have hdh := (hrr.out.lt h rfl).1
    have HX := Lib.hid hx
    clear hx
    go_wp2_with fail
    refine (l2Value_rod x _ x0 x9).mono ?_
    rintro e1 w2 ⟨rfl, hb2⟩
    have hm2 := Lib.hid (own_ext hmr.out hb2)
    have hr2 := Lib.hid (own_ext hrr.out hb2)
    have BN2 := Lib.hid (BNr.out.ext hb2)
    have BR2 := Lib.hid (BRr.out.ext hb2)
    have hb3 := Lib.hid (ext_trans hbr.out hb2)
    clear hb2 p0 p1 p2 c0 c1
    have HWR := Lib.hid (show (IntKind.i64.wrap (x + e)).tmod 10 = (x + e) % 10 by rw [IntWalk.i64_in _ (by omega)]; exact Int.tmod_eq_emod_of_nonneg (by omega))
    have hnext := Lib.hid (hfr.out.next HX.out)
    have hstep := Lib.hid (show addS (k + 1) e t = addS k ((x + e) / 10) ⟨t.ds.set k ((x + e) % 10), t.ms ++ turnM k x ((x + e) % 10), t.ask + if 0 < (x + e) / 10 then 1 else 0⟩ from addS_step (t := t) HX.out he)
    have y0 : 0 ≤ (x + e) % 10 := by omega
    have y9 : (x + e) % 10 ≤ 9 := by omega
    go_wp2_with fail
    refine (l6Turn_any k x ((x + e) % 10) _ x0 x9 y0 y9).mono ?_
    rintro e2 w3 ⟨Am, cm, rfl, hm3, hb3'⟩
    have hm3 := Lib.hid hm3
    have hmo := Lib.hid (own_ext hm2.out hb3')
    have hr3 := Lib.hid (own_ext hr2.out hb3')
    have BN3 := Lib.hid (BN2.out.ext hb3')
    have BR3 := Lib.hid (BR2.out.ext hb3')
    have hb4 := Lib.hid (ext_trans hb3.out hb3')
    have hs3 := hb4.out.size
    clear hb3'
    have m5 := turnM_len k x ((x + e) % 10)
    have m6 : t.ms.length + (turnM k x ((x + e) % 10)).length ≤ maxLen := by unfold maxLen; omega
    have m7 : (t.ms.length + (turnM k x ((x + e) % 10)).length) * 24 ≤ 140737488355328 := by omega
    go_wp2_with (at_builtin; (refine wpList_appO rfl (.tmp 26) (.tmp 33) 27 rfl w.heap.size 75 i0 _ 3 24 Try.underlying27 hi hz0 hz1 hz2 rfl (by decide) (.slice A' t.ms.length c') _ _ rfl hmo.out Am _ cm (rowsV3 (turnM k x ((x + e) % 10))) rfl _ hm3.out (rows3_one _) m6 m7 hs3 ?_; intro A4 c4 w4 hown hgrow; (rw [← rowsV3_app] at hown; have hnr := own_neT hr3.out hmo.out (by decide); have hr4 := Lib.hid (hr3.out.kept hgrow hnr); have BN4 := Lib.hid (BN3.out.grownF hgrow (own_nbT hmo.out BN3.out (by decide))); have BR4 := Lib.hid (BR3.out.grownF hgrow (own_nbT hmo.out BR3.out (by decide))); have hb5 := Lib.hid (hb4.out.trans (below_row hmo.out hgrow hs3)); have hown := Lib.hid hown; obtain ⟨p0, p1, p2⟩ := BN4.out.q3; obtain ⟨c0, c1, hlt4, _⟩ := rods_cells hr4.out HX.out; have fz0 := own_frozen hr4.out (k * 2); have fz1 := own_frozen hr4.out (k * 2 + 1); have hN4 := BN4.out.lt; clear hgrow hnr)))
    go_region_held3 (fun w' => w'.cell? ⟨N, 2, none⟩ = some (.slice (some ⟨h, 0, none⟩) n cr)) (first | (with_reducible assumption) | (exact cell_drew (by with_reducible assumption)) | (exact cell_set_far (by dsimp only; exact own_nbT hr4.out BN4.out (by decide) |> fun hh e => hh (by rw [e]; rfl)) (cell_set_far (by dsimp only; exact own_nbT hr4.out BN4.out (by decide) |> fun hh e => hh (by rw [e]; rfl)) (by with_reducible assumption)))) (first | (rw [HWR.out]; go_at_call 82; refine (l2Digit_any ((x + e) % 10) _ y0 (by omega)).mono ?_; rintro e5 w5 ⟨rfl, hb5'⟩; have hbd := Lib.hid (ext_drew_left hb5'); have c0' := ext_cell hbd.out c0; have c1' := ext_cell hbd.out c1; have fz0' := (hbd.out.frozen (p := ⟨h, k * 2, none⟩) hlt4).trans fz0; have fz1' := (hbd.out.frozen (p := ⟨h, k * 2 + 1, none⟩) hlt4).trans fz1; have p2' := ext_cell hbd.out p2; have hlt5 := Nat.lt_of_lt_of_le hlt4 hbd.out.size; clear hb5'))
    all_goals
     have e1 := Lib.hid (rowsV2_set (rodsD t.ds) k (rodD ((x + e) % 10)) (by rw [rodsD_len]; exact hk))
     have hn5h := own_neT (own_ext hr4.out hbd.out) (own_ext hown.out hbd.out) (by decide)
     have hn5 : Value.ownBlock (.slice A4 (t.ms.length + (turnM k x ((x + e) % 10)).length) c4) ≠ some h := fun ee => by
      rcases hn5h with hd | hd
      · cases hd
      · exact hd ee.symm
     have hnN : h ≠ N := fun ee => own_nbT hr4.out BN4.out (by decide) (by rw [ee]; rfl)
     have hnR : h ≠ w.heap.size + 1 := fun ee => own_nbT hr4.out BR4.out (by decide) (by rw [ee]; rfl)
     have hm6 := Lib.hid (own_setF (p := ⟨h, k * 2 + 1, none⟩) (own_setF (p := ⟨h, k * 2, none⟩) (own_ext hown.out hbd.out) hn5 (.int .i64 (((x + e) % 10) / 5))) hn5 (.int .i64 (((x + e) % 10) % 5)))
     have hr6 := Lib.hid (((own_ext hr4.out hbd.out).stored (k * 2) (.int .i64 (((x + e) % 10) / 5))).1.stored (k * 2 + 1) (.int .i64 (((x + e) % 10) % 5))).1
     have BN6 := Lib.hid (((BN4.out.ext hbd.out).setF (p := ⟨h, k * 2, none⟩) hnN (.int .i64 (((x + e) % 10) / 5))).setF (p := ⟨h, k * 2 + 1, none⟩) hnN (.int .i64 (((x + e) % 10) % 5)))
     have BR6 := Lib.hid (((BR4.out.ext hbd.out).setF (p := ⟨h, k * 2, none⟩) hnR (.int .i64 (((x + e) % 10) / 5))).setF (p := ⟨h, k * 2 + 1, none⟩) hnR (.int .i64 (((x + e) % 10) % 5)))
     have hb6 := Lib.hid (((ext_trans hb5.out hbd.out).setCell (p := ⟨h, k * 2, none⟩) hdh (.int .i64 (((x + e) % 10) / 5))).setCell (p := ⟨h, k * 2 + 1, none⟩) hdh (.int .i64 (((x + e) % 10) % 5)))
     clear hn5 hn5h hnN hnR
     go_wp2
     go_roundw
     case rel => exact ⟨k, (k : Int) - 1, (x + e) / 10, ⟨t.ds.set k ((x + e) % 10), t.ms ++ turnM k x ((x + e) % 10), t.ask + if 0 < (x + e) / 10 then 1 else 0⟩, A4, c4, rfl, rfl, rfl, by simp only [List.length_append], hnext, Lib.hid (by rw [← heq.out]; exact hstep.out.symm), by simpa using hlen, by simp only [List.length_append]; omega, by simp only [List.length_append]; exact hm6, by have := hr6.out; rw [rodsD_set, e1.out]; exact Lib.hid this, BN6, BR6, hb6⟩
     case measure => simp [intOf]
  · have hend := Lib.hid (addS_none (r := r) t he)
    obtain ⟨r0', r1', r2'⟩ := BRr.out.q3
    obtain ⟨f0', f1', f2'⟩ := BRr.out.z3
    have hneN : N ≠ w.heap.size + 1 := by have := hs1; rw [HWN.out.2]; omega
    have hneN' : ¬ w.heap.size + 1 = N := fun e => hneN e.symm
    have hRl := BRr.out.lt
    clear hz
    go_wp2
    go_region
    go_wp2
    refine bodyPost_ret (v := .tuple #[.slice A' t.ms.length c', frV u lo (some ⟨h, 0, none⟩) n cr]) (by simp [results, Try.results69, go_sem, *]) rfl ?_
    have hTE : addS (r0 + 1) d0 ⟨ds, [], 0⟩ = t := by rw [← heq.out, hend.out]
    rw [hTE]
    refine ⟨A', c', h, cr, by rw [hlen], ?_, ?_, ?_⟩
    · iterate 3 refine own_setF ?_ (own_nbT hmr.out BRr.out (by decide)) _
      exact hmr.out
    · rw [hlen]
      iterate 3 refine own_setF ?_ (own_nbT hrr.out BRr.out (by decide)) _
      exact hrr.out
    · have hle : w.heap.size ≤ w.heap.size + 1 := Nat.le_succ _
      exact ((hbr.out.drew.setCell (p := ⟨w.heap.size + 1, 0, none⟩) hle _).setCell (p := ⟨w.heap.size + 1, 1, none⟩) hle _).setCell (p := ⟨w.heap.size + 1, 2, none⟩) hle _
end Go.Proofs.Ytphhelmcaehclaa
