/- RunSchool: the reference, walked. -/
import Derived.Test.YtkcbgiegoadkbaaVM5
import Derived.Test.YtkcbgiegoadkbaaVM7
namespace Go.Proofs.Ytkcbgiegoadkbaa
open Go.RowKit
set_option linter.unusedVariables false
set_option linter.unusedSimpArgs false
set_option maxRecDepth 100000 in
set_option maxHeartbeats 4000000 in
theorem specRun_any (day pa le : Int) (A : Option Addr) (n c : Nat) (l : List R5) (B : Option Addr) (m cb : Nat) (xs : List R3) (w : World) (hn : n ≤ 1048576) (hm : m ≤ 1048576) (hA : SlOk A n c) (h : Reads w w.heap.size 5 A n (rowsV l)) (hx : Reads w w.heap.size 3 B m (rowsV3 xs)) :
 Calls Try.prog 14 #[schV day A n c pa le, .slice B m cb] w fun e w' => ∃ o, runB (day, l, pa, le) xs = o ∧ RetRun (rD o) (rP o) (rQ o) (rM o) (rL o).length (rL o) o.isSome w e w' := by
 have HI := Lib.hid (fun (w : World) h => l25Good_any day pa le A n c l w hn h)
 have HO := Lib.hid (fun (w : World) h => l25Own_any day pa le A n c l w hn hA h)
 have hxl := rows_len3 hx
 have hll := rows_len h
 have H := Lib.hid h
 have HX := Lib.hid hx
 have HXL := Lib.hid hxl
 clear h hx
 rcases hs : schB day l pa le with _ | _
 · rw [hs] at HI
   have hB : runB (day, l, pa, le) xs = none := by unfold runB; rw [if_neg (by simp [schQ, hs])]
   have HB := Lib.hid hB
   clear hs hB hxl hll
   go_enter Try.func14, Try.ntmps14
   go_wp2_with fail
   refine (HI.out _ ((H.out.ext (ext_alloc (ext_alloc (ext_refl _) _) _) (Nat.le_refl _)).more (by simp; omega))).mono ?_
   rintro e w1 ⟨rfl, hb1⟩
   obtain ⟨hc1, hf1⟩ := bcell hb1
   have z0 : w.heap.size + 1 < w1.heap.size := by (have := hb1.size; simp at this; omega)
   have b1 := Lib.hid (ext_trans (ext_alloc (ext_alloc (ext_refl w) _) _) hb1)
   clear hb1
   go_wp2
   refine bodyPost_ret (v := .tuple #[schV 0 none 0 0 0 0, .int .i64 0, .bool false]) (by simp [results, Try.results14, go_sem, *]) rfl ?_
   refine ⟨_, HB.out, none, 0, rfl, World.ownsRow_nil _ _ _ _, ?_⟩
   repeat (first | (with_reducible exact b1.out) | (with_reducible refine ext_set ?_ (by simp <;> omega) _))
 rw [hs] at HI
 by_cases hm40 : 40 < m
 · have hB : runB (day, l, pa, le) xs = none := by unfold runB; rw [if_neg (by omega)]
   have HB := Lib.hid hB
   have hm1 : (40 : Int) < (m : Int) := by omega
   clear hs hB hxl hll
   go_enter Try.func14, Try.ntmps14
   go_wp2_with fail
   refine (HI.out _ ((H.out.ext (ext_alloc (ext_alloc (ext_refl _) _) _) (Nat.le_refl _)).more (by simp; omega))).mono ?_
   rintro e w1 ⟨rfl, hb1⟩
   obtain ⟨hc1, hf1⟩ := bcell hb1
   have z0 : w.heap.size + 1 < w1.heap.size := by (have := hb1.size; simp at this; omega)
   have b1 := Lib.hid (ext_trans (ext_alloc (ext_alloc (ext_refl w) _) _) hb1)
   clear hb1
   go_wp2
   refine bodyPost_ret (v := .tuple #[schV 0 none 0 0 0 0, .int .i64 0, .bool false]) (by simp [results, Try.results14, go_sem, *]) rfl ?_
   refine ⟨_, HB.out, none, 0, rfl, World.ownsRow_nil _ _ _ _, ?_⟩
   repeat (first | (with_reducible exact b1.out) | (with_reducible refine ext_set ?_ (by simp <;> omega) _))
 have hm2 : ¬ (40 : Int) < (m : Int) := by omega
 have hq0 : schQ (day, l, pa, le) = true := hs
 have HB := Lib.hid (show runB (day, l, pa, le) xs = some (runTo (day, l, pa, le) xs m) by unfold runB; rw [if_pos ⟨hq0, by omega⟩, hxl])
 have HQ0 := Lib.hid hq0
 clear hs hxl hll hq0
 go_enter Try.func14, Try.ntmps14
 go_wp2_with fail
 refine (HI.out _ ((H.out.ext (ext_alloc (ext_alloc (ext_refl _) _) _) (Nat.le_refl _)).more (by simp; omega))).mono ?_
 rintro e w1 ⟨rfl, hb1⟩
 obtain ⟨hc1, hf1⟩ := bcell hb1
 have z0 : w.heap.size + 1 < w1.heap.size := by (have := hb1.size; simp at this; omega)
 have z1 : w.heap.size < w1.heap.size := by omega
 have b1 := Lib.hid (ext_trans (ext_alloc (ext_alloc (ext_refl w) _) _) hb1)
 have BR := Lib.hid (((Blk.new (w.alloc (.cells #[.int .i64 day, .slice A n c, .int .i64 pa, .int .i64 le] 26)) #[.int .i64 0, .slice none 0 0, .int .i64 0, .int .i64 0] 26).ext hb1))
 clear hb1
 go_wp2_with fail
 refine (HO.out _ ((H.out.ext b1.out (Nat.le_refl _)).more (by omega))).mono ?_
 rintro e w2 ⟨A2, c2, rfl, ho2, hb2⟩
 have z2 : w1.heap.size ≤ w2.heap.size := hb2.size
 have BR2 : Blk w2 (w.heap.size + 1) 26 #[.int .i64 0, .slice none 0 0, .int .i64 0, .int .i64 0] := by simpa using BR.out.ext hb2
 have BR2 := Lib.hid BR2
 have HLL : l.length = n := rows_len H.out
 subst HLL
 have b2 := Lib.hid (ext_trans b1.out hb2)
 have O2 := Lib.hid ho2
 clear hb2 ho2 hc1 hf1
 go_wp2_with fail
 go_loopw [8, 9] (fun cnt i wr => ∃ (k : Nat) (A' : Option Addr) (c' M : Nat) (d p q : Int) (L : List R5), k ≤ m ∧ i = .int .i64 k ∧ cnt = .int .i64 M ∧ Hid (runTo (day, l, pa, le) xs k = ((d, L, p, q), M)) ∧ Hid (Blk wr w2.heap.size 26 #[.int .i64 d, .slice A' L.length c', .int .i64 p, .int .i64 q]) ∧ Hid (Blk wr (w.heap.size + 1) 26 #[.int .i64 0, .slice none 0 0, .int .i64 0, .int .i64 0]) ∧ Hid (wr.ownsRow w1.heap.size 55 5 (.slice A' L.length c') L.length (rowsV L)) ∧ Hid (Below w.heap.size w wr)) (fun _ i _ => m - (intOf i).toNat)
 case atStart => exact ⟨0, A2, c2, 0, day, pa, le, l, Nat.zero_le _, rfl, rfl, Lib.hid (runTo_zero _ _), Lib.hid (Blk.new _ _ _), Lib.hid (BR2.out.ext (ext_alloc (ext_refl _) _)), Lib.hid (O2.out.alloc _), Lib.hid (ext_alloc b2.out _)⟩
 case round =>
  obtain ⟨k, A', c', M, d, p, q, L, hk, rfl, rfl, HR, HG, HZ, HO', HBB⟩ := hrel
  obtain ⟨hsch, hMk⟩ := run_ok HR.out HQ0.out (by rw [HXL.out]; exact hk)
  have hL8 := schB_len hsch
  have sG := HG.out.lt
  have sB := HBB.out.size
  by_cases hlt : k < m
  · obtain ⟨x, hx⟩ := list_split (l := xs) (k := k) (by rw [HXL.out]; exact hlt)
    have HC0 := Lib.hid (rows_at3 (HX.out.ext HBB.out (Nat.le_refl _)) hx)
    have HT := Lib.hid (fun (w : World) h => l25Step_any d p q x.a x.b x.c A' L.length c' L w (by omega) h)
    obtain ⟨g0, g1, g2, g3⟩ := HG.out.q4
    rcases hok : stepOk L x.a x.b x.c with _ | _
    · have hnx := Lib.hid (run_no HR.out hx (stepS_no hok))
      rw [hok] at HT
      obtain ⟨b, o, rfl, hb, e0, e1, e2⟩ := HC0.out
      clear hok hx hsch HC0 HR
      have hlt' : (k : Int) < (m : Int) := by omega
      have hk0 : (0 : Int) ≤ (k : Int) := by omega
      go_wp2_with fail
      (refine wp_region_later (by kernel_rfl) (by kernel_rfl) ?_; (repeat (go_big_quiet_step (first | (go_at_call 22; exact Calls.later_of (HT.out _ (Reads.of_own (own_ext HO'.out (Later.h _)))))))); refine wpQuiet_nil ?_; intro w3 hw1; obtain ⟨⟨wl, hb⟩, hw1'⟩ := hw1; simp only at hw1'; subst hw1')
      have hbL' := Lib.hid hb
      clear hb g0 g1 g2 g3 e0 e1 e2
      go_wp2
      go_roundw
      case rel => exact ⟨k + 1, A', c', M, d, p, q, L, by omega, by go_num, rfl, hnx, Lib.hid (HG.out.ext hbL'.out), Lib.hid (HZ.out.ext hbL'.out), Lib.hid (own_ext HO'.out hbL'.out), Lib.hid (ext_trans HBB.out hbL'.out)⟩
      case measure => simp [intOf]; omega
    · have HM := Lib.hid (fun (w : World) h => l25Make_any d p q x.a x.b x.c A' L.length c' L w (own_cap3 HO'.out) (slOk_own HO'.out) h hsch hok)
      rw [hok] at HT
      obtain ⟨O, hO⟩ : ∃ O, stepS d p q L x.a x.b x.c = O := ⟨_, rfl⟩
      rw [hO] at HM
      have HOO := Lib.hid hO
      have HXK := Lib.hid hx
      obtain ⟨b, o, rfl, hb, e0, e1, e2⟩ := HC0.out
      clear hok hx hsch HC0 hO
      have hlt' : (k : Int) < (m : Int) := by omega
      have hk0 : (0 : Int) ≤ (k : Int) := by omega
      go_wp2_with fail
      (refine wp_region_later (by kernel_rfl) (by kernel_rfl) ?_; (repeat (go_big_quiet_step (first | (go_at_call 22; exact Calls.later_of (HT.out _ (Reads.of_own (own_ext HO'.out (Later.h _)))))))); refine wpQuiet_nil ?_; intro w3 hw1; obtain ⟨⟨wl, hb⟩, hw1'⟩ := hw1; simp only at hw1'; subst hw1')
      rename Below wr.heap.size wr w3 => hbL
      have G3 := Lib.hid (HG.out.ext hbL)
      have Z3 := Lib.hid (HZ.out.ext hbL)
      have O3 := Lib.hid (own_ext HO'.out hbL)
      have B3 := Lib.hid (ext_trans HBB.out hbL)
      have d0 := ext_cell hbL e0
      have d1 := ext_cell hbL e1
      have d2 := ext_cell hbL e2
      have sG3 := G3.out.lt
      have hbS := hbL.size
      have hb3 : b < w3.heap.size := by omega
      obtain ⟨g0, g1, g2, g3⟩ := G3.out.q4
      clear hbL e0 e1 e2
      go_wp2_with fail
      go_cut [10, 11] (fun s10 s11 wx => ∃ (g : Nat) (A4 : Option Addr) (c4 : Nat) (d4 p4 q4 : Int) (L4 : List R5), s10 = .pointer (some ⟨g, 0, none⟩) ∧ s11 = .bool O.isSome ∧ Blk wx g 26 #[.int .i64 d4, .slice A4 L4.length c4, .int .i64 p4, .int .i64 q4] ∧ w3.heap.size ≤ g ∧ wx.ownsRow w1.heap.size 55 5 (.slice A4 L4.length c4) L4.length (rowsV L4) ∧ (∀ y, O = some y → y = (d4, L4, p4, q4)) ∧ Below w3.heap.size w3 wx)
      case first =>
       go_region_held3 (fun w' => w'.cell? ⟨w2.heap.size, 0, none⟩ = some (.int .i64 d) ∧ w'.cell? ⟨w2.heap.size, 1, none⟩ = some (.slice A' L.length c') ∧ w'.cell? ⟨w2.heap.size, 2, none⟩ = some (.int .i64 p) ∧ w'.cell? ⟨w2.heap.size, 3, none⟩ = some (.int .i64 q) ∧ w'.cell? ⟨b, o + k * 3, none⟩ = some (.int .i64 x.a) ∧ w'.cell? ⟨b, o + k * 3 + 1, none⟩ = some (.int .i64 x.b) ∧ w'.cell? ⟨b, o + k * 3 + 2, none⟩ = some (.int .i64 x.c)) (first | (go_split_ands; ((repeat' refine And.intro ?_ ?_) <;> with_reducible (repeat (first | assumption | refine cell_drew ?_ | refine cell_old ?_ _ | refine cell_set_far (by first | (show w3.heap.size ≠ w2.heap.size; omega) | (show w3.heap.size ≠ b; omega)) ?_))))) (first | (go_at_call 23; refine (HM.out _ (Reads.of_own (base := w1.heap.size) (e := 55) (c := c') (by repeat (first | (with_reducible exact O3.out) | (with_reducible refine World.ownsRow.drew ?_) | (with_reducible refine World.ownsRow.alloc ?_ _))))).mono ?_; rintro e w4 ⟨A4, c4, d4, p4, q4, L4, rfl, ho4, hx4, hb4⟩; have ho4 := Lib.hid ho4; have hx4 := Lib.hid hx4; obtain ⟨hc4, hf4⟩ := bcell hb4; have z4 := hb4.size; (try simp at z4); have k0 : w4.cell? ⟨w2.heap.size, 0, none⟩ = some (.int .i64 d) := ext_cell hb4 (by with_reducible (repeat (first | exact g0 | refine cell_drew ?_ | refine cell_old ?_ _))); have k1 : w4.cell? ⟨w2.heap.size, 1, none⟩ = some (.slice A' L.length c') := ext_cell hb4 (by with_reducible (repeat (first | exact g1 | refine cell_drew ?_ | refine cell_old ?_ _))); have k2 : w4.cell? ⟨w2.heap.size, 2, none⟩ = some (.int .i64 p) := ext_cell hb4 (by with_reducible (repeat (first | exact g2 | refine cell_drew ?_ | refine cell_old ?_ _))); have k3 : w4.cell? ⟨w2.heap.size, 3, none⟩ = some (.int .i64 q) := ext_cell hb4 (by with_reducible (repeat (first | exact g3 | refine cell_drew ?_ | refine cell_old ?_ _))); have k4 : w4.cell? ⟨b, o + k * 3, none⟩ = some (.int .i64 x.a) := ext_cell hb4 (by with_reducible (repeat (first | exact d0 | refine cell_drew ?_ | refine cell_old ?_ _))); have k5 : w4.cell? ⟨b, o + k * 3 + 1, none⟩ = some (.int .i64 x.b) := ext_cell hb4 (by with_reducible (repeat (first | exact d1 | refine cell_drew ?_ | refine cell_old ?_ _))); have k6 : w4.cell? ⟨b, o + k * 3 + 2, none⟩ = some (.int .i64 x.c) := ext_cell hb4 (by with_reducible (repeat (first | exact d2 | refine cell_drew ?_ | refine cell_old ?_ _)))))
       all_goals (go_wp2_with fail; go_meet)
       all_goals refine ⟨_, A4, c4, d4, p4, q4, L4, rfl, rfl, ?_, ?_, ?_, hx4.out, ?_⟩
       · exact Blk.new _ _ _
       · exact hb4.size
       · exact own_base (ho4.out.alloc _) (by simp; omega)
       · exact ext_alloc (ext_trans (ext_drew (ext_refl _)) hb4) _
       · have := (((((((Blk.new w3 #[.int .i64 0, .slice none 0 0, .int .i64 0, .int .i64 0] 26).ext (ext_drew (ext_refl _))).ext hb4).set_ 0 (.int .i64 d4)).set_ 1 (.slice A4 L4.length c4)).set_ 2 (.int .i64 p4)).set_ 3 (.int .i64 q4))
         simpa using this
       · exact Nat.le_refl _
       · have hne : Value.ownBlock (.slice A4 L4.length c4) ≠ some w3.heap.size := own_far_lt ho4.out (by simp)
         iterate 4 refine own_set_nb ?_ hne _
         exact own_base ho4.out (by simp; omega)
       · have hx : Below w3.heap.size w3 w4 := ext_trans (ext_drew (ext_alloc (ext_refl _) _)) hb4
         exact ext_set (ext_set (ext_set (ext_set hx (Nat.le_refl _) _) (Nat.le_refl _) _) (Nat.le_refl _) _) (Nat.le_refl _) _
      case rest =>
       obtain ⟨g, A4, c4, d4, p4, q4, L4, rfl, rfl, hG4, hg4, ho4, hx4, hb4⟩ := hcut
       obtain ⟨w5, hw5⟩ : ∃ w5, w5 = wc := ⟨_, rfl⟩
       subst hw5
       have N4 := Lib.hid hG4
       have G4 := Lib.hid (G3.out.ext hb4)
       have Z4 := Lib.hid (Z3.out.ext hb4)
       have O4 := Lib.hid ho4
       have O4' := Lib.hid (own_ext O3.out hb4)
       have B4 := Lib.hid (ext_trans B3.out hb4)
       have HX4 := Lib.hid hx4
       have sZ3 := Z3.out.lt
       clear hG4 ho4 hx4 hb4 g0 g1 g2 g3 d0 d1 d2
       rcases O with _ | ⟨D, L2, P, Q⟩
       · have hnx := Lib.hid (run_no HR.out HXK.out HOO.out)
         go_wp2
         go_roundw
         case rel => exact ⟨k + 1, A', c', M, d, p, q, L, by omega, by go_num, rfl, hnx, G4, Z4, O4', B4⟩
         case measure => simp [intOf]; omega
       · have hnx := Lib.hid (run_yes HR.out HXK.out HOO.out)
         have he := HX4.out _ rfl
         injection he with h1 he
         injection he with h2 he
         injection he with h3 h4
         subst h1 h2 h3 h4
         clear HX4
         have hne := own_nb O4.out G4.out (by decide)
         have HNE := Lib.hid hne
         clear hne
         obtain ⟨k0, k1, k2, k3⟩ := N4.out.q4
         obtain ⟨g0, g1, g2, g3⟩ := G4.out.q4
         obtain ⟨f0, f1, f2, f3⟩ := G4.out.z4
         have GS : Hid (Blk ((((w5.setCell ⟨w2.heap.size, 0, none⟩ (.int .i64 D)).setCell ⟨w2.heap.size, 1, none⟩ (.slice A4 L2.length c4)).setCell ⟨w2.heap.size, 2, none⟩ (.int .i64 P)).setCell ⟨w2.heap.size, 3, none⟩ (.int .i64 Q)) w2.heap.size 26 #[.int .i64 D, .slice A4 L2.length c4, .int .i64 P, .int .i64 Q]) := Lib.hid (by
          have := (((G4.out.set_ 0 (.int .i64 D)).set_ 1 (.slice A4 L2.length c4)).set_ 2 (.int .i64 P)).set_ 3 (.int .i64 Q)
          simpa using this)
         have ZS : Hid (Blk ((((w5.setCell ⟨w2.heap.size, 0, none⟩ (.int .i64 D)).setCell ⟨w2.heap.size, 1, none⟩ (.slice A4 L2.length c4)).setCell ⟨w2.heap.size, 2, none⟩ (.int .i64 P)).setCell ⟨w2.heap.size, 3, none⟩ (.int .i64 Q)) (w.heap.size + 1) 26 #[.int .i64 0, .slice none 0 0, .int .i64 0, .int .i64 0]) := Lib.hid (by
          iterate 4 refine Blk.set_far ?_ (by show w2.heap.size ≠ w.heap.size + 1; omega) _
          exact Z4.out)
         have OS : Hid (((((w5.setCell ⟨w2.heap.size, 0, none⟩ (.int .i64 D)).setCell ⟨w2.heap.size, 1, none⟩ (.slice A4 L2.length c4)).setCell ⟨w2.heap.size, 2, none⟩ (.int .i64 P)).setCell ⟨w2.heap.size, 3, none⟩ (.int .i64 Q)).ownsRow w1.heap.size 55 5 (.slice A4 L2.length c4) L2.length (rowsV L2)) := Lib.hid (by
          iterate 4 refine own_set_nb ?_ HNE.out _
          exact O4.out)
         have BS : Hid (Below w.heap.size w ((((w5.setCell ⟨w2.heap.size, 0, none⟩ (.int .i64 D)).setCell ⟨w2.heap.size, 1, none⟩ (.slice A4 L2.length c4)).setCell ⟨w2.heap.size, 2, none⟩ (.int .i64 P)).setCell ⟨w2.heap.size, 3, none⟩ (.int .i64 Q))) := Lib.hid (by
          iterate 4 refine ext_set ?_ (by show w.heap.size ≤ w2.heap.size; omega) _
          exact B4.out)
         go_wp2
         go_roundw
         case rel => exact ⟨k + 1, A4, c4, M + 1, D, P, Q, L2, by omega, by go_num, by go_num, hnx, GS, ZS, OS, BS⟩
         case measure => simp [intOf]; omega
  · obtain rfl : k = m := by omega
    have hne := own_nb HO'.out HZ.out (by decide)
    obtain ⟨g0, g1, g2, g3⟩ := HG.out.q4
    obtain ⟨y0, y1, y2, y3⟩ := HZ.out.q4
    obtain ⟨f0, f1, f2, f3⟩ := HZ.out.z4
    have sZ := HZ.out.lt
    have hB2 := Lib.hid (show runB (day, l, pa, le) xs = some ((d, L, p, q), M) by rw [HB.out, HR.out])
    have HNE := Lib.hid hne
    clear hsch hne
    go_wp2
    refine bodyPost_ret (v := .tuple #[schV d A' L.length c' p q, .int .i64 (M : Int), .bool true]) (by simp [results, Try.results14, go_sem, *]) rfl ?_
    refine ⟨_, hB2.out, A', c', rfl, ?_, ?_⟩
    · iterate 4 refine own_set_nb ?_ HNE.out _
      exact own_base HO'.out (by omega)
    · iterate 4 refine ext_set ?_ (by show w.heap.size ≤ w.heap.size + 1; omega) _
      exact HBB.out
end Go.Proofs.Ytkcbgiegoadkbaa
