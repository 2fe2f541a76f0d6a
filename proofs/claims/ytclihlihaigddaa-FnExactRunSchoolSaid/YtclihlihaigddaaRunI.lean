
/- RunSchool: the program, walked. -/
import Derived.Test.YtclihlihaigddaaRunP
import Derived.Test.YtclihlihaigddaaScW
import Derived.Test.YtclihlihaigddaaScO
namespace Go.Proofs.Ytclihlihaigddaa
open Go.RowKit
set_option linter.unusedVariables false
set_option linter.unusedSimpArgs false
theorem own_some_ne {w w' : World} {E size n g : Nat} {v : Value} {xs : List Value} (h : w'.ownsRow w.heap.size E size v n xs) (hg : g < w.heap.size) : v.ownBlock ≠ some g := fun e => by have := (h.lt g e).1; omega
set_option maxRecDepth 100000 in
set_option maxHeartbeats 4000000 in
theorem implRun_any (day pa le : Int) (A : Option Addr) (n c : Nat) (l : List R5) (B : Option Addr) (m cb : Nat) (xs : List R3) (w : World) (hn : n ≤ 1048576) (hm : m ≤ 1048576) (hA : SlOk A n c) (h : Reads w w.heap.size 5 A n (rowsV l)) (hx : Reads w w.heap.size 3 B m (rowsV3 xs)) (hv : ∀ x ∈ xs, x.c ≤ 9223372036854775807) :
    Calls Try.prog 54 #[schV day A n c pa le, .slice B m cb] w fun e w' => ∃ o, runB (day, l, pa, le) xs = o ∧ RetRun (rD o) (rP o) (rQ o) (rM o) (rL o).length (rL o) o.isSome w e w' := by
  have HI := Lib.hid (fun (w : World) h => isSchool_any day pa le A n c l w hn h)
  have HO := Lib.hid (fun (w : World) h => own_any day pa le A n c l w hn hA h)
  have hxl := rows_len3 hx
  have hll := rows_len h
  have H := Lib.hid h
  have HX := Lib.hid hx
  have HXL := Lib.hid hxl
  clear h hx
  rcases hs : schB day l pa le with _ | _
  · rw [hs] at HI
    have hB : runB (day, l, pa, le) xs = none := by unfold runB; rw [if_neg (by simp [schQ, hs])]
    have HB := Lib.hid hB
    clear hs hB hxl hll
    go_enter Try.func54, Try.ntmps54
    go_wp2_with fail
    refine (HI.out _ ((H.out.ext (ext_alloc (ext_alloc (ext_refl _) _) _) (Nat.le_refl _)).more (by simp; omega))).mono ?_
    rintro e w1 ⟨rfl, hb1⟩
    obtain ⟨hc1, hf1⟩ := bcell hb1
    have z0 : w.heap.size + 1 < w1.heap.size := by (have := hb1.size; simp at this; omega)
    have b1 := Lib.hid (ext_trans (ext_alloc (ext_alloc (ext_refl w) _) _) hb1)
    clear hb1
    go_wp2
    refine bodyPost_ret (v := .tuple #[schV 0 none 0 0 0 0, .int .i64 0, .bool false]) (by simp [results, Try.results54, go_sem, *]) rfl ?_
    refine ⟨_, HB.out, none, 0, rfl, World.ownsRow_nil _ _ _ _, ?_⟩
    repeat (first | (with_reducible exact b1.out) | (with_reducible refine ext_set ?_ (by simp <;> omega) _))
  rw [hs] at HI
  by_cases hm40 : 40 < m
  · have hB : runB (day, l, pa, le) xs = none := by unfold runB; rw [if_neg (by omega)]
    have HB := Lib.hid hB
    have hm1 : (40 : Int) < (m : Int) := by omega
    clear hs hB hxl hll
    go_enter Try.func54, Try.ntmps54
    go_wp2_with fail
    refine (HI.out _ ((H.out.ext (ext_alloc (ext_alloc (ext_refl _) _) _) (Nat.le_refl _)).more (by simp; omega))).mono ?_
    rintro e w1 ⟨rfl, hb1⟩
    obtain ⟨hc1, hf1⟩ := bcell hb1
    have z0 : w.heap.size + 1 < w1.heap.size := by (have := hb1.size; simp at this; omega)
    have b1 := Lib.hid (ext_trans (ext_alloc (ext_alloc (ext_refl w) _) _) hb1)
    clear hb1
    go_wp2
    refine bodyPost_ret (v := .tuple #[schV 0 none 0 0 0 0, .int .i64 0, .bool false]) (by simp [results, Try.results54, go_sem, *]) rfl ?_
    refine ⟨_, HB.out, none, 0, rfl, World.ownsRow_nil _ _ _ _, ?_⟩
    repeat (first | (with_reducible exact b1.out) | (with_reducible refine ext_set ?_ (by simp <;> omega) _))
  have hm2 : ¬ (40 : Int) < (m : Int) := by omega
  have hq0 : schQ (day, l, pa, le) = true := hs
  have HB := Lib.hid (show runB (day, l, pa, le) xs = some (runTo (day, l, pa, le) xs m) by unfold runB; rw [if_pos ⟨hq0, by omega⟩, hxl])
  have HQ0 := Lib.hid hq0
  clear hs hxl hll hq0
  go_enter Try.func54, Try.ntmps54
  go_wp2_with fail
  refine (HI.out _ ((H.out.ext (ext_alloc (ext_alloc (ext_refl _) _) _) (Nat.le_refl _)).more (by simp; omega))).mono ?_
  rintro e w1 ⟨rfl, hb1⟩
  obtain ⟨hc1, hf1⟩ := bcell hb1
  have z0 : w.heap.size + 1 < w1.heap.size := by (have := hb1.size; simp at this; omega)
  have z1 : w.heap.size < w1.heap.size := by omega
  have b1 := Lib.hid (ext_trans (ext_alloc (ext_alloc (ext_refl w) _) _) hb1)
  have BR := Lib.hid (((Blk.new (w.alloc (.cells #[.int .i64 day, .slice A n c, .int .i64 pa, .int .i64 le] 24)) #[.int .i64 0, .slice none 0 0, .int .i64 0, .int .i64 0] 24).ext hb1))
  clear hb1
  go_wp2_with fail
  refine (HO.out _ ((H.out.ext b1.out (Nat.le_refl _)).more (by omega))).mono ?_
  rintro e w2 ⟨A2, c2, rfl, ho2, hb2⟩
  have z2 : w1.heap.size ≤ w2.heap.size := hb2.size
  have BR2 : Blk w2 (w.heap.size + 1) 24 #[.int .i64 0, .slice none 0 0, .int .i64 0, .int .i64 0] := by simpa using BR.out.ext hb2
  have BR2 := Lib.hid BR2
  have HLL : l.length = n := rows_len H.out
  subst HLL
  have b2 := Lib.hid (ext_trans b1.out hb2)
  have O2 := Lib.hid ho2
  clear hb2 ho2 hc1 hf1
  go_wp2_with fail
  go_loopw [8, 26] (fun cnt i wr => ∃ (k : Nat) (A' : Option Addr) (c' M : Nat) (d p q : Int) (L : List R5), k ≤ m ∧ i = .int .i64 k ∧ cnt = .int .i64 M ∧ Hid (runTo (day, l, pa, le) xs k = ((d, L, p, q), M)) ∧ Hid (Blk wr w2.heap.size 24 #[.int .i64 d, .slice A' L.length c', .int .i64 p, .int .i64 q]) ∧ Hid (Blk wr (w.heap.size + 1) 24 #[.int .i64 0, .slice none 0 0, .int .i64 0, .int .i64 0]) ∧ Hid (wr.ownsRow w1.heap.size 109 5 (.slice A' L.length c') L.length (rowsV L)) ∧ Hid (Below w.heap.size w wr)) (fun _ i _ => m - (intOf i).toNat)
  case atStart => exact ⟨0, A2, c2, 0, day, pa, le, l, Nat.zero_le _, rfl, rfl, Lib.hid (runTo_zero _ _), Lib.hid (Blk.new _ _ _), Lib.hid (BR2.out.ext (ext_alloc (ext_refl _) _)), Lib.hid (O2.out.alloc _), Lib.hid (ext_alloc b2.out _)⟩
  case round =>
    obtain ⟨k, A', c', M, d, p, q, L, hk, rfl, rfl, HR, HG, HZ, HO', HBB⟩ := hrel
    obtain ⟨hsch, hMk⟩ := run_ok HR.out HQ0.out (by rw [HXL.out]; exact hk)
    have hL8 := schB_len hsch
    have sG := HG.out.lt
    have sB := HBB.out.size
    by_cases hlt : k < m
    · obtain ⟨x, hx⟩ := list_split (l := xs) (k := k) (by rw [HXL.out]; exact hlt)
      obtain ⟨b, o, rfl, hb, e0, e1, e2⟩ := rows_at3 (HX.out.ext HBB.out (Nat.le_refl _)) hx
      have HS1 := Lib.hid (fun (w : World) h => stepped_any d p q x.a x.b x.c A' L.length c' L w (slOk_own HO'.out) h hsch (hv x (List.mem_of_getElem? hx)))
      obtain ⟨O, hO⟩ : ∃ O, stepS d p q L x.a x.b x.c = O := ⟨_, rfl⟩
      rw [hO] at HS1
      have HOO := Lib.hid hO
      have HXK := Lib.hid hx
      clear hO hx hsch
      have g0 : wr.cell? ⟨w2.heap.size, 0, none⟩ = some (.int .i64 d) := HG.out.cell 0
      have g1 : wr.cell? ⟨w2.heap.size, 1, none⟩ = some (.slice A' L.length c') := HG.out.cell 1
      have g2 : wr.cell? ⟨w2.heap.size, 2, none⟩ = some (.int .i64 p) := HG.out.cell 2
      have g3 : wr.cell? ⟨w2.heap.size, 3, none⟩ = some (.int .i64 q) := HG.out.cell 3
      go_wp2_with fail
      refine (HS1.out _ (Reads.of_own (HO'.out.alloc _))).mono ?_
      clear HS1
      rcases O with _ | ⟨D, L2, P, Q⟩
      · rintro e w3 ⟨rfl, hb3⟩
        have hb4 := Lib.hid (ext_trans (ext_alloc (ext_refl wr) _) hb3)
        have hnx := Lib.hid (run_no HR.out HXK.out HOO.out)
        clear hb3 g0 g1 g2 g3 e0 e1 e2 HR
        go_wp2
        go_roundw
        case rel => exact ⟨k + 1, A', c', M, d, p, q, L, by omega, by go_num, rfl, hnx, Lib.hid (HG.out.ext (ext_alloc hb4.out _)), Lib.hid (HZ.out.ext (ext_alloc hb4.out _)), Lib.hid (own_ext HO'.out (ext_alloc hb4.out _)), Lib.hid (ext_trans HBB.out (ext_alloc hb4.out _))⟩
        case measure => simp [intOf]; omega
      · rintro e w3 ⟨A3, c3, rfl, ho3, hb3⟩
        have hb4 := Lib.hid (ext_trans (ext_alloc (ext_refl wr) _) hb3)
        have z3 : wr.heap.size < w3.heap.size := by (have := hb3.size; simp at this; omega)
        have ho4 := Lib.hid (own_base (base' := w1.heap.size) ho3 (by simp; omega))
        have hne : Value.ownBlock (.slice A3 L2.length c3) ≠ some w2.heap.size := own_far_lt (B := wr.heap.size + 1) (by simpa using ho3) (by omega)
        have HNE := Lib.hid hne
        have hnx := Lib.hid (run_yes HR.out HXK.out HOO.out)
        clear hb3 ho3 hne g0 g1 g2 g3 e0 e1 e2 HR
        have G4 := Lib.hid (HG.out.ext hb4.out)
        have Z4 := Lib.hid (HZ.out.ext hb4.out)
        have B4 := Lib.hid (ext_trans HBB.out hb4.out)
        have g0 : w3.cell? ⟨w2.heap.size, 0, none⟩ = some (.int .i64 d) := G4.out.cell 0
        have g1 : w3.cell? ⟨w2.heap.size, 1, none⟩ = some (.slice A' L.length c') := G4.out.cell 1
        have g2 : w3.cell? ⟨w2.heap.size, 2, none⟩ = some (.int .i64 p) := G4.out.cell 2
        have g3 : w3.cell? ⟨w2.heap.size, 3, none⟩ = some (.int .i64 q) := G4.out.cell 3
        have f0 := G4.out.frozen 0
        have f1 := G4.out.frozen 1
        have f2 := G4.out.frozen 2
        have f3 := G4.out.frozen 3
        have s3 : w2.heap.size < w3.heap.size := by omega
        have GS : Hid (Blk ((((w3.setCell ⟨w2.heap.size, 0, none⟩ (.int .i64 D)).setCell ⟨w2.heap.size, 1, none⟩ (.slice A3 L2.length c3)).setCell ⟨w2.heap.size, 2, none⟩ (.int .i64 P)).setCell ⟨w2.heap.size, 3, none⟩ (.int .i64 Q)) w2.heap.size 24 #[.int .i64 D, .slice A3 L2.length c3, .int .i64 P, .int .i64 Q]) := Lib.hid (by
          have := (((G4.out.set_ 0 (.int .i64 D)).set_ 1 (.slice A3 L2.length c3)).set_ 2 (.int .i64 P)).set_ 3 (.int .i64 Q)
          simpa using this)
        have ZS : Hid (Blk ((((w3.setCell ⟨w2.heap.size, 0, none⟩ (.int .i64 D)).setCell ⟨w2.heap.size, 1, none⟩ (.slice A3 L2.length c3)).setCell ⟨w2.heap.size, 2, none⟩ (.int .i64 P)).setCell ⟨w2.heap.size, 3, none⟩ (.int .i64 Q)) (w.heap.size + 1) 24 #[.int .i64 0, .slice none 0 0, .int .i64 0, .int .i64 0]) := Lib.hid (by
          iterate 4 refine Blk.set_far ?_ (by show w2.heap.size ≠ w.heap.size + 1; omega) _
          exact Z4.out)
        have OS : Hid (((((w3.setCell ⟨w2.heap.size, 0, none⟩ (.int .i64 D)).setCell ⟨w2.heap.size, 1, none⟩ (.slice A3 L2.length c3)).setCell ⟨w2.heap.size, 2, none⟩ (.int .i64 P)).setCell ⟨w2.heap.size, 3, none⟩ (.int .i64 Q)).ownsRow w1.heap.size 109 5 (.slice A3 L2.length c3) L2.length (rowsV L2)) := Lib.hid (by
          iterate 4 refine own_set_nb ?_ HNE.out _
          exact ho4.out)
        have BS : Hid (Below w.heap.size w ((((w3.setCell ⟨w2.heap.size, 0, none⟩ (.int .i64 D)).setCell ⟨w2.heap.size, 1, none⟩ (.slice A3 L2.length c3)).setCell ⟨w2.heap.size, 2, none⟩ (.int .i64 P)).setCell ⟨w2.heap.size, 3, none⟩ (.int .i64 Q))) := Lib.hid (by
          iterate 4 refine ext_set ?_ (by show w.heap.size ≤ w2.heap.size; omega) _
          exact B4.out)
        go_wp2
        go_roundw
        case rel =>
          refine ⟨k + 1, A3, c3, M + 1, D, P, Q, L2, by omega, by go_num, by go_num, hnx, ?_, ?_, ?_, ?_⟩
          · exact Lib.hid (GS.out.ext (ext_alloc (ext_refl _) _))
          · exact Lib.hid (ZS.out.ext (ext_alloc (ext_refl _) _))
          · exact Lib.hid (OS.out.alloc _)
          · exact Lib.hid (ext_alloc BS.out _)
        case measure => simp [intOf]; omega
    · obtain rfl : k = m := by omega
      have hne := own_nb HO'.out HZ.out (by decide)
      have g0 : wr.cell? ⟨w2.heap.size, 0, none⟩ = some (.int .i64 d) := HG.out.cell 0
      have g1 : wr.cell? ⟨w2.heap.size, 1, none⟩ = some (.slice A' L.length c') := HG.out.cell 1
      have g2 : wr.cell? ⟨w2.heap.size, 2, none⟩ = some (.int .i64 p) := HG.out.cell 2
      have g3 : wr.cell? ⟨w2.heap.size, 3, none⟩ = some (.int .i64 q) := HG.out.cell 3
      have y0 : wr.cell? ⟨w.heap.size + 1, 0, none⟩ = some (.int .i64 0) := HZ.out.cell 0
      have y1 : wr.cell? ⟨w.heap.size + 1, 1, none⟩ = some (.slice none 0 0) := HZ.out.cell 1
      have y2 : wr.cell? ⟨w.heap.size + 1, 2, none⟩ = some (.int .i64 0) := HZ.out.cell 2
      have y3 : wr.cell? ⟨w.heap.size + 1, 3, none⟩ = some (.int .i64 0) := HZ.out.cell 3
      have f0 := HZ.out.frozen 0
      have f1 := HZ.out.frozen 1
      have f2 := HZ.out.frozen 2
      have f3 := HZ.out.frozen 3
      have sZ := HZ.out.lt
      have hB2 := Lib.hid (show runB (day, l, pa, le) xs = some ((d, L, p, q), M) by rw [HB.out, HR.out])
      have HNE := Lib.hid hne
      clear hsch hne
      go_wp2
      refine bodyPost_ret (v := .tuple #[schV d A' L.length c' p q, .int .i64 (M : Int), .bool true]) (by simp [results, Try.results54, go_sem, *]) rfl ?_
      refine ⟨_, hB2.out, A', c', rfl, ?_, ?_⟩
      · iterate 4 refine own_set_nb ?_ HNE.out _
        exact own_base HO'.out (by omega)
      · iterate 4 refine ext_set ?_ (by show w.heap.size ≤ w.heap.size + 1; omega) _
        exact HBB.out
end Go.Proofs.Ytclihlihaigddaa
