/- The reference puts a new student in place: l25Enrol. -/
import Derived.Test.YtkcbgiegoadkbaaGreatVM5
namespace Go.Proofs.YtkcbgiegoadkbaaGreat
open Go.RowKit
set_option linter.unusedVariables false
set_option linter.unusedSimpArgs false
theorem nl_one {id v day : Int} : ∀ u ∈ [Value.int .i64 id, .int .i64 v, .int .i64 0, .int .i64 day, .int .i64 0], u.oneCell' = true := by
 intro u hu
 simp only [List.mem_cons, List.not_mem_nil, or_false] at hu
 rcases hu with rfl | rfl | rfl | rfl | rfl <;> rfl
set_option maxRecDepth 100000 in
set_option maxHeartbeats 4000000 in
theorem l25Enrol_any (day pa le id v : Int) (A : Option Addr) (n c : Nat) (l : List R5) (w : World) (hn : n ≤ 8) (hnc : n ≤ c) (hA : SlOk A n c) (h : Reads w w.heap.size 5 A n (rowsV l)) :
 Calls Tryz.prog 107 #[schV day A n c pa le, .int .i64 id, .int .i64 v] w (OwnRet day pa le (n + 1) (insS l id v day) w) := by
 obtain ⟨i0, ji, jz0, jz1, jz2⟩ := info_parts info_stu
 have H := Lib.hid h
 have HL := Lib.hid (rows_len h)
 have HA := Lib.hid (fun w h => l25Own_any day pa le A n c l w (by omega) hA h)
 clear h
 go_enter Tryz.func107, Tryz.ntmps107
 go_wp2_with fail
 refine (HA.out _ ((H.out.ext (ext_alloc (ext_alloc (ext_refl _) _) _) (Nat.le_refl _)).more (by simp; omega))).mono ?_
 rintro e w1 ⟨A1, c1, rfl, hown, hb1⟩
 have z1 : w.heap.size + 1 < w1.heap.size := by (have := hb1.size; simp at this; omega)
 have z2 : w.heap.size < w1.heap.size := by omega
 have BX : Hid (Blk w1 w.heap.size 32 #[.int .i64 day, .slice A n c, .int .i64 pa, .int .i64 le]) := Lib.hid (((Blk.new w _ _).ext (ext_alloc (ext_refl _) _)).ext hb1)
 have BR : Hid (Blk w1 (w.heap.size + 1) 32 #[.int .i64 0, .slice none 0 0, .int .i64 0, .int .i64 0]) := Lib.hid (by
  have := (Blk.new (w.alloc (.cells #[.int .i64 day, .slice A n c, .int .i64 pa, .int .i64 le] 32)) #[.int .i64 0, .slice none 0 0, .int .i64 0, .int .i64 0] 32).ext hb1
  simpa using this)
 have hbw := Lib.hid (ext_trans (ext_alloc (ext_alloc (ext_refl w) _) _) hb1)
 have HRD := Lib.hid (H.out.ext hbw.out (Nat.le_refl _))
 clear hb1 hown
 obtain ⟨x0, x1, x2, x3⟩ := BX.out.q4
 obtain ⟨fx0, fx1, fx2, fx3⟩ := BX.out.z4
 obtain ⟨r0, r1, r2, r3⟩ := BR.out.q4
 obtain ⟨fr0, fr1, fr2, fr3⟩ := BR.out.z4
 obtain ⟨w5, hw5⟩ : ∃ w5, w5 = w1.alloc (.cells #[.int .i64 day, .slice A1 n c1, .int .i64 pa, .int .i64 le] 32) := ⟨_, rfl⟩
 have b5 : Hid (Below w.heap.size w w5) := Lib.hid (by rw [hw5]; exact ext_alloc hbw.out _)
 have GX5 : Hid (Blk w5 w.heap.size 32 #[.int .i64 day, .slice A n c, .int .i64 pa, .int .i64 le]) := Lib.hid (by rw [hw5]; exact BX.out.ext (ext_alloc (ext_refl _) _))
 have GR5 : Hid (Blk w5 (w.heap.size + 1) 32 #[.int .i64 0, .slice none 0 0, .int .i64 0, .int .i64 0]) := Lib.hid (by rw [hw5]; exact BR.out.ext (ext_alloc (ext_refl _) _))
 have GT5 : Hid (Blk w5 w1.heap.size 32 #[.int .i64 day, .slice A1 n c1, .int .i64 pa, .int .i64 le]) := Lib.hid (by rw [hw5]; exact Blk.new _ _ _)
 have z5 : w1.heap.size + 1 = w5.heap.size := by rw [hw5]; simp
 go_wp2_with fail
 rw [← hw5]
 clear hw5 x0 x1 x2 x3 fx0 fx1 fx2 fx3 r0 r1 r2 r3 fr0 fr1 fr2 fr3
 go_loopw [8] (fun i wr => ∃ k : Nat, k ≤ n ∧ i = .int .i64 k ∧ Hid (Below w5.heap.size w5 wr) ∧ Hid (lowTo l id k)) (fun i _ => n - (intOf i).toNat)
 case atStart => exact ⟨0, Nat.zero_le _, rfl, Lib.hid (ext_refl _), Lib.hid (lowTo_zero _ _)⟩
 case round =>
  obtain ⟨k, hk, rfl, hbl, hlow⟩ := hrel
  have xr1 : wr.cell? ⟨w.heap.size, 1, none⟩ = some (.slice A n c) := ext_cell hbl.out (GX5.out.cell 1)
  have zr := hbl.out.size
  have zr2 : w.heap.size < wr.heap.size := by omega
  by_cases hlt : k < n
  · obtain ⟨r, hr⟩ := list_split (l := l) (k := k) (by rw [HL.out]; exact hlt)
    obtain ⟨b, o, hAd, hbb, c0, _, _, _, _⟩ := rows_at ((H.out.ext b5.out (Nat.le_refl _)).ext hbl.out (by omega)) hr
    subst hAd
    have hlti : (k : Int) < n := by omega
    by_cases hra : r.a < id
    · have hlow2 := Lib.hid (lowTo_succ hlow.out hr hra)
      clear hr
      go_wp2
      go_roundw
      case rel => exact ⟨k + 1, by omega, by go_num, hbl, hlow2⟩
      case measure => simp [intOf]; omega
    · have hins := Lib.hid (ins_at (v := v) (day := day) hlow.out (by rw [HL.out]; exact hk) (fun s hs => by rw [hr] at hs; injection hs with hs; rw [← hs]; exact hra))
      clear hr hlow
      go_wp2
      have HRr := Lib.hid ((((H.out.ext b5.out (Nat.le_refl _)).ext hbl.out (by omega)).more (show w.heap.size ≤ wr.heap.size by omega)))
      have xr0 : wr.cell? ⟨w.heap.size, 0, none⟩ = some (.int .i64 day) := ext_cell hbl.out (GX5.out.cell 0)
      have hkn : k ≤ n := by omega
      have hkc : k ≤ c := by omega
      have hkc1 : (k : Int) ≤ c := by omega
      have hkn1 : (k : Int) ≤ n := by omega
      have hck : ¬ c = k := by omega
      have hnci : (n : Int) ≤ c := by omega
      have HL1 : Hid ((rowsV (l.take k)).length = k * 5) := Lib.hid (by rw [rowsV_len, List.length_take, HL.out, Nat.min_eq_left hkn])
      have HL2 : Hid ((rowsV (l.drop k)).length = (n - k) * 5) := Lib.hid (by rw [rowsV_len, List.length_drop, HL.out])
      have M1 : Hid (0 + k ≤ maxLen) := Lib.hid (by unfold maxLen; omega)
      have M2 : Hid ((0 + k) * 40 ≤ 140737488355328) := Lib.hid (by omega)
      have M3 : Hid (0 + k + 1 ≤ maxLen) := Lib.hid (by unfold maxLen; omega)
      have M4 : Hid ((0 + k + 1) * 40 ≤ 140737488355328) := Lib.hid (by omega)
      have M5 : Hid (0 + k + 1 + (n - k) ≤ maxLen) := Lib.hid (by unfold maxLen; omega)
      have M6 : Hid ((0 + k + 1 + (n - k)) * 40 ≤ 140737488355328) := Lib.hid (by omega)
      go_region_held3 (fun w' => w'.cell? ⟨w.heap.size, 0, none⟩ = some (.int .i64 day) ∧ w'.cell? ⟨w.heap.size, 1, none⟩ = some (.slice (some ⟨b, o, none⟩) n c)) (first | (go_split_ands; refine ⟨?_, ?_⟩ <;> (refine cell_set_far (by show w1.heap.size ≠ w.heap.size; omega) ?_; with_reducible assumption)) | (go_split_ands; refine ⟨ext_cell (w := wr) ?_ xr0, ext_cell (w := wr) ?_ xr1⟩ <;> (repeat (first | assumption | refine ext_alloc ?_ _ | refine ext_drew ?_ | exact ext_refl _)))) (first | (refine step_app (by rfl) (.tmp 28) (.tmp 32) 30 (by rfl) 111 i0 _ 5 40 Tryz.underlying30 ji jz0 jz1 jz2 rfl (by decide) wr (by repeat (first | exact ext_refl _ | assumption | refine ext_alloc ?_ _ | refine ext_drew ?_)) _ 0 [] (by rfl) (by first | exact own_fresh (by simp) _ _ | exact (own_fresh (by simp) _ _).drew | exact (own_fresh (by simp) _ _).alloc _ | exact (own_fresh (by simp) _ _).drew.alloc _ | exact ((own_fresh (by simp) _ _).alloc _).drew | (have hx := own_fresh (w := wr.alloc (.cells [Value.int .i64 id, .int .i64 v, .int .i64 0, .int .i64 day, .int .i64 0].toArray 111)) (wr := wr) (by simp) 111 5; have hy : ((wr.alloc (.cells [Value.int .i64 id, .int .i64 v, .int .i64 0, .int .i64 day, .int .i64 0].toArray 111)).alloc (.cells #[] 111)).ownsRow wr.heap.size 111 5 (.slice (some ⟨wr.heap.size + 1, 0, none⟩) 0 0) 0 [] := (by simpa using hx); exact hy.drew)) _ _ _ (rowsV (l.take k)) (by rfl) HL1.out (by intro e; first | (cases e; done) | (split at e <;> cases e; done) | exact hA e | (refine ⟨rfl, ?_⟩; have hx := hA (ite_map_none e); omega)) (by intro ad had; exact head_cells HRr.out (by repeat (first | exact ext_refl _ | assumption | refine ext_alloc ?_ _ | refine ext_drew ?_)) hkn ad had) (rows_one _) M1.out M2.out ?_; intro v33 w33 hown33 hb33 hg33; have HO33 := Lib.hid hown33; (try have hnB : ∀ j u, [Value.int .i64 id, .int .i64 v, .int .i64 0, .int .i64 day, .int .i64 0][j]? = some u → w33.cell? ((⟨wr.heap.size + 1, 0, none⟩ : Addr).add j) = some u := fun j u hj => hg33.cell (by first | exact cell_drew (cells_new_at (wr.alloc (.cells #[] 111)) [Value.int .i64 id, .int .i64 v, .int .i64 0, .int .i64 day, .int .i64 0] 111 (by simp) j u hj) | exact cells_new_at (wr.drew.alloc (.cells #[] 111)) [Value.int .i64 id, .int .i64 v, .int .i64 0, .int .i64 day, .int .i64 0] 111 (by simp) j u hj) (by rw [add_flat]; intro e; injection e with e; simp at e)); (try have hnC : ∀ j u, [Value.int .i64 id, .int .i64 v, .int .i64 0, .int .i64 day, .int .i64 0][j]? = some u → w33.cell? ((⟨wr.heap.size, 0, none⟩ : Addr).add j) = some u := fun j u hj => hg33.cell (by first | exact cell_drew (cell_old (cells_new_at wr [Value.int .i64 id, .int .i64 v, .int .i64 0, .int .i64 day, .int .i64 0] 111 rfl j u hj) _) | exact cell_old (cells_new_at wr.drew [Value.int .i64 id, .int .i64 v, .int .i64 0, .int .i64 day, .int .i64 0] 111 rfl j u hj) _) (by rw [add_flat]; intro e; injection e with e; simp at e)); clear hown33 hg33) | (refine step_app (by rfl) (.tmp 33) (.tmp 39) 30 (by rfl) 111 i0 _ 5 40 Tryz.underlying30 ji jz0 jz1 jz2 rfl (by decide) wr (by repeat (first | exact ext_refl _ | assumption | refine ext_alloc ?_ _ | refine ext_drew ?_)) _ _ _ (by rfl) (by first | exact HO33.out | exact HO33.out.alloc _) _ _ _ [Value.int .i64 id, .int .i64 v, .int .i64 0, .int .i64 day, .int .i64 0] (by rfl) rfl (by intro e; first | (cases e; done) | (split at e <;> cases e; done) | exact hA e | (refine ⟨rfl, ?_⟩; have hx := hA (ite_map_none e); omega)) (by intro ad had; injection had with had; subst had; first | exact cells_new_at _ [Value.int .i64 id, .int .i64 v, .int .i64 0, .int .i64 day, .int .i64 0] _ (by simp) | exact hnB | exact hnC) nl_one M3.out M4.out ?_; intro v40 w40 hown40 hb40 hg40; have HO40 := Lib.hid hown40; clear hown40 hg40) | (refine step_app (by rfl) (.tmp 40) (.tmp 44) 30 (by rfl) 111 i0 _ 5 40 Tryz.underlying30 ji jz0 jz1 jz2 rfl (by decide) wr (by repeat (first | exact ext_refl _ | assumption | refine ext_alloc ?_ _ | refine ext_drew ?_)) _ _ _ (by rfl) HO40.out _ _ _ (rowsV (l.drop k)) (by rfl) HL2.out (by intro e; first | (cases e; done) | (split at e <;> cases e; done) | exact hA e | (refine ⟨rfl, ?_⟩; have hx := hA (ite_map_none e); omega)) (by intro ad had; exact cut_cells HRr.out (by repeat (first | exact ext_refl _ | assumption | refine ext_alloc ?_ _ | refine ext_drew ?_)) hkn ad (fun hlt b1 o1 hA => by injection hA with hA; injection hA with h1 h2; subst h1 h2; injection had with had; exact had.symm)) (rows_one _) M5.out M6.out ?_; intro v45 w45 hown45 hb45 hg45; rw [show 0 + k + 1 + (n - k) = n + 1 from by omega] at hown45; obtain ⟨A3, c3, rfl⟩ := own_shape hown45; have HO45 := Lib.hid hown45; have HB45 := Lib.hid hb45; have GT45 := Lib.hid ((GT5.out.ext hbl.out).ext hb45); have GR45 := Lib.hid ((GR5.out.ext hbl.out).ext hb45); have zz45 := hb45.size; obtain ⟨t0, t1, t2, t3⟩ := GT45.out.q4; obtain ⟨ft0, ft1, ft2, ft3⟩ := GT45.out.z4; obtain ⟨r0, r1, r2, r3⟩ := GR45.out.q4; obtain ⟨fr0, fr1, fr2, fr3⟩ := GR45.out.z4; have y1 : w1.heap.size < w45.heap.size := (by omega); have y2 : w.heap.size + 1 < w45.heap.size := (by omega); clear hown45 hg45))
      all_goals go_wp2
      all_goals
       refine bodyPost_ret (v := schV day A3 (n + 1) c3 pa le) (by simp [results, Tryz.results107, go_sem, *]) rfl ?_
       refine ⟨A3, c3, rfl, own_base (base := wr.heap.size) ?_ (by omega), ?_⟩
       · have hne1 := own_nb HO45.out GT45.out (by decide)
         have hne2 := own_nb HO45.out GR45.out (by decide)
         iterate 4 refine own_set_nb ?_ hne2 _
         refine own_set_nb ?_ hne1 _
         have := HO45.out
         rw [hins.out, rowsV_app]
         simpa [rowsV, R5.cells] using this
       · iterate 4 refine ext_set ?_ (by show w.heap.size ≤ w.heap.size + 1; omega) _
         refine ext_set ?_ (by show w.heap.size ≤ w1.heap.size; omega) _
         exact ext_trans (ext_trans b5.out hbl.out) HB45.out
  · obtain rfl : k = n := by omega
    have hins := Lib.hid (ins_at (v := v) (day := day) hlow.out (by rw [HL.out]; exact hk) (fun s hs => by have := (List.getElem?_eq_some_iff.1 hs).1; rw [HL.out] at this; omega))
    clear hlow
    go_wp2
    have HRr := Lib.hid ((((H.out.ext b5.out (Nat.le_refl _)).ext hbl.out (by omega)).more (show w.heap.size ≤ wr.heap.size by omega)))
    have xr0 : wr.cell? ⟨w.heap.size, 0, none⟩ = some (.int .i64 day) := ext_cell hbl.out (GX5.out.cell 0)
    have hkn : k ≤ k := by omega
    have hkc : k ≤ c := by omega
    have hkc1 : (k : Int) ≤ c := by omega
    have hkn1 : (k : Int) ≤ k := by omega
    have hnci : (k : Int) ≤ c := by omega
    have HL1 : Hid ((rowsV (l.take k)).length = k * 5) := Lib.hid (by rw [rowsV_len, List.length_take, HL.out, Nat.min_eq_left hkn])
    have HL2 : Hid ((rowsV (l.drop k)).length = 0 * 5) := Lib.hid (by rw [rowsV_len, List.length_drop, HL.out]; omega)
    have M1 : Hid (0 + k ≤ maxLen) := Lib.hid (by unfold maxLen; omega)
    have M2 : Hid ((0 + k) * 40 ≤ 140737488355328) := Lib.hid (by omega)
    have M3 : Hid (0 + k + 1 ≤ maxLen) := Lib.hid (by unfold maxLen; omega)
    have M4 : Hid ((0 + k + 1) * 40 ≤ 140737488355328) := Lib.hid (by omega)
    have M5 : Hid (0 + k + 1 + 0 ≤ maxLen) := Lib.hid (by unfold maxLen; omega)
    have M6 : Hid ((0 + k + 1 + 0) * 40 ≤ 140737488355328) := Lib.hid (by omega)
    go_region_held3 (fun w' => w'.cell? ⟨w.heap.size, 0, none⟩ = some (.int .i64 day) ∧ w'.cell? ⟨w.heap.size, 1, none⟩ = some (.slice A k c)) (first | (go_split_ands; refine ⟨?_, ?_⟩ <;> (refine cell_set_far (by show w1.heap.size ≠ w.heap.size; omega) ?_; with_reducible assumption)) | (go_split_ands; refine ⟨ext_cell (w := wr) ?_ xr0, ext_cell (w := wr) ?_ xr1⟩ <;> (repeat (first | assumption | refine ext_alloc ?_ _ | refine ext_drew ?_ | exact ext_refl _)))) (first | (refine step_app (by rfl) (.tmp 28) (.tmp 32) 30 (by rfl) 111 i0 _ 5 40 Tryz.underlying30 ji jz0 jz1 jz2 rfl (by decide) wr (by repeat (first | exact ext_refl _ | assumption | refine ext_alloc ?_ _ | refine ext_drew ?_)) _ 0 [] (by rfl) (by first | exact own_fresh (by simp) _ _ | exact (own_fresh (by simp) _ _).drew | exact (own_fresh (by simp) _ _).alloc _ | exact (own_fresh (by simp) _ _).drew.alloc _ | exact ((own_fresh (by simp) _ _).alloc _).drew | (have hx := own_fresh (w := wr.alloc (.cells [Value.int .i64 id, .int .i64 v, .int .i64 0, .int .i64 day, .int .i64 0].toArray 111)) (wr := wr) (by simp) 111 5; have hy : ((wr.alloc (.cells [Value.int .i64 id, .int .i64 v, .int .i64 0, .int .i64 day, .int .i64 0].toArray 111)).alloc (.cells #[] 111)).ownsRow wr.heap.size 111 5 (.slice (some ⟨wr.heap.size + 1, 0, none⟩) 0 0) 0 [] := (by simpa using hx); exact hy.drew)) _ _ _ (rowsV (l.take k)) (by rfl) HL1.out (by intro e; first | (cases e; done) | (split at e <;> cases e; done) | exact hA e | (refine ⟨rfl, ?_⟩; have hx := hA (ite_map_none e); omega)) (by intro ad had; exact head_cells HRr.out (by repeat (first | exact ext_refl _ | assumption | refine ext_alloc ?_ _ | refine ext_drew ?_)) hkn ad had) (rows_one _) M1.out M2.out ?_; intro v33 w33 hown33 hb33 hg33; have HO33 := Lib.hid hown33; (try have hnB : ∀ j u, [Value.int .i64 id, .int .i64 v, .int .i64 0, .int .i64 day, .int .i64 0][j]? = some u → w33.cell? ((⟨wr.heap.size + 1, 0, none⟩ : Addr).add j) = some u := fun j u hj => hg33.cell (by first | exact cell_drew (cells_new_at (wr.alloc (.cells #[] 111)) [Value.int .i64 id, .int .i64 v, .int .i64 0, .int .i64 day, .int .i64 0] 111 (by simp) j u hj) | exact cells_new_at (wr.drew.alloc (.cells #[] 111)) [Value.int .i64 id, .int .i64 v, .int .i64 0, .int .i64 day, .int .i64 0] 111 (by simp) j u hj) (by rw [add_flat]; intro e; injection e with e; simp at e)); (try have hnC : ∀ j u, [Value.int .i64 id, .int .i64 v, .int .i64 0, .int .i64 day, .int .i64 0][j]? = some u → w33.cell? ((⟨wr.heap.size, 0, none⟩ : Addr).add j) = some u := fun j u hj => hg33.cell (by first | exact cell_drew (cell_old (cells_new_at wr [Value.int .i64 id, .int .i64 v, .int .i64 0, .int .i64 day, .int .i64 0] 111 rfl j u hj) _) | exact cell_old (cells_new_at wr.drew [Value.int .i64 id, .int .i64 v, .int .i64 0, .int .i64 day, .int .i64 0] 111 rfl j u hj) _) (by rw [add_flat]; intro e; injection e with e; simp at e)); clear hown33 hg33) | (refine step_app (by rfl) (.tmp 33) (.tmp 39) 30 (by rfl) 111 i0 _ 5 40 Tryz.underlying30 ji jz0 jz1 jz2 rfl (by decide) wr (by repeat (first | exact ext_refl _ | assumption | refine ext_alloc ?_ _ | refine ext_drew ?_)) _ _ _ (by rfl) (by first | exact HO33.out | exact HO33.out.alloc _) _ _ _ [Value.int .i64 id, .int .i64 v, .int .i64 0, .int .i64 day, .int .i64 0] (by rfl) rfl (by intro e; first | (cases e; done) | (split at e <;> cases e; done) | exact hA e | (refine ⟨rfl, ?_⟩; have hx := hA (ite_map_none e); omega)) (by intro ad had; injection had with had; subst had; first | exact cells_new_at _ [Value.int .i64 id, .int .i64 v, .int .i64 0, .int .i64 day, .int .i64 0] _ (by simp) | exact hnB | exact hnC) nl_one M3.out M4.out ?_; intro v40 w40 hown40 hb40 hg40; have HO40 := Lib.hid hown40; clear hown40 hg40) | (refine step_app (by rfl) (.tmp 40) (.tmp 44) 30 (by rfl) 111 i0 _ 5 40 Tryz.underlying30 ji jz0 jz1 jz2 rfl (by decide) wr (by repeat (first | exact ext_refl _ | assumption | refine ext_alloc ?_ _ | refine ext_drew ?_)) _ _ _ (by rfl) HO40.out _ _ _ (rowsV (l.drop k)) (by rfl) HL2.out (by intro e; first | (cases e; done) | (split at e <;> cases e; done) | exact hA e | (refine ⟨rfl, ?_⟩; have hx := hA (ite_map_none e); omega)) (by intro ad had; exact cut_cells HRr.out (by repeat (first | exact ext_refl _ | assumption | refine ext_alloc ?_ _ | refine ext_drew ?_)) hkn ad (fun hlt => absurd hlt (by omega))) (rows_one _) M5.out M6.out ?_; intro v45 w45 hown45 hb45 hg45; rw [show 0 + k + 1 + 0 = k + 1 from by omega] at hown45; obtain ⟨A3, c3, rfl⟩ := own_shape hown45; have HO45 := Lib.hid hown45; have HB45 := Lib.hid hb45; have GT45 := Lib.hid ((GT5.out.ext hbl.out).ext hb45); have GR45 := Lib.hid ((GR5.out.ext hbl.out).ext hb45); have zz45 := hb45.size; obtain ⟨t0, t1, t2, t3⟩ := GT45.out.q4; obtain ⟨ft0, ft1, ft2, ft3⟩ := GT45.out.z4; obtain ⟨r0, r1, r2, r3⟩ := GR45.out.q4; obtain ⟨fr0, fr1, fr2, fr3⟩ := GR45.out.z4; have y1 : w1.heap.size < w45.heap.size := (by omega); have y2 : w.heap.size + 1 < w45.heap.size := (by omega); clear hown45 hg45))
    all_goals go_wp2
    all_goals
     refine bodyPost_ret (v := schV day A3 (k + 1) c3 pa le) (by simp [results, Tryz.results107, go_sem, *]) rfl ?_
     refine ⟨A3, c3, rfl, own_base (base := wr.heap.size) ?_ (by omega), ?_⟩
     · have hne1 := own_nb HO45.out GT45.out (by decide)
       have hne2 := own_nb HO45.out GR45.out (by decide)
       iterate 4 refine own_set_nb ?_ hne2 _
       refine own_set_nb ?_ hne1 _
       have := HO45.out
       rw [hins.out, rowsV_app]
       simpa [rowsV, R5.cells] using this
     · iterate 4 refine ext_set ?_ (by show w.heap.size ≤ w.heap.size + 1; omega) _
       refine ext_set ?_ (by show w.heap.size ≤ w1.heap.size; omega) _
       exact ext_trans (ext_trans b5.out hbl.out) HB45.out

end Go.Proofs.YtkcbgiegoadkbaaGreat
