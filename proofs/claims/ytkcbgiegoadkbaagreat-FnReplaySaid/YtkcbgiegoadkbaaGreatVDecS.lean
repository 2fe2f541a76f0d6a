/- The reference's l27Read, walked. -/
import Derived.Test.YtkcbgiegoadkbaaGreatVM2
namespace Go.Proofs.YtkcbgiegoadkbaaGreat
open Go.RowKit
set_option linter.unusedVariables false
set_option linter.unusedSimpArgs false
set_option maxHeartbeats 400000 in
theorem read_short (k : Nat) (l T D : ByteArray) (w : World) (hk : k ≤ 59) (hl : l.size ≤ 6000000) (hD : Hid (dec k = D)) (zD : D.size ≤ 20) (hT : Hid (cutB l 35 = T)) (zT : T.size ≤ l.size) (q1 : (T.size : Int) < (D.size : Int) + 1) :
 Calls Tryz.prog 78 #[.string l, .int .i64 k] w fun e w' => e = .returned (.tuple #[recV ⟨#[]⟩ ⟨#[]⟩, .bool false]) ∧ Below w.heap.size w w' := by
 have HT := Lib.hid (fun w => l1Num_any (k : Int) w (by omega) (by omega))
 rw [decI_nat, hD.out] at HT
 go_enter Tryz.func78, Tryz.ntmps78
 go_wp2_with (go_at_call 45; refine (HT.out _).mono ?_; rintro e w' ⟨rfl, hb1⟩; obtain ⟨hc1, hf1⟩ := bcell hb1; have hz1 : w.heap.size < w'.heap.size := by (have := (hb1).size; (try simp at this); omega))
 refine (l1Split_ret l 35 _ (by omega)).mono ?_
 rintro e w' ⟨g, c, rfl, hcell, ho1, ho2, hb2⟩
 rw [show cutB l 35 = T from hT.out] at hcell
 obtain ⟨hc2, hf2⟩ := bcell hb2; have hz2 : w.heap.size < w'.heap.size := by (have := (hb2).size; (try simp at this); omega)
 go_wp2_with fail
 refine bodyPost_ret (v := .tuple #[recV ⟨#[]⟩ ⟨#[]⟩, .bool false]) (by simp [results, Tryz.results78, go_sem, hc1, hc2, hz1, hz2]) rfl ⟨rfl, (by repeat (first | exact ext_refl _ | assumption | refine ext_alloc ?_ _ | refine ext_drew ?_ | refine ext_drewN ?_ _ | refine ext_set ?_ (by simp <;> omega) _ | refine ext_trans ?_ (by assumption)))⟩
set_option maxHeartbeats 400000 in
theorem read_head (k : Nat) (l T D : ByteArray) (w : World) (hk : k ≤ 59) (hl : l.size ≤ 6000000) (hD : Hid (dec k = D)) (zD : D.size ≤ 20) (hT : Hid (cutB l 35 = T)) (zT : T.size ≤ l.size) (q1 : (D.size : Int) + 1 ≤ (T.size : Int)) (q2 : ((T.extract 0 (D.size + 1)).toList == (D ++ ⟨#[32]⟩).toList) = false) :
 Calls Tryz.prog 78 #[.string l, .int .i64 k] w fun e w' => e = .returned (.tuple #[recV ⟨#[]⟩ ⟨#[]⟩, .bool false]) ∧ Below w.heap.size w w' := by
 have HT := Lib.hid (fun w => l1Num_any (k : Int) w (by omega) (by omega))
 rw [decI_nat, hD.out] at HT
 go_enter Tryz.func78, Tryz.ntmps78
 go_wp2_with (go_at_call 45; refine (HT.out _).mono ?_; rintro e w' ⟨rfl, hb1⟩; obtain ⟨hc1, hf1⟩ := bcell hb1; have hz1 : w.heap.size < w'.heap.size := by (have := (hb1).size; (try simp at this); omega))
 refine (l1Split_ret l 35 _ (by omega)).mono ?_
 rintro e w' ⟨g, c, rfl, hcell, ho1, ho2, hb2⟩
 rw [show cutB l 35 = T from hT.out] at hcell
 obtain ⟨hc2, hf2⟩ := bcell hb2; have hz2 : w.heap.size < w'.heap.size := by (have := (hb2).size; (try simp at this); omega)
 go_wp2_with fail
 refine bodyPost_ret (v := .tuple #[recV ⟨#[]⟩ ⟨#[]⟩, .bool false]) (by simp [results, Tryz.results78, go_sem, hc1, hc2, hz1, hz2]) rfl ⟨rfl, (by repeat (first | exact ext_refl _ | assumption | refine ext_alloc ?_ _ | refine ext_drew ?_ | refine ext_drewN ?_ _ | refine ext_set ?_ (by simp <;> omega) _ | refine ext_trans ?_ (by assumption)))⟩
set_option maxHeartbeats 1000000 in
theorem read_noat (k : Nat) (l T D R C : ByteArray) (w : World) (hk : k ≤ 59) (hl : l.size ≤ 6000000) (hD : Hid (dec k = D)) (zD : D.size ≤ 20) (hT : Hid (cutB l 35 = T)) (zT : T.size ≤ l.size) (q1 : (D.size : Int) + 1 ≤ (T.size : Int)) (q2 : ((T.extract 0 (D.size + 1)).toList == (D ++ ⟨#[32]⟩).toList) = true) (hR : Hid (T.extract (D.size + 1) T.size = R)) (zR : R.size ≤ l.size) (hC : Hid (cutB R 64 = C)) (zC : C.size ≤ R.size) (q3 : ((C.size : Int) == (R.size : Int)) = true) :
 Calls Tryz.prog 78 #[.string l, .int .i64 k] w fun e w' => e = .returned (.tuple #[recV ⟨#[]⟩ ⟨#[]⟩, .bool false]) ∧ Below w.heap.size w w' := by
 have HT := Lib.hid (fun w => l1Num_any (k : Int) w (by omega) (by omega))
 rw [decI_nat, hD.out] at HT
 go_enter Tryz.func78, Tryz.ntmps78
 go_wp2_with (go_at_call 45; refine (HT.out _).mono ?_; rintro e w' ⟨rfl, hb1⟩; obtain ⟨hc1, hf1⟩ := bcell hb1; have hz1 : w.heap.size < w'.heap.size := by (have := (hb1).size; (try simp at this); omega))
 refine (l1Split_ret l 35 _ (by omega)).mono ?_
 rintro e w' ⟨g, c, rfl, hcell, ho1, ho2, hb2⟩
 rw [show cutB l 35 = T from hT.out] at hcell
 obtain ⟨hc2, hf2⟩ := bcell hb2; have hz2 : w.heap.size < w'.heap.size := by (have := (hb2).size; (try simp at this); omega)
 go_wp2_with fail
 rw [hR.out]
 refine (l1Split_ret R 64 _ (by omega)).mono ?_
 rintro e w' ⟨g2, c2, rfl, hcell2, ho3, ho4, hb3⟩
 rw [show cutB R 64 = C from hC.out] at hcell2
 obtain ⟨hc3, hf3⟩ := bcell hb3; have hz3 : w.heap.size < w'.heap.size := by (have := (hb3).size; (try simp at this); omega)
 go_wp2_with fail
 refine bodyPost_ret (v := .tuple #[recV ⟨#[]⟩ ⟨#[]⟩, .bool false]) (by simp [results, Tryz.results78, go_sem, hc1, hc2, hc3, hz1, hz2, hz3]) rfl ⟨rfl, (by repeat (first | exact ext_refl _ | assumption | refine ext_alloc ?_ _ | refine ext_drew ?_ | refine ext_drewN ?_ _ | refine ext_set ?_ (by simp <;> omega) _ | refine ext_trans ?_ (by assumption)))⟩
set_option maxHeartbeats 1000000 in
theorem read_bad (k : Nat) (l T D R C Q : ByteArray) (w : World) (hk : k ≤ 59) (hl : l.size ≤ 6000000) (hD : Hid (dec k = D)) (zD : D.size ≤ 20) (hT : Hid (cutB l 35 = T)) (zT : T.size ≤ l.size) (q1 : (D.size : Int) + 1 ≤ (T.size : Int)) (q2 : ((T.extract 0 (D.size + 1)).toList == (D ++ ⟨#[32]⟩).toList) = true) (hR : Hid (T.extract (D.size + 1) T.size = R)) (zR : R.size ≤ l.size) (hC : Hid (cutB R 64 = C)) (zC : C.size ≤ R.size) (q3 : ((C.size : Int) == (R.size : Int)) = false) (q4 : (C.size : Int) + 1 ≤ (R.size : Int)) (hQ : Hid (R.extract (C.size + 1) R.size = Q)) (zQ : Q.size ≤ l.size) (hb0 : recB C Q = false) :
 Calls Tryz.prog 78 #[.string l, .int .i64 k] w fun e w' => e = .returned (.tuple #[recV C Q, .bool false]) ∧ Below w.heap.size w w' := by
 have HT := Lib.hid (fun w => l1Num_any (k : Int) w (by omega) (by omega))
 rw [decI_nat, hD.out] at HT
 have HG := Lib.hid (fun w => l27Good_any C Q w (by omega) (by omega))
 rw [hb0] at HG
 clear hb0
 go_enter Tryz.func78, Tryz.ntmps78
 go_wp2_with (go_at_call 45; refine (HT.out _).mono ?_; rintro e w' ⟨rfl, hb1⟩; obtain ⟨hc1, hf1⟩ := bcell hb1; have hz1 : w.heap.size < w'.heap.size := by (have := (hb1).size; (try simp at this); omega))
 refine (l1Split_ret l 35 _ (by omega)).mono ?_
 rintro e w' ⟨g, c, rfl, hcell, ho1, ho2, hb2⟩
 rw [show cutB l 35 = T from hT.out] at hcell
 obtain ⟨hc2, hf2⟩ := bcell hb2; have hz2 : w.heap.size < w'.heap.size := by (have := (hb2).size; (try simp at this); omega)
 go_wp2_with fail
 rw [hR.out]
 refine (l1Split_ret R 64 _ (by omega)).mono ?_
 rintro e w' ⟨g2, c2, rfl, hcell2, ho3, ho4, hb3⟩
 rw [show cutB R 64 = C from hC.out] at hcell2
 obtain ⟨hc3, hf3⟩ := bcell hb3; have hz3 : w.heap.size < w'.heap.size := by (have := (hb3).size; (try simp at this); omega)
 go_wp2_with fail
 rw [hQ.out]
 have zc : ¬ ((9223372036854775807 : Int) < (l.size : Int) + 1) := by omega
 have cat : Op.stringOp .add l ⟨#[10]⟩ = pure (.string (l ++ ⟨#[10]⟩)) := by
  unfold Op.stringOp
  simp [go_sem]
  omega
 refine wp_region_noPanic ?_
 refine wp_region_held_drew (S := (fun wz => wz.cell? ⟨w'.heap.size, 0, none⟩ = some (.string C) ∧ wz.cell? ⟨w'.heap.size, 1, none⟩ = some (.string Q))) (by kernel_rfl) ?_ (fun hHeld => ?_)
 · (first | go_keep | (go_split_ands; (refine ⟨?_, ?_⟩ <;> first | assumption | exact ext_cell hb (by assumption) | (rw [World.cell?_setCell_far _ _ _ _ (by simp <;> omega), World.cell?_setCell_far _ _ _ _ (by simp <;> omega)]; assumption))))
 refine wpAnyH_take (i := 0) (v := ?_) rfl (by kernel_rfl) (by kernel_rfl) (by kernel_rfl) (fun _ _ _ h => h) (Or.inl ⟨by rfl, ?_⟩) (by assumption) ?_
 case refine_2 => (intro w hSw; (try dsimp only at hSw); go_simp; try with_reducible rfl)
 (try simp only [Act.put, List.setIfInBounds_toArray, List.set_cons_zero, List.set_cons_succ])
 refine wpAnyH_take (i := 1) (v := ?_) rfl (by kernel_rfl) (by kernel_rfl) (by kernel_rfl) (fun _ _ _ h => h) (Or.inl ⟨by rfl, ?_⟩) (by assumption) ?_
 case refine_2 => (intro w hSw; (try dsimp only at hSw); go_simp; try with_reducible rfl)
 (try simp only [Act.put, List.setIfInBounds_toArray, List.set_cons_zero, List.set_cons_succ])
 refine wpAnyH_ready (rs := [2]) (by kernel_rfl) (by simp) ?_
 refine AllReadyH.cons (o := _) rfl (fun K hK => ?_) AllReadyH.nil
 go_simp
 go_at_call 42
 refine (HG.out _).mono ?_
 rintro e w' ⟨rfl, hb⟩
 obtain ⟨hc4, hf4⟩ := bcell hb; have hz4 : w.heap.size < w'.heap.size := by (have := (hb).size; (try simp at this); omega)
 refine hK.out _ _ ?_ (fun hHeld2 => ?_)
 · (first | go_keep | (go_split_ands; (refine ⟨?_, ?_⟩ <;> first | assumption | exact ext_cell hb (by assumption) | (rw [World.cell?_setCell_far _ _ _ _ (by simp <;> omega), World.cell?_setCell_far _ _ _ _ (by simp <;> omega)]; assumption))))
 clear hK K hHeld
 (try simp only [Act.put, List.setIfInBounds_toArray, List.set_cons_zero, List.set_cons_succ])
 refine wpAnyH_take (i := 3) (v := ?_) rfl (by kernel_rfl) (by kernel_rfl) (by kernel_rfl) (fun _ _ _ h => h) (Or.inl ⟨by rfl, ?_⟩) (by assumption) ?_
 case refine_2 => (intro w hSw; (try dsimp only at hSw); go_simp; try with_reducible rfl)
 (try simp only [Act.put, List.setIfInBounds_toArray, List.set_cons_zero, List.set_cons_succ])
 refine wpAnyH_take (i := 4) (v := undef) rfl (by kernel_rfl) (by kernel_rfl) (by kernel_rfl) (fun _ _ _ h => h) (Or.inr ⟨by rfl, rfl⟩) (by assumption) ?_
 (try simp only [Act.put, List.setIfInBounds_toArray, List.set_cons_zero, List.set_cons_succ])
 refine wpAnyH_take (i := 5) (v := undef) rfl (by kernel_rfl) (by kernel_rfl) (by kernel_rfl) (fun _ _ _ h => h) (Or.inr ⟨by rfl, rfl⟩) (by assumption) ?_
 (try simp only [Act.put, List.setIfInBounds_toArray, List.set_cons_zero, List.set_cons_succ])
 refine wpAnyH_take (i := 6) (v := undef) rfl (by kernel_rfl) (by kernel_rfl) (by kernel_rfl) (fun _ _ _ h => h) (Or.inr ⟨by rfl, rfl⟩) (by assumption) ?_
 (try simp only [Act.put, List.setIfInBounds_toArray, List.set_cons_zero, List.set_cons_succ])
 refine wpAnyH_take (i := 7) (v := undef) rfl (by kernel_rfl) (by kernel_rfl) (by kernel_rfl) (fun _ _ _ h => h) (Or.inr ⟨by rfl, rfl⟩) (by assumption) ?_
 (try simp only [Act.put, List.setIfInBounds_toArray, List.set_cons_zero, List.set_cons_succ])
 refine wpAnyH_take (i := 8) (v := undef) rfl (by kernel_rfl) (by kernel_rfl) (by kernel_rfl) (fun _ _ _ h => h) (Or.inr ⟨by rfl, rfl⟩) (by assumption) ?_
 (try simp only [Act.put, List.setIfInBounds_toArray, List.set_cons_zero, List.set_cons_succ])
 refine wpAnyH_take (i := 9) (v := undef) rfl (by kernel_rfl) (by kernel_rfl) (by kernel_rfl) (fun _ _ _ h => h) (Or.inr ⟨by rfl, rfl⟩) (by assumption) ?_
 (try simp only [Act.put, List.setIfInBounds_toArray, List.set_cons_zero, List.set_cons_succ])
 refine wpAnyH_take (i := 10) (v := ?_) rfl (by kernel_rfl) (by kernel_rfl) (by kernel_rfl) (fun _ _ _ h => h) (Or.inl ⟨by rfl, ?_⟩) (by assumption) ?_
 case refine_2 => (intro w hSw; (try dsimp only at hSw); go_simp; try with_reducible rfl)
 (try simp only [Act.put, List.setIfInBounds_toArray, List.set_cons_zero, List.set_cons_succ])
 refine wpAnyH_ready (rs := [11]) (by kernel_rfl) (by simp) ?_
 refine AllReadyH.cons (o := _) rfl (fun K hK => ?_) AllReadyH.nil
 go_simp
 refine hK.out _ _ ?_ (fun hHeld3 => ?_)
 · (first | go_keep | (go_split_ands; (refine ⟨?_, ?_⟩ <;> first | assumption | exact ext_cell hb (by assumption) | (rw [World.cell?_setCell_far _ _ _ _ (by simp <;> omega), World.cell?_setCell_far _ _ _ _ (by simp <;> omega)]; assumption))))
 clear hK K hHeld2
 (try simp only [Act.put, List.setIfInBounds_toArray, List.set_cons_zero, List.set_cons_succ])
 refine wpAnyH_take (i := 12) (v := ?_) rfl (by kernel_rfl) (by kernel_rfl) (by kernel_rfl) (fun _ _ _ h => h) (Or.inl ⟨by rfl, ?_⟩) (by assumption) ?_
 case refine_2 => (intro w hSw; (try dsimp only at hSw); go_simp; try with_reducible rfl)
 (try simp only [Act.put, List.setIfInBounds_toArray, List.set_cons_zero, List.set_cons_succ])
 refine wpAnyH_done (by kernel_rfl) ?_ _
 refine NoPanic.normal ?_
 go_wp2_with fail
 have x0 := ext_cell hb (ext_cell (ext_drew (ext_alloc (ext_refl _) _)) (ext_cell hb3 (ext_cell hb2 (ext_cell hb1 (show (w.alloc (.cells #[.string ⟨#[]⟩, .string ⟨#[]⟩] 60)).cell? ⟨w.heap.size, 0, none⟩ = some (.string ⟨#[]⟩) by rw [World.cell?_alloc_at _ _ _ _ rfl]; rfl)))))
 have x1 := ext_cell hb (ext_cell (ext_drew (ext_alloc (ext_refl _) _)) (ext_cell hb3 (ext_cell hb2 (ext_cell hb1 (show (w.alloc (.cells #[.string ⟨#[]⟩, .string ⟨#[]⟩] 60)).cell? ⟨w.heap.size, 1, none⟩ = some (.string ⟨#[]⟩) by rw [World.cell?_alloc_at _ _ _ _ rfl]; rfl)))))
 refine bodyPost_ret (v := .tuple #[recV C Q, .bool false]) (by simp [results, Tryz.results78, go_sem, x0, x1]) rfl ⟨rfl, (by repeat (first | exact ext_refl _ | assumption | refine ext_alloc ?_ _ | refine ext_drew ?_ | refine ext_drewN ?_ _ | refine ext_set ?_ (by simp <;> omega) _ | refine ext_trans ?_ (by assumption)))⟩
set_option maxHeartbeats 1000000 in
theorem read_good (k : Nat) (l T D R C Q : ByteArray) (w : World) (hk : k ≤ 59) (hl : l.size ≤ 6000000) (hD : Hid (dec k = D)) (zD : D.size ≤ 20) (hT : Hid (cutB l 35 = T)) (zT : T.size ≤ l.size) (q1 : (D.size : Int) + 1 ≤ (T.size : Int)) (q2 : ((T.extract 0 (D.size + 1)).toList == (D ++ ⟨#[32]⟩).toList) = true) (hR : Hid (T.extract (D.size + 1) T.size = R)) (zR : R.size ≤ l.size) (hC : Hid (cutB R 64 = C)) (zC : C.size ≤ R.size) (q3 : ((C.size : Int) == (R.size : Int)) = false) (q4 : (C.size : Int) + 1 ≤ (R.size : Int)) (hQ : Hid (R.extract (C.size + 1) R.size = Q)) (zQ : Q.size ≤ l.size) (hb0 : recB C Q = true) :
 Calls Tryz.prog 78 #[.string l, .int .i64 k] w fun e w' => e = .returned (.tuple #[recV C Q, .bool (decide (lineB (k : Int) C Q = l ++ ⟨#[10]⟩))]) ∧ Below w.heap.size w w' := by
 have HT := Lib.hid (fun w => l1Num_any (k : Int) w (by omega) (by omega))
 rw [decI_nat, hD.out] at HT
 have HG := Lib.hid (fun w => l27Good_any C Q w (by omega) (by omega))
 rw [hb0] at HG
 clear hb0
 have HE := Lib.hid (fun w => l27Line_any (k : Int) C Q w (by omega) (by omega) (by omega) (by omega))
 have zL := lineB_size (k : Int) C Q
 obtain ⟨X, hX⟩ : ∃ X, lineB (k : Int) C Q = X := ⟨_, rfl⟩
 rw [hX] at HE zL ⊢
 clear hX
 have eq1 : (X.toList == (l ++ ⟨#[10]⟩).toList) = decide (X = l ++ ⟨#[10]⟩) := by
  rw [Bool.eq_iff_iff, beq_iff_eq, decide_eq_true_iff, toList_eq_iff]
 have EQ := Lib.hid eq1
 clear eq1
 go_enter Tryz.func78, Tryz.ntmps78
 go_wp2_with (go_at_call 45; refine (HT.out _).mono ?_; rintro e w' ⟨rfl, hb1⟩; obtain ⟨hc1, hf1⟩ := bcell hb1; have hz1 : w.heap.size < w'.heap.size := by (have := (hb1).size; (try simp at this); omega))
 refine (l1Split_ret l 35 _ (by omega)).mono ?_
 rintro e w' ⟨g, c, rfl, hcell, ho1, ho2, hb2⟩
 rw [show cutB l 35 = T from hT.out] at hcell
 obtain ⟨hc2, hf2⟩ := bcell hb2; have hz2 : w.heap.size < w'.heap.size := by (have := (hb2).size; (try simp at this); omega)
 go_wp2_with fail
 rw [hR.out]
 refine (l1Split_ret R 64 _ (by omega)).mono ?_
 rintro e w' ⟨g2, c2, rfl, hcell2, ho3, ho4, hb3⟩
 rw [show cutB R 64 = C from hC.out] at hcell2
 obtain ⟨hc3, hf3⟩ := bcell hb3; have hz3 : w.heap.size < w'.heap.size := by (have := (hb3).size; (try simp at this); omega)
 go_wp2_with fail
 rw [hQ.out]
 have zc : ¬ ((9223372036854775807 : Int) < (l.size : Int) + 1) := by omega
 have cat : Op.stringOp .add l ⟨#[10]⟩ = pure (.string (l ++ ⟨#[10]⟩)) := by
  unfold Op.stringOp
  simp [go_sem]
  omega
 go_region_held3 (fun wz => wz.cell? ⟨w'.heap.size, 0, none⟩ = some (.string C) ∧ wz.cell? ⟨w'.heap.size, 1, none⟩ = some (.string Q)) (first | go_keep | (go_split_ands; (refine ⟨?_, ?_⟩ <;> first | assumption | exact ext_cell hb5 (by assumption) | exact ext_cell hb4 (by assumption) | (rw [World.cell?_setCell_far _ _ _ _ (by simp <;> omega), World.cell?_setCell_far _ _ _ _ (by simp <;> omega)]; assumption)))) (first | (go_at_call 42; refine (HG.out _).mono ?_; rintro e w' ⟨rfl, hb4⟩; obtain ⟨hc4, hf4⟩ := bcell hb4; have hz4 : w.heap.size < w'.heap.size := by (have := (hb4).size; (try simp at this); omega)) | (go_at_call 48; refine (HE.out _).mono ?_; rintro e w' ⟨rfl, hb5⟩; obtain ⟨hc5, hf5⟩ := bcell hb5; have hz5 : w.heap.size < w'.heap.size := by (have := (hb5).size; (try simp at this); omega)))
 go_wp2_with fail
 have x0 := ext_cell hb5 <| ext_cell hb4 (ext_cell (ext_drew (ext_alloc (ext_refl _) _)) (ext_cell hb3 (ext_cell hb2 (ext_cell hb1 (show (w.alloc (.cells #[.string ⟨#[]⟩, .string ⟨#[]⟩] 60)).cell? ⟨w.heap.size, 0, none⟩ = some (.string ⟨#[]⟩) by rw [World.cell?_alloc_at _ _ _ _ rfl]; rfl)))))
 have x1 := ext_cell hb5 <| ext_cell hb4 (ext_cell (ext_drew (ext_alloc (ext_refl _) _)) (ext_cell hb3 (ext_cell hb2 (ext_cell hb1 (show (w.alloc (.cells #[.string ⟨#[]⟩, .string ⟨#[]⟩] 60)).cell? ⟨w.heap.size, 1, none⟩ = some (.string ⟨#[]⟩) by rw [World.cell?_alloc_at _ _ _ _ rfl]; rfl)))))
 rw [← EQ.out]
 refine bodyPost_ret (v := .tuple #[recV C Q, .bool (X.toList == (l ++ ⟨#[10]⟩).toList)]) (by simp [results, Tryz.results78, go_sem, x0, x1]) rfl ⟨rfl, (by repeat (first | exact ext_refl _ | assumption | refine ext_alloc ?_ _ | refine ext_drew ?_ | refine ext_drewN ?_ _ | refine ext_set ?_ (by simp <;> omega) _ | refine ext_trans ?_ (by assumption)))⟩
end Go.Proofs.YtkcbgiegoadkbaaGreat
