/- The program's decode, walked. -/
import Derived.Test.YtclihlihaigddaaDec
namespace Go.Proofs.Ytclihlihaigddaa
open Go.RowKit
set_option linter.unusedVariables false
set_option linter.unusedSimpArgs false
set_option maxHeartbeats 400000 in
theorem dec_short (k : Nat) (l T D : ByteArray) (w : World) (hk : k ≤ 59) (hl : l.size ≤ 6000000) (hD : Hid (dec k = D)) (zD : D.size ≤ 20) (hT : Hid (cutB l 35 = T)) (zT : T.size ≤ l.size) (q1 : (T.size : Int) < (D.size : Int) + 1) :
    Calls Try.prog 149 #[.int .i64 k, .string l] w fun e w' => e = .returned (.tuple #[recV ⟨#[]⟩ ⟨#[]⟩, .bool false]) ∧ Below w.heap.size w w' := by
  have HT := Lib.hid (fun w => text_any (k : Int) w (by omega) (by omega))
  rw [decI_nat, hD.out] at HT
  go_enter Try.func149, Try.ntmps149
  go_wp2_with (go_at_call 87; refine (HT.out _).mono ?_; rintro e w' ⟨rfl, hb1⟩; obtain ⟨hc1, hf1⟩ := bcell hb1; have hz1 : w.heap.size < w'.heap.size := by (have := (hb1).size; (try simp at this); omega))
  refine (split_ret l 35 _ (by omega)).mono ?_
  rintro e w' ⟨g, c, rfl, hcell, ho1, ho2, hb2⟩
  rw [show cutB l 35 = T from hT.out] at hcell
  obtain ⟨hc2, hf2⟩ := bcell hb2; have hz2 : w.heap.size < w'.heap.size := by (have := (hb2).size; (try simp at this); omega)
  go_wp2_with fail
  refine bodyPost_ret (v := .tuple #[recV ⟨#[]⟩ ⟨#[]⟩, .bool false]) (by simp [results, Try.results149, go_sem, hc1, hc2, hz1, hz2]) rfl ⟨rfl, (by repeat (first | exact ext_refl _ | assumption | refine ext_alloc ?_ _ | refine ext_drew ?_ | refine ext_drewN ?_ _ | refine ext_set ?_ (by simp <;> omega) _ | refine ext_trans ?_ (by assumption)))⟩
set_option maxHeartbeats 400000 in
theorem dec_head (k : Nat) (l T D : ByteArray) (w : World) (hk : k ≤ 59) (hl : l.size ≤ 6000000) (hD : Hid (dec k = D)) (zD : D.size ≤ 20) (hT : Hid (cutB l 35 = T)) (zT : T.size ≤ l.size) (q1 : (D.size : Int) + 1 ≤ (T.size : Int)) (q2 : ((T.extract 0 (D.size + 1)).toList == (D ++ ⟨#[32]⟩).toList) = false) :
    Calls Try.prog 149 #[.int .i64 k, .string l] w fun e w' => e = .returned (.tuple #[recV ⟨#[]⟩ ⟨#[]⟩, .bool false]) ∧ Below w.heap.size w w' := by
  have HT := Lib.hid (fun w => text_any (k : Int) w (by omega) (by omega))
  rw [decI_nat, hD.out] at HT
  go_enter Try.func149, Try.ntmps149
  go_wp2_with (go_at_call 87; refine (HT.out _).mono ?_; rintro e w' ⟨rfl, hb1⟩; obtain ⟨hc1, hf1⟩ := bcell hb1; have hz1 : w.heap.size < w'.heap.size := by (have := (hb1).size; (try simp at this); omega))
  refine (split_ret l 35 _ (by omega)).mono ?_
  rintro e w' ⟨g, c, rfl, hcell, ho1, ho2, hb2⟩
  rw [show cutB l 35 = T from hT.out] at hcell
  obtain ⟨hc2, hf2⟩ := bcell hb2; have hz2 : w.heap.size < w'.heap.size := by (have := (hb2).size; (try simp at this); omega)
  go_wp2_with fail
  refine bodyPost_ret (v := .tuple #[recV ⟨#[]⟩ ⟨#[]⟩, .bool false]) (by simp [results, Try.results149, go_sem, hc1, hc2, hz1, hz2]) rfl ⟨rfl, (by repeat (first | exact ext_refl _ | assumption | refine ext_alloc ?_ _ | refine ext_drew ?_ | refine ext_drewN ?_ _ | refine ext_set ?_ (by simp <;> omega) _ | refine ext_trans ?_ (by assumption)))⟩
set_option maxHeartbeats 1000000 in
theorem dec_noat (k : Nat) (l T D R C : ByteArray) (w : World) (hk : k ≤ 59) (hl : l.size ≤ 6000000) (hD : Hid (dec k = D)) (zD : D.size ≤ 20) (hT : Hid (cutB l 35 = T)) (zT : T.size ≤ l.size) (q1 : (D.size : Int) + 1 ≤ (T.size : Int)) (q2 : ((T.extract 0 (D.size + 1)).toList == (D ++ ⟨#[32]⟩).toList) = true) (hR : Hid (T.extract (D.size + 1) T.size = R)) (zR : R.size ≤ l.size) (hC : Hid (cutB R 64 = C)) (zC : C.size ≤ R.size) (q3 : ((C.size : Int) == (R.size : Int)) = true) :
    Calls Try.prog 149 #[.int .i64 k, .string l] w fun e w' => e = .returned (.tuple #[recV ⟨#[]⟩ ⟨#[]⟩, .bool false]) ∧ Below w.heap.size w w' := by
  have HT := Lib.hid (fun w => text_any (k : Int) w (by omega) (by omega))
  rw [decI_nat, hD.out] at HT
  go_enter Try.func149, Try.ntmps149
  go_wp2_with (go_at_call 87; refine (HT.out _).mono ?_; rintro e w' ⟨rfl, hb1⟩; obtain ⟨hc1, hf1⟩ := bcell hb1; have hz1 : w.heap.size < w'.heap.size := by (have := (hb1).size; (try simp at this); omega))
  refine (split_ret l 35 _ (by omega)).mono ?_
  rintro e w' ⟨g, c, rfl, hcell, ho1, ho2, hb2⟩
  rw [show cutB l 35 = T from hT.out] at hcell
  obtain ⟨hc2, hf2⟩ := bcell hb2; have hz2 : w.heap.size < w'.heap.size := by (have := (hb2).size; (try simp at this); omega)
  go_wp2_with fail
  rw [hR.out]
  refine (split_ret R 64 _ (by omega)).mono ?_
  rintro e w' ⟨g2, c2, rfl, hcell2, ho3, ho4, hb3⟩
  rw [show cutB R 64 = C from hC.out] at hcell2
  obtain ⟨hc3, hf3⟩ := bcell hb3; have hz3 : w.heap.size < w'.heap.size := by (have := (hb3).size; (try simp at this); omega)
  go_wp2_with fail
  refine bodyPost_ret (v := .tuple #[recV ⟨#[]⟩ ⟨#[]⟩, .bool false]) (by simp [results, Try.results149, go_sem, hc1, hc2, hc3, hz1, hz2, hz3]) rfl ⟨rfl, (by repeat (first | exact ext_refl _ | assumption | refine ext_alloc ?_ _ | refine ext_drew ?_ | refine ext_drewN ?_ _ | refine ext_set ?_ (by simp <;> omega) _ | refine ext_trans ?_ (by assumption)))⟩
set_option maxHeartbeats 1000000 in
theorem dec_bad (k : Nat) (l T D R C Q : ByteArray) (w : World) (hk : k ≤ 59) (hl : l.size ≤ 6000000) (hD : Hid (dec k = D)) (zD : D.size ≤ 20) (hT : Hid (cutB l 35 = T)) (zT : T.size ≤ l.size) (q1 : (D.size : Int) + 1 ≤ (T.size : Int)) (q2 : ((T.extract 0 (D.size + 1)).toList == (D ++ ⟨#[32]⟩).toList) = true) (hR : Hid (T.extract (D.size + 1) T.size = R)) (zR : R.size ≤ l.size) (hC : Hid (cutB R 64 = C)) (zC : C.size ≤ R.size) (q3 : ((C.size : Int) == (R.size : Int)) = false) (q4 : (C.size : Int) + 1 ≤ (R.size : Int)) (hQ : Hid (R.extract (C.size + 1) R.size = Q)) (zQ : Q.size ≤ l.size) (hbad : recB C Q = false) :
    Calls Try.prog 149 #[.int .i64 k, .string l] w fun e w' => e = .returned (.tuple #[recV C Q, .bool false]) ∧ Below w.heap.size w w' := by
  have HT := Lib.hid (fun w => text_any (k : Int) w (by omega) (by omega))
  rw [decI_nat, hD.out] at HT
  have HE := Lib.hid (fun w => implEncode_any (k : Int) C Q w (by omega) (by omega) (by omega) (by omega))
  have e3 : encOk (k : Int) C Q = false := by simp [encOk, hbad]
  rw [e3] at HE
  clear e3 hbad
  go_enter Try.func149, Try.ntmps149
  go_wp2_with (go_at_call 87; refine (HT.out _).mono ?_; rintro e w' ⟨rfl, hb1⟩; obtain ⟨hc1, hf1⟩ := bcell hb1; have hz1 : w.heap.size < w'.heap.size := by (have := (hb1).size; (try simp at this); omega))
  refine (split_ret l 35 _ (by omega)).mono ?_
  rintro e w' ⟨g, c, rfl, hcell, ho1, ho2, hb2⟩
  rw [show cutB l 35 = T from hT.out] at hcell
  obtain ⟨hc2, hf2⟩ := bcell hb2; have hz2 : w.heap.size < w'.heap.size := by (have := (hb2).size; (try simp at this); omega)
  go_wp2_with fail
  rw [hR.out]
  refine (split_ret R 64 _ (by omega)).mono ?_
  rintro e w' ⟨g2, c2, rfl, hcell2, ho3, ho4, hb3⟩
  rw [show cutB R 64 = C from hC.out] at hcell2
  obtain ⟨hc3, hf3⟩ := bcell hb3; have hz3 : w.heap.size < w'.heap.size := by (have := (hb3).size; (try simp at this); omega)
  go_wp2_with fail
  rw [hQ.out]
  refine (HE.out _).mono ?_
  rintro e w' ⟨rfl, hb4⟩
  obtain ⟨hc4, hf4⟩ := bcell hb4; have hz4 : w.heap.size < w'.heap.size := by (have := (hb4).size; (try simp at this); omega)
  have x0 := ext_cell hb4 (ext_cell (ext_alloc (ext_refl _) _) (ext_cell hb3 (ext_cell hb2 (ext_cell hb1 (show (w.alloc (.cells #[.string ⟨#[]⟩, .string ⟨#[]⟩] 66)).cell? ⟨w.heap.size, 0, none⟩ = some (.string ⟨#[]⟩) by rw [World.cell?_alloc_at _ _ _ _ rfl]; rfl)))))
  have x1 := ext_cell hb4 (ext_cell (ext_alloc (ext_refl _) _) (ext_cell hb3 (ext_cell hb2 (ext_cell hb1 (show (w.alloc (.cells #[.string ⟨#[]⟩, .string ⟨#[]⟩] 66)).cell? ⟨w.heap.size, 1, none⟩ = some (.string ⟨#[]⟩) by rw [World.cell?_alloc_at _ _ _ _ rfl]; rfl)))))
  go_wp2_with fail
  refine bodyPost_ret (v := .tuple #[recV C Q, .bool false]) (by simp [results, Try.results149, go_sem, x0, x1]) rfl ⟨rfl, (by repeat (first | exact ext_refl _ | assumption | refine ext_alloc ?_ _ | refine ext_drew ?_ | refine ext_drewN ?_ _ | refine ext_set ?_ (by simp <;> omega) _ | refine ext_trans ?_ (by assumption)))⟩
set_option maxHeartbeats 1000000 in
theorem dec_good (k : Nat) (l T D R C Q : ByteArray) (w : World) (hk : k ≤ 59) (hl : l.size ≤ 6000000) (hD : Hid (dec k = D)) (zD : D.size ≤ 20) (hT : Hid (cutB l 35 = T)) (zT : T.size ≤ l.size) (q1 : (D.size : Int) + 1 ≤ (T.size : Int)) (q2 : ((T.extract 0 (D.size + 1)).toList == (D ++ ⟨#[32]⟩).toList) = true) (hR : Hid (T.extract (D.size + 1) T.size = R)) (zR : R.size ≤ l.size) (hC : Hid (cutB R 64 = C)) (zC : C.size ≤ R.size) (q3 : ((C.size : Int) == (R.size : Int)) = false) (q4 : (C.size : Int) + 1 ≤ (R.size : Int)) (hQ : Hid (R.extract (C.size + 1) R.size = Q)) (zQ : Q.size ≤ l.size) (hgood : recB C Q = true) :
    Calls Try.prog 149 #[.int .i64 k, .string l] w fun e w' => e = .returned (.tuple #[recV C Q, .bool (decide (lineB (k : Int) C Q = l ++ ⟨#[10]⟩))]) ∧ Below w.heap.size w w' := by
  have HT := Lib.hid (fun w => text_any (k : Int) w (by omega) (by omega))
  rw [decI_nat, hD.out] at HT
  have HE := Lib.hid (fun w => implEncode_any (k : Int) C Q w (by omega) (by omega) (by omega) (by omega))
  have e3 : encOk (k : Int) C Q = true := by
    have : decide (0 ≤ (k : Int) ∧ (k : Int) ≤ 59) = true := by simp; omega
    rw [encOk, this, hgood]; rfl
  have e4 : encB (k : Int) C Q = lineB (k : Int) C Q := by simp [encB, e3]
  rw [e3, e4] at HE
  clear e3 e4 hgood
  have zL := lineB_size (k : Int) C Q
  obtain ⟨X, hX⟩ : ∃ X, lineB (k : Int) C Q = X := ⟨_, rfl⟩
  rw [hX] at HE zL ⊢
  clear hX
  have eq1 : (X.toList == (l ++ ⟨#[10]⟩).toList) = decide (X = l ++ ⟨#[10]⟩) := by
    rw [Bool.eq_iff_iff, beq_iff_eq, decide_eq_true_iff, toList_eq_iff]
  have EQ := Lib.hid eq1
  clear eq1
  go_enter Try.func149, Try.ntmps149
  go_wp2_with (go_at_call 87; refine (HT.out _).mono ?_; rintro e w' ⟨rfl, hb1⟩; obtain ⟨hc1, hf1⟩ := bcell hb1; have hz1 : w.heap.size < w'.heap.size := by (have := (hb1).size; (try simp at this); omega))
  refine (split_ret l 35 _ (by omega)).mono ?_
  rintro e w' ⟨g, c, rfl, hcell, ho1, ho2, hb2⟩
  rw [show cutB l 35 = T from hT.out] at hcell
  obtain ⟨hc2, hf2⟩ := bcell hb2; have hz2 : w.heap.size < w'.heap.size := by (have := (hb2).size; (try simp at this); omega)
  go_wp2_with fail
  rw [hR.out]
  refine (split_ret R 64 _ (by omega)).mono ?_
  rintro e w' ⟨g2, c2, rfl, hcell2, ho3, ho4, hb3⟩
  rw [show cutB R 64 = C from hC.out] at hcell2
  obtain ⟨hc3, hf3⟩ := bcell hb3; have hz3 : w.heap.size < w'.heap.size := by (have := (hb3).size; (try simp at this); omega)
  go_wp2_with fail
  rw [hQ.out]
  refine (HE.out _).mono ?_
  rintro e w' ⟨rfl, hb4⟩
  obtain ⟨hc4, hf4⟩ := bcell hb4; have hz4 : w.heap.size < w'.heap.size := by (have := (hb4).size; (try simp at this); omega)
  have x0 := ext_cell hb4 (ext_cell (ext_alloc (ext_refl _) _) (ext_cell hb3 (ext_cell hb2 (ext_cell hb1 (show (w.alloc (.cells #[.string ⟨#[]⟩, .string ⟨#[]⟩] 66)).cell? ⟨w.heap.size, 0, none⟩ = some (.string ⟨#[]⟩) by rw [World.cell?_alloc_at _ _ _ _ rfl]; rfl)))))
  have x1 := ext_cell hb4 (ext_cell (ext_alloc (ext_refl _) _) (ext_cell hb3 (ext_cell hb2 (ext_cell hb1 (show (w.alloc (.cells #[.string ⟨#[]⟩, .string ⟨#[]⟩] 66)).cell? ⟨w.heap.size, 1, none⟩ = some (.string ⟨#[]⟩) by rw [World.cell?_alloc_at _ _ _ _ rfl]; rfl)))))
  go_wp2_with fail
  rw [← EQ.out]
  refine bodyPost_ret (v := .tuple #[recV C Q, .bool (X.toList == (l ++ ⟨#[10]⟩).toList)]) (by simp [results, Try.results149, go_sem, x0, x1]) rfl ⟨rfl, (by repeat (first | exact ext_refl _ | assumption | refine ext_alloc ?_ _ | refine ext_drew ?_ | refine ext_drewN ?_ _ | refine ext_set ?_ (by simp <;> omega) _ | refine ext_trans ?_ (by assumption)))⟩
end Go.Proofs.Ytclihlihaigddaa
