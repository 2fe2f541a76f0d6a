
/- The reference's l27Open, walked. -/
import Derived.Test.YtclihlihaigddaaRecovS
namespace Go.Proofs.Ytclihlihaigddaa
open Go.RowKit
set_option linter.unusedVariables false
set_option linter.unusedSimpArgs false
set_option maxRecDepth 100000 in
set_option maxHeartbeats 1000000 in
theorem l27Open_any (s : ByteArray) (w : World) (hs : s.size ≤ 6000000) : Calls Try.prog 133 #[.string s] w (RetOpen w (recL s) (recE s)) := by
  obtain ⟨i0, ji, jz0, jz1, jz2⟩ := info_parts info_rec
  go_enter Try.func133, Try.ntmps133
  go_wp2
  have ho := own_lit0 w 66 2
  go_loopw [4, 5] (fun v i wr => ∃ (k a : Nat) (L : List CR), Hid (Stand s k a L) ∧ k ≤ 60 ∧ a ≤ s.size ∧ i = .int .i64 a ∧ wr.ownsRow w.heap.size 66 2 v k (recsV L) ∧ Below w.heap.size w wr) (fun _ i _ => s.size - (intOf i).toNat)
  case atStart => exact ⟨0, 0, [], Lib.hid (stand_start s), by omega, Nat.zero_le _, rfl, by simpa [recsV] using ho, (by repeat (first | exact ext_refl _ | assumption | refine ext_alloc ?_ _ | refine ext_drew ?_ | refine ext_drewN ?_ _ | refine ext_set ?_ (by simp <;> omega) _ | refine ext_trans ?_ (by assumption)))⟩
  case round =>
    obtain ⟨k, a, L, hst, hk, ha, rfl, hown, hbl⟩ := hrel
    obtain ⟨A', c', rfl⟩ := own_shape hown
    by_cases hgo : a < s.size ∧ k < 60
    · obtain ⟨hgo1, hgo2⟩ := hgo
      have zY := extract_size s a s.size (Nat.le_refl _)
      obtain ⟨Y, hY⟩ : ∃ Y, s.extract a s.size = Y := ⟨_, rfl⟩
      have HY := Lib.hid hY
      rw [hY] at zY
      clear hY
      obtain ⟨Z, hZ⟩ : ∃ Z, ln s a = Z := ⟨_, rfl⟩
      have zZ : a + Z.size ≤ s.size := by have := lnEnd_le (s := s) (a := a) ha; unfold lnEnd at this; rw [hZ] at this; exact this
      have hcut : cutB Y 10 = Z := by rw [← HY.out]; exact hZ
      have HCUT := Lib.hid hcut
      have HP := Lib.hid (ln_pieces (s := s) (a := a) ha)
      rw [HY.out] at HP
      have HR := Lib.hid (fun w => read_any k Z w (by omega) (by omega))
      obtain ⟨C, hC⟩ : ∃ C, dC k Z = C := ⟨_, rfl⟩
      obtain ⟨R, hR⟩ : ∃ R, dR k Z = R := ⟨_, rfl⟩
      obtain ⟨ok, hok⟩ : ∃ ok, dOk k Z = ok := ⟨_, rfl⟩
      rw [hC, hR, hok] at HR
      have hstep : stepB s a k = (decide (a + Z.size < s.size) && ok) := by rw [stepB, lnEnd, hZ, hok]
      have hnext := Lib.hid (stand_next (s := s) (k := k) (a := a) (L := L) hst.out hgo2)
      have hstop := Lib.hid (stand_end (s := s) (k := k) (a := a) (L := L) hst.out)
      rw [hstep, lnEnd, hZ, hC, hR] at hnext
      rw [hstep] at hstop
      have hlnE : lnEnd s a = a + Z.size := by rw [lnEnd, hZ]
      rw [hlnE] at HP
      clear hcut hZ hC hR hok hstep hlnE
      go_wp2_with fail
      rw [HY.out]
      refine (l1Split_ret2 Y 10 _ (by omega)).mono ?_
      rintro e w' ⟨g, c, rfl, hcell, hg, ho1, ho2, hb1⟩
      rw [show cutB Y 10 = Z from HCUT.out] at hcell
      obtain ⟨hc1, hf1⟩ := bcell hb1
      have hz1 := hb1.size
      have m1 : k + 1 ≤ maxLen := by unfold maxLen; omega
      have m2 : (k + 1) * 32 ≤ 140737488355328 := by omega
      have m3 := hbl.size
      by_cases hnl : a + Z.size < s.size
      · have two : 2 ≤ oneB Y 10 := by
          have := mt HP.out.1 (by omega); omega
        have two' : ((oneB Y 10 : Int) < 2) = False := by simp; omega
        clear HP
        cases ok
        · go_wp2_with (go_at_call 157; refine (HR.out _).mono ?_; rintro e w' ⟨rfl, hb2⟩; obtain ⟨hc2, hf2⟩ := bcell hb2; have hz2 := hb2.size)
          go_ret2
          obtain ⟨e1, e2⟩ := hstop.out (Or.inl (by simp <;> omega))
          have e3 := hst.out.2.2.1
          refine ⟨A', c', ?_, ?_, (by repeat (first | exact ext_refl _ | assumption | refine ext_alloc ?_ _ | refine ext_drew ?_ | refine ext_drewN ?_ _ | refine ext_set ?_ (by simp <;> omega) _ | refine ext_trans ?_ (by assumption)))⟩
          · rw [← e1, ← e2, e3]; rfl
          · rw [← e1, e3]
            exact (own_ext (own_ext hown hb1) hb2).alloc _
        · go_wp2_with (first | (go_at_call 157; refine (HR.out _).mono ?_; rintro e w' ⟨rfl, hb2⟩; obtain ⟨hc2, hf2⟩ := bcell hb2; have hz2 := hb2.size) | (at_builtin; refine wpList_append_own _ rfl (.tmp 39) (.tmp 41) 62 rfl w.heap.size 66 i0 _ 2 32 Try.underlying62 ji jz0 jz1 jz2 rfl (by decide) _ _ _ rfl (((own_ext (own_ext hown hb1) hb2).alloc _).alloc _) _ 1 1 [.string C, .string R] rfl rfl (cells_new_at _ [.string C, .string R] _ (by simp)) (by simp [Value.oneCell']) m1 m2 (by simp; omega) ?_; intro v' w2 hown2 hgrow _; have hcell2 := cell_far_grown hgrow (p := ⟨g, 0, none⟩) (fun e => by have := (hown.lt g e).2; omega) (ext_cell (ext_alloc (ext_alloc (ext_refl _) _) _) (ext_cell hb2 hcell))))
          go_roundw
          case rel =>
            refine ⟨k + 1, a + Z.size + 1, L ++ [(C, R)], Lib.hid (hnext.out (by simp; omega)), by omega, by omega, by go_num, ?_, below_grown hown (by repeat (first | exact ext_refl _ | assumption | refine ext_alloc ?_ _ | refine ext_drew ?_ | refine ext_drewN ?_ _ | refine ext_set ?_ (by simp <;> omega) _ | refine ext_trans ?_ (by assumption))) hgrow⟩
            rw [recsV_snoc]
            exact hown2
          case measure => simp [intOf]; omega
      · have one : (oneB Y 10 : Int) < 2 := by
          have := HP.out.2 (by omega); omega
        clear HP
        go_wp2_with (go_at_call 157; refine (HR.out _).mono ?_; rintro e w' ⟨rfl, hb2⟩; obtain ⟨hc2, hf2⟩ := bcell hb2; have hz2 := hb2.size)
        go_ret2
        obtain ⟨e1, e2⟩ := hstop.out (Or.inl (by simp <;> omega))
        have e3 := hst.out.2.2.1
        refine ⟨A', c', ?_, ?_, (by repeat (first | exact ext_refl _ | assumption | refine ext_alloc ?_ _ | refine ext_drew ?_ | refine ext_drewN ?_ _ | refine ext_set ?_ (by simp <;> omega) _ | refine ext_trans ?_ (by assumption)))⟩
        · rw [← e1, ← e2, e3]; rfl
        · rw [← e1, e3]
          exact (own_ext (own_ext hown hb1) hb2).alloc _
    · have hE := Lib.hid (stand_end (s := s) (k := k) (a := a) (L := L) hst.out)
      go_wp2_with fail
      all_goals go_ret2
      all_goals obtain ⟨e1, e2⟩ := hE.out (by first | exact Or.inr (by omega) | exact Or.inl (by have := lnEnd_le (s := s) (a := a) ha; have : a ≤ lnEnd s a := by unfold lnEnd; omega
                                                                                                 rw [stepB, decide_eq_false (by omega)]; rfl))
      all_goals have e3 := hst.out.2.2.1
      all_goals refine ⟨A', c', ?_, ?_, (by repeat (first | exact ext_refl _ | assumption | refine ext_alloc ?_ _ | refine ext_drew ?_ | refine ext_drewN ?_ _ | refine ext_set ?_ (by simp <;> omega) _ | refine ext_trans ?_ (by assumption)))⟩
      all_goals first | (rw [← e1, ← e2, e3]; rfl) | (rw [← e1, e3]; exact hown)
end Go.Proofs.Ytclihlihaigddaa
