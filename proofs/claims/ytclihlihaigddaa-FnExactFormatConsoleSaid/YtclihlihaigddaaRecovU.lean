
/- The program's recovered, walked. -/
import Derived.Test.YtclihlihaigddaaRecovS
namespace Go.Proofs.Ytclihlihaigddaa
open Go.RowKit
set_option linter.unusedVariables false
set_option linter.unusedSimpArgs false
theorem ln_hit' {s : ByteArray} {a j : Nat} (h : lnEnd s a = j) (hj : j < s.size) : s[j] = 10 := by subst h; exact ln_hit hj
set_option maxRecDepth 100000 in
set_option maxHeartbeats 1000000 in
theorem recovered_any (s : ByteArray) (w : World) (hs : s.size ≤ 6000000) : Calls Try.prog 106 #[.string s] w (RetOpen w (recL s) (recE s)) := by
  obtain ⟨i0, ji, jz0, jz1, jz2⟩ := info_parts info_rec
  go_enter Try.func106, Try.ntmps106
  go_wp2
  have ho := World.ownsRow_nil w w.heap.size 66 2
  go_loopw [4, 5] (fun v i wr => ∃ (k a : Nat) (L : List CR), Hid (Stand s k a L) ∧ k ≤ 60 ∧ a ≤ s.size ∧ i = .int .i64 a ∧ wr.ownsRow w.heap.size 66 2 v k (recsV L) ∧ Below w.heap.size w wr) (fun _ i _ => s.size - (intOf i).toNat)
  case atStart => exact ⟨0, 0, [], Lib.hid (stand_start s), by omega, Nat.zero_le _, rfl, by simpa [recsV] using ho, (by repeat (first | exact ext_refl _ | assumption | refine ext_alloc ?_ _ | refine ext_drew ?_ | refine ext_drewN ?_ _ | refine ext_set ?_ (by simp <;> omega) _ | refine ext_trans ?_ (by assumption)))⟩
  case round =>
    obtain ⟨k, a, L, hst, hk, ha, rfl, hown, hbl⟩ := hrel
    obtain ⟨A', c', rfl⟩ := own_shape hown
    by_cases hgo : k < 60
    · obtain ⟨Z, hZ⟩ : ∃ Z, ln s a = Z := ⟨_, rfl⟩
      have zZ : a + Z.size ≤ s.size := by have := lnEnd_le (s := s) (a := a) ha; unfold lnEnd at this; rw [hZ] at this; exact this
      have hmiss := Lib.hid (fun j h1 h2 hj => ln_miss (s := s) (a := a) (j := j) h1 h2 hj)
      have HLE := Lib.hid (show lnEnd s a = a + Z.size by rw [lnEnd, hZ])
      go_wp2
      go_loopw [6] (fun j wx => ∃ m : Nat, j = .int .i64 m ∧ a ≤ m ∧ m ≤ a + Z.size ∧ wx = wr) (fun j _ => s.size - (intOf j).toNat)
      case atStart => exact ⟨a, rfl, by omega, by omega, rfl⟩
      case round =>
        rename_i hrel
        obtain ⟨m, rfl, hm1, hm2, rfl⟩ := hrel
        by_cases hm : m = a + Z.size
        · have HM := Lib.hid (show lnEnd s a = m by rw [HLE.out, hm])
          clear hm
          by_cases hnl : m < s.size
          · have hd : ((s[m].toNat : Int) == 10) = true := by
              have h2 : s[m] = 10 := ln_hit' HM.out hnl
              rw [h2]; rfl
            have hY : s.extract a m = Z := by rw [← HM.out, ln_extract, hZ]
            have HY := Lib.hid hY
            have HR := Lib.hid (fun w => decode_any k Z w (by omega) (by omega))
            obtain ⟨C, hC⟩ : ∃ C, dC k Z = C := ⟨_, rfl⟩
            obtain ⟨R, hR⟩ : ∃ R, dR k Z = R := ⟨_, rfl⟩
            obtain ⟨ok, hok⟩ : ∃ ok, dOk k Z = ok := ⟨_, rfl⟩
            rw [hC, hR, hok] at HR
            have hstep : stepB s a k = ok := by rw [stepB, HM.out, hZ, hok]; simp [hnl]
            have hnext := Lib.hid (stand_next (s := s) (k := k) (a := a) (L := L) hst.out hgo)
            have hstop := Lib.hid (stand_end (s := s) (k := k) (a := a) (L := L) hst.out)
            rw [hstep, HM.out, hZ, hC, hR] at hnext
            rw [hstep] at hstop
            clear hY hZ hC hR hok hstep
            go_wp2_with fail
            rw [HY.out]
            refine (HR.out _).mono ?_
            rintro e w' ⟨rfl, hb2⟩
            obtain ⟨hc2, hf2⟩ := bcell hb2
            have hz2 := hb2.size
            have m1 : k + 1 ≤ maxLen := by unfold maxLen; omega
            have m2 : (k + 1) * 32 ≤ 140737488355328 := by omega
            have m3 := hbl.size
            cases ok
            · go_wp2_with fail
              go_ret2
              obtain ⟨e1, e2⟩ := hstop.out (by simp)
              have e3 := hst.out.2.2.1
              refine ⟨A', c', ?_, ?_, (by repeat (first | exact ext_refl _ | assumption | refine ext_alloc ?_ _ | refine ext_drew ?_ | refine ext_drewN ?_ _ | refine ext_set ?_ (by simp <;> omega) _ | refine ext_trans ?_ (by assumption)))⟩
              · rw [← e1, ← e2, e3]; rfl
              · rw [← e1, e3]
                exact (own_ext hown hb2).alloc _
            · go_wp2_with (at_builtin; refine wpList_append_own _ rfl (.tmp 43) (.tmp 45) 62 rfl w.heap.size 66 i0 _ 2 32 Try.underlying62 ji jz0 jz1 jz2 rfl (by decide) _ _ _ rfl (((own_ext hown hb2).alloc _).alloc _) _ 1 1 [.string C, .string R] rfl rfl (cells_new_at _ [.string C, .string R] _ (by simp)) (by simp [Value.oneCell']) m1 m2 (by simp; omega) ?_; intro v' w2 hown2 hgrow _)
              go_roundw
              case rel =>
                have h4 : a + (Z.size + 1) = m + 1 := by have := HM.out; rw [HLE.out] at this; omega
                refine ⟨k + 1, m + 1, L ++ [(C, R)], Lib.hid (hnext.out (by simp)), by omega, by omega, ?_, ?_, below_grown hown (by repeat (first | exact ext_refl _ | assumption | refine ext_alloc ?_ _ | refine ext_drew ?_ | refine ext_drewN ?_ _ | refine ext_set ?_ (by simp <;> omega) _ | refine ext_trans ?_ (by assumption))) hgrow⟩
                · rw [← h4]; go_num
                · rw [recsV_snoc]
                  exact hown2
              case measure => simp [intOf]; omega
          · have hE : m = s.size := by omega
            have hE2 := Lib.hid (stand_end (s := s) (k := k) (a := a) (L := L) hst.out)
            have hno := Lib.hid (show stepB s a k = false by rw [stepB, HM.out, decide_eq_false hnl]; rfl)
            go_wp2_with fail
            go_ret2
            obtain ⟨e1, e2⟩ := hE2.out (Or.inl hno.out)
            have e3 := hst.out.2.2.1
            refine ⟨A', c', ?_, ?_, (by repeat (first | exact ext_refl _ | assumption | refine ext_alloc ?_ _ | refine ext_drew ?_ | refine ext_drewN ?_ _ | refine ext_set ?_ (by simp <;> omega) _ | refine ext_trans ?_ (by assumption)))⟩
            · rw [← e1, ← e2, e3]; rfl
            · rw [← e1, e3]
              exact hown
        · have hms : m < s.size := by omega
          have hd : ((s[m].toNat : Int) == 10) = false := by
            rw [beq_eq_false_iff_ne]
            intro e
            exact hmiss.out m hm1 (by rw [HLE.out]; omega) hms (UInt8.toNat_inj.1 (by have : (10 : UInt8).toNat = 10 := rfl; omega))
          go_wp2
          go_roundw
          case rel => exact ⟨m + 1, by go_num, by omega, by omega, trivial⟩
          case measure => simp [intOf]; omega
    · have hE := Lib.hid (stand_end (s := s) (k := k) (a := a) (L := L) hst.out)
      go_wp2_with fail
      go_ret2
      obtain ⟨e1, e2⟩ := hE.out (Or.inr (by omega))
      have e3 := hst.out.2.2.1
      refine ⟨A', c', ?_, ?_, (by repeat (first | exact ext_refl _ | assumption | refine ext_alloc ?_ _ | refine ext_drew ?_ | refine ext_drewN ?_ _ | refine ext_set ?_ (by simp <;> omega) _ | refine ext_trans ?_ (by assumption)))⟩
      · rw [← e1, ← e2, e3]; rfl
      · rw [← e1, e3]; exact hown
end Go.Proofs.Ytclihlihaigddaa
