/- ScriptFor: the reference's. -/
import Derived.Test.YtihljhikhplegaaVSfA
namespace Go.Proofs.Ytihljhikhplegaa
open Go.RowKit
set_option linter.unusedVariables false
set_option linter.unusedSimpArgs false
set_option maxRecDepth 100000 in
set_option maxHeartbeats 8000000 in
theorem specScriptFor_any (z : Int) (w : World) (hz : -1 ≤ z ∧ z ≤ 100000000) : Calls Try.prog 20 #[.int .i64 z] w (RetSf z w) := by
 unfold RetSf
 cases hin : inB z 0 99999999
 · rw [show sfO z = none by unfold sfO; rw [if_neg (by rw [hin]; simp)]]
   have HI := Lib.hid hin
   clear hin
   go_enter Try.func20, Try.ntmps20
   go_wp2_with fail
   refine (l1In_b _ _ _ _ _ HI.out).mono ?_
   rintro e w1 ⟨rfl, hb⟩
   go_wp2
   go_ret2
   exact ⟨rfl, hb⟩
 · have HI := Lib.hid hin
   have hin2 := inB_iff.1 hin
   rw [show sfO z = some (sfT z.toNat) by unfold sfO; rw [if_pos hin]]
   obtain ⟨m, rfl⟩ := Int.eq_ofNat_of_zero_le hin2.1
   rw [Int.toNat_natCast]
   have hm : m < 10 ^ 8 := by omega
   have HT := Lib.hid (sfT_def m)
   have HLN := Lib.hid (sfF_len 8 m)
   clear hin hin2 hz
   go_enter Try.func20, Try.ntmps20
   go_wp2_with fail
   refine (l1In_b _ _ _ _ _ HI.out).mono ?_
   rintro e w1 ⟨rfl, hb⟩
   have HB1 := Lib.hid hb
   clear hb
   go_wp2_with fail
   go_loopw [0, 4] (fun i v wr => ∃ (f x : Nat) (W : List (List UInt8)) (S : ByteArray), v = .string S ∧ i = .int .i64 (x : Int) ∧ x < 10 ^ f ∧ f ≤ 8 ∧ S.size ≤ 100 * (8 - f) ∧ Hid (bl S = spB W) ∧ Hid (W ++ sfF f x = sfF 8 m) ∧ Hid (Below w.heap.size w wr)) (fun i _ _ => (intOf i).toNat)
   case atStart => exact ⟨8, m, [], ⟨#[]⟩, rfl, rfl, hm, Nat.le_refl _, Nat.le_refl _, Lib.hid rfl, Lib.hid (List.nil_append _), HB1⟩
   case round =>
    clear HB1
    obtain ⟨f, x, W, S, rfl, rfl, hx, hf, hS, HS, HF, HB0⟩ := hrel
    have hxb : x < 10 ^ 8 := Nat.lt_of_lt_of_le hx (Nat.pow_le_pow_right (by decide) hf)
    have hxm : x ≤ 100000000 := by omega
    by_cases hx0 : 0 < x
    · obtain ⟨f, rfl⟩ : ∃ k, f = k + 1 := by
       cases f with
       | zero => omega
       | succ k => exact ⟨k, rfl⟩
      have HF2 := Lib.hid (show W ++ (((if x % 10 > 0 then [[43, dig (x % 10)]] else []) ++ (if x ≥ 10 then [[60]] else [])) ++ sfF f (x / 10)) = sfF 8 m by rw [← sfF_step hx0]; exact HF.out)
      have hx10 : x / 10 < 10 ^ f := by rw [Nat.pow_succ] at hx; omega
      have e0 : (0 : Int) < (x : Int) := by omega
      have htm : (x : Int).tmod 10 = ((x % 10 : Nat) : Int) := by rw [Int.tmod_eq_emod_of_nonneg (by omega)]; omega
      have htd : (x : Int).tdiv 10 = ((x / 10 : Nat) : Int) := by rw [Int.tdiv_eq_ediv_of_nonneg (by omega)]; omega
      have hd9 : x % 10 < 10 := by omega
      have h10i : x ≥ 10 ↔ 0 < x / 10 := by omega
      have hmz : x % 10 = 0 → x ≥ 10 := by omega
      by_cases hd : x % 10 > 0
      · have e1 : (0 : Int) < ((x % 10 : Nat) : Int) := by omega
        have HTX := Lib.hid (fun (w : World) => l1Num_any ((x % 10 : Nat) : Int) w (by omega) (by omega))
        rw [show decI ((x % 10 : Nat) : Int) = ⟨#[dig (x % 10)]⟩ by rw [decI_pos, dec_small hd9]] at HTX
        rw [if_pos hd] at HF2
        by_cases h10 : x ≥ 10
        · have e2 : (0 : Int) < ((x / 10 : Nat) : Int) := by omega
          rw [if_pos h10] at HF2
          obtain ⟨d, hdd⟩ : ∃ d, x % 10 = d := ⟨_, rfl⟩
          obtain ⟨y, hyy⟩ : ∃ y, x / 10 = y := ⟨_, rfl⟩
          rw [hdd] at HTX HF2 e1 htm hd9
          rw [hyy] at HF2 hx10 htd e2
          have Q5 := Lib.hid (show wrap64 ((y : Nat) : Int) = (y : Int) by unfold wrap64; omega)
          have HY := Lib.hid hyy
          clear hd hdd hyy h10 h10i hmz
          go_wp2_with fail
          refine (HTX.out _).mono ?_
          rintro e w2 ⟨rfl, hb⟩
          have HB2 := Lib.hid (ext_trans HB0.out hb)
          clear hb
          go_upto_region 9 with fail
          rw [Q5.out]
          go_wp2
          go_roundw
          case rel => exact ⟨f, y, W ++ [[43, dig d]] ++ [[60]], _, rfl, by first | rw [Q5.out] | rfl, hx10, by omega, by simp only [ByteArray.size_append]; show S.size + 1 + 1 + 1 + 2 ≤ _; omega, Lib.hid (by simp only [bl_append]; rw [HS.out]; simp [spB]; rfl), Lib.hid (by have h9 := HF2.out; simp only [List.nil_append, List.append_nil, List.append_assoc] at h9 ⊢; exact h9), HB2⟩
          case measure => have h6 := HY.out; first | exact sf_meas Q5.out (by omega) | exact sf_meas rfl (by omega)
        · have e2 : ((x / 10 : Nat) : Int) = 0 := by omega
          have e2' : x / 10 = 0 := by omega
          rw [if_neg h10] at HF2
          rw [e2'] at HF2 hx10
          rw [e2] at htd
          obtain ⟨d, hdd⟩ : ∃ d, x % 10 = d := ⟨_, rfl⟩
          rw [hdd] at HTX HF2 e1 htm hd9
          clear hd hdd h10 h10i hmz e2 e2'
          go_wp2_with fail
          refine (HTX.out _).mono ?_
          rintro e w2 ⟨rfl, hb⟩
          have HB2 := Lib.hid (ext_trans HB0.out hb)
          clear hb
          go_wp2
          go_roundw
          case rel => exact ⟨f, 0, W ++ [[43, dig d]], _, rfl, rfl, hx10, by omega, by simp only [ByteArray.size_append]; show S.size + 1 + 1 + 1 ≤ _; omega, Lib.hid (by simp only [bl_append]; rw [HS.out]; simp [spB]; rfl), Lib.hid (by have h9 := HF2.out; simp only [List.nil_append, List.append_nil, List.append_assoc] at h9 ⊢; exact h9), HB2⟩
          case measure => simp [intOf]; omega
      · have e1 : ((x % 10 : Nat) : Int) = 0 := by omega
        have h10 : x ≥ 10 := by omega
        have e2 : (0 : Int) < ((x / 10 : Nat) : Int) := by omega
        rw [if_neg hd, if_pos h10] at HF2
        rw [e1] at htm
        obtain ⟨y, hyy⟩ : ∃ y, x / 10 = y := ⟨_, rfl⟩
        rw [hyy] at HF2 hx10 htd e2
        have Q5 := Lib.hid (show wrap64 ((y : Nat) : Int) = (y : Int) by unfold wrap64; omega)
        have HY := Lib.hid hyy
        clear hd h10 e1 hyy h10i hmz
        go_upto_region 9 with fail
        rw [Q5.out]
        go_wp2
        go_roundw
        case rel => exact ⟨f, y, W ++ [[60]], _, rfl, by first | rw [Q5.out] | rfl, hx10, by omega, by simp only [ByteArray.size_append]; show S.size + 2 ≤ _; omega, Lib.hid (by simp only [bl_append]; rw [HS.out]; simp [spB]; rfl), Lib.hid (by have h9 := HF2.out; simp only [List.nil_append, List.append_nil, List.append_assoc] at h9 ⊢; exact h9), HB0⟩
        case measure => have h6 := HY.out; first | exact sf_meas Q5.out (by omega) | exact sf_meas rfl (by omega)
    · obtain rfl : x = 0 := by omega
      have hW : W = sfF 8 m := by have := HF.out; rw [sfF_zero, List.append_nil] at this; exact this
      have hs8 : S.size ≤ 800 := by omega
      by_cases hs0 : S.size = 0
      · have ht0 : S.toList = [] := (sf_nil S).2 hs0
        have HV := Lib.hid (show S = sfT m by
         have hb0 : bl S = [] := (List.length_eq_zero_iff (l := bl S)).1 (by rw [bl_size]; exact hs0)
         have hw0 : W = [] := by
          rcases W with _ | ⟨a, W⟩
          · rfl
          · have := HS.out; rw [hb0, spB_jnL _ (by simp)] at this
            have := congrArg List.length this
            simp at this
         apply bl_inj
         rw [hb0, HT.out, bl_str, ← hW, hw0]; rfl)
        clear hW
        go_wp2
        go_ret2
        exact ⟨by rw [HV.out]; rfl, HB0.out⟩
      · have ht0 := sf_ne hs0
        have ht1 : (S.toList == []) = false := by simpa using ht0
        have HV := Lib.hid (show S.extract 0 (S.size - 1) = sfT m by
         have hw0 : W ≠ [] := by
          rintro rfl
          have := HS.out
          have := congrArg List.length this
          rw [bl_size] at this
          exact hs0 this
         have h1 := HS.out
         rw [spB_jnL _ hw0] at h1
         apply bl_inj
         rw [bl_extract, h1, HT.out, bl_str, ← hW]
         have hl : S.size = (jnL W).length + 1 := by rw [← bl_size, h1]; simp
         rw [hl]
         simp)
        have e5 : (1 : Int) ≤ (S.size : Int) := by omega
        have e6 : ((S.size : Int) - 1) = ((S.size - 1 : Nat) : Int) := by omega
        have e7 : S.size - 1 ≤ S.size := by omega
        clear hW
        go_wp2
        go_ret2
        exact ⟨by first | (rw [HV.out]; rfl) | (simp [HV.out]), HB0.out⟩

end Go.Proofs.Ytihljhikhplegaa
