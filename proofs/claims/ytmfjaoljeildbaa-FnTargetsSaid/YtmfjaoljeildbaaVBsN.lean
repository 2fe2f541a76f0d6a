/- TargetCount: the program's and the reference's. -/
import Derived.Deep.CutBlock
import Derived.Test.YtmfjaoljeildbaaVBsL
namespace Go.Proofs.Ytmfjaoljeildbaa
open Go.RowKit
set_option linter.unusedVariables false
set_option linter.unusedSimpArgs false
set_option maxRecDepth 100000 in
set_option maxHeartbeats 16000000 in
theorem targets_any (u lo : Int) (A : Option Addr) (N c : Nat) (hu : 0 ≤ u ∧ u ≤ 2) : ∀ (r : Nat) (n : Int) (w : World), r ≤ 8 → 0 ≤ n → n ≤ 9223372036854775807 →
 Calls Try.prog 45 #[frV u lo A N c, .int .i64 (r : Int), .int .i64 n] w (RetV (.int .i64 ((tgP u lo r n).length : Int)) w) := by
 intro r
 induction r with
 | zero =>
   intro n w hr h0 h63
   have hb := Lib.hid (ext_alloc (ext_refl w) (.cells #[.int .i64 u, .int .i64 lo, .slice A N c] 26))
   by_cases hn : n = 0
   · subst hn
     go_enter Try.func45, Try.ntmps45
     go_wp2
     go_ret
     exact ⟨rfl, hb.out⟩
   · have hn0 : (n == 0) = false := by simpa using hn
     have he : tgP u lo 0 n = [] := by rw [tgP, if_neg hn]
     rw [he]
     clear he
     go_enter Try.func45, Try.ntmps45
     go_wp2
     go_ret
     exact ⟨rfl, hb.out⟩
 | succ r ih =>
   intro n w hr h0 h63
   have IH := Lib.hid ih
   obtain ⟨W1, hW1⟩ : ∃ y : World, y = w.alloc (.cells #[.int .i64 u, .int .i64 lo, .slice A N c] 26) := ⟨_, rfl⟩
   have BF := Lib.hid (show Blk W1 w.heap.size 26 #[.int .i64 u, .int .i64 lo, .slice A N c] by rw [hW1]; exact Blk.born w #[.int .i64 u, .int .i64 lo, .slice A N c] 26 (H := w.heap.size) rfl)
   have hb := Lib.hid (show Below w.heap.size w W1 by rw [hW1]; exact ext_alloc (ext_refl w) _)
   obtain ⟨R, hR⟩ : ∃ R, r + 1 = R := ⟨_, rfl⟩
   rw [hR]
   have HRR := Lib.hid hR.symm
   have hrI : ((R : Int) == 0) = false := by simp; omega
   have hrI2 : ¬ (R : Int) = 0 := by omega
   have hrz : IntKind.i64.wrap ((R : Int) - 1) = (r : Int) := by rw [IntKind.wrap_i64]; omega
   have hr7 : r ≤ 7 := by omega
   have htm : n.tmod 10 = valT n 0 := by unfold valT; rw [Int.tmod_eq_emod_of_nonneg h0]; simp
   clear ih hR hr
   obtain ⟨RES, hRES⟩ : ∃ o9, ((tgP u lo R n).length : Int) = o9 := ⟨_, rfl⟩
   rw [hRES]
   have HRES := Lib.hid hRES
   clear hRES
   go_enter Try.func45, Try.ntmps45
   go_upto_region 5 with fail
   rw [← hW1]
   clear hW1
   go_wp2
   go_loopw [7, 8] (fun ov vv wr => ∃ (j : Nat) (Z : Int), j ≤ 2 ∧ vv = .int .i64 (valT n j) ∧ ov = .int .i64 Z ∧ 0 ≤ Z ∧ Z ≤ 839808 * (j : Int) ∧ Hid (((tgTo u lo (tgP u lo r) n j).length : Int) = Z) ∧ Hid (Blk wr w.heap.size 26 #[.int .i64 u, .int .i64 lo, .slice A N c]) ∧ Hid (Below w.heap.size w wr)) (fun _ v _ => (100 - intOf v).toNat)
   case atStart => exact ⟨0, 0, Nat.zero_le _, rfl, rfl, Int.le_refl _, by decide, Lib.hid rfl, BF, hb⟩
   case round =>
    clear BF hb htm
    obtain ⟨j, Z, hj, rfl, rfl, hZ0, hZ1, HZ, BF, hb⟩ := hrel
    obtain ⟨W, hW⟩ : ∃ y : World, y = wr := ⟨_, rfl⟩
    subst hW
    have lF := BF.out.lt
    cases hv : valB n j
    · have HE := Lib.hid (show RES = Z by rw [← HRES.out, HRR.out, tgP, tgTo_stop h0 hj hv, HZ.out])
      unfold valB at hv
      rw [Bool.and_eq_false_iff] at hv
      rcases hv with hv | hv
      · have hv1 : ¬ valT n j ≤ 15 := by simpa using hv
        clear hv
        go_wp2
        go_ret
        rw [HE.out]
        exact ⟨rfl, hb.out⟩
      · by_cases hv1 : valT n j ≤ 15
        · have hv2 : ¬ valT n j ≤ n := by simpa using hv
          clear hv
          go_wp2
          go_ret
          rw [HE.out]
          exact ⟨rfl, hb.out⟩
        · clear hv
          go_wp2
          go_ret
          rw [HE.out]
          exact ⟨rfl, hb.out⟩
    · have hvv := hv
      unfold valB at hvv
      rw [Bool.and_eq_true, decide_eq_true_eq, decide_eq_true_eq] at hvv
      obtain ⟨hv1, hv2⟩ := hvv
      have hvd : valT n j = n % 10 + 10 * (j : Int) := rfl
      have hj1 : j ≤ 1 := by omega
      obtain ⟨v, hvn⟩ : ∃ o9, valT n j = o9 := ⟨_, rfl⟩
      obtain ⟨q, hq⟩ : ∃ o9, (n - v) / 10 = o9 := ⟨_, rfl⟩
      rw [hvn] at hv1 hv2 hvd ⊢
      have hnv : wrap64 (n - v) = n - v := by unfold wrap64; omega
      have htd : (n - v).tdiv 10 = q := by rw [Int.tdiv_eq_ediv_of_nonneg (by omega)]; exact hq
      have hq0 : 0 ≤ q := by omega
      have hq63 : q ≤ 9223372036854775807 := by omega
      have hwq : wrap64 q = q := by unfold wrap64; omega
      have hv10 : IntKind.i64.wrap (v + 10) = v + 10 := by rw [IntKind.wrap_i64]; omega
      have hvs : valT n (j + 1) = v + 10 := by unfold valT; omega
      have hvm : (100 - (v + 10)).toNat < (100 - v).toNat := by omega
      have hv0 : 0 ≤ v := by omega
      have hrl : (tgP u lo r q).length ≤ 279936 := Nat.le_trans (tgP_len hu r q) (Nat.le_trans (Nat.pow_le_pow_right (by omega) hr7) (by decide))
      have HFO := Lib.hid (fun (w : World) => formsOf_any u lo v w (by omega) (by omega))
      have hfl : (forms u lo v).length ≤ 3 := by have := formsN_len lo v (u + 1).toNat; unfold forms; omega
      obtain ⟨fs, hfs⟩ : ∃ o9, forms u lo v = o9 := ⟨_, rfl⟩
      have HSTEP := Lib.hid (show ((tgTo u lo (tgP u lo r) n (j + 1)).length : Int) = Z + ((tgP u lo r q).length : Int) * (fs.length : Int) by rw [tgTo, tgSt, hv, if_pos rfl, hvn, hq, hfs, List.length_append, prodT_len, ← HZ.out, Int.natCast_add, Int.natCast_mul])
      rw [hfs] at HFO hfl
      unfold RetSlice at HFO
      obtain ⟨f0, f1, f2⟩ := BF.out.q3
      clear hvn hv hvd hfs
      go_wp2_with fail
      refine (HFO.out _).mono ?_
      rintro e w1 ⟨Af, cf, rfl, _, hb1⟩
      have BF2 := Lib.hid (BF.out.ext hb1)
      have hb2 := Lib.hid (ext_trans hb.out hb1)
      clear f0 f1 f2 lF BF hb hb1 HFO
      obtain ⟨f0, f1, f2⟩ := BF2.out.q3
      have lF := BF2.out.lt
      by_cases hf0 : fs.length = 0
      · have hg : ¬ (0 : Int) < (fs.length : Int) := by omega
        have hg2 : decide ((0 : Int) < (fs.length : Int)) = false := decide_eq_false hg
        have HS2 := Lib.hid (show ((tgTo u lo (tgP u lo r) n (j + 1)).length : Int) = Z by rw [HSTEP.out, hf0]; simp)
        go_wp2
        go_roundw
        case rel => exact ⟨j + 1, Z, by omega, by rw [hvs], rfl, hZ0, by omega, HS2, BF2, hb2⟩
        case measure => simp only [intOf]; exact hvm
      · have hg : (0 : Int) < (fs.length : Int) := by omega
        have hg2 : decide ((0 : Int) < (fs.length : Int)) = true := decide_eq_true hg
        have HTI := Lib.hid (fun (w : World) => IH.out q w (by omega) hq0 hq63)
        obtain ⟨T7, hT7⟩ : ∃ o9, ((tgP u lo r q).length : Int) = o9 := ⟨_, rfl⟩
        rw [hT7] at HTI HSTEP
        have hm0 : 0 ≤ T7 * (fs.length : Int) := Int.mul_nonneg (by omega) (by omega)
        have hm1 : T7 * (fs.length : Int) ≤ 279936 * 3 := Int.mul_le_mul (by omega) (by omega) (by omega) (by decide)
        have hmc : (fs.length : Int) * T7 = T7 * (fs.length : Int) := Int.mul_comm _ _
        obtain ⟨P7, hP7⟩ : ∃ o9, T7 * (fs.length : Int) = o9 := ⟨_, rfl⟩
        rw [hP7] at hm0 hm1 hmc HSTEP
        have hw1 : IntKind.i64.wrap P7 = P7 := IntWalk.i64_in _ (by omega)
        have hw2 : IntKind.i64.wrap (Z + P7) = Z + P7 := IntWalk.i64_in _ (by omega)
        unfold RetV at HTI
        clear hP7 hT7 hf0
        go_wp2_with fail
        refine (HTI.out _).mono ?_
        rintro e w3 ⟨rfl, hb3⟩
        have BF4 := Lib.hid (BF2.out.ext hb3)
        have hb4 := Lib.hid (ext_trans hb2.out hb3)
        clear f0 f1 f2 lF BF2 hb2 hb3 HTI
        go_wp2
        go_roundw
        case rel => exact ⟨j + 1, Z + P7, by omega, by rw [hvs], rfl, by omega, by omega, HSTEP, BF4, hb4⟩
        case measure => simp only [intOf]; exact hvm

set_option maxRecDepth 100000 in
set_option maxHeartbeats 8000000 in
theorem implTargetCount_any (u lo : Int) (A : Option Addr) (n c : Nat) (l : List R2) (m : Int) (w : World) (hn : n ≤ 1048576) (h63 : m ≤ 9223372036854775807) (h : Reads w w.heap.size 2 A n (rowsV2 l)) :
 Calls Try.prog 15 #[frV u lo A n c, .int .i64 m] w (RetV (.tuple #[.int .i64 (tgN u lo l m), .bool (askB u lo l m)]) w) := by
 have hl := rows_len2 h
 have H := Lib.hid h
 have BF0 := Lib.hid (Blk.born w #[.int .i64 u, .int .i64 lo, .slice A n c] 26 (H := w.heap.size) rfl)
 have hbx := Lib.hid (ext_alloc (ext_refl w) (.cells #[.int .i64 u, .int .i64 lo, .slice A n c] 26))
 clear h
 cases hf : frB u lo l
 · rw [show tgN u lo l m = 0 by simp [tgN, askB, hf], show askB u lo l m = false by simp [askB, hf]]
   have HF := Lib.hid hf
   clear hf hl
   have BF1 := BF0
   obtain ⟨W1, hW1⟩ : ∃ y : World, y = w.alloc (.cells #[.int .i64 u, .int .i64 lo, .slice A n c] 26) := ⟨_, rfl⟩
   rw [← hW1] at BF1
   have hb1 := Lib.hid (show Below w.heap.size w W1 by rw [hW1]; exact hbx.out)
   clear BF0 hbx
   go_enter Try.func15, Try.ntmps15
   go_upto_region 1 with fail
   rw [← hW1]
   clear hW1
   obtain ⟨f0, f1, f2⟩ := BF1.out.q3
   have lF := BF1.out.lt
   go_wp2_with fail
   refine (isFrame_any u lo A n c l _ hn (rdx H.out hb1.out)).mono ?_
   rw [HF.out]
   rintro e w2 ⟨rfl, hb⟩
   have BF2 := Lib.hid (BF1.out.ext hb)
   have hb2 := Lib.hid (ext_trans hb1.out hb)
   clear hb f0 f1 f2 lF BF1 hb1
   obtain ⟨f0, f1, f2⟩ := BF2.out.q3
   have lF := BF2.out.lt
   go_wp2
   go_ret2
   exact ⟨rfl, hb2.out⟩
 by_cases hm0 : 0 ≤ m
 · rw [show tgN u lo l m = (tgP u lo n m).length by simp [tgN, askB, hf, hm0, hl], show askB u lo l m = true by simp [askB, hf, hm0]]
   have hh := frB_head hf
   have HTI := Lib.hid (fun (w : World) => targets_any u lo A n c (by omega) n m w (by omega) hm0 h63)
   obtain ⟨T7, hT7⟩ : ∃ o9, ((tgP u lo n m).length : Int) = o9 := ⟨_, rfl⟩
   rw [hT7] at HTI ⊢
   unfold RetV at HTI
   have HF := Lib.hid hf
   have kb : decide (m < 0) = false := decide_eq_false (by omega)
   have kb2 : ¬ m < 0 := by omega
   clear hf hl hT7 hh
   have BF1 := BF0
   obtain ⟨W1, hW1⟩ : ∃ y : World, y = w.alloc (.cells #[.int .i64 u, .int .i64 lo, .slice A n c] 26) := ⟨_, rfl⟩
   rw [← hW1] at BF1
   have hb1 := Lib.hid (show Below w.heap.size w W1 by rw [hW1]; exact hbx.out)
   clear BF0 hbx
   go_enter Try.func15, Try.ntmps15
   go_upto_region 1 with fail
   rw [← hW1]
   clear hW1
   obtain ⟨f0, f1, f2⟩ := BF1.out.q3
   have lF := BF1.out.lt
   go_wp2_with fail
   refine (isFrame_any u lo A n c l _ hn (rdx H.out hb1.out)).mono ?_
   rw [HF.out]
   rintro e w2 ⟨rfl, hb⟩
   have BF2 := Lib.hid (BF1.out.ext hb)
   have hb2 := Lib.hid (ext_trans hb1.out hb)
   clear hb f0 f1 f2 lF BF1 hb1
   obtain ⟨f0, f1, f2⟩ := BF2.out.q3
   have lF := BF2.out.lt
   go_wp2_with fail
   refine (HTI.out _).mono ?_
   rintro e w3 ⟨rfl, hb3⟩
   go_wp2
   go_ret2
   exact ⟨rfl, ext_trans hb2.out hb3⟩
 · rw [show tgN u lo l m = 0 by simp [tgN, askB, hm0], show askB u lo l m = false by simp [askB, hm0]]
   have HF := Lib.hid hf
   have kb : decide (m < 0) = true := decide_eq_true (by omega)
   have kb2 : m < 0 := by omega
   clear hf hl
   have BF1 := BF0
   obtain ⟨W1, hW1⟩ : ∃ y : World, y = w.alloc (.cells #[.int .i64 u, .int .i64 lo, .slice A n c] 26) := ⟨_, rfl⟩
   rw [← hW1] at BF1
   have hb1 := Lib.hid (show Below w.heap.size w W1 by rw [hW1]; exact hbx.out)
   clear BF0 hbx
   go_enter Try.func15, Try.ntmps15
   go_upto_region 1 with fail
   rw [← hW1]
   clear hW1
   obtain ⟨f0, f1, f2⟩ := BF1.out.q3
   have lF := BF1.out.lt
   go_wp2_with fail
   refine (isFrame_any u lo A n c l _ hn (rdx H.out hb1.out)).mono ?_
   rw [HF.out]
   rintro e w2 ⟨rfl, hb⟩
   have BF2 := Lib.hid (BF1.out.ext hb)
   have hb2 := Lib.hid (ext_trans hb1.out hb)
   clear hb f0 f1 f2 lF BF1 hb1
   obtain ⟨f0, f1, f2⟩ := BF2.out.q3
   have lF := BF2.out.lt
   go_wp2
   go_ret2
   exact ⟨rfl, hb2.out⟩

set_option maxRecDepth 100000 in
set_option maxHeartbeats 8000000 in
theorem specTargetCount_any (u lo : Int) (A : Option Addr) (n c : Nat) (l : List R2) (m : Int) (w : World) (hn : n ≤ 1048576) (h63 : m ≤ 9223372036854775807) (h : Reads w w.heap.size 2 A n (rowsV2 l)) :
 Calls Try.prog 16 #[frV u lo A n c, .int .i64 m] w (RetV (.tuple #[.int .i64 (tgN u lo l m), .bool (askB u lo l m)]) w) := by
 have hl := rows_len2 h
 have H := Lib.hid h
 have BF0 := Lib.hid (Blk.born w #[.int .i64 u, .int .i64 lo, .slice A n c] 26 (H := w.heap.size) rfl)
 have hbx := Lib.hid (ext_alloc (ext_refl w) (.cells #[.int .i64 u, .int .i64 lo, .slice A n c] 26))
 clear h
 cases ha : askB u lo l m
 · rw [show tgN u lo l m = 0 by unfold tgN; rw [if_neg (by rw [ha]; simp)]]
   have HA := Lib.hid ha
   clear ha hl
   have BF1 := BF0
   obtain ⟨W1, hW1⟩ : ∃ y : World, y = w.alloc (.cells #[.int .i64 u, .int .i64 lo, .slice A n c] 26) := ⟨_, rfl⟩
   rw [← hW1] at BF1
   have hb1 := Lib.hid (show Below w.heap.size w W1 by rw [hW1]; exact hbx.out)
   clear BF0 hbx
   go_enter Try.func16, Try.ntmps16
   go_upto_region 1 with fail
   rw [← hW1]
   clear hW1
   obtain ⟨f0, f1, f2⟩ := BF1.out.q3
   have lF := BF1.out.lt
   go_wp2_with fail
   refine (l13Asked_any u lo A n c l m _ hn h63 (rdx H.out hb1.out)).mono ?_
   rw [HA.out]
   rintro e w2 ⟨rfl, hb⟩
   have BF2 := Lib.hid (BF1.out.ext hb)
   have hb2 := Lib.hid (ext_trans hb1.out hb)
   clear hb f0 f1 f2 lF BF1 hb1
   obtain ⟨f0, f1, f2⟩ := BF2.out.q3
   have lF := BF2.out.lt
   go_wp2
   go_ret2
   exact ⟨rfl, hb2.out⟩
 · have hf : frB u lo l = true := by unfold askB at ha; simp at ha; exact ha.1
   have hm0 : 0 ≤ m := by unfold askB at ha; simp at ha; exact ha.2
   have hh := frB_head hf
   rw [show tgN u lo l m = (tgP u lo n m).length by unfold tgN; rw [if_pos ha, hl]]
   have HAL := Lib.hid (fun (w : World) => l13All_any u lo A n c m w (by omega) (by omega) hm0 h63)
   unfold RetFrs at HAL
   obtain ⟨LL, hLL⟩ : ∃ o9, tgP u lo n m = o9 := ⟨_, rfl⟩
   rw [hLL] at HAL ⊢
   have HA := Lib.hid ha
   clear ha hf hl hh hLL
   have BF1 := BF0
   obtain ⟨W1, hW1⟩ : ∃ y : World, y = w.alloc (.cells #[.int .i64 u, .int .i64 lo, .slice A n c] 26) := ⟨_, rfl⟩
   rw [← hW1] at BF1
   have hb1 := Lib.hid (show Below w.heap.size w W1 by rw [hW1]; exact hbx.out)
   clear BF0 hbx
   go_enter Try.func16, Try.ntmps16
   go_upto_region 1 with fail
   rw [← hW1]
   clear hW1
   obtain ⟨f0, f1, f2⟩ := BF1.out.q3
   have lF := BF1.out.lt
   go_wp2_with fail
   refine (l13Asked_any u lo A n c l m _ hn h63 (rdx H.out hb1.out)).mono ?_
   rw [HA.out]
   rintro e w2 ⟨rfl, hb⟩
   have BF2 := Lib.hid (BF1.out.ext hb)
   have hb2 := Lib.hid (ext_trans hb1.out hb)
   clear hb f0 f1 f2 lF BF1 hb1
   obtain ⟨f0, f1, f2⟩ := BF2.out.q3
   have lF := BF2.out.lt
   go_wp2_with fail
   refine (HAL.out _).mono ?_
   rintro e w3 ⟨A3, c3, vals, rfl, _, _, hb3⟩
   go_wp2
   go_ret2
   exact ⟨rfl, ext_trans hb2.out hb3⟩

end Go.Proofs.Ytmfjaoljeildbaa
