/- The wrappers of dividing; QuotientOn. -/
import Derived.Test.YtnoflejomlnmfaaVDvB
import Derived.Test.YtnoflejomlnmfaaVM4
import Derived.Test.YtnoflejomlnmfaaVFdD
import Derived.Test.YtnoflejomlnmfaaVM5
namespace Go.Proofs.Ytnoflejomlnmfaa
open Go.RowKit
set_option linter.unusedVariables false
set_option linter.unusedSimpArgs false
theorem isDvd_b (z : Int) (b : Bool) (w : World) (h : inB z 0 99999999 = b) : Calls Try.prog 64 #[.int .i64 z] w fun e w' => e = .returned (.bool b) ∧ Below w.heap.size w w' := by
 go_enter Try.func64, Try.ntmps64
 go_wp2_with fail
 refine (within_b _ _ _ _ _ h).mono ?_
 rintro e w1 ⟨rfl, hb⟩
 go_wp2
 go_ret
 exact ⟨rfl, hb⟩
theorem isDvn_b (a d : Int) (b : Bool) (w : World) (h : dvB a d = b) : Calls Try.prog 57 #[.int .i64 a, .int .i64 d] w fun e w' => e = .returned (.bool b) ∧ Below w.heap.size w w' := by
 unfold dvB at h
 cases ha : inB a 0 99999999
 · rw [ha] at h
   subst h
   have HA := Lib.hid ha
   clear ha
   go_enter Try.func57, Try.ntmps57
   go_wp2_with fail
   refine (isDvd_b a _ _ HA.out).mono ?_
   rintro e w1 ⟨rfl, hb1⟩
   go_wp2
   go_ret
   exact ⟨rfl, hb1⟩
 · rw [ha] at h
   obtain ⟨q, hq⟩ : ∃ q, inB d 1 9999 = q := ⟨_, rfl⟩
   rw [hq] at h
   have h : q = b := h
   subst h
   have HA := Lib.hid ha
   have HB := Lib.hid hq
   clear ha hq
   go_enter Try.func57, Try.ntmps57
   go_wp2_with fail
   refine (isDvd_b a _ _ HA.out).mono ?_
   rintro e w1 ⟨rfl, hb1⟩
   go_wp2_with fail
   refine (within_b d 1 9999 _ _ HB.out).mono ?_
   rintro e w2 ⟨rfl, hb2⟩
   go_wp2
   go_ret
   exact ⟨rfl, ext_trans hb1 hb2⟩
theorem l10Asked_b (a d : Int) (b : Bool) (w : World) (h : dvB a d = b) : Calls Try.prog 59 #[.int .i64 a, .int .i64 d] w fun e w' => e = .returned (.bool b) ∧ Below w.heap.size w w' := by
 unfold dvB at h
 cases ha : inB a 0 99999999
 · rw [ha] at h
   subst h
   have HA := Lib.hid ha
   clear ha
   go_enter Try.func59, Try.ntmps59
   go_wp2_with fail
   refine (l1In_b a 0 99999999 _ _ HA.out).mono ?_
   rintro e w1 ⟨rfl, hb1⟩
   go_wp2
   go_ret
   exact ⟨rfl, hb1⟩
 · rw [ha] at h
   obtain ⟨q, hq⟩ : ∃ q, inB d 1 9999 = q := ⟨_, rfl⟩
   rw [hq] at h
   have h : q = b := h
   subst h
   have HA := Lib.hid ha
   have HB := Lib.hid hq
   clear ha hq
   go_enter Try.func59, Try.ntmps59
   go_wp2_with fail
   refine (l1In_b a 0 99999999 _ _ HA.out).mono ?_
   rintro e w1 ⟨rfl, hb1⟩
   go_wp2_with fail
   refine (l1In_b d 1 9999 _ _ HB.out).mono ?_
   rintro e w2 ⟨rfl, hb2⟩
   go_wp2
   go_ret
   exact ⟨rfl, ext_trans hb1 hb2⟩
set_option maxHeartbeats 2000000 in
theorem implDivSteps_any (a b : Int) (w : World) : Calls Try.prog 22 #[.int .i64 a, .int .i64 b] w (RetSliceB w 57 3 (if dvB a b = true then (dgA a).length else 0) (if dvB a b = true then rowsV3 (stT b (dgA a) (dgA a).length) else []) (dvB a b)) := by
 unfold RetSliceB
 cases h : dvB a b
 · rw [if_neg (by simp), if_neg (by simp)]
   have HD := Lib.hid (fun w => isDvn_b a b false w h)
   clear h
   go_enter Try.func22, Try.ntmps22
   go_wp2_with fail
   refine (HD.out _).mono ?_
   rintro e w1 ⟨rfl, hb1⟩
   go_wp2
   go_ret2
   exact ⟨none, 0, rfl, World.ownsRow_nil _ _ _ _, hb1⟩
 · rw [if_pos rfl, if_pos rfl]
   have HD := Lib.hid (fun w => isDvn_b a b true w h)
   have HC := Lib.hid (fun w => implSteps_any a b w h)
   unfold RetSlice at HC
   obtain ⟨n, hn⟩ : ∃ n, (dgA a).length = n := ⟨_, rfl⟩
   rw [hn] at HC ⊢
   obtain ⟨L, hL⟩ : ∃ L, rowsV3 (stT b (dgA a) n) = L := ⟨_, rfl⟩
   rw [hL] at HC ⊢
   clear h hn hL
   go_enter Try.func22, Try.ntmps22
   go_wp2_with fail
   refine (HD.out _).mono ?_
   rintro e w1 ⟨rfl, hb1⟩
   have HB1 := Lib.hid hb1
   clear hb1
   go_wp2_with fail
   refine (HC.out _).mono ?_
   rintro e w2 ⟨A, c, rfl, ho, hb2⟩
   have HO := Lib.hid ho
   have HB2 := Lib.hid (ext_trans HB1.out hb2)
   clear ho hb2
   go_wp2
   go_ret2
   exact ⟨A, c, rfl, own_base HO.out HB1.out.size, HB2.out⟩
set_option maxHeartbeats 2000000 in
theorem specDivSteps_any (a b : Int) (w : World) : Calls Try.prog 23 #[.int .i64 a, .int .i64 b] w (RetSliceB w 57 3 (if dvB a b = true then (dgA a).length else 0) (if dvB a b = true then rowsV3 (stT b (dgA a) (dgA a).length) else []) (dvB a b)) := by
 unfold RetSliceB
 cases h : dvB a b
 · rw [if_neg (by simp), if_neg (by simp)]
   have HD := Lib.hid (fun w => l10Asked_b a b false w h)
   clear h
   go_enter Try.func23, Try.ntmps23
   go_wp2_with fail
   refine (HD.out _).mono ?_
   rintro e w1 ⟨rfl, hb1⟩
   go_wp2
   go_ret2
   exact ⟨_, _, rfl, own_base (own_lit0 w1 57 3) hb1.size, ext_alloc hb1 _⟩
 · rw [if_pos rfl, if_pos rfl]
   have HD := Lib.hid (fun w => l10Asked_b a b true w h)
   have HC := Lib.hid (fun w => specSteps_any a b w h)
   unfold RetSlice at HC
   obtain ⟨n, hn⟩ : ∃ n, (dgA a).length = n := ⟨_, rfl⟩
   rw [hn] at HC ⊢
   obtain ⟨L, hL⟩ : ∃ L, rowsV3 (stT b (dgA a) n) = L := ⟨_, rfl⟩
   rw [hL] at HC ⊢
   clear h hn hL
   go_enter Try.func23, Try.ntmps23
   go_wp2_with fail
   refine (HD.out _).mono ?_
   rintro e w1 ⟨rfl, hb1⟩
   have HB1 := Lib.hid hb1
   clear hb1
   go_wp2_with fail
   refine (HC.out _).mono ?_
   rintro e w2 ⟨A, c, rfl, ho, hb2⟩
   have HO := Lib.hid ho
   have HB2 := Lib.hid (ext_trans HB1.out hb2)
   clear ho hb2
   go_wp2
   go_ret2
   exact ⟨A, c, rfl, own_base HO.out HB1.out.size, HB2.out⟩
set_option maxHeartbeats 2000000 in
theorem implTrialDigits_any (a b : Int) (w : World) : Calls Try.prog 27 #[.int .i64 a, .int .i64 b] w (RetSliceB w 3 1 (if dvB a b = true then (dgA a).length else 0) (if dvB a b = true then intsV (trT b (mrB b) (dgA a) (dgA a).length) else []) (dvB a b)) := by
 unfold RetSliceB
 cases h : dvB a b
 · rw [if_neg (by simp), if_neg (by simp)]
   have HD := Lib.hid (fun w => isDvn_b a b false w h)
   clear h
   go_enter Try.func27, Try.ntmps27
   go_wp2_with fail
   refine (HD.out _).mono ?_
   rintro e w1 ⟨rfl, hb1⟩
   go_wp2
   go_ret2
   exact ⟨none, 0, rfl, World.ownsRow_nil _ _ _ _, hb1⟩
 · rw [if_pos rfl, if_pos rfl]
   have HD := Lib.hid (fun w => isDvn_b a b true w h)
   have HC := Lib.hid (fun w => implTrials_any a b w h)
   unfold RetSlice at HC
   obtain ⟨n, hn⟩ : ∃ n, (dgA a).length = n := ⟨_, rfl⟩
   rw [hn] at HC ⊢
   obtain ⟨L, hL⟩ : ∃ L, intsV (trT b (mrB b) (dgA a) n) = L := ⟨_, rfl⟩
   rw [hL] at HC ⊢
   clear h hn hL
   go_enter Try.func27, Try.ntmps27
   go_wp2_with fail
   refine (HD.out _).mono ?_
   rintro e w1 ⟨rfl, hb1⟩
   have HB1 := Lib.hid hb1
   clear hb1
   go_wp2_with fail
   refine (HC.out _).mono ?_
   rintro e w2 ⟨A, c, rfl, ho, hb2⟩
   have HO := Lib.hid ho
   have HB2 := Lib.hid (ext_trans HB1.out hb2)
   clear ho hb2
   go_wp2
   go_ret2
   exact ⟨A, c, rfl, own_base HO.out HB1.out.size, HB2.out⟩
set_option maxHeartbeats 2000000 in
theorem specTrialDigits_any (a b : Int) (w : World) : Calls Try.prog 28 #[.int .i64 a, .int .i64 b] w (RetSliceB w 3 1 (if dvB a b = true then (dgA a).length else 0) (if dvB a b = true then intsV (trT b (mrB b) (dgA a) (dgA a).length) else []) (dvB a b)) := by
 unfold RetSliceB
 cases h : dvB a b
 · rw [if_neg (by simp), if_neg (by simp)]
   have HD := Lib.hid (fun w => l10Asked_b a b false w h)
   clear h
   go_enter Try.func28, Try.ntmps28
   go_wp2_with fail
   refine (HD.out _).mono ?_
   rintro e w1 ⟨rfl, hb1⟩
   go_wp2
   go_ret2
   exact ⟨_, _, rfl, own_base (own_lit0 w1 3 1) hb1.size, ext_alloc hb1 _⟩
 · rw [if_pos rfl, if_pos rfl]
   have HD := Lib.hid (fun w => l10Asked_b a b true w h)
   have HC := Lib.hid (fun w => specTrials_any a b w h)
   unfold RetSlice at HC
   obtain ⟨n, hn⟩ : ∃ n, (dgA a).length = n := ⟨_, rfl⟩
   rw [hn] at HC ⊢
   obtain ⟨L, hL⟩ : ∃ L, intsV (trT b (mrB b) (dgA a) n) = L := ⟨_, rfl⟩
   rw [hL] at HC ⊢
   clear h hn hL
   go_enter Try.func28, Try.ntmps28
   go_wp2_with fail
   refine (HD.out _).mono ?_
   rintro e w1 ⟨rfl, hb1⟩
   have HB1 := Lib.hid hb1
   clear hb1
   go_wp2_with fail
   refine (HC.out _).mono ?_
   rintro e w2 ⟨A, c, rfl, ho, hb2⟩
   have HO := Lib.hid ho
   have HB2 := Lib.hid (ext_trans HB1.out hb2)
   clear ho hb2
   go_wp2
   go_ret2
   exact ⟨A, c, rfl, own_base HO.out HB1.out.size, HB2.out⟩
end Go.Proofs.Ytnoflejomlnmfaa
