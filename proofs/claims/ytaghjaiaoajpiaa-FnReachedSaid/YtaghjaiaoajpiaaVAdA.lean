/- Drawing addends, subtrahends, rods. -/
import Derived.Test.YtaghjaiaoajpiaaVFdC
import Derived.Test.YtaghjaiaoajpiaaVM5
namespace Go.Proofs.Ytaghjaiaoajpiaa
open Go.RowKit
set_option linter.unusedVariables false
set_option linter.unusedSimpArgs false
theorem least_any (a b : Int) (w : World) : Calls Try.prog 68 #[.int .i64 a, .int .i64 b] w fun e w' => e = .returned (.int .i64 (if a < b then a else b)) ∧ w = w' := by
 by_cases h : a < b
 · rw [if_pos h]
   go_enter Try.func68, Try.ntmps68
   go_wp2
   go_ret
   exact ⟨rfl, rfl⟩
 · rw [if_neg h]
   go_enter Try.func68, Try.ntmps68
   go_wp2
   go_ret
   exact ⟨rfl, rfl⟩
theorem mostL_any (a b : Int) (w : World) : Calls Try.prog 70 #[.int .i64 a, .int .i64 b] w fun e w' => e = .returned (.int .i64 (if b < a then a else b)) ∧ w = w' := by
 by_cases h : b < a
 · rw [if_pos h]
   go_enter Try.func70, Try.ntmps70
   go_wp2
   go_ret
   exact ⟨rfl, rfl⟩
 · rw [if_neg h]
   go_enter Try.func70, Try.ntmps70
   go_wp2
   go_ret
   exact ⟨rfl, rfl⟩
theorem l2Good_b (u lo : Int) (A : Option Addr) (n c : Nat) (l : List R2) (w : World) (b : Bool) (hn : n ≤ 1048576) (h : Reads w w.heap.size 2 A n (rowsV2 l)) (hb : frB u lo l = b) :
 Calls Try.prog 36 #[frV u lo A n c] w (RetV (.bool b) w) := by subst hb; exact l2Good_any u lo A n c l w hn h
set_option maxRecDepth 100000 in
set_option maxHeartbeats 8000000 in
theorem crodOf_any (g a S : Nat) (u lo : Int) (A : Option Addr) (c : Nat) (l : List R2) (w : World) (h : CurAt w g a) (ha : a ≤ 500000000000) (hgS : g < S) (hr : w.ownsRow S 42 2 (.slice A l.length c) l.length (rowsV2 l)) (hIN : FrIn u lo l) :
 Calls Try.prog 52 #[.pointer (some ⟨g, 0, none⟩), frV u lo A l.length c] w (DrawIn g a 10 (-1) 9 w) := by
 have hgw : g < w.heap.size := h.lt
 have hl1 : 1 ≤ l.length := hIN.2.2.2.2.1
 have hl9 : l.length ≤ 9 := hIN.2.2.2.2.2.1
 have BF0 := Lib.hid (Blk.born w #[.int .i64 u, .int .i64 lo, .slice A l.length c] 26 (H := w.heap.size) rfl)
 have HC0 := Lib.hid (h.ext (ext_alloc (ext_refl w) (.cells #[.int .i64 u, .int .i64 lo, .slice A l.length c] 26)))
 have HG0 := Lib.hid (Gr.alloc g w (.cells #[.int .i64 u, .int .i64 lo, .slice A l.length c] 26))
 have HR0 := Lib.hid (hr.alloc (.cells #[.int .i64 u, .int .i64 lo, .slice A l.length c] 26))
 clear h hIN hr
 go_enter Try.func52, Try.ntmps52
 obtain ⟨bfq0, bfq1, bfq2⟩ := BF0.out.q3
 obtain ⟨bfz0, bfz1, bfz2⟩ := BF0.out.z3
 have lbf := BF0.out.lt
 go_wp2_with fail
 refine (pick_any g a (l.length + 1) _ HC0.out (by omega) (by omega) (by omega)).mono ?_
 rintro e w1 ⟨v, a1, rfl, v0, v1, ha1, hc, hg⟩
 have HC1 := Lib.hid hc
 have HG1 := Lib.hid (HG0.out.trans hg)
 have BF1 := Lib.hid (BF0.out.gr hg (by omega))
 have HR1 := Lib.hid (own_gr HR0.out hg hgS)
 clear bfq0 bfz0 bfq1 bfz1 bfq2 bfz2 lbf
 clear hc hg HC0 HG0 BF0 HR0
 obtain ⟨bfq0, bfq1, bfq2⟩ := BF1.out.q3
 obtain ⟨bfz0, bfz1, bfz2⟩ := BF1.out.z3
 have lbf := BF1.out.lt
 go_wp2_with fail
 refine (pick_any g a1 9 _ HC1.out (by omega) (by omega) (by omega)).mono ?_
 rintro e w2 ⟨x, a2, rfl, x0, x1, ha2, hc, hg⟩
 have HC2 := Lib.hid hc
 have HG2 := Lib.hid (HG1.out.trans hg)
 have BF2 := Lib.hid (BF1.out.gr hg (by omega))
 have HR2 := Lib.hid (own_gr HR1.out hg hgS)
 clear bfq0 bfz0 bfq1 bfz1 bfq2 bfz2 lbf
 clear hc hg HC1 HG1 BF1 HR1
 obtain ⟨bfq0, bfq1, bfq2⟩ := BF2.out.q3
 obtain ⟨bfz0, bfz1, bfz2⟩ := BF2.out.z3
 have lbf := BF2.out.lt
 have hx8 : 0 ≤ x / 8 ∧ x / 8 ≤ 1 := by omega
 have htd : x.tdiv 8 = x / 8 := Int.tdiv_eq_ediv_of_nonneg x0
 have v1 : v ≤ (l.length : Int) := by push_cast at v1; omega
 go_wp2
 go_ret
 exact ⟨_, a2, rfl, by first | omega | (dsimp only; omega), by first | omega | (dsimp only; omega), by omega, HC2.out, HG2.out⟩
set_option maxRecDepth 100000 in
set_option maxHeartbeats 8000000 in
theorem addend_any (g a S : Nat) (u lo : Int) (A : Option Addr) (c : Nat) (l : List R2) (w : World) (h : CurAt w g a) (ha : a ≤ 500000000000) (hgS : g < S) (hr : w.ownsRow S 42 2 (.slice A l.length c) l.length (rowsV2 l)) (hIN : FrIn u lo l) :
 Calls Try.prog 45 #[.pointer (some ⟨g, 0, none⟩), frV u lo A l.length c] w (DrawIn g a 40 (-1) 100000001 w) := by
 have hgw : g < w.heap.size := h.lt
 have hl1 : 1 ≤ l.length := hIN.2.2.2.2.1
 have hl9 : l.length ≤ 9 := hIN.2.2.2.2.2.1
 have BF0 := Lib.hid (Blk.born w #[.int .i64 u, .int .i64 lo, .slice A l.length c] 26 (H := w.heap.size) rfl)
 have HC0 := Lib.hid (h.ext (ext_alloc (ext_refl w) (.cells #[.int .i64 u, .int .i64 lo, .slice A l.length c] 26)))
 have HG0 := Lib.hid (Gr.alloc g w (.cells #[.int .i64 u, .int .i64 lo, .slice A l.length c] 26))
 have HR0 := Lib.hid (hr.alloc (.cells #[.int .i64 u, .int .i64 lo, .slice A l.length c] 26))
 clear h hIN hr
 go_enter Try.func45, Try.ntmps45
 obtain ⟨k, hk⟩ : ∃ k : Nat, k = if 8 < l.length then 8 else l.length := ⟨_, rfl⟩
 have hk8 : 1 ≤ k ∧ k ≤ 8 := by split at hk <;> omega
 have hM := pw_lt hk8.2
 have hM1 : 10 ≤ pw k := by have h := pw_le hk8.1; rw [show pw 1 = 10 from rfl] at h; exact h
 have HLE := Lib.hid (fun w => least_any 8 (l.length : Int) w)
 rw [show (if (8 : Int) < (l.length : Int) then 8 else (l.length : Int)) = (k : Int) by rw [hk]; split <;> split <;> omega] at HLE
 have HPW := Lib.hid (fun w => l2Power_any (k : Int) k w rfl hk8.2)
 obtain ⟨M, hMM⟩ : ∃ M, pw k = M := ⟨_, rfl⟩
 rw [hMM] at HPW hM hM1
 clear hk hMM
 obtain ⟨bfq0, bfq1, bfq2⟩ := BF0.out.q3
 obtain ⟨bfz0, bfz1, bfz2⟩ := BF0.out.z3
 have lbf := BF0.out.lt
 go_wp2_with fail
 refine (HLE.out _).mono ?_
 rintro e wz ⟨rfl, rfl⟩
 go_wp2_with fail
 refine (HPW.out _).mono ?_
 rintro e wz ⟨rfl, rfl⟩
 go_wp2_with fail
 refine (among_lit g a (0) 1999 [0, 1, 5, 7, 9, 19, 36, 99, 108, 555, 1999, 48, 64] 3 _ HC0.out (by omega) (by decide) (by decide) (by decide) _ rfl (by simp)).mono ?_
 rintro e w1 ⟨n, a1, rfl, n0, n1, ha1, hc, hg⟩
 have HC1 := Lib.hid hc
 have HG1 := Lib.hid (HG0.out.trans hg)
 have BF1 := Lib.hid (BF0.out.gr hg (by omega))
 have HR1 := Lib.hid (own_gr HR0.out hg hgS)
 clear bfq0 bfz0 bfq1 bfz1 bfq2 bfz2 lbf
 clear hc hg HC0 HG0 BF0 HR0
 obtain ⟨bfq0, bfq1, bfq2⟩ := BF1.out.q3
 obtain ⟨bfz0, bfz1, bfz2⟩ := BF1.out.z3
 have lbf := BF1.out.lt
 go_wp2_with fail
 refine (one_any g a1 4 _ HC1.out (by omega) (by omega) (by omega)).mono ?_
 rintro e w2 ⟨B, a2, rfl, ha2, hc, hg⟩
 have HC2 := Lib.hid hc
 have HG2 := Lib.hid (HG1.out.trans hg)
 have BF2 := Lib.hid (BF1.out.gr hg (by omega))
 have HR2 := Lib.hid (own_gr HR1.out hg hgS)
 clear bfq0 bfz0 bfq1 bfz1 bfq2 bfz2 lbf
 clear hc hg HC1 HG1 BF1 HR1
 obtain ⟨bfq0, bfq1, bfq2⟩ := BF2.out.q3
 obtain ⟨bfz0, bfz1, bfz2⟩ := BF2.out.z3
 have lbf := BF2.out.lt
 cases B
 · go_wp2_with fail
   refine (one_any g a2 24 _ HC2.out (by omega) (by omega) (by omega)).mono ?_
   rintro e w3 ⟨B2, a3, rfl, ha3, hc, hg⟩
   have HC3 := Lib.hid hc
   have HG3 := Lib.hid (HG2.out.trans hg)
   have BF3 := Lib.hid (BF2.out.gr hg (by omega))
   have HR3 := Lib.hid (own_gr HR2.out hg hgS)
   clear bfq0 bfz0 bfq1 bfz1 bfq2 bfz2 lbf
   clear hc hg HC2 HG2 BF2 HR2
   obtain ⟨bfq0, bfq1, bfq2⟩ := BF3.out.q3
   obtain ⟨bfz0, bfz1, bfz2⟩ := BF3.out.z3
   have lbf := BF3.out.lt
   cases B2
   · have hmm : 0 ≤ n % M ∧ n % M < M := ⟨Int.emod_nonneg n (by omega), Int.emod_lt_of_pos n (by omega)⟩
     have htm : n.tmod M = n % M := Int.tmod_eq_emod_of_nonneg n0
     have hM0 : M ≠ 0 := by omega
     obtain ⟨nm, hnm⟩ : ∃ y, n % M = y := ⟨_, rfl⟩
     rw [hnm] at hmm htm
     clear hnm
     go_wp2
     go_ret
     exact ⟨_, a3, rfl, by first | omega | (dsimp only; omega), by first | omega | (dsimp only; omega), by omega, HC3.out, HG3.out⟩
   · go_wp2_with fail
     refine (among_lit g a3 (-1) 100000000 [-1, M, M - 1] 3 _ HC3.out (by omega) (by intro z hz; simp only [List.mem_cons, List.not_mem_nil, or_false] at hz; omega) (by simp) (by simp) _ rfl (by simp)).mono ?_
     rintro e w4 ⟨z, a4, rfl, z0, z1, ha4, hc, hg⟩
     have HC4 := Lib.hid hc
     have HG4 := Lib.hid (HG3.out.trans hg)
     have BF4 := Lib.hid (BF3.out.gr hg (by omega))
     have HR4 := Lib.hid (own_gr HR3.out hg hgS)
     clear bfq0 bfz0 bfq1 bfz1 bfq2 bfz2 lbf
     clear hc hg HC3 HG3 BF3 HR3
     obtain ⟨bfq0, bfq1, bfq2⟩ := BF4.out.q3
     obtain ⟨bfz0, bfz1, bfz2⟩ := BF4.out.z3
     have lbf := BF4.out.lt
     go_wp2
     go_ret
     exact ⟨_, a4, rfl, by first | omega | (dsimp only; omega), by first | omega | (dsimp only; omega), by omega, HC4.out, HG4.out⟩
 · obtain ⟨gb, hgb⟩ : ∃ gb, goodB u lo l = gb := ⟨_, rfl⟩
   have HST := Lib.hid (fun w h => l2Standard_b u lo A l.length c l w gb (by omega) h hgb)
   unfold RetV at HST
   have HGB := Lib.hid hgb
   clear hgb
   go_wp2_with fail
   refine (HST.out _ (Reads.of_own HR2.out)).mono ?_
   rintro e w3 ⟨rfl, hb⟩
   have HC3 := Lib.hid (HC2.out.ext hb)
   have HG3 := Lib.hid (HG2.out.trans (Gr.of_ext hb))
   have BF3 := Lib.hid (BF2.out.ext hb)
   have HR3 := Lib.hid (own_ext HR2.out hb)
   clear bfq0 bfz0 bfq1 bfz1 bfq2 bfz2 lbf
   clear hb HC2 HG2 BF2 HR2
   obtain ⟨bfq0, bfq1, bfq2⟩ := BF3.out.q3
   obtain ⟨bfz0, bfz1, bfz2⟩ := BF3.out.z3
   have lbf := BF3.out.lt
   cases gb
   · go_wp2_with fail
     refine (one_any g a2 24 _ HC3.out (by omega) (by omega) (by omega)).mono ?_
     rintro e w4 ⟨B2, a4, rfl, ha4, hc, hg⟩
     have HC4 := Lib.hid hc
     have HG4 := Lib.hid (HG3.out.trans hg)
     have BF4 := Lib.hid (BF3.out.gr hg (by omega))
     have HR4 := Lib.hid (own_gr HR3.out hg hgS)
     clear bfq0 bfz0 bfq1 bfz1 bfq2 bfz2 lbf
     clear hc hg HC3 HG3 BF3 HR3
     obtain ⟨bfq0, bfq1, bfq2⟩ := BF4.out.q3
     obtain ⟨bfz0, bfz1, bfz2⟩ := BF4.out.z3
     have lbf := BF4.out.lt
     cases B2
     · have hmm : 0 ≤ n % M ∧ n % M < M := ⟨Int.emod_nonneg n (by omega), Int.emod_lt_of_pos n (by omega)⟩
       have htm : n.tmod M = n % M := Int.tmod_eq_emod_of_nonneg n0
       have hM0 : M ≠ 0 := by omega
       obtain ⟨nm, hnm⟩ : ∃ y, n % M = y := ⟨_, rfl⟩
       rw [hnm] at hmm htm
       clear hnm
       go_wp2
       go_ret
       exact ⟨_, a4, rfl, by first | omega | (dsimp only; omega), by first | omega | (dsimp only; omega), by omega, HC4.out, HG4.out⟩
     · go_wp2_with fail
       refine (among_lit g a4 (-1) 100000000 [-1, M, M - 1] 3 _ HC4.out (by omega) (by intro z hz; simp only [List.mem_cons, List.not_mem_nil, or_false] at hz; omega) (by simp) (by simp) _ rfl (by simp)).mono ?_
       rintro e w5 ⟨z, a5, rfl, z0, z1, ha5, hc, hg⟩
       have HC5 := Lib.hid hc
       have HG5 := Lib.hid (HG4.out.trans hg)
       have BF5 := Lib.hid (BF4.out.gr hg (by omega))
       have HR5 := Lib.hid (own_gr HR4.out hg hgS)
       clear bfq0 bfz0 bfq1 bfz1 bfq2 bfz2 lbf
       clear hc hg HC4 HG4 BF4 HR4
       obtain ⟨bfq0, bfq1, bfq2⟩ := BF5.out.q3
       obtain ⟨bfz0, bfz1, bfz2⟩ := BF5.out.z3
       have lbf := BF5.out.lt
       go_wp2
       go_ret
       exact ⟨_, a5, rfl, by first | omega | (dsimp only; omega), by first | omega | (dsimp only; omega), by omega, HC5.out, HG5.out⟩
   · have HNU := Lib.hid (fun w h => l2Number_any u lo A l.length c l w (good_fr HGB.out) h)
     have hnb := numR_bounds (good_fr HGB.out) l.length
     rw [List.take_of_length_le (Nat.le_refl _)] at hnb
     obtain ⟨N, hN⟩ : ∃ N, numR l = N := ⟨_, rfl⟩
     rw [hN] at HNU hnb
     clear hN
     go_wp2_with fail
     refine (HNU.out _ (Reads.of_own HR3.out)).mono ?_
     rintro e w4 ⟨rfl, hb⟩
     have HC4 := Lib.hid (HC3.out.ext hb)
     have HG4 := Lib.hid (HG3.out.trans (Gr.of_ext hb))
     have BF4 := Lib.hid (BF3.out.ext hb)
     have HR4 := Lib.hid (own_ext HR3.out hb)
     clear bfq0 bfz0 bfq1 bfz1 bfq2 bfz2 lbf
     clear hb HC3 HG3 BF3 HR3
     obtain ⟨bfq0, bfq1, bfq2⟩ := BF4.out.q3
     obtain ⟨bfz0, bfz1, bfz2⟩ := BF4.out.z3
     have lbf := BF4.out.lt
     have HMO := Lib.hid (fun w => mostL_any 0 (M - 1 - N) w)
     obtain ⟨T0, hT0⟩ : ∃ y, (if M - 1 - N < 0 then 0 else M - 1 - N) = y := ⟨_, rfl⟩
     have hTb : 0 ≤ T0 ∧ T0 ≤ 100000000 := by split at hT0 <;> omega
     rw [hT0] at HMO
     clear hT0
     go_wp2_with fail
     refine (HMO.out _).mono ?_
     rintro e wz ⟨rfl, rfl⟩
     go_wp2_with fail
     refine (pick_any g a2 2 _ HC4.out (by omega) (by omega) (by omega)).mono ?_
     rintro e w5 ⟨p, a5, rfl, p0, p1, ha5, hc, hg⟩
     have HC5 := Lib.hid hc
     have HG5 := Lib.hid (HG4.out.trans hg)
     have BF5 := Lib.hid (BF4.out.gr hg (by omega))
     have HR5 := Lib.hid (own_gr HR4.out hg hgS)
     clear bfq0 bfz0 bfq1 bfz1 bfq2 bfz2 lbf
     clear hc hg HC4 HG4 BF4 HR4
     obtain ⟨bfq0, bfq1, bfq2⟩ := BF5.out.q3
     obtain ⟨bfz0, bfz1, bfz2⟩ := BF5.out.z3
     have lbf := BF5.out.lt
     go_wp2
     go_ret
     exact ⟨_, a5, rfl, by first | omega | (dsimp only; omega), by first | omega | (dsimp only; omega), by omega, HC5.out, HG5.out⟩
end Go.Proofs.Ytaghjaiaoajpiaa
