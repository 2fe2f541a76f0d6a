/- QuotientOf, Corrections, CheckDivision: both. -/
import Derived.Test.YtnoflejomlnmfaaVM9
namespace Go.Proofs.Ytnoflejomlnmfaa
open Go.RowKit
set_option linter.unusedVariables false
set_option linter.unusedSimpArgs false
def ckB (a b q r : Int) : Bool := dvB a b && inB q 0 99999999 && inB r 0 9999
def ckV (a b q r : Int) : Bool := ckB a b q r && (q == a / b && r == a % b)
def coV (a b : Int) : Int := if dvB a b = true then coT b (mrB b) (dgA a) (dgA a).length else 0
def qsT (b : Int) (ds : List Int) : Nat → Int
 | 0 => 0
 | k + 1 => qsT b ds k + s0T b ds k / b
theorem co_sum (b P : Int) (ds : List Int) : ∀ k, coT b P ds k = (trT b P ds k).sum - qsT b ds k := by
 intro k
 induction k with
 | zero => rfl
 | succ k ih => rw [coT, trT, qsT, ih, List.sum_append]; simp; omega
theorem qsT_bounds {b : Int} (hb : 1 ≤ b) {ds : List Int} (hw : WF ds) : ∀ k : Nat, 0 ≤ qsT b ds k ∧ qsT b ds k ≤ 9 * k := by
 intro k
 induction k with
 | zero => exact ⟨Int.le_refl _, Int.le_refl _⟩
 | succ k ih =>
   have := qT_bounds hb hw k
   rw [qsT]
   omega
theorem trT_bounds {b P : Int} (hb : 1 ≤ b) (hP : 1 ≤ P) {ds : List Int} (hw : WF ds) : ∀ k : Nat, ∀ z ∈ trT b P ds k, 0 ≤ z ∧ z ≤ 9 := by
 intro k
 induction k with
 | zero => intro z hz; cases hz
 | succ k ih =>
   intro z hz
   rw [trT] at hz
   rcases List.mem_append.1 hz with h | h
   · exact ih z h
   · simp at h
     subst h
     exact tq_bounds hb hP (s0T_bounds hb hw k).1
theorem coT_bounds {b P : Int} (hb : 1 ≤ b) (hP : 1 ≤ P) {ds : List Int} (hw : WF ds) : ∀ k : Nat, -9 * k ≤ coT b P ds k ∧ coT b P ds k ≤ 9 * k := by
 intro k
 induction k with
 | zero => exact ⟨Int.le_refl _, Int.le_refl _⟩
 | succ k ih =>
   have h1 := qT_bounds hb hw k
   have h2 := tq_bounds (P := P) hb hP (s0T_bounds hb hw k).1
   rw [coT]
   omega
theorem sum_bounds (L : List Int) (M : Int) (h : ∀ z ∈ L, 0 ≤ z ∧ z ≤ M) : 0 ≤ L.sum ∧ L.sum ≤ M * L.length := by
 induction L with
 | nil => simp
 | cons x L ih =>
   have h1 := h x (List.mem_cons_self ..)
   have h2 := ih (fun z hz => h z (List.mem_cons_of_mem _ hz))
   rw [List.sum_cons, List.length_cons]
   push_cast
   rw [Int.mul_add]
   omega
set_option maxHeartbeats 2000000 in
theorem implQuotOf_any (a b : Int) (w : World) : Calls Try.prog 25 #[.int .i64 a, .int .i64 b] w (RetV (.tuple #[.int .i64 (if dvB a b = true then a / b else 0), .int .i64 (if dvB a b = true then a % b else 0), .bool (dvB a b)]) w) := by
 unfold RetV
 cases h : dvB a b
 · rw [if_neg (by simp), if_neg (by simp)]
   have HD := Lib.hid (fun w => isDvn_b a b false w h)
   clear h
   go_enter Try.func25, Try.ntmps25
   go_wp2_with fail
   refine (HD.out _).mono ?_
   rintro e w1 ⟨rfl, hb1⟩
   go_wp2
   refine bodyPost_ret (v := .tuple #[.int .i64 0, .int .i64 0, .bool false]) (by simp [results, Try.results25, go_sem, *]) rfl ⟨rfl, hb1⟩
 · rw [if_pos rfl, if_pos rfl]
   have HD := Lib.hid (fun w => isDvn_b a b true w h)
   unfold dvB at h
   simp only [Bool.and_eq_true] at h
   have ha := inB_iff.1 h.1
   have hb := inB_iff.1 h.2
   have htd : a.tdiv b = a / b := Int.tdiv_eq_ediv_of_nonneg ha.1
   have htm : a.tmod b = a % b := Int.tmod_eq_emod_of_nonneg ha.1
   have hq0 : 0 ≤ a / b := Int.ediv_nonneg ha.1 (by omega)
   have hq1 : a / b ≤ a := Int.ediv_le_self _ ha.1
   obtain ⟨q, hq⟩ : ∃ q, a / b = q := ⟨_, rfl⟩
   obtain ⟨r, hr⟩ : ∃ r, a % b = r := ⟨_, rfl⟩
   rw [hq] at htd hq0 hq1 ⊢
   rw [hr] at htm ⊢
   have hwq : IntKind.i64.wrap q = q := by rw [IntKind.wrap_i64]; omega
   have hb0 : b ≠ 0 := by omega
   clear h hq hr
   go_enter Try.func25, Try.ntmps25
   go_wp2_with fail
   refine (HD.out _).mono ?_
   rintro e w1 ⟨rfl, hb1⟩
   have HB1 := Lib.hid hb1
   clear hb1
   go_wp2_with fail
   (refine wp_region_later (by kernel_rfl) (by kernel_rfl) ?_; (repeat (go_big_quiet_step (fail))); refine wpQuiet_nil ?_; intro w2 hw1; obtain ⟨⟨wl, hb⟩, hw1'⟩ := hw1; simp only at hw1'; subst hw1')
   have HB2 := Lib.hid (ext_trans HB1.out hb)
   clear hb
   go_wp2
   refine bodyPost_ret (v := .tuple #[.int .i64 q, .int .i64 r, .bool true]) (by simp [results, Try.results25, go_sem, *]) rfl ⟨rfl, HB2.out⟩
set_option maxHeartbeats 2000000 in
theorem specQuotOf_any (a b : Int) (w : World) : Calls Try.prog 26 #[.int .i64 a, .int .i64 b] w (RetV (.tuple #[.int .i64 (if dvB a b = true then a / b else 0), .int .i64 (if dvB a b = true then a % b else 0), .bool (dvB a b)]) w) := by
 unfold RetV
 cases h : dvB a b
 · rw [if_neg (by simp), if_neg (by simp)]
   have HD := Lib.hid (fun w => l10Asked_b a b false w h)
   clear h
   go_enter Try.func26, Try.ntmps26
   go_wp2_with fail
   refine (HD.out _).mono ?_
   rintro e w1 ⟨rfl, hb1⟩
   go_wp2
   refine bodyPost_ret (v := .tuple #[.int .i64 0, .int .i64 0, .bool false]) (by simp [results, Try.results26, go_sem, *]) rfl ⟨rfl, hb1⟩
 · rw [if_pos rfl, if_pos rfl]
   have HD := Lib.hid (fun w => l10Asked_b a b true w h)
   unfold dvB at h
   simp only [Bool.and_eq_true] at h
   have ha := inB_iff.1 h.1
   have hb := inB_iff.1 h.2
   have htd : a.tdiv b = a / b := Int.tdiv_eq_ediv_of_nonneg ha.1
   have htm : a.tmod b = a % b := Int.tmod_eq_emod_of_nonneg ha.1
   have hq0 : 0 ≤ a / b := Int.ediv_nonneg ha.1 (by omega)
   have hq1 : a / b ≤ a := Int.ediv_le_self _ ha.1
   obtain ⟨q, hq⟩ : ∃ q, a / b = q := ⟨_, rfl⟩
   obtain ⟨r, hr⟩ : ∃ r, a % b = r := ⟨_, rfl⟩
   rw [hq] at htd hq0 hq1 ⊢
   rw [hr] at htm ⊢
   have hwq : IntKind.i64.wrap q = q := by rw [IntKind.wrap_i64]; omega
   have hb0 : b ≠ 0 := by omega
   clear h hq hr
   go_enter Try.func26, Try.ntmps26
   go_wp2_with fail
   refine (HD.out _).mono ?_
   rintro e w1 ⟨rfl, hb1⟩
   have HB1 := Lib.hid hb1
   clear hb1
   go_wp2_with fail
   (refine wp_region_later (by kernel_rfl) (by kernel_rfl) ?_; (repeat (go_big_quiet_step (fail))); refine wpQuiet_nil ?_; intro w2 hw1; obtain ⟨⟨wl, hb⟩, hw1'⟩ := hw1; simp only at hw1'; subst hw1')
   have HB2 := Lib.hid (ext_trans HB1.out hb)
   clear hb
   go_wp2
   refine bodyPost_ret (v := .tuple #[.int .i64 q, .int .i64 r, .bool true]) (by simp [results, Try.results26, go_sem, *]) rfl ⟨rfl, HB2.out⟩
set_option maxHeartbeats 4000000 in
theorem implCheckDiv_any (a b q r : Int) (w : World) : Calls Try.prog 31 #[.int .i64 a, .int .i64 b, .int .i64 q, .int .i64 r] w (RetV (.tuple #[.bool (ckV a b q r), .bool (ckB a b q r)]) w) := by
 unfold RetV
 cases h1 : dvB a b
 · rw [show ckB a b q r = false by unfold ckB; rw [h1]; rfl, show ckV a b q r = false by unfold ckV ckB; rw [h1]; rfl]
   have HD := Lib.hid (fun w => isDvn_b a b false w h1)
   clear h1
   go_enter Try.func31, Try.ntmps31
   go_wp2_with fail
   refine (HD.out _).mono ?_
   rintro e w1 ⟨rfl, hb1⟩
   have HB1 := Lib.hid hb1
   clear hb1
   go_wp2
   go_ret2
   exact ⟨rfl, HB1.out⟩
 have HD := Lib.hid (fun w => isDvn_b a b true w h1)
 cases h2 : inB q 0 99999999
 · rw [show ckB a b q r = false by unfold ckB; rw [h1, h2]; rfl, show ckV a b q r = false by unfold ckV ckB; rw [h1, h2]; rfl]
   have HQ := Lib.hid (fun w => isDvd_b q _ w h2)
   clear h1 h2
   go_enter Try.func31, Try.ntmps31
   go_wp2_with fail
   refine (HD.out _).mono ?_
   rintro e w1 ⟨rfl, hb1⟩
   have HB1 := Lib.hid hb1
   clear hb1
   go_wp2_with fail
   refine (HQ.out _).mono ?_
   rintro e w2 ⟨rfl, hb2⟩
   have HB2 := Lib.hid (ext_trans HB1.out hb2)
   clear hb2
   go_wp2
   go_ret2
   exact ⟨rfl, HB2.out⟩
 have HQ := Lib.hid (fun w => isDvd_b q _ w h2)
 cases h3 : inB r 0 9999
 · rw [show ckB a b q r = false by unfold ckB; rw [h1, h2, h3]; rfl, show ckV a b q r = false by unfold ckV ckB; rw [h1, h2, h3]; rfl]
   have HR := Lib.hid (fun w => within_b r 0 9999 _ w h3)
   clear h1 h2 h3
   go_enter Try.func31, Try.ntmps31
   go_wp2_with fail
   refine (HD.out _).mono ?_
   rintro e w1 ⟨rfl, hb1⟩
   have HB1 := Lib.hid hb1
   clear hb1
   go_wp2_with fail
   refine (HQ.out _).mono ?_
   rintro e w2 ⟨rfl, hb2⟩
   have HB2 := Lib.hid (ext_trans HB1.out hb2)
   clear hb2
   go_wp2_with fail
   refine (HR.out _).mono ?_
   rintro e w3 ⟨rfl, hb3⟩
   have HB3 := Lib.hid (ext_trans HB2.out hb3)
   clear hb3
   go_wp2
   go_ret2
   exact ⟨rfl, HB3.out⟩
 · rw [show ckB a b q r = true by unfold ckB; rw [h1, h2, h3]; rfl, show ckV a b q r = (q == a / b && r == a % b) by unfold ckV ckB; rw [h1, h2, h3]; rfl]
   have HR := Lib.hid (fun w => within_b r 0 9999 _ w h3)
   unfold dvB at h1
   simp only [Bool.and_eq_true] at h1
   have ha := inB_iff.1 h1.1
   have hb := inB_iff.1 h1.2
   have htd : a.tdiv b = a / b := Int.tdiv_eq_ediv_of_nonneg ha.1
   have htm : a.tmod b = a % b := Int.tmod_eq_emod_of_nonneg ha.1
   have hq0 : 0 ≤ a / b := Int.ediv_nonneg ha.1 (by omega)
   have hq1 : a / b ≤ a := Int.ediv_le_self _ ha.1
   obtain ⟨q', hq⟩ : ∃ q', a / b = q' := ⟨_, rfl⟩
   obtain ⟨r', hr⟩ : ∃ r', a % b = r' := ⟨_, rfl⟩
   rw [hq] at htd hq0 hq1 ⊢
   rw [hr] at htm ⊢
   have hwq : wrap64 q' = q' := by unfold wrap64; omega
   have hwq2 : IntKind.i64.wrap q' = q' := by rw [IntKind.wrap_i64]; omega
   have hb0 : b ≠ 0 := by omega
   clear h1 h2 h3 hq hr
   by_cases hqq : q = q'
   · have e1 : (q == q') = true := by simpa using hqq
     rw [e1]
     subst hqq
     clear e1
     go_enter Try.func31, Try.ntmps31
     go_wp2_with fail
     refine (HD.out _).mono ?_
     rintro e w1 ⟨rfl, hb1⟩
     have HB1 := Lib.hid hb1
     clear hb1
     go_wp2_with fail
     refine (HQ.out _).mono ?_
     rintro e w2 ⟨rfl, hb2⟩
     have HB2 := Lib.hid (ext_trans HB1.out hb2)
     clear hb2
     go_wp2_with fail
     refine (HR.out _).mono ?_
     rintro e w3 ⟨rfl, hb3⟩
     have HB3 := Lib.hid (ext_trans HB2.out hb3)
     clear hb3
     go_wp2
     go_ret2
     exact ⟨by first | rfl | simp, HB3.out⟩
   · have e1 : (q == q') = false := by simpa using hqq
     rw [e1]
     clear hqq
     go_enter Try.func31, Try.ntmps31
     go_wp2_with fail
     refine (HD.out _).mono ?_
     rintro e w1 ⟨rfl, hb1⟩
     have HB1 := Lib.hid hb1
     clear hb1
     go_wp2_with fail
     refine (HQ.out _).mono ?_
     rintro e w2 ⟨rfl, hb2⟩
     have HB2 := Lib.hid (ext_trans HB1.out hb2)
     clear hb2
     go_wp2_with fail
     refine (HR.out _).mono ?_
     rintro e w3 ⟨rfl, hb3⟩
     have HB3 := Lib.hid (ext_trans HB2.out hb3)
     clear hb3
     go_wp2
     go_ret2
     exact ⟨by first | rfl | simp, HB3.out⟩
set_option maxHeartbeats 4000000 in
theorem specCheckDiv_any (a b q r : Int) (w : World) : Calls Try.prog 36 #[.int .i64 a, .int .i64 b, .int .i64 q, .int .i64 r] w (RetV (.tuple #[.bool (ckV a b q r), .bool (ckB a b q r)]) w) := by
 unfold RetV
 cases h1 : dvB a b
 · rw [show ckB a b q r = false by unfold ckB; rw [h1]; rfl, show ckV a b q r = false by unfold ckV ckB; rw [h1]; rfl]
   have HD := Lib.hid (fun w => l10Asked_b a b false w h1)
   clear h1
   go_enter Try.func36, Try.ntmps36
   go_wp2_with fail
   refine (HD.out _).mono ?_
   rintro e w1 ⟨rfl, hb1⟩
   have HB1 := Lib.hid hb1
   clear hb1
   go_wp2
   go_ret2
   exact ⟨rfl, HB1.out⟩
 have HD := Lib.hid (fun w => l10Asked_b a b true w h1)
 cases h2 : inB q 0 99999999
 · rw [show ckB a b q r = false by unfold ckB; rw [h1, h2]; rfl, show ckV a b q r = false by unfold ckV ckB; rw [h1, h2]; rfl]
   have HQ := Lib.hid (fun w => l1In_b q 0 99999999 _ w h2)
   clear h1 h2
   go_enter Try.func36, Try.ntmps36
   go_wp2_with fail
   refine (HD.out _).mono ?_
   rintro e w1 ⟨rfl, hb1⟩
   have HB1 := Lib.hid hb1
   clear hb1
   go_wp2_with fail
   refine (HQ.out _).mono ?_
   rintro e w2 ⟨rfl, hb2⟩
   have HB2 := Lib.hid (ext_trans HB1.out hb2)
   clear hb2
   go_wp2
   go_ret2
   exact ⟨rfl, HB2.out⟩
 have HQ := Lib.hid (fun w => l1In_b q 0 99999999 _ w h2)
 cases h3 : inB r 0 9999
 · rw [show ckB a b q r = false by unfold ckB; rw [h1, h2, h3]; rfl, show ckV a b q r = false by unfold ckV ckB; rw [h1, h2, h3]; rfl]
   have HR := Lib.hid (fun w => l1In_b r 0 9999 _ w h3)
   clear h1 h2 h3
   go_enter Try.func36, Try.ntmps36
   go_wp2_with fail
   refine (HD.out _).mono ?_
   rintro e w1 ⟨rfl, hb1⟩
   have HB1 := Lib.hid hb1
   clear hb1
   go_wp2_with fail
   refine (HQ.out _).mono ?_
   rintro e w2 ⟨rfl, hb2⟩
   have HB2 := Lib.hid (ext_trans HB1.out hb2)
   clear hb2
   go_wp2_with fail
   refine (HR.out _).mono ?_
   rintro e w3 ⟨rfl, hb3⟩
   have HB3 := Lib.hid (ext_trans HB2.out hb3)
   clear hb3
   go_wp2
   go_ret2
   exact ⟨rfl, HB3.out⟩
 · rw [show ckB a b q r = true by unfold ckB; rw [h1, h2, h3]; rfl, show ckV a b q r = (q == a / b && r == a % b) by unfold ckV ckB; rw [h1, h2, h3]; rfl]
   have HR := Lib.hid (fun w => l1In_b r 0 9999 _ w h3)
   unfold dvB at h1
   simp only [Bool.and_eq_true] at h1
   have ha := inB_iff.1 h1.1
   have hb := inB_iff.1 h1.2
   have htd : a.tdiv b = a / b := Int.tdiv_eq_ediv_of_nonneg ha.1
   have htm : a.tmod b = a % b := Int.tmod_eq_emod_of_nonneg ha.1
   have hq0 : 0 ≤ a / b := Int.ediv_nonneg ha.1 (by omega)
   have hq1 : a / b ≤ a := Int.ediv_le_self _ ha.1
   obtain ⟨q', hq⟩ : ∃ q', a / b = q' := ⟨_, rfl⟩
   obtain ⟨r', hr⟩ : ∃ r', a % b = r' := ⟨_, rfl⟩
   rw [hq] at htd hq0 hq1 ⊢
   rw [hr] at htm ⊢
   have hwq : wrap64 q' = q' := by unfold wrap64; omega
   have hwq2 : IntKind.i64.wrap q' = q' := by rw [IntKind.wrap_i64]; omega
   have hb0 : b ≠ 0 := by omega
   clear h1 h2 h3 hq hr
   by_cases hqq : q = q'
   · have e1 : (q == q') = true := by simpa using hqq
     rw [e1]
     subst hqq
     clear e1
     go_enter Try.func36, Try.ntmps36
     go_wp2_with fail
     refine (HD.out _).mono ?_
     rintro e w1 ⟨rfl, hb1⟩
     have HB1 := Lib.hid hb1
     clear hb1
     go_wp2_with fail
     refine (HQ.out _).mono ?_
     rintro e w2 ⟨rfl, hb2⟩
     have HB2 := Lib.hid (ext_trans HB1.out hb2)
     clear hb2
     go_wp2_with fail
     refine (HR.out _).mono ?_
     rintro e w3 ⟨rfl, hb3⟩
     have HB3 := Lib.hid (ext_trans HB2.out hb3)
     clear hb3
     go_wp2
     go_ret2
     exact ⟨by first | rfl | simp, HB3.out⟩
   · have e1 : (q == q') = false := by simpa using hqq
     rw [e1]
     clear hqq
     go_enter Try.func36, Try.ntmps36
     go_wp2_with fail
     refine (HD.out _).mono ?_
     rintro e w1 ⟨rfl, hb1⟩
     have HB1 := Lib.hid hb1
     clear hb1
     go_wp2_with fail
     refine (HQ.out _).mono ?_
     rintro e w2 ⟨rfl, hb2⟩
     have HB2 := Lib.hid (ext_trans HB1.out hb2)
     clear hb2
     go_wp2_with fail
     refine (HR.out _).mono ?_
     rintro e w3 ⟨rfl, hb3⟩
     have HB3 := Lib.hid (ext_trans HB2.out hb3)
     clear hb3
     go_wp2
     go_ret2
     exact ⟨by first | rfl | simp, HB3.out⟩
set_option maxRecDepth 100000 in
set_option maxHeartbeats 4000000 in
theorem implCorrections_any (a b : Int) (w : World) : Calls Try.prog 30 #[.int .i64 a, .int .i64 b] w (RetV (.tuple #[.int .i64 (coV a b), .bool (dvB a b)]) w) := by
 unfold RetV
 cases h : dvB a b
 · rw [show coV a b = 0 by unfold coV; rw [h]; rfl]
   have HD := Lib.hid (fun w => isDvn_b a b false w h)
   clear h
   go_enter Try.func30, Try.ntmps30
   go_wp2_with fail
   refine (HD.out _).mono ?_
   rintro e w1 ⟨rfl, hb1⟩
   go_wp2
   go_ret2
   exact ⟨rfl, hb1⟩
 · rw [show coV a b = coT b (mrB b) (dgA a) (dgA a).length by unfold coV; rw [h]; rfl, co_sum]
   have HD := Lib.hid (fun w => isDvn_b a b true w h)
   have HT := Lib.hid (fun w => implTrials_any a b w h)
   have HS := Lib.hid (fun w => implSteps_any a b w h)
   unfold RetSlice at HT HS
   unfold dvB at h
   simp only [Bool.and_eq_true] at h
   have ha := inB_iff.1 h.1
   have hb := inB_iff.1 h.2
   obtain ⟨hwf, _, hlen⟩ := dgA_facts ha.1 ha.2
   obtain ⟨hP1, hPb, _, _⟩ := mrB_bounds hb.1 hb.2
   have hqs := fun k => qsT_bounds hb.1 hwf k
   have hts := fun k => trT_bounds (P := mrB b) hb.1 hP1 hwf k
   obtain ⟨ds, hds⟩ : ∃ ds, dgA a = ds := ⟨_, rfl⟩
   rw [hds] at HT HS hlen hqs hts ⊢
   obtain ⟨n, hn⟩ : ∃ n, ds.length = n := ⟨_, rfl⟩
   rw [hn] at HT HS hlen ⊢
   obtain ⟨L, hL⟩ : ∃ L, trT b (mrB b) ds n = L := ⟨_, rfl⟩
   have hz : ∀ z ∈ L, 0 ≤ z ∧ z ≤ 9 := by rw [← hL]; exact hts n
   have hSm : 0 ≤ L.sum ∧ L.sum ≤ 9 * n := by
    have h9 := sum_bounds L 9 hz
    have : L.length = n := by rw [← hL, trT_len]
    rw [this] at h9
    exact h9
   rw [hL] at HT ⊢
   obtain ⟨S, hS⟩ : ∃ S, L.sum = S := ⟨_, rfl⟩
   have HSU := Lib.hid (fun (w : World) (A : Option Addr) (c : Nat) h => sumI_any A n c L 9 w (by omega) (by omega) hz h)
   rw [hS] at HSU hSm ⊢
   have HQS := Lib.hid hqs
   clear h hds hn hL hS hz hts hqs hwf hP1 hPb
   go_enter Try.func30, Try.ntmps30
   go_wp2_with fail
   refine (HD.out _).mono ?_
   rintro e w1 ⟨rfl, hb1⟩
   have HB1 := Lib.hid hb1
   clear hb1
   go_wp2_with fail
   refine (HT.out _).mono ?_
   rintro e w2 ⟨A2, c2, rfl, ho2, hb2⟩
   have HB2 := Lib.hid (ext_trans HB1.out hb2)
   go_wp2_with fail
   refine (HSU.out _ A2 c2 (Reads.of_own ho2)).mono ?_
   rintro e w3 ⟨rfl, hw3⟩
   subst hw3
   clear ho2 hb2
   go_wp2_with fail
   refine (HS.out _).mono ?_
   rintro e w4 ⟨A4, c4, rfl, ho4, hb4⟩
   have HO := Lib.hid ho4
   have HB4 := Lib.hid (ext_trans HB2.out hb4)
   clear ho4 hb4
   go_wp2_with fail
   go_loopw [6, 21] (fun z i wr => ∃ k : Nat, k ≤ n ∧ i = .int .i64 k ∧ z = .int .i64 (S - qsT b ds k) ∧ Hid (Below w4.heap.size w4 wr)) (fun _ i _ => n - (intOf i).toNat)
   case atStart => exact ⟨0, Nat.zero_le _, rfl, by rw [show qsT b ds 0 = 0 from rfl]; simp, Lib.hid (ext_refl _)⟩
   case round =>
    obtain ⟨k, hk, rfl, rfl, HX⟩ := hrel
    have hqk := HQS.out k
    by_cases hlt : k < n
    · obtain ⟨bd, od, rfl, hbd, c0, c1, c2⟩ := rows_at3 (Reads.of_own (own_ext HO.out HX.out)) (stT_get b ds n k hlt)
      have hnx : qsT b ds (k + 1) = qsT b ds k + s0T b ds k / b := rfl
      have hqk2 := HQS.out (k + 1)
      obtain ⟨X, hX⟩ : ∃ X, s0T b ds k = X := ⟨_, rfl⟩
      rw [hX] at hnx c0 c1 c2
      obtain ⟨q, hq⟩ : ∃ q, X / b = q := ⟨_, rfl⟩
      rw [hq] at hnx c1
      obtain ⟨r, hr⟩ : ∃ r, X % b = r := ⟨_, rfl⟩
      rw [hr] at c2
      rw [hnx] at hqk2
      obtain ⟨Q, hQ⟩ : ∃ Q, qsT b ds k = Q := ⟨_, rfl⟩
      rw [hQ] at hqk hqk2 hnx ⊢
      have HNX := Lib.hid hnx
      have k1 : (k : Int) < (n : Int) := by omega
      have k0 : (0 : Int) ≤ (k : Int) := by omega
      clear hX hq hr hQ hnx
      go_wp2
      go_roundw
      case rel => exact ⟨k + 1, by omega, by go_num, by rw [HNX.out]; go_num, Lib.hid (ext_alloc HX.out _)⟩
      case measure => simp [intOf]; omega
    · obtain rfl : k = n := by omega
      go_wp2
      go_ret2
      exact ⟨rfl, ext_trans HB4.out HX.out⟩
set_option maxRecDepth 100000 in
set_option maxHeartbeats 4000000 in
theorem specCorrections_any (a b : Int) (w : World) : Calls Try.prog 38 #[.int .i64 a, .int .i64 b] w (RetV (.tuple #[.int .i64 (coV a b), .bool (dvB a b)]) w) := by
 unfold RetV
 cases h : dvB a b
 · rw [show coV a b = 0 by unfold coV; rw [h]; rfl]
   have HD := Lib.hid (fun w => l10Asked_b a b false w h)
   clear h
   go_enter Try.func38, Try.ntmps38
   go_wp2_with fail
   refine (HD.out _).mono ?_
   rintro e w1 ⟨rfl, hb1⟩
   go_wp2
   go_ret2
   exact ⟨rfl, hb1⟩
 · rw [show coV a b = coT b (mrB b) (dgA a) (dgA a).length by unfold coV; rw [h]; rfl]
   have HD := Lib.hid (fun w => l10Asked_b a b true w h)
   have HT := Lib.hid (fun w => specTrials_any a b w h)
   have HS := Lib.hid (fun w => specSteps_any a b w h)
   unfold RetSlice at HT HS
   unfold dvB at h
   simp only [Bool.and_eq_true] at h
   have ha := inB_iff.1 h.1
   have hb := inB_iff.1 h.2
   obtain ⟨hwf, _, hlen⟩ := dgA_facts ha.1 ha.2
   obtain ⟨hP1, hPb, _, _⟩ := mrB_bounds hb.1 hb.2
   have hqb := fun k => qT_bounds hb.1 hwf k
   have htb := fun k => tq_bounds (P := mrB b) hb.1 hP1 (s0T_bounds hb.1 hwf k).1
   have hcb := fun k => coT_bounds (P := mrB b) hb.1 hP1 hwf k
   obtain ⟨ds, hds⟩ : ∃ ds, dgA a = ds := ⟨_, rfl⟩
   rw [hds] at HT HS hlen hqb htb hcb ⊢
   obtain ⟨n, hn⟩ : ∃ n, ds.length = n := ⟨_, rfl⟩
   rw [hn] at HT HS hlen ⊢
   obtain ⟨P, hP⟩ : ∃ P, mrB b = P := ⟨_, rfl⟩
   rw [hP] at HT htb hcb ⊢
   have HQB := Lib.hid hqb
   have HTB := Lib.hid htb
   have HCB := Lib.hid hcb
   clear h hds hn hP hqb htb hcb hwf hP1 hPb
   go_enter Try.func38, Try.ntmps38
   go_wp2_with fail
   refine (HD.out _).mono ?_
   rintro e w1 ⟨rfl, hb1⟩
   have HB1 := Lib.hid hb1
   clear hb1
   go_wp2_with fail
   refine (HS.out _).mono ?_
   rintro e w2 ⟨A2, c2, rfl, ho2, hb2⟩
   have HB2 := Lib.hid (ext_trans HB1.out hb2)
   have HO2 := Lib.hid ho2
   clear ho2 hb2
   go_wp2_with fail
   refine (HT.out _).mono ?_
   rintro e w4 ⟨A4, c4, rfl, ho4, hb4⟩
   have HT4 := Lib.hid ho4
   have HS4 := Lib.hid (own_ext HO2.out hb4)
   have HB4 := Lib.hid (ext_trans HB2.out hb4)
   clear ho4 hb4 HO2
   go_wp2_with fail
   go_loopw [8, 9] (fun z i wr => ∃ k : Nat, k ≤ n ∧ i = .int .i64 k ∧ z = .int .i64 (coT b P ds k) ∧ Hid (Below w4.heap.size w4 wr)) (fun _ i _ => n - (intOf i).toNat)
   case atStart => exact ⟨0, Nat.zero_le _, rfl, rfl, Lib.hid (ext_refl _)⟩
   case round =>
    obtain ⟨k, hk, rfl, rfl, HX⟩ := hrel
    obtain ⟨V, hV⟩ : ∃ V : World, V = wr := ⟨_, rfl⟩
    subst hV
    have hck := HCB.out k
    by_cases hlt : k < n
    · obtain ⟨bd, od, rfl, hbd, c0, c1, c2⟩ := rows_at3 (Reads.of_own (own_ext HS4.out HX.out)) (stT_get b ds n k hlt)
      obtain ⟨bt, ot, rfl, hbt, d0⟩ := ints_at (Reads.of_own (own_ext HT4.out HX.out)) (trT_get b P ds n k hlt)
      have hnx : coT b P ds (k + 1) = coT b P ds k + (tq b P (s0T b ds k) - s0T b ds k / b) := rfl
      have hqb := HQB.out k
      have htb := HTB.out k
      obtain ⟨t, ht⟩ : ∃ t, tq b P (s0T b ds k) = t := ⟨_, rfl⟩
      rw [ht] at hnx htb d0
      obtain ⟨X, hX⟩ : ∃ X, s0T b ds k = X := ⟨_, rfl⟩
      rw [hX] at hnx hqb c0 c1 c2
      obtain ⟨q, hq⟩ : ∃ q, X / b = q := ⟨_, rfl⟩
      rw [hq] at hnx hqb c1
      obtain ⟨r, hr⟩ : ∃ r, X % b = r := ⟨_, rfl⟩
      rw [hr] at c2
      obtain ⟨C, hC⟩ : ∃ C, coT b P ds k = C := ⟨_, rfl⟩
      rw [hC] at hck hnx ⊢
      have HNX := Lib.hid (show coT b P ds (k + 1) = C + t - q by rw [hnx]; omega)
      have k1 : (k : Int) < (n : Int) := by omega
      have k0 : (0 : Int) ≤ (k : Int) := by omega
      have wt : wrap64 (C + t) = C + t := by unfold wrap64; omega
      have wt2 : wrap64 (C + t - q) = C + t - q := by unfold wrap64; omega
      clear ht hX hq hr hC hnx
      go_wp2_with fail
      (refine wp_region_later (by kernel_rfl) (by kernel_rfl) ?_; (repeat (go_big_quiet_step (fail))); refine wpQuiet_nil ?_; intro w5 hw1; obtain ⟨⟨wl, hb⟩, hw1'⟩ := hw1; simp only at hw1'; subst hw1')
      have HX5 := Lib.hid (ext_trans HX.out hb)
      clear hb wt wt2
      go_wp2
      go_roundw
      case rel => exact ⟨k + 1, by omega, by go_num, by rw [HNX.out], HX5⟩
      case measure => simp [intOf]; omega
    · obtain rfl : k = n := by omega
      go_wp2
      go_ret2
      exact ⟨rfl, ext_trans HB4.out HX.out⟩
end Go.Proofs.Ytnoflejomlnmfaa
