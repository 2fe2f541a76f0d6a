/- Trial digits: both; sums. -/
import Derived.Test.YtnoflejomlnmfaaVDvA
import Derived.Test.YtnoflejomlnmfaaVM4
import Derived.Test.YtnoflejomlnmfaaVAdA
namespace Go.Proofs.Ytnoflejomlnmfaa
open Go.RowKit
set_option linter.unusedVariables false
set_option linter.unusedSimpArgs false
set_option maxRecDepth 100000 in
set_option maxHeartbeats 4000000 in
theorem implTrials_any (a b : Int) (w : World) (h : dvB a b = true) : Calls Try.prog 61 #[.int .i64 a, .int .i64 b] w (RetSlice w 3 1 (dgA a).length (intsV (trT b (mrB b) (dgA a) (dgA a).length))) := by
 obtain ⟨i0, hi, hz0, hz1, hz2⟩ := info_parts info_int
 unfold RetSlice
 have hab := h
 unfold dvB at hab
 simp only [Bool.and_eq_true] at hab
 have ha := inB_iff.1 hab.1
 have hb := inB_iff.1 hab.2
 clear hab
 obtain ⟨hwf, hnum, hlen⟩ := dgA_facts ha.1 ha.2
 obtain ⟨hP1, hPb, hL8, hL1⟩ := mrB_bounds hb.1 hb.2
 have HDG := Lib.hid (fun w => implDigits_any b w (by omega) (by omega))
 have HSP := Lib.hid (fun w => implSteps_any a b w h)
 have HPW := Lib.hid (fun w => power_at ((digT 9 b).length - 1 : Nat) _ w rfl hL8)
 rw [show pw ((digT 9 b).length - 1) = mrB b from rfl] at HPW
 unfold RetSlice at HDG HSP
 obtain ⟨ds, hds⟩ : ∃ ds, dgA a = ds := ⟨_, rfl⟩
 rw [hds] at hwf hlen HSP ⊢
 obtain ⟨n, hn⟩ : ∃ n, ds.length = n := ⟨_, rfl⟩
 rw [hn] at hlen HSP ⊢
 obtain ⟨P, hP⟩ : ∃ P, mrB b = P := ⟨_, rfl⟩
 rw [hP] at HPW hP1 hPb ⊢
 obtain ⟨D, hD⟩ : ∃ D, digT 9 b = D := ⟨_, rfl⟩
 rw [hD] at HDG HPW hL8 hL1
 obtain ⟨L, hL⟩ : ∃ L, D.length = L := ⟨_, rfl⟩
 rw [hL] at HDG HPW hL8 hL1
 have HN := Lib.hid hn
 have HWF := Lib.hid hwf
 have eL : (L : Int) - 1 = ((L - 1 : Nat) : Int) := by omega
 rw [← eL] at HPW
 clear hds hnum hn hwf h hP hD hL eL

 go_enter Try.func61, Try.ntmps61
 go_wp2_with fail
 refine (HDG.out _).mono ?_
 rintro e w1 ⟨Ad, cd, rfl, ho1, hb1⟩
 have HB1 := Lib.hid hb1
 clear ho1 hb1
 go_wp2_with fail
 refine (HPW.out _).mono ?_
 rintro e w2 ⟨rfl, hw2⟩
 subst hw2
 go_wp2_with fail
 refine (HSP.out _).mono ?_
 rintro e w3 ⟨As, cs, rfl, ho3, hb3⟩
 have HSt := Lib.hid ho3
 have HB3 := Lib.hid (ext_trans HB1.out hb3)
 clear ho3 hb3
 go_wp2_with fail
 go_loopw [6, 18] (fun out i wr => ∃ (k : Nat) (A : Option Addr) (c : Nat), k ≤ n ∧ i = .int .i64 k ∧ out = .slice A k c ∧ Hid (wr.ownsRow w3.heap.size 3 1 (.slice A k c) k (intsV (trT b P ds k))) ∧ Hid (Below w3.heap.size w3 wr)) (fun _ i _ => n - (intOf i).toNat)
 case atStart => exact ⟨0, none, 0, Nat.zero_le _, rfl, rfl, Lib.hid (World.ownsRow_nil _ _ _ _), Lib.hid (ext_refl _)⟩
 case round =>
  obtain ⟨k, A, c, hk, rfl, rfl, HO, HX⟩ := hrel
  by_cases hlt : k < n
  ·
   obtain ⟨V, hV⟩ : ∃ V : World, V = wr := ⟨_, rfl⟩
   subst hV
   have hgt := stT_get b ds n k hlt
   obtain ⟨bd, od, rfl, hbd, c0, c1, c2⟩ := rows_at3 (Reads.of_own (own_ext HSt.out HX.out)) hgt
   have hs := s0T_bounds hb.1 HWF.out k
   have hq := qT_bounds hb.1 HWF.out k
   have hr := rsT_bounds hb.1 ds (k + 1)
   rw [rsT_succ] at hr
   have htr : trT b P ds (k + 1) = trT b P ds k ++ [tq b P (s0T b ds k)] := rfl
   have htq := tq_bounds hb.1 hP1 hs.1
   have htq2 : tq b P (s0T b ds k) = if 9 < s0T b ds k / P / (b / P) then 9 else s0T b ds k / P / (b / P) := rfl
   obtain ⟨X, hX⟩ : ∃ X, s0T b ds k = X := ⟨_, rfl⟩
   rw [hX] at hs hq hr htr htq htq2 c0 c1 c2
   obtain ⟨q, hq2⟩ : ∃ q, X / b = q := ⟨_, rfl⟩
   rw [hq2] at hq c1
   obtain ⟨r, hr2⟩ : ∃ r, X % b = r := ⟨_, rfl⟩
   rw [hr2] at hr c2
   obtain ⟨y1, hy1⟩ : ∃ y, X / P = y := ⟨_, rfl⟩
   obtain ⟨y2, hy2⟩ : ∃ y, b / P = y := ⟨_, rfl⟩
   rw [hy1, hy2] at htq2
   have b1 : 0 ≤ y1 := by rw [← hy1]; exact Int.ediv_nonneg hs.1 (by omega)
   have b1' : y1 ≤ X := by rw [← hy1]; exact Int.ediv_le_self _ hs.1
   have b2 : 1 ≤ y2 := by rw [← hy2, Int.le_ediv_iff_mul_le (by omega)]; omega
   have b2' : y2 ≤ b := by rw [← hy2]; exact Int.ediv_le_self _ (by omega)
   have t1 : X.tdiv P = y1 := by rw [← hy1]; exact Int.tdiv_eq_ediv_of_nonneg hs.1
   have t2 : b.tdiv P = y2 := by rw [← hy2]; exact Int.tdiv_eq_ediv_of_nonneg (by omega)
   have t3 : y1.tdiv y2 = y1 / y2 := Int.tdiv_eq_ediv_of_nonneg b1
   obtain ⟨y3, hy3⟩ : ∃ y, y1 / y2 = y := ⟨_, rfl⟩
   rw [hy3] at t3 htq2
   have b3 : 0 ≤ y3 := by rw [← hy3]; exact Int.ediv_nonneg b1 (by omega)
   have b3' : y3 ≤ y1 := by rw [← hy3]; exact Int.ediv_le_self _ b1
   have w1' : IntKind.i64.wrap y1 = y1 := by rw [IntKind.wrap_i64]; omega
   have w2' : IntKind.i64.wrap y2 = y2 := by rw [IntKind.wrap_i64]; omega
   have w3' : IntKind.i64.wrap y3 = y3 := by rw [IntKind.wrap_i64]; omega
   have hP0 : P ≠ 0 := by omega
   have hy0 : y2 ≠ 0 := by omega
   obtain ⟨T, hT⟩ : ∃ T, tq b P X = T := ⟨_, rfl⟩
   rw [hT] at htr htq htq2
   have HTR := Lib.hid htr
   have hbV : w3.heap.size ≤ V.heap.size := HX.out.size
   have m1 : k + 1 ≤ maxLen := by unfold maxLen; omega
   have m2 : (k + 1) * 8 ≤ 140737488355328 := by omega
   have k1 : (k : Int) < (n : Int) := by omega
   have k0 : (0 : Int) ≤ (k : Int) := by omega
   have HT2 := Lib.hid htq2
   clear hgt hX hq2 hr2 hy1 hy2 hy3 hT htr htq2

   obtain ⟨N, hN⟩ : ∃ N, N = V.heap.size := ⟨_, rfl⟩
   obtain ⟨Wb, hWb⟩ : ∃ y : World, y = V.alloc (.cells #[.int .i64 X, .int .i64 q, .int .i64 r] 57) := ⟨_, rfl⟩
   have hv0 : Wb.cell? ⟨N, 0, none⟩ = some (.int .i64 X) := by rw [hWb, hN]; simp [go_sem]
   have HOb := Lib.hid (show Wb.ownsRow w3.heap.size 3 1 (.slice A k c) k (intsV (trT b P ds k)) by rw [hWb]; exact HO.out.alloc _)
   have HXb := Lib.hid (show Below w3.heap.size w3 Wb by rw [hWb]; exact ext_alloc HX.out _)
   have hNl : N < Wb.heap.size := by rw [hWb, hN]; simp
   have hbW : w3.heap.size ≤ Wb.heap.size := HXb.out.size
   go_upto_region 6 with fail
   rw [← hN, ← hWb]
   have hneN : Value.ownBlock (.slice A k c) ≠ some N := fun e => absurd (HO.out.lt N e).2 (by omega)
   clear hN hWb hbV c0 c1 c2 HO HX
   have hmn : (if y3 < 9 then y3 else 9) = T := by have h := HT2.out; split at h <;> split <;> omega
   clear HT2
   go_region_held3 (fun w' => w'.cell? ⟨N, 0, none⟩ = some (.int .i64 X)) (first | ((with_reducible (repeat (first | assumption | refine cell_drew ?_ | refine cell_old ?_ _))); done) | (refine cell_far_grown HGR.out hneN ?_; with_reducible (repeat (first | assumption | refine cell_drew ?_ | refine cell_old ?_ _)))) ((refine step_appO rfl (.tmp 22) (.tmp 32) 53 rfl w3.heap.size 3 i0 _ 1 8 Try.underlying53 hi hz0 hz1 hz2 rfl (by decide) (.slice A k c) k (intsV (trT b P ds k)) (by rfl) ((HOb.out.alloc (.cells #[.int .i64 T] 3)).drew) (some ⟨Wb.heap.size, 0, none⟩) 1 1 [.int .i64 T] (by rfl) w3.heap.size (lit_own (B := w3.heap.size) Wb 3 1 [.int .i64 T] rfl hbW (by rfl)).drew (ints_oneC [T]) m1 m2 (Nat.le_trans hbW (by simp)) ?_; intro A4 c4 w6 hown hgrow; have HGR := Lib.hid hgrow; have HOW := Lib.hid hown; clear hown hgrow))
   have HB6 := Lib.hid (below_grown' ((HOb.out.alloc (.cells #[.int .i64 T] 3)).drew) (Nat.le_refl _) (ext_drew (ext_alloc HXb.out (.cells #[.int .i64 T] 3))) HGR.out)
   clear hmn w1' w2' w3' t1 t2 t3
   go_wp2
   go_roundw
   case rel => exact ⟨k + 1, A4, c4, by omega, by go_num, rfl, Lib.hid (by rw [HTR.out]; have h9 := HOW.out; simpa [intsV] using h9), HB6⟩
   case measure => simp [intOf]; omega
  · obtain rfl : k = n := by omega
    go_wp2
    go_ret
    exact ⟨_, _, rfl, own_base HO.out HB3.out.size, ext_trans HB3.out HX.out⟩
set_option maxRecDepth 100000 in
set_option maxHeartbeats 4000000 in
theorem specTrials_any (a b : Int) (w : World) (h : dvB a b = true) : Calls Try.prog 62 #[.int .i64 a, .int .i64 b] w (RetSlice w 3 1 (dgA a).length (intsV (trT b (mrB b) (dgA a) (dgA a).length))) := by
 obtain ⟨i0, hi, hz0, hz1, hz2⟩ := info_parts info_int
 unfold RetSlice
 have hab := h
 unfold dvB at hab
 simp only [Bool.and_eq_true] at hab
 have ha := inB_iff.1 hab.1
 have hb := inB_iff.1 hab.2
 clear hab
 obtain ⟨hwf, hnum, hlen⟩ := dgA_facts ha.1 ha.2
 obtain ⟨hP1, hPb, hL8, hL1⟩ := mrB_bounds hb.1 hb.2
 have HDG := Lib.hid (fun w => specDigits_any b w (by omega) (by omega))
 have HSP := Lib.hid (fun w => specSteps_any a b w h)
 have HPW := Lib.hid (fun w => l2Power_any ((digT 9 b).length - 1 : Nat) _ w rfl hL8)
 rw [show pw ((digT 9 b).length - 1) = mrB b from rfl] at HPW
 unfold RetSlice at HDG HSP
 obtain ⟨ds, hds⟩ : ∃ ds, dgA a = ds := ⟨_, rfl⟩
 rw [hds] at hwf hlen HSP ⊢
 obtain ⟨n, hn⟩ : ∃ n, ds.length = n := ⟨_, rfl⟩
 rw [hn] at hlen HSP ⊢
 obtain ⟨P, hP⟩ : ∃ P, mrB b = P := ⟨_, rfl⟩
 rw [hP] at HPW hP1 hPb ⊢
 obtain ⟨D, hD⟩ : ∃ D, digT 9 b = D := ⟨_, rfl⟩
 rw [hD] at HDG HPW hL8 hL1
 obtain ⟨L, hL⟩ : ∃ L, D.length = L := ⟨_, rfl⟩
 rw [hL] at HDG HPW hL8 hL1
 have HN := Lib.hid hn
 have HWF := Lib.hid hwf
 have eL : (L : Int) - 1 = ((L - 1 : Nat) : Int) := by omega
 rw [← eL] at HPW
 clear hds hnum hn hwf h hP hD hL eL

 go_enter Try.func62, Try.ntmps62
 go_wp2_with fail
 refine (HSP.out _).mono ?_
 rintro e w1 ⟨As, cs, rfl, ho3, hb3⟩
 have HB1 := Lib.hid hb3
 have HLI := Lib.hid (own_lit0 w1 3 1)
 obtain ⟨w2, hw2⟩ : ∃ y : World, y = w1.alloc (.cells #[] 3) := ⟨_, rfl⟩
 have HS2 := Lib.hid (show w2.ownsRow w.heap.size 57 3 (.slice As n cs) n (rowsV3 (stT b ds n)) by rw [hw2]; exact ho3.alloc _)
 obtain ⟨N1, hN1⟩ : ∃ N1, N1 = w1.heap.size := ⟨_, rfl⟩
 have HL2 := Lib.hid (show w2.ownsRow N1 3 1 (.slice (some ⟨N1, 0, none⟩) 0 0) 0 [] by rw [hw2, hN1]; exact HLI.out)
 have HB2 := Lib.hid (show Below w.heap.size w w2 by rw [hw2]; exact ext_alloc hb3 _)
 have hNB : w.heap.size ≤ N1 := by rw [hN1]; exact hb3.size
 go_upto_region 2 with fail
 rw [← hN1, ← hw2]
 clear ho3 hb3 HB1 HLI hw2 hN1
 go_wp2_with fail
 refine (HDG.out _).mono ?_
 rintro e w3 ⟨Ad, cd, rfl, ho1, hb1⟩
 have HSt := Lib.hid (own_ext HS2.out hb1)
 have HL3 := Lib.hid (own_ext HL2.out hb1)
 have HB3 := Lib.hid (ext_trans HB2.out hb1)
 clear ho1 hb1 HS2 HL2 HB2
 go_wp2_with fail
 refine (HPW.out _).mono ?_
 rintro e wz ⟨rfl, hwz⟩
 subst hwz
 go_wp2_with fail
 go_loopw [6, 8] (fun out i wr => ∃ (k : Nat) (A : Option Addr) (c : Nat), k ≤ n ∧ i = .int .i64 k ∧ out = .slice A k c ∧ Hid (wr.ownsRow w.heap.size 3 1 (.slice A k c) k (intsV (trT b P ds k))) ∧ Hid (Below w.heap.size w wr) ∧ Hid (wr.ownsRow w.heap.size 57 3 (.slice As n cs) n (rowsV3 (stT b ds n)))) (fun _ i _ => n - (intOf i).toNat)
 case atStart => exact ⟨0, some ⟨N1, 0, none⟩, 0, Nat.zero_le _, rfl, rfl, Lib.hid (own_base HL3.out hNB), HB3, HSt⟩
 case round =>
  clear HSt HL3 HB3
  obtain ⟨k, A, c, hk, rfl, rfl, HO, HX, HSt⟩ := hrel
  by_cases hlt : k < n
  ·
   obtain ⟨V, hV⟩ : ∃ V : World, V = wr := ⟨_, rfl⟩
   subst hV
   have hgt := stT_get b ds n k hlt
   obtain ⟨bd, od, rfl, hbd, c0, c1, c2⟩ := rows_at3 (Reads.of_own HSt.out) hgt
   have hs := s0T_bounds hb.1 HWF.out k
   have hq := qT_bounds hb.1 HWF.out k
   have hr := rsT_bounds hb.1 ds (k + 1)
   rw [rsT_succ] at hr
   have htr : trT b P ds (k + 1) = trT b P ds k ++ [tq b P (s0T b ds k)] := rfl
   have htq := tq_bounds hb.1 hP1 hs.1
   have htq2 : tq b P (s0T b ds k) = if 9 < s0T b ds k / P / (b / P) then 9 else s0T b ds k / P / (b / P) := rfl
   obtain ⟨X, hX⟩ : ∃ X, s0T b ds k = X := ⟨_, rfl⟩
   rw [hX] at hs hq hr htr htq htq2 c0 c1 c2
   obtain ⟨q, hq2⟩ : ∃ q, X / b = q := ⟨_, rfl⟩
   rw [hq2] at hq c1
   obtain ⟨r, hr2⟩ : ∃ r, X % b = r := ⟨_, rfl⟩
   rw [hr2] at hr c2
   obtain ⟨y1, hy1⟩ : ∃ y, X / P = y := ⟨_, rfl⟩
   obtain ⟨y2, hy2⟩ : ∃ y, b / P = y := ⟨_, rfl⟩
   rw [hy1, hy2] at htq2
   have b1 : 0 ≤ y1 := by rw [← hy1]; exact Int.ediv_nonneg hs.1 (by omega)
   have b1' : y1 ≤ X := by rw [← hy1]; exact Int.ediv_le_self _ hs.1
   have b2 : 1 ≤ y2 := by rw [← hy2, Int.le_ediv_iff_mul_le (by omega)]; omega
   have b2' : y2 ≤ b := by rw [← hy2]; exact Int.ediv_le_self _ (by omega)
   have t1 : X.tdiv P = y1 := by rw [← hy1]; exact Int.tdiv_eq_ediv_of_nonneg hs.1
   have t2 : b.tdiv P = y2 := by rw [← hy2]; exact Int.tdiv_eq_ediv_of_nonneg (by omega)
   have t3 : y1.tdiv y2 = y1 / y2 := Int.tdiv_eq_ediv_of_nonneg b1
   obtain ⟨y3, hy3⟩ : ∃ y, y1 / y2 = y := ⟨_, rfl⟩
   rw [hy3] at t3 htq2
   have b3 : 0 ≤ y3 := by rw [← hy3]; exact Int.ediv_nonneg b1 (by omega)
   have b3' : y3 ≤ y1 := by rw [← hy3]; exact Int.ediv_le_self _ b1
   have w1' : IntKind.i64.wrap y1 = y1 := by rw [IntKind.wrap_i64]; omega
   have w2' : IntKind.i64.wrap y2 = y2 := by rw [IntKind.wrap_i64]; omega
   have w3' : IntKind.i64.wrap y3 = y3 := by rw [IntKind.wrap_i64]; omega
   have hP0 : P ≠ 0 := by omega
   have hy0 : y2 ≠ 0 := by omega
   obtain ⟨T, hT⟩ : ∃ T, tq b P X = T := ⟨_, rfl⟩
   rw [hT] at htr htq htq2
   have HTR := Lib.hid htr
   have hbV : w.heap.size ≤ V.heap.size := HX.out.size
   have m1 : k + 1 ≤ maxLen := by unfold maxLen; omega
   have m2 : (k + 1) * 8 ≤ 140737488355328 := by omega
   have k1 : (k : Int) < (n : Int) := by omega
   have k0 : (0 : Int) ≤ (k : Int) := by omega
   have HT2 := Lib.hid htq2
   clear hgt hX hq2 hr2 hy1 hy2 hy3 hT htr htq2

   have hmn : (if (9 : Int) < y3 then 9 else y3) = T := by have h := HT2.out; split at h <;> split <;> omega
   have HLE := Lib.hid (fun w => least_any 9 y3 w)
   rw [hmn] at HLE
   have hneN : Value.ownBlock (.slice A k c) ≠ some bd := fun e => own_neT HO.out HSt.out (by decide) |>.elim (fun h => by rw [h] at e; cases e) (fun h => h e)
   clear HT2 hmn
   go_upto_region 6 with fail
   go_region_held3 (fun w' => w'.cell? ⟨bd, od + k * 3, none⟩ = some (.int .i64 X)) (first | ((with_reducible (repeat (first | assumption | refine cell_drew ?_ | refine cell_old ?_ _))); done) | (refine cell_far_grown HGR.out hneN ?_; with_reducible (repeat (first | assumption | refine cell_drew ?_ | refine cell_old ?_ _)))) (first | (go_at_call 77; refine (HLE.out _).mono ?_; rintro e w' ⟨rfl, hw'⟩; subst hw') | (refine step_appO rfl (.tmp 24) (.tmp 37) 53 rfl w.heap.size 3 i0 _ 1 8 Try.underlying53 hi hz0 hz1 hz2 rfl (by decide) (.slice A k c) k (intsV (trT b P ds k)) (by rfl) ((HO.out.alloc (.cells #[.int .i64 T] 3)).drew) (some ⟨V.heap.size, 0, none⟩) 1 1 [.int .i64 T] (by rfl) w.heap.size (lit_own (B := w.heap.size) V 3 1 [.int .i64 T] rfl hbV (by rfl)).drew (ints_oneC [T]) m1 m2 (Nat.le_trans hbV (by simp)) ?_; intro A4 c4 w6 hown hgrow; have HGR := Lib.hid hgrow; have HOW := Lib.hid hown; clear hown hgrow))
   have HS6 := Lib.hid (((HSt.out.alloc (.cells #[.int .i64 T] 3)).drew).kept HGR.out (own_neT HSt.out HO.out (by decide)))
   have HB6 := Lib.hid (below_grown' ((HO.out.alloc (.cells #[.int .i64 T] 3)).drew) (Nat.le_refl _) (ext_drew (ext_alloc HX.out (.cells #[.int .i64 T] 3))) HGR.out)
   clear w1' w2' w3' t1 t2 t3 c0 c1 c2
   go_wp2
   go_roundw
   case rel => exact ⟨k + 1, A4, c4, by omega, by go_num, rfl, Lib.hid (by rw [HTR.out]; have h9 := HOW.out; simpa [intsV] using h9), HB6, HS6⟩
   case measure => simp [intOf]; omega
  · obtain rfl : k = n := by omega
    go_wp2
    go_ret
    exact ⟨_, _, rfl, HO.out, HX.out⟩
set_option maxHeartbeats 1000000 in
theorem sumI_any (A : Option Addr) (n c : Nat) (l : List Int) (M : Int) (w : World) (hn : n ≤ 1000) (hM : 0 ≤ M ∧ M ≤ 1000000) (hl0 : ∀ z ∈ l, 0 ≤ z ∧ z ≤ M) (h : Reads w w.heap.size 1 A n (intsV l)) :
 Calls Try.prog 63 #[.slice A n c] w fun e w' => e = .returned (.int .i64 l.sum) ∧ w = w' := by
 have hl := ints_len h
 have H := Lib.hid h
 have HL := Lib.hid hl
 have HZ := Lib.hid hl0
 clear h hl hl0
 go_enter Try.func63, Try.ntmps63
 go_wp2
 go_loopw [3, 8] (fun sm i wr => ∃ k : Nat, k ≤ n ∧ i = .int .i64 k ∧ sm = .int .i64 (l.take k).sum ∧ 0 ≤ (l.take k).sum ∧ (l.take k).sum ≤ M * k ∧ w = wr) (fun _ i _ => n - (intOf i).toNat)
 case atStart => exact ⟨0, Nat.zero_le _, rfl, rfl, Int.le_refl _, by simp, rfl⟩
 case round =>
  obtain ⟨k, hk, rfl, rfl, s0, s1, rfl⟩ := hrel
  by_cases hlt : k < n
  · obtain ⟨r, hr⟩ := list_split (l := l) (k := k) (by rw [HL.out]; exact hlt)
    obtain ⟨b, o, rfl, hb, c0⟩ := ints_at H.out hr
    have hz := HZ.out r (List.mem_of_getElem? hr)
    have hnx : (l.take (k + 1)).sum = (l.take k).sum + r := by rw [List.take_add_one, hr, List.sum_append]; simp
    obtain ⟨S, hS⟩ : ∃ S, (l.take k).sum = S := ⟨_, rfl⟩
    rw [hS] at s0 s1 hnx ⊢
    have hmk : M * k ≤ 1000000 * 1000 := by
     have h1 : M * k ≤ M * 1000 := Int.mul_le_mul_of_nonneg_left (by omega) hM.1
     omega
    have HNX := Lib.hid hnx
    have hk1 : (k : Int) < (n : Int) := by omega
    have hk0 : (0 : Int) ≤ (k : Int) := by omega
    have hs2 : S + r ≤ M * ((k + 1 : Nat) : Int) := by push_cast; rw [Int.mul_add, Int.mul_one]; omega
    clear hr hS hnx
    go_wp2
    go_roundw
    case rel => exact ⟨k + 1, by omega, by go_num, by rw [HNX.out], by rw [HNX.out]; omega, by rw [HNX.out]; exact hs2, by first | rfl | trivial⟩
    case measure => simp [intOf]; omega
  · obtain rfl : k = n := by omega
    have hall : l.take k = l := List.take_of_length_le (by rw [HL.out]; exact Nat.le_refl _)
    rw [hall]
    go_wp2
    go_ret
    exact ⟨rfl, rfl⟩
end Go.Proofs.Ytnoflejomlnmfaa
