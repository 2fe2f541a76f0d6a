/- OddRows: both. -/
import Derived.Test.YtfechhacmkajdaaVM11
namespace Go.Proofs.Ytfechhacmkajdaa
open Go.RowKit
set_option linter.unusedVariables false
set_option linter.unusedSimpArgs false
set_option maxRecDepth 100000 in
set_option maxHeartbeats 8000000 in
theorem implOddRows_any (a b : Int) (w : World) : Calls Try.prog 12 #[.int .i64 a, .int .i64 b] w (RetSliceB w 3 1 (odL a b).length (intsV (odL a b)) (dbB a b)) := by
 obtain ⟨i0, hi, hz0, hz1, hz2⟩ := info_parts info_int
 unfold RetSliceB
 have HPT := Lib.hid (fun (w : World) => implByDoubling_any a b w)
 unfold RetSliceB at HPT
 cases hb0 : facB a b
 · have e : dbB a b = false := hb0
   rw [show dbL a b = [] by unfold dbL; rw [if_neg (by rw [e]; simp)], e] at HPT
   rw [show odL a b = [] by unfold odL; rw [if_neg (by rw [e]; simp)], e]
   clear e hb0
   go_enter Try.func12, Try.ntmps12
   go_wp2_with fail
   refine (HPT.out _).mono ?_
   rintro e w1 ⟨Ap, cp, rfl, hop, hb1⟩
   go_wp2
   go_ret2
   exact ⟨none, 0, rfl, World.ownsRow_nil _ _ _ _, hb1⟩
 have e : dbB a b = true := hb0
 rw [show dbL a b = dbl 14 a b by unfold dbL; rw [if_pos e], e] at HPT
 rw [show odL a b = oddK (dbl 14 a b) (dbl 14 a b).length by unfold odL; rw [if_pos e], e]
 have hn14 := dbl_len 14 a b
 have hpo := dbl_bd 14 a b (inB_iff.1 (fac_parts hb0).2).1 (by have := (inB_iff.1 (fac_parts hb0).2).2; rw [show tw 14 = 16384 from rfl]; omega)
 have hpa := dbl_a 14 a b
 obtain ⟨ps, hps⟩ : ∃ o9, dbl 14 a b = o9 := ⟨_, rfl⟩
 rw [hps] at HPT hn14 hpo hpa ⊢
 have HPO := Lib.hid hpo
 have HPA := Lib.hid hpa
 obtain ⟨n, hn⟩ : ∃ o9, ps.length = o9 := ⟨_, rfl⟩
 rw [hn] at HPT hn14 ⊢
 have HN := Lib.hid hn
 clear hps hpo hpa hn e hb0
 go_enter Try.func12, Try.ntmps12

 go_wp2_with fail
 refine (HPT.out _).mono ?_
 rintro e w1 ⟨Ap, cp, rfl, hop, hb1⟩
 have HP1 := Lib.hid (own_base (base' := w.heap.size) hop (Nat.le_refl _))
 have HX1 := Lib.hid hb1
 have HDJ1 := Lib.hid (show Value.ownBlock (.slice Ap n cp) = none ∨ Value.ownBlock (.slice Ap n cp) ≠ Value.ownBlock (.slice none 0 0) from dj_none _)
 clear hop hb1
 go_wp2_with fail
 go_loopw [8, 21] (fun ov iv wr => ∃ (k : Nat) (A : Option Addr) (c : Nat) (L : List Int), k ≤ n ∧ L.length ≤ k ∧ ov = .slice A L.length c ∧ iv = .int .i64 k ∧ Hid (oddK ps k = L) ∧ Hid (wr.ownsRow w.heap.size 3 1 (.slice A L.length c) L.length (intsV L)) ∧ Hid (Below w.heap.size w wr) ∧ Hid (wr.ownsRow w.heap.size 54 2 (.slice Ap n cp) n (rowsV2 ps)) ∧ Hid (Value.ownBlock (.slice Ap n cp) = none ∨ Value.ownBlock (.slice Ap n cp) ≠ Value.ownBlock (.slice A L.length c))) (fun _ iv _ => n - (intOf iv).toNat)
 case atStart => exact ⟨0, none, 0, [], Nat.zero_le _, Nat.zero_le _, rfl, rfl, Lib.hid (oddK_zero ps), Lib.hid (World.ownsRow_nil _ _ _ _), HX1, HP1, HDJ1⟩
 case round =>
  clear HP1 HX1 HDJ1
  obtain ⟨k, A, c, L, hk, hLk, rfl, rfl, HL, HO, HX, HP, HDJ⟩ := hrel
  obtain ⟨W, hW⟩ : ∃ y : World, y = wr := ⟨_, rfl⟩
  subst hW
  by_cases hlt : k < n
  · obtain ⟨m, hm⟩ := list_split (l := ps) (k := k) (by rw [HN.out]; exact hlt)
    have hmb := HPO.out m (List.mem_of_getElem? hm)
    have hma := HPA.out m (List.mem_of_getElem? hm)
    have hy2 := oddK_yes hm
    have hn2 := oddK_no hm
    rw [HL.out] at hy2 hn2
    have HY2 := Lib.hid hy2
    have HN2 := Lib.hid hn2
    obtain ⟨bp, op, hAp, hbp, c0, c1⟩ := rows_at2 (Reads.of_own HP.out) hm
    subst hAp
    have htm : m.a.tmod 2 = m.a % 2 := Int.tmod_eq_emod_of_nonneg (by omega)
    have k1 : (k : Int) < (n : Int) := by omega
    have k0 : (0 : Int) ≤ (k : Int) := by omega
    clear hm hy2 hn2
    obtain ⟨NP, hNP⟩ : ∃ N, N = W.heap.size := ⟨_, rfl⟩
    obtain ⟨W2, hW2⟩ : ∃ y9 : World, y9 = W.alloc (.cells #[.int .i64 m.a, .int .i64 m.b] 54) := ⟨_, rfl⟩
    have BP2 := Lib.hid (show Blk W2 NP 54 #[.int .i64 m.a, .int .i64 m.b] by rw [hW2]; exact Blk.born W _ 54 (H := NP) hNP)
    have HO2 := Lib.hid (show W2.ownsRow w.heap.size 3 1 (.slice A L.length c) L.length (intsV L) by rw [hW2]; exact HO.out.alloc _)
    have HP2 := Lib.hid (show W2.ownsRow w.heap.size 54 2 (.slice (some ⟨bp, op, none⟩) n cp) n (rowsV2 ps) by rw [hW2]; exact HP.out.alloc _)
    have HX2 := Lib.hid (show Below w.heap.size w W2 by rw [hW2]; exact ext_alloc HX.out _)
    go_upto_region 8 with fail
    rw [show W.heap.size = NP from hNP.symm, ← hW2]
    clear hNP hW2 c0 c1 hbp HO HP HX
    obtain ⟨c0, c1⟩ := BP2.out.q2
    have hbp := BP2.out.lt
    cases hr : (m.a % 2 == 1)
    · have HL2 := Lib.hid (show oddK ps (k + 1) = L from HN2.out hr)
      clear HY2 HN2
      obtain ⟨md, hmd⟩ : ∃ o9, m.a % 2 = o9 := ⟨_, rfl⟩
      rw [hmd] at htm hr
      clear hmd
      go_wp2
      go_roundw
      case rel => exact ⟨k + 1, A, c, L, by omega, by omega, rfl, by go_num, HL2, HO2, HX2, HP2, HDJ⟩
      case measure => simp [intOf]; omega
    · have HL2 := Lib.hid (show oddK ps (k + 1) = L ++ [m.b] from HY2.out hr)
      clear HY2 HN2
      obtain ⟨md, hmd⟩ : ∃ o9, m.a % 2 = o9 := ⟨_, rfl⟩
      rw [hmd] at htm hr
      clear hmd
      obtain ⟨q, hq⟩ : ∃ o9, L.length = o9 := ⟨_, rfl⟩
      have HQ := Lib.hid hq
      rw [hq] at hLk HO2 HDJ ⊢
      clear hq
      have hbV : w.heap.size ≤ W2.heap.size := HX2.out.size
      have m1 : q + 1 ≤ maxLen := by unfold maxLen; omega
      have m2 : (q + 1) * 8 ≤ 140737488355328 := by omega
      go_wp2_with (at_builtin; refine wpList_append_own_at _ rfl (.tmp 29) (.tmp 32) 26 rfl w.heap.size 3 i0 _ 1 8 Try.underlying26 hi hz0 hz1 hz2 rfl (by decide) (.slice A q c) q (intsV L) rfl (HO2.out.alloc (.cells #[.int .i64 m.b] 3)) _ 1 1 [.int .i64 m.b] rfl rfl (cells_new_at W2 [.int .i64 m.b] 3 rfl) (by simp [Value.oneCell']) m1 m2 (Nat.le_trans hbV (by simp)) ?_; intro v9 w6 hown hgrow _ hat; obtain ⟨A4, c4, rfl⟩ := own_shape hown; have HGR := Lib.hid hgrow; have HOW := Lib.hid hown; have HAT := Lib.hid hat; clear hown hgrow hat)
      have HB6 := Lib.hid (below_grown' (HO2.out.alloc (.cells #[.int .i64 m.b] 3)) (Nat.le_refl _) (ext_alloc HX2.out (.cells #[.int .i64 m.b] 3)) HGR.out)
      have HP6 := Lib.hid ((HP2.out.alloc (.cells #[.int .i64 m.b] 3)).kept HGR.out HDJ.out)
      have HDJ6 := Lib.hid (dj_next HP2.out HDJ.out (H := _) (by simp) HAT.out)
      go_wp2
      go_roundw
      case rel => exact ⟨k + 1, A4, c4, L ++ [m.b], by omega, by rw [List.length_append, HQ.out]; show q + 1 ≤ k + 1; omega, by rw [List.length_append, HQ.out]; rfl, by go_num, HL2, Lib.hid (by rw [List.length_append, HQ.out]; have h9 := HOW.out; simpa [intsV] using h9), HB6, HP6, by rw [List.length_append, HQ.out]; exact HDJ6⟩
      case measure => simp [intOf]; omega
  · obtain rfl : k = n := by omega
    have HLE := HL.out
    subst HLE
    go_wp2
    go_ret2
    exact ⟨_, _, rfl, HO.out, HX.out⟩

set_option maxRecDepth 100000 in
set_option maxHeartbeats 8000000 in
theorem specOddRows_any (a b : Int) (w : World) : Calls Try.prog 13 #[.int .i64 a, .int .i64 b] w (RetSliceB w 3 1 (odL a b).length (intsV (odL a b)) (dbB a b)) := by
 obtain ⟨i0, hi, hz0, hz1, hz2⟩ := info_parts info_int
 unfold RetSliceB
 have HF0 := Lib.hid (fun (w : World) => l9Both_any a b w)
 cases hb0 : facB a b
 · have e : dbB a b = false := by unfold dbB; rw [hb0]
   rw [show odL a b = [] by unfold odL; rw [if_neg (by rw [e]; simp)], e]
   rw [hb0] at HF0
   clear e hb0
   go_enter Try.func13, Try.ntmps13
   go_wp2_with fail
   refine (HF0.out _).mono ?_
   rintro e wz ⟨rfl, rfl⟩
   go_wp2
   go_ret2
   exact ⟨_, _, rfl, own_lit0 w 3 1, ext_alloc (ext_refl w) (.cells #[] 3)⟩
 have e : dbB a b = true := hb0
 have HPT := Lib.hid (fun (w : World) => l9Rows_any a b w (inB_iff.1 (fac_parts hb0).1) (inB_iff.1 (fac_parts hb0).2))
 unfold RetSlice at HPT
 rw [hb0] at HF0
 rw [show odL a b = oddK (dbl 14 a b) (dbl 14 a b).length by unfold odL; rw [if_pos e], e]
 have hn14 := dbl_len 14 a b
 have hpo := dbl_bd 14 a b (inB_iff.1 (fac_parts hb0).2).1 (by have := (inB_iff.1 (fac_parts hb0).2).2; rw [show tw 14 = 16384 from rfl]; omega)
 have hpa := dbl_a 14 a b
 obtain ⟨ps, hps⟩ : ∃ o9, dbl 14 a b = o9 := ⟨_, rfl⟩
 rw [hps] at HPT hn14 hpo hpa ⊢
 have HPO := Lib.hid hpo
 have HPA := Lib.hid hpa
 obtain ⟨n, hn⟩ : ∃ o9, ps.length = o9 := ⟨_, rfl⟩
 rw [hn] at HPT hn14 ⊢
 have HN := Lib.hid hn
 clear hps hpo hpa hn e hb0
 go_enter Try.func13, Try.ntmps13
 go_wp2_with fail
 refine (HF0.out _).mono ?_
 rintro e wz ⟨rfl, rfl⟩
 go_wp2_with fail
 refine (HPT.out _).mono ?_
 rintro e w1 ⟨Ap, cp, rfl, hop, hb1⟩
 have HP1 := Lib.hid (own_base (base' := w.heap.size) hop (by simp))
 have HX1 := Lib.hid (ext_trans (ext_alloc (ext_refl w) (.cells #[] 3)) hb1)
 have HO1 := Lib.hid (own_ext (own_lit0 w 3 1) hb1)
 have HDJ1 := Lib.hid (show Value.ownBlock (.slice Ap n cp) = none ∨ Value.ownBlock (.slice Ap n cp) ≠ Value.ownBlock (.slice (some ⟨w.heap.size, 0, none⟩) 0 0) from dj_low hop (by simp))
 clear hop hb1
 go_wp2_with fail
 go_loopw [6, 8] (fun ov iv wr => ∃ (k : Nat) (A : Option Addr) (c : Nat) (L : List Int), k ≤ n ∧ L.length ≤ k ∧ ov = .slice A L.length c ∧ iv = .int .i64 k ∧ Hid (oddK ps k = L) ∧ Hid (wr.ownsRow w.heap.size 3 1 (.slice A L.length c) L.length (intsV L)) ∧ Hid (Below w.heap.size w wr) ∧ Hid (wr.ownsRow w.heap.size 54 2 (.slice Ap n cp) n (rowsV2 ps)) ∧ Hid (Value.ownBlock (.slice Ap n cp) = none ∨ Value.ownBlock (.slice Ap n cp) ≠ Value.ownBlock (.slice A L.length c))) (fun _ iv _ => n - (intOf iv).toNat)
 case atStart => exact ⟨0, _, _, [], Nat.zero_le _, Nat.zero_le _, rfl, rfl, Lib.hid (oddK_zero ps), HO1, HX1, HP1, HDJ1⟩
 case round =>
  clear HP1 HX1 HDJ1
  obtain ⟨k, A, c, L, hk, hLk, rfl, rfl, HL, HO, HX, HP, HDJ⟩ := hrel
  obtain ⟨W, hW⟩ : ∃ y : World, y = wr := ⟨_, rfl⟩
  subst hW
  by_cases hlt : k < n
  · obtain ⟨m, hm⟩ := list_split (l := ps) (k := k) (by rw [HN.out]; exact hlt)
    have hmb := HPO.out m (List.mem_of_getElem? hm)
    have hma := HPA.out m (List.mem_of_getElem? hm)
    have hy2 := oddK_yes hm
    have hn2 := oddK_no hm
    rw [HL.out] at hy2 hn2
    have HY2 := Lib.hid hy2
    have HN2 := Lib.hid hn2
    obtain ⟨bp, op, hAp, hbp, c0, c1⟩ := rows_at2 (Reads.of_own HP.out) hm
    subst hAp
    have htm : m.a.tmod 2 = m.a % 2 := Int.tmod_eq_emod_of_nonneg (by omega)
    have k1 : (k : Int) < (n : Int) := by omega
    have k0 : (0 : Int) ≤ (k : Int) := by omega
    clear hm hy2 hn2
    cases hr : (m.a % 2 == 1)
    · have HL2 := Lib.hid (show oddK ps (k + 1) = L from HN2.out hr)
      clear HY2 HN2
      obtain ⟨md, hmd⟩ : ∃ o9, m.a % 2 = o9 := ⟨_, rfl⟩
      rw [hmd] at htm hr
      clear hmd
      go_wp2
      go_roundw
      case rel => exact ⟨k + 1, A, c, L, by omega, by omega, rfl, by go_num, HL2, HO, HX, HP, HDJ⟩
      case measure => simp [intOf]; omega
    · have HL2 := Lib.hid (show oddK ps (k + 1) = L ++ [m.b] from HY2.out hr)
      clear HY2 HN2
      obtain ⟨md, hmd⟩ : ∃ o9, m.a % 2 = o9 := ⟨_, rfl⟩
      rw [hmd] at htm hr
      clear hmd
      obtain ⟨q, hq⟩ : ∃ o9, L.length = o9 := ⟨_, rfl⟩
      have HQ := Lib.hid hq
      rw [hq] at hLk HO HDJ ⊢
      clear hq
      have hbV : w.heap.size ≤ W.heap.size := HX.out.size
      have m1 : q + 1 ≤ maxLen := by unfold maxLen; omega
      have m2 : (q + 1) * 8 ≤ 140737488355328 := by omega
      go_wp2_with (at_builtin; refine wpList_append_own_at _ rfl (.tmp 31) (.tmp 37) 26 rfl w.heap.size 3 i0 _ 1 8 Try.underlying26 hi hz0 hz1 hz2 rfl (by decide) (.slice A q c) q (intsV L) rfl (HO.out.alloc (.cells #[.int .i64 m.b] 3)) _ 1 1 [.int .i64 m.b] rfl rfl (cells_new_at W [.int .i64 m.b] 3 rfl) (by simp [Value.oneCell']) m1 m2 (Nat.le_trans hbV (by simp)) ?_; intro v9 w6 hown hgrow _ hat; obtain ⟨A4, c4, rfl⟩ := own_shape hown; have HGR := Lib.hid hgrow; have HOW := Lib.hid hown; have HAT := Lib.hid hat; clear hown hgrow hat)
      have HB6 := Lib.hid (below_grown' (HO.out.alloc (.cells #[.int .i64 m.b] 3)) (Nat.le_refl _) (ext_alloc HX.out (.cells #[.int .i64 m.b] 3)) HGR.out)
      have HP6 := Lib.hid ((HP.out.alloc (.cells #[.int .i64 m.b] 3)).kept HGR.out HDJ.out)
      have HDJ6 := Lib.hid (dj_next HP.out HDJ.out (H := _) (by simp) HAT.out)
      go_wp2
      go_roundw
      case rel => exact ⟨k + 1, A4, c4, L ++ [m.b], by omega, by rw [List.length_append, HQ.out]; show q + 1 ≤ k + 1; omega, by rw [List.length_append, HQ.out]; rfl, by go_num, HL2, Lib.hid (by rw [List.length_append, HQ.out]; have h9 := HOW.out; simpa [intsV] using h9), HB6, HP6, by rw [List.length_append, HQ.out]; exact HDJ6⟩
      case measure => simp [intOf]; omega
  · obtain rfl : k = n := by omega
    have HLE := HL.out
    subst HLE
    go_wp2
    go_ret2
    exact ⟨_, _, rfl, HO.out, HX.out⟩

end Go.Proofs.Ytfechhacmkajdaa
