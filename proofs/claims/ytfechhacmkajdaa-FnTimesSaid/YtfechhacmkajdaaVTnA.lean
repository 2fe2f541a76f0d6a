/- PartsOf, Totals: both. -/
import Derived.Test.YtfechhacmkajdaaVM11
namespace Go.Proofs.Ytfechhacmkajdaa
open Go.RowKit
set_option linter.unusedVariables false
set_option linter.unusedSimpArgs false
set_option maxRecDepth 100000 in
set_option maxHeartbeats 8000000 in
theorem implPartsExp_any (a b : Int) (w : World) : Calls Try.prog 9 #[.int .i64 a, .int .i64 b] w (RetSliceB w 51 3 (ptL a b).length (rowsV3 (ptL a b)) (ptB a b)) := by
 unfold RetSliceB
 have HF0 := Lib.hid (fun (w : World) => areFactors_any a b w)
 cases hb0 : facB a b
 · have e : ptB a b = false := by unfold ptB; rw [hb0]
   rw [show ptL a b = [] by unfold ptL; rw [if_neg (by rw [e]; simp)], e]
   rw [hb0] at HF0
   clear e hb0
   go_enter Try.func9, Try.ntmps9
   go_wp2_with fail
   refine (HF0.out _).mono ?_
   rintro e wz ⟨rfl, rfl⟩
   go_wp2
   go_ret2
   exact ⟨none, 0, rfl, World.ownsRow_nil _ _ _ _, ext_refl _⟩
 have e : ptB a b = true := by unfold ptB; rw [hb0]; (try rfl)
 rw [show ptL a b = ptsF a b by unfold ptL; rw [if_pos e], e]
 rw [hb0] at HF0
 have HR := Lib.hid (fun (w : World) => implPartsOf_any a b w hb0)
 unfold RetSlice at HR
 clear e hb0
 go_enter Try.func9, Try.ntmps9
 go_wp2_with fail
 refine (HF0.out _).mono ?_
 rintro e wz ⟨rfl, rfl⟩
 go_wp2_with fail
 refine (HR.out _).mono ?_
 rintro e w1 ⟨A, c, rfl, ho, hb⟩
 go_wp2
 go_ret2
 exact ⟨_, _, rfl, ho, hb⟩

set_option maxRecDepth 100000 in
set_option maxHeartbeats 8000000 in
theorem specPartsExp_any (a b : Int) (w : World) : Calls Try.prog 10 #[.int .i64 a, .int .i64 b] w (RetSliceB w 51 3 (ptL a b).length (rowsV3 (ptL a b)) (ptB a b)) := by
 unfold RetSliceB
 have HF0 := Lib.hid (fun (w : World) => l9Both_any a b w)
 cases hb0 : facB a b
 · have e : ptB a b = false := by unfold ptB; rw [hb0]
   rw [show ptL a b = [] by unfold ptL; rw [if_neg (by rw [e]; simp)], e]
   rw [hb0] at HF0
   clear e hb0
   go_enter Try.func10, Try.ntmps10
   go_wp2_with fail
   refine (HF0.out _).mono ?_
   rintro e wz ⟨rfl, rfl⟩
   go_wp2
   go_ret2
   exact ⟨_, _, rfl, own_lit0 w 51 3, ext_alloc (ext_refl w) (.cells #[] 51)⟩
 have e : ptB a b = true := by unfold ptB; rw [hb0]; (try rfl)
 rw [show ptL a b = ptsF a b by unfold ptL; rw [if_pos e], e]
 rw [hb0] at HF0
 have HR := Lib.hid (fun (w : World) => specL9Parts_any a b w hb0)
 unfold RetSlice at HR
 clear e hb0
 go_enter Try.func10, Try.ntmps10
 go_wp2_with fail
 refine (HF0.out _).mono ?_
 rintro e wz ⟨rfl, rfl⟩
 go_wp2_with fail
 refine (HR.out _).mono ?_
 rintro e w1 ⟨A, c, rfl, ho, hb⟩
 go_wp2
 go_ret2
 exact ⟨_, _, rfl, ho, hb⟩

set_option maxRecDepth 100000 in
set_option maxHeartbeats 8000000 in
theorem implTotals_any (a b : Int) (w : World) : Calls Try.prog 6 #[.int .i64 a, .int .i64 b] w (RetSliceB w 3 1 (toL a b).length (intsV (toL a b)) (ptB a b)) := by
 obtain ⟨i0, hi, hz0, hz1, hz2⟩ := info_parts info_int
 unfold RetSliceB
 have HF0 := Lib.hid (fun (w : World) => areFactors_any a b w)
 cases hb0 : facB a b
 · have e : ptB a b = false := by unfold ptB; rw [hb0]
   rw [show toL a b = [] by unfold toL; rw [if_neg (by rw [e]; simp)], e]
   rw [hb0] at HF0
   clear e hb0
   go_enter Try.func6, Try.ntmps6
   go_wp2_with fail
   refine (HF0.out _).mono ?_
   rintro e wz ⟨rfl, rfl⟩
   go_wp2
   go_ret2
   exact ⟨none, 0, rfl, World.ownsRow_nil _ _ _ _, ext_refl _⟩
 have e : ptB a b = true := by unfold ptB; rw [hb0]; (try rfl)
 rw [show toL a b = totK (ptsF a b) (ptsF a b).length by unfold toL; rw [if_pos e], e]
 rw [hb0] at HF0
 obtain ⟨hn16, hpo, hsum, hab⟩ := ptsF_facts (a := a) (b := b) hb0
 have HPT := Lib.hid (fun (w : World) => implPartsOf_any a b w hb0)
 unfold RetSlice at HPT
 obtain ⟨ps, hps⟩ : ∃ o9, ptsF a b = o9 := ⟨_, rfl⟩
 rw [hps] at HPT hn16 hpo hsum ⊢
 have hsb := sumP_bd (ps := ps) (fun m hm => (hpo m hm).2.2.1)
 rw [hsum] at hsb
 have HSB := Lib.hid (fun k => (show 0 ≤ sumP (ps.take k) ∧ sumP (ps.take k) ≤ 99980001 from ⟨(hsb k).1, by have := (hsb k).2; omega⟩))
 have HPO := Lib.hid hpo
 rw [totK_len]
 obtain ⟨n, hn⟩ : ∃ o9, ps.length = o9 := ⟨_, rfl⟩
 rw [hn] at HPT hn16 ⊢
 have HN := Lib.hid hn
 clear hps hsum hab hsb hpo hn e hb0
 go_enter Try.func6, Try.ntmps6
 go_wp2_with fail
 refine (HF0.out _).mono ?_
 rintro e wz ⟨rfl, rfl⟩
 go_wp2_with fail
 refine (HPT.out _).mono ?_
 rintro e w1 ⟨Ap, cp, rfl, hop, hb1⟩
 have HP1 := Lib.hid (own_base (base' := w.heap.size) hop (Nat.le_refl _))
 have HX1 := Lib.hid hb1
 have HDJ1 := Lib.hid (show Value.ownBlock (.slice Ap n cp) = none ∨ Value.ownBlock (.slice Ap n cp) ≠ Value.ownBlock (.slice none 0 0) from dj_none _)
 clear hop hb1
 go_wp2_with fail
 go_loopw [6, 7, 18] (fun ov tv iv wr => ∃ (k : Nat) (A : Option Addr) (c : Nat), k ≤ n ∧ ov = .slice A k c ∧ tv = .int .i64 (sumP (ps.take k)) ∧ iv = .int .i64 k ∧ Hid (wr.ownsRow w.heap.size 3 1 (.slice A k c) k (intsV (totK ps k))) ∧ Hid (Below w.heap.size w wr) ∧ Hid (wr.ownsRow w.heap.size 51 3 (.slice Ap n cp) n (rowsV3 ps)) ∧ Hid (Value.ownBlock (.slice Ap n cp) = none ∨ Value.ownBlock (.slice Ap n cp) ≠ Value.ownBlock (.slice A k c))) (fun _ _ iv _ => n - (intOf iv).toNat)
 case atStart => exact ⟨0, none, 0, Nat.zero_le _, rfl, rfl, rfl, Lib.hid (World.ownsRow_nil _ _ _ _), HX1, HP1, HDJ1⟩
 case round =>
  clear HP1 HX1 HDJ1
  obtain ⟨k, A, c, hk, rfl, rfl, rfl, HO, HX, HP, HDJ⟩ := hrel
  obtain ⟨W, hW⟩ : ∃ y : World, y = wr := ⟨_, rfl⟩
  subst hW
  by_cases hlt : k < n
  · obtain ⟨m, hm⟩ := list_split (l := ps) (k := k) (by rw [HN.out]; exact hlt)
    have hmb := HPO.out m (List.mem_of_getElem? hm)
    obtain ⟨hcd1, hcd2, hcd3, hcd4⟩ := cnt_bd hmb
    have hs1 := sumP_take hm
    have hsb0 := HSB.out k
    have hsb1 := HSB.out (k + 1)
    have hk2 := totK_succ ps k
    have HCN := Lib.hid (fun (w : World) => counts_any m w hmb)
    obtain ⟨K, hK⟩ : ∃ o9, cntP m = o9 := ⟨_, rfl⟩
    rw [hK] at HCN hs1 hcd3 hcd4
    obtain ⟨Tk, hTk⟩ : ∃ o9, sumP (ps.take k) = o9 := ⟨_, rfl⟩
    obtain ⟨T1, hT1⟩ : ∃ o9, sumP (ps.take (k + 1)) = o9 := ⟨_, rfl⟩
    rw [hTk] at hs1 hsb0 ⊢
    rw [hT1] at hs1 hsb1 hk2
    have hadd : Tk + K = T1 := hs1.symm
    have HK2 := Lib.hid hk2
    have HT1 := Lib.hid hT1
    obtain ⟨bp, op, hAp, hbp, c0, c1, c2⟩ := rows_at3 (Reads.of_own HP.out) hm
    subst hAp
    have k1 : (k : Int) < (n : Int) := by omega
    have k0 : (0 : Int) ≤ (k : Int) := by omega
    have hw1 : wrap64 T1 = T1 := by unfold wrap64; omega
    have hw2 : IntKind.i64.wrap T1 = T1 := by rw [IntKind.wrap_i64]; omega
    obtain ⟨NP, hNP⟩ : ∃ N, N = W.heap.size := ⟨_, rfl⟩
    obtain ⟨W2, hW2⟩ : ∃ y9 : World, y9 = W.alloc (.cells #[.int .i64 m.a, .int .i64 m.b, .int .i64 m.c] 51) := ⟨_, rfl⟩
    have BP2 := Lib.hid (show Blk W2 NP 51 #[.int .i64 m.a, .int .i64 m.b, .int .i64 m.c] by rw [hW2]; exact Blk.born W _ 51 (H := NP) hNP)
    have HO2 := Lib.hid (show W2.ownsRow w.heap.size 3 1 (.slice A k c) k (intsV (totK ps k)) by rw [hW2]; exact HO.out.alloc _)
    have HP2 := Lib.hid (show W2.ownsRow w.heap.size 51 3 (.slice (some ⟨bp, op, none⟩) n cp) n (rowsV3 ps) by rw [hW2]; exact HP.out.alloc _)
    have HX2 := Lib.hid (show Below w.heap.size w W2 by rw [hW2]; exact ext_alloc HX.out _)
    clear hs1 hTk hT1 hK hk2 hm hmb hcd1 hcd2 hcd3 hcd4
    go_upto_region 8 with fail
    rw [show W.heap.size = NP from hNP.symm, ← hW2]
    clear hNP hW2 c0 c1 c2 hbp HO HP HX
    obtain ⟨x0, x1, x2⟩ := BP2.out.q3
    have lx := BP2.out.lt
    go_wp2_with fail
    refine (HCN.out _).mono ?_
    rintro e V ⟨rfl, hb⟩
    have HO3 := Lib.hid (own_ext HO2.out hb)
    have HP3 := Lib.hid (own_ext HP2.out hb)
    have HX3 := Lib.hid (ext_trans HX2.out hb)
    clear hb x0 x1 x2 lx BP2 HO2 HP2 HX2
    have hbV : w.heap.size ≤ V.heap.size := HX3.out.size
    have m1 : k + 1 ≤ maxLen := by unfold maxLen; omega
    have m2 : (k + 1) * 8 ≤ 140737488355328 := by omega
    go_wp2_with (at_builtin; refine wpList_append_own_at _ rfl (.tmp 26) (.tmp 28) 26 rfl w.heap.size 3 i0 _ 1 8 Try.underlying26 hi hz0 hz1 hz2 rfl (by decide) (.slice A k c) k (intsV (totK ps k)) rfl (HO3.out.alloc (.cells #[.int .i64 T1] 3)) _ 1 1 [.int .i64 T1] rfl rfl (cells_new_at V [.int .i64 T1] 3 rfl) (by simp [Value.oneCell']) m1 m2 (Nat.le_trans hbV (by simp)) ?_; intro v9 w6 hown hgrow _ hat; obtain ⟨A4, c4, rfl⟩ := own_shape hown; have HGR := Lib.hid hgrow; have HOW := Lib.hid hown; have HAT := Lib.hid hat; clear hown hgrow hat)
    have HB6 := Lib.hid (below_grown' (HO3.out.alloc (.cells #[.int .i64 T1] 3)) (Nat.le_refl _) (ext_alloc HX3.out (.cells #[.int .i64 T1] 3)) HGR.out)
    have HP6 := Lib.hid ((HP3.out.alloc (.cells #[.int .i64 T1] 3)).kept HGR.out HDJ.out)
    have HDJ6 := Lib.hid (dj_next HP3.out HDJ.out (H := _) (by simp) HAT.out)
    go_wp2
    go_roundw
    case rel => exact ⟨k + 1, A4, c4, by omega, rfl, by rw [HT1.out], by go_num, Lib.hid (by rw [HK2.out]; have h9 := HOW.out; simpa [intsV] using h9), HB6, HP6, HDJ6⟩
    case measure => simp [intOf]; omega
  · obtain rfl : k = n := by omega
    go_wp2
    go_ret2
    exact ⟨_, _, rfl, HO.out, HX.out⟩

set_option maxRecDepth 100000 in
set_option maxHeartbeats 8000000 in
theorem specTotals_any (a b : Int) (w : World) : Calls Try.prog 7 #[.int .i64 a, .int .i64 b] w (RetSliceB w 3 1 (toL a b).length (intsV (toL a b)) (ptB a b)) := by
 obtain ⟨i0, hi, hz0, hz1, hz2⟩ := info_parts info_int
 unfold RetSliceB
 have HF0 := Lib.hid (fun (w : World) => l9Both_any a b w)
 cases hb0 : facB a b
 · have e : ptB a b = false := by unfold ptB; rw [hb0]
   rw [show toL a b = [] by unfold toL; rw [if_neg (by rw [e]; simp)], e]
   rw [hb0] at HF0
   clear e hb0
   go_enter Try.func7, Try.ntmps7
   go_wp2_with fail
   refine (HF0.out _).mono ?_
   rintro e wz ⟨rfl, rfl⟩
   go_wp2
   go_ret2
   exact ⟨_, _, rfl, own_lit0 w 3 1, ext_alloc (ext_refl w) (.cells #[] 3)⟩
 have e : ptB a b = true := by unfold ptB; rw [hb0]; (try rfl)
 rw [show toL a b = totK (ptsF a b) (ptsF a b).length by unfold toL; rw [if_pos e], e]
 rw [hb0] at HF0
 obtain ⟨hn16, hpo, hsum, hab⟩ := ptsF_facts (a := a) (b := b) hb0
 have HPT := Lib.hid (fun (w : World) => specL9Parts_any a b w hb0)
 unfold RetSlice at HPT
 obtain ⟨ps, hps⟩ : ∃ o9, ptsF a b = o9 := ⟨_, rfl⟩
 rw [hps] at HPT hn16 hpo hsum ⊢
 have hsb := sumP_bd (ps := ps) (fun m hm => (hpo m hm).2.2.1)
 rw [hsum] at hsb
 have HSB := Lib.hid (fun k => (show 0 ≤ sumP (ps.take k) ∧ sumP (ps.take k) ≤ 99980001 from ⟨(hsb k).1, by have := (hsb k).2; omega⟩))
 have HPO := Lib.hid hpo
 rw [totK_len]
 obtain ⟨n, hn⟩ : ∃ o9, ps.length = o9 := ⟨_, rfl⟩
 rw [hn] at HPT hn16 ⊢
 have HN := Lib.hid hn
 clear hps hsum hab hsb hpo hn e hb0
 go_enter Try.func7, Try.ntmps7
 go_wp2_with fail
 refine (HF0.out _).mono ?_
 rintro e wz ⟨rfl, rfl⟩
 go_wp2_with fail
 refine (HPT.out _).mono ?_
 rintro e w1 ⟨Ap, cp, rfl, hop, hb1⟩
 have HP1 := Lib.hid (own_base (base' := w.heap.size) hop (by simp))
 have HX1 := Lib.hid (ext_trans (ext_alloc (ext_refl w) (.cells #[] 3)) hb1)
 have HO1 := Lib.hid (own_ext (own_lit0 w 3 1) hb1)
 have HDJ1 := Lib.hid (show Value.ownBlock (.slice Ap n cp) = none ∨ Value.ownBlock (.slice Ap n cp) ≠ Value.ownBlock (.slice (some ⟨w.heap.size, 0, none⟩) 0 0) from dj_low hop (by simp))
 clear hop hb1
 go_wp2_with fail
 go_loopw [6, 8, 9] (fun ov tv iv wr => ∃ (k : Nat) (A : Option Addr) (c : Nat), k ≤ n ∧ ov = .slice A k c ∧ tv = .int .i64 (sumP (ps.take k)) ∧ iv = .int .i64 k ∧ Hid (wr.ownsRow w.heap.size 3 1 (.slice A k c) k (intsV (totK ps k))) ∧ Hid (Below w.heap.size w wr) ∧ Hid (wr.ownsRow w.heap.size 51 3 (.slice Ap n cp) n (rowsV3 ps)) ∧ Hid (Value.ownBlock (.slice Ap n cp) = none ∨ Value.ownBlock (.slice Ap n cp) ≠ Value.ownBlock (.slice A k c))) (fun _ _ iv _ => n - (intOf iv).toNat)
 case atStart => exact ⟨0, _, _, Nat.zero_le _, rfl, rfl, rfl, HO1, HX1, HP1, HDJ1⟩
 case round =>
  clear HP1 HX1 HDJ1
  obtain ⟨k, A, c, hk, rfl, rfl, rfl, HO, HX, HP, HDJ⟩ := hrel
  obtain ⟨W, hW⟩ : ∃ y : World, y = wr := ⟨_, rfl⟩
  subst hW
  by_cases hlt : k < n
  · obtain ⟨m, hm⟩ := list_split (l := ps) (k := k) (by rw [HN.out]; exact hlt)
    have hmb := HPO.out m (List.mem_of_getElem? hm)
    obtain ⟨hcd1, hcd2, hcd3, hcd4⟩ := cnt_bd hmb
    have hs1 := sumP_take hm
    have hsb0 := HSB.out k
    have hsb1 := HSB.out (k + 1)
    have hk2 := totK_succ ps k
    have HPW := Lib.hid (fun (w : World) => l2Power_any (m.a + m.b) (m.a + m.b).toNat w hcd1 hcd2)
    have hKe : m.c * pw (m.a + m.b).toNat = cntP m := rfl
    obtain ⟨P, hP⟩ : ∃ o9, pw (m.a + m.b).toNat = o9 := ⟨_, rfl⟩
    obtain ⟨K, hK⟩ : ∃ o9, cntP m = o9 := ⟨_, rfl⟩
    rw [hP] at HPW hKe
    rw [hK] at hKe hs1 hcd3 hcd4
    obtain ⟨Tk, hTk⟩ : ∃ o9, sumP (ps.take k) = o9 := ⟨_, rfl⟩
    obtain ⟨T1, hT1⟩ : ∃ o9, sumP (ps.take (k + 1)) = o9 := ⟨_, rfl⟩
    rw [hTk] at hs1 hsb0 ⊢
    rw [hT1] at hs1 hsb1 hk2
    have hadd : Tk + K = T1 := hs1.symm
    have HK2 := Lib.hid hk2
    have HT1 := Lib.hid hT1
    obtain ⟨bp, op, hAp, hbp, c0, c1, c2⟩ := rows_at3 (Reads.of_own HP.out) hm
    subst hAp
    have k1 : (k : Int) < (n : Int) := by omega
    have k0 : (0 : Int) ≤ (k : Int) := by omega
    have hw1 : wrap64 T1 = T1 := by unfold wrap64; omega
    have hw2 : IntKind.i64.wrap T1 = T1 := by rw [IntKind.wrap_i64]; omega
    have w1 : wrap64 (m.a + m.b) = m.a + m.b := by unfold wrap64; omega
    have w2 : IntKind.i64.wrap (m.a + m.b) = m.a + m.b := by rw [IntKind.wrap_i64]; omega
    have w3 : wrap64 K = K := by unfold wrap64; omega
    have w4 : IntKind.i64.wrap K = K := by rw [IntKind.wrap_i64]; omega
    clear hs1 hTk hT1 hK hP hk2 hm hmb hcd1 hcd2 hcd3 hcd4
    go_wp2_with fail
    (refine wp_region_later (by kernel_rfl) (by kernel_rfl) ?_; (repeat (go_big_quiet_step ((go_at_call 31; exact Calls.later_same (HPW.out _))))); refine wpQuiet_nil ?_; intro wq hw1; obtain ⟨⟨wl, hb⟩, hw1'⟩ := hw1; simp only at hw1'; subst hw1')
    have HO3 := Lib.hid (own_ext HO.out hb)
    have HP3 := Lib.hid (own_ext HP.out hb)
    have HX3 := Lib.hid (ext_trans HX.out hb)
    clear hb c0 c1 c2 hbp HO HP HX
    have hbV : w.heap.size ≤ wq.heap.size := HX3.out.size
    have m1 : k + 1 ≤ maxLen := by unfold maxLen; omega
    have m2 : (k + 1) * 8 ≤ 140737488355328 := by omega
    go_wp2_with (at_builtin; refine wpList_append_own_at _ rfl (.tmp 45) (.tmp 47) 26 rfl w.heap.size 3 i0 _ 1 8 Try.underlying26 hi hz0 hz1 hz2 rfl (by decide) (.slice A k c) k (intsV (totK ps k)) rfl (HO3.out.alloc (.cells #[.int .i64 T1] 3)) _ 1 1 [.int .i64 T1] rfl rfl (cells_new_at wq [.int .i64 T1] 3 rfl) (by simp [Value.oneCell']) m1 m2 (Nat.le_trans hbV (by simp)) ?_; intro v9 w6 hown hgrow _ hat; obtain ⟨A4, c4, rfl⟩ := own_shape hown; have HGR := Lib.hid hgrow; have HOW := Lib.hid hown; have HAT := Lib.hid hat; clear hown hgrow hat)
    have HB6 := Lib.hid (below_grown' (HO3.out.alloc (.cells #[.int .i64 T1] 3)) (Nat.le_refl _) (ext_alloc HX3.out (.cells #[.int .i64 T1] 3)) HGR.out)
    have HP6 := Lib.hid ((HP3.out.alloc (.cells #[.int .i64 T1] 3)).kept HGR.out HDJ.out)
    have HDJ6 := Lib.hid (dj_next HP3.out HDJ.out (H := _) (by simp) HAT.out)
    go_wp2
    go_roundw
    case rel => exact ⟨k + 1, A4, c4, by omega, rfl, by rw [HT1.out], by go_num, Lib.hid (by rw [HK2.out]; have h9 := HOW.out; simpa [intsV] using h9), HB6, HP6, HDJ6⟩
    case measure => simp [intOf]; omega
  · obtain rfl : k = n := by omega
    go_wp2
    go_ret2
    exact ⟨_, _, rfl, HO.out, HX.out⟩

end Go.Proofs.Ytfechhacmkajdaa
