/- Digits, steps of dividing: both. -/
import Derived.Maps.AppendAt
import Derived.Test.YtnoflejomlnmfaaVM4
import Derived.Test.YtnoflejomlnmfaaVAp
import Derived.Test.YtnoflejomlnmfaaVM1
namespace Go.Proofs.Ytnoflejomlnmfaa
open Go.RowKit
set_option linter.unusedVariables false
set_option linter.unusedSimpArgs false
theorem info_tri : (Try.prog.info? 57).map (fun i => (i.zero, i.size, i.bytes)) = some (some (.agg #[.int .i64 0, .int .i64 0, .int .i64 0]), 3, 24) := by kernel_rfl
theorem ints_oneC (l : List Int) : ∀ u ∈ intsV l, u.oneCell' = true := by
 intro u hu
 unfold intsV at hu
 obtain ⟨x, _, rfl⟩ := List.mem_map.1 hu
 rfl
theorem lit_own {B : Nat} (w0 : World) (E K : Nat) (cs : List Value) {H : Nat} (hH : H = w0.heap.size) (hB : B ≤ w0.heap.size) (hl : cs.length = K) : (w0.alloc (.cells cs.toArray E)).ownsRow B E K (.slice (some ⟨H, 0, none⟩) 1 1) 1 cs := by
 subst hH
 have := World.ownsRow_lit (base := B) (e := E) (size := K) w0 cs.toArray 1 hB (by unfold maxLen; omega) (by simpa using hl)
 simpa using this
set_option maxRecDepth 100000 in
set_option maxHeartbeats 4000000 in
theorem implDigits_any (m : Int) (w : World) (h0 : 0 ≤ m) (h1 : m < 1000000000) : Calls Try.prog 92 #[.int .i64 m] w (RetSlice w 3 1 (digT 9 m).length (intsV (digT 9 m))) := by
 obtain ⟨i0, hi, hz0, hz1, hz2⟩ := info_parts info_int
 unfold RetSlice
 obtain ⟨D, hD⟩ : ∃ D, digT 9 m = D := ⟨_, rfl⟩
 rw [hD]
 have HD := Lib.hid hD
 clear hD
 go_enter Try.func92, Try.ntmps92
 go_wp2_with fail
 go_loopw [0, 3] (fun nv out wr => ∃ (f : Nat) (y : Int) (A : Option Addr) (c : Nat) (ys : List Int), nv = .int .i64 y ∧ out = .slice A ys.length c ∧ 0 ≤ y ∧ y < 1000000000 ∧ f ≤ 9 ∧ ys.length + f ≤ 9 ∧ Hid (y < pw f) ∧ Hid (digT f y ++ ys = digT 9 m) ∧ Hid (wr.ownsRow w.heap.size 3 1 (.slice A ys.length c) ys.length (intsV ys)) ∧ Hid (Below w.heap.size w wr)) (fun nv _ _ => (intOf nv).toNat)
 case atStart => exact ⟨9, m, none, 0, [], rfl, rfl, h0, h1, Nat.le_refl _, by simp, Lib.hid (by rw [pw9]; exact h1), Lib.hid (List.append_nil _), Lib.hid (World.ownsRow_nil _ _ _ _), Lib.hid (ext_refl _)⟩
 case round =>
  obtain ⟨f, y, A, c, ys, rfl, rfl, y0, y1, hf, hyl, HY, HT, HO, HB⟩ := hrel
  by_cases hy : 0 < y
  · obtain ⟨f, rfl⟩ : ∃ k, f = k + 1 := by
     cases f with
     | zero => have h := HY.out; rw [pw_zero] at h; omega
     | succ k => exact ⟨k, rfl⟩
    have htm : y.tmod 10 = y % 10 := Int.tmod_eq_emod_of_nonneg y0
    have htd : y.tdiv 10 = y / 10 := Int.tdiv_eq_ediv_of_nonneg y0
    have hr : 0 ≤ y % 10 ∧ y % 10 ≤ 9 := by omega
    have hd : 0 ≤ y / 10 ∧ y / 10 < y := by omega
    have HY2 := Lib.hid (show y / 10 < pw f by have h := HY.out; rw [pw_succ] at h; omega)
    have HT2 := Lib.hid (show digT f (y / 10) ++ ([y % 10] ++ ys) = digT 9 m by have h := HT.out; rw [digT_pos hy, List.append_assoc] at h; exact h)
    obtain ⟨r, hr2⟩ : ∃ r, y % 10 = r := ⟨_, rfl⟩
    rw [hr2] at htm hr HT2
    obtain ⟨d, hd2⟩ : ∃ d, y / 10 = d := ⟨_, rfl⟩
    rw [hd2] at htd hd HY2 HT2
    clear hr2 hd2
    obtain ⟨V, hV⟩ : ∃ V : World, V = wr := ⟨_, rfl⟩
    subst hV
    have hbV := HB.out.size
    have HOV := Lib.hid (HO.out.alloc (.cells #[.int .i64 r] 3))
    have HLT := Lib.hid (lit_own (B := w.heap.size) V 3 1 [.int .i64 r] rfl hbV rfl)
    have m1 : 1 + ys.length ≤ maxLen := by unfold maxLen; omega
    have m2 : (1 + ys.length) * 8 ≤ 140737488355328 := by omega
    go_wp2_with (at_builtin; refine wpList_appO rfl (.tmp 10) (.tmp 11) 53 rfl w.heap.size 3 i0 _ 1 8 Try.underlying53 hi hz0 hz1 hz2 rfl (by decide) (.slice (some ⟨V.heap.size, 0, none⟩) 1 1) 1 _ rfl HLT.out A ys.length c (intsV ys) rfl _ HOV.out (ints_oneC _) m1 m2 (by simp <;> omega) ?_; intro A4 c4 w9 hown hgrow; have HGR := Lib.hid hgrow; have HOW := Lib.hid hown; clear hown hgrow)
    have HB9 := Lib.hid (below_grown' HLT.out (Nat.le_refl _) (ext_alloc HB.out (.cells #[.int .i64 r] 3)) HGR.out)
    have hlen : ([r] ++ ys).length = 1 + ys.length := by simp; omega
    have HOW2 := Lib.hid (show w9.ownsRow w.heap.size 3 1 (.slice A4 ([r] ++ ys).length c4) ([r] ++ ys).length (intsV ([r] ++ ys)) by rw [hlen]; have h9 := HOW.out; simpa [intsV] using h9)
    rw [← hlen]
    have HLL := Lib.hid hlen
    clear hlen
    go_wp2
    go_roundw
    case rel => exact ⟨f, d, A4, c4, [r] ++ ys, by go_num, rfl, hd.1, by omega, by omega, by rw [HLL.out]; omega, HY2, HT2, HOW2, HB9⟩
    case measure => simp [intOf]; omega
  · obtain rfl : y = 0 := by omega
    have hys : ys = D := by have h := HT.out; rw [digT_zero, HD.out] at h; simpa using h
    subst hys
    go_wp2
    go_ret
    exact ⟨_, _, rfl, HO.out, HB.out⟩
set_option maxRecDepth 100000 in
set_option maxHeartbeats 4000000 in
theorem specDigits_any (m : Int) (w : World) (h0 : 0 ≤ m) (h1 : m < 1000000000) : Calls Try.prog 93 #[.int .i64 m] w (RetSlice w 3 1 (digT 9 m).length (intsV (digT 9 m))) := by
 obtain ⟨i0, hi, hz0, hz1, hz2⟩ := info_parts info_int
 unfold RetSlice
 obtain ⟨D, hD⟩ : ∃ D, digT 9 m = D := ⟨_, rfl⟩
 rw [hD]
 have HD := Lib.hid hD
 clear hD
 go_enter Try.func93, Try.ntmps93
 go_wp2_with fail
 go_loopw [0, 3] (fun nv out wr => ∃ (f : Nat) (y : Int) (A : Option Addr) (c : Nat) (ys : List Int), nv = .int .i64 y ∧ out = .slice A ys.length c ∧ 0 ≤ y ∧ y < 1000000000 ∧ f ≤ 9 ∧ ys.length + f ≤ 9 ∧ Hid (y < pw f) ∧ Hid (digT f y ++ ys = digT 9 m) ∧ Hid (wr.ownsRow w.heap.size 3 1 (.slice A ys.length c) ys.length (intsV ys)) ∧ Hid (Below w.heap.size w wr)) (fun nv _ _ => (intOf nv).toNat)
 case atStart => exact ⟨9, m, some ⟨w.heap.size, 0, none⟩, 0, [], rfl, rfl, h0, h1, Nat.le_refl _, by simp, Lib.hid (by rw [pw9]; exact h1), Lib.hid (List.append_nil _), Lib.hid (own_lit0 w 3 1), Lib.hid (ext_alloc (ext_refl w) (.cells #[] 3))⟩
 case round =>
  obtain ⟨f, y, A, c, ys, rfl, rfl, y0, y1, hf, hyl, HY, HT, HO, HB⟩ := hrel
  by_cases hy : 0 < y
  · obtain ⟨f, rfl⟩ : ∃ k, f = k + 1 := by
     cases f with
     | zero => have h := HY.out; rw [pw_zero] at h; omega
     | succ k => exact ⟨k, rfl⟩
    have htm : y.tmod 10 = y % 10 := Int.tmod_eq_emod_of_nonneg y0
    have htd : y.tdiv 10 = y / 10 := Int.tdiv_eq_ediv_of_nonneg y0
    have hr : 0 ≤ y % 10 ∧ y % 10 ≤ 9 := by omega
    have hd : 0 ≤ y / 10 ∧ y / 10 < y := by omega
    have HY2 := Lib.hid (show y / 10 < pw f by have h := HY.out; rw [pw_succ] at h; omega)
    have HT2 := Lib.hid (show digT f (y / 10) ++ ([y % 10] ++ ys) = digT 9 m by have h := HT.out; rw [digT_pos hy, List.append_assoc] at h; exact h)
    obtain ⟨r, hr2⟩ : ∃ r, y % 10 = r := ⟨_, rfl⟩
    rw [hr2] at htm hr HT2
    obtain ⟨d, hd2⟩ : ∃ d, y / 10 = d := ⟨_, rfl⟩
    rw [hd2] at htd hd HY2 HT2
    clear hr2 hd2
    obtain ⟨V, hV⟩ : ∃ V : World, V = wr := ⟨_, rfl⟩
    subst hV
    have hbV := HB.out.size
    have HOV := Lib.hid (HO.out.alloc (.cells #[.int .i64 r] 3))
    have HLT := Lib.hid (lit_own (B := w.heap.size) V 3 1 [.int .i64 r] rfl hbV rfl)
    have m1 : 1 + ys.length ≤ maxLen := by unfold maxLen; omega
    have m2 : (1 + ys.length) * 8 ≤ 140737488355328 := by omega
    go_wp2_with (at_builtin; refine wpList_appO rfl (.tmp 9) (.tmp 10) 53 rfl w.heap.size 3 i0 _ 1 8 Try.underlying53 hi hz0 hz1 hz2 rfl (by decide) (.slice (some ⟨V.heap.size, 0, none⟩) 1 1) 1 _ rfl HLT.out A ys.length c (intsV ys) rfl _ HOV.out (ints_oneC _) m1 m2 (by simp <;> omega) ?_; intro A4 c4 w9 hown hgrow; have HGR := Lib.hid hgrow; have HOW := Lib.hid hown; clear hown hgrow)
    have HB9 := Lib.hid (below_grown' HLT.out (Nat.le_refl _) (ext_alloc HB.out (.cells #[.int .i64 r] 3)) HGR.out)
    have hlen : ([r] ++ ys).length = 1 + ys.length := by simp; omega
    have HOW2 := Lib.hid (show w9.ownsRow w.heap.size 3 1 (.slice A4 ([r] ++ ys).length c4) ([r] ++ ys).length (intsV ([r] ++ ys)) by rw [hlen]; have h9 := HOW.out; simpa [intsV] using h9)
    rw [← hlen]
    have HLL := Lib.hid hlen
    clear hlen
    go_wp2
    go_roundw
    case rel => exact ⟨f, d, A4, c4, [r] ++ ys, by go_num, rfl, hd.1, by omega, by omega, by rw [HLL.out]; omega, HY2, HT2, HOW2, HB9⟩
    case measure => simp [intOf]; omega
  · obtain rfl : y = 0 := by omega
    have hys : ys = D := by have h := HT.out; rw [digT_zero, HD.out] at h; simpa using h
    subst hys
    go_wp2
    go_ret
    exact ⟨_, _, rfl, HO.out, HB.out⟩
set_option maxRecDepth 100000 in
set_option maxHeartbeats 4000000 in
theorem implSteps_any (a b : Int) (w : World) (h : dvB a b = true) : Calls Try.prog 58 #[.int .i64 a, .int .i64 b] w (RetSlice w 57 3 (dgA a).length (rowsV3 (stT b (dgA a) (dgA a).length))) := by
 obtain ⟨i0, hi, hz0, hz1, hz2⟩ := info_parts info_tri
 unfold RetSlice
 unfold dvB at h
 simp only [Bool.and_eq_true] at h
 have ha := inB_iff.1 h.1
 have hb := inB_iff.1 h.2
 clear h
 obtain ⟨hwf, hnum, hlen⟩ := dgA_facts ha.1 ha.2
 have HDG := Lib.hid (fun w => implDigits_any a w ha.1 (by omega))
 unfold RetSlice at HDG
 obtain ⟨ds, hds⟩ : ∃ ds, dgA a = ds := ⟨_, rfl⟩
 rw [show digT 9 a = ds from hds] at HDG
 rw [hds] at hwf hlen ⊢
 obtain ⟨n, hn⟩ : ∃ n, ds.length = n := ⟨_, rfl⟩
 rw [hn] at HDG hlen ⊢
 have HN := Lib.hid hn
 have HWF := Lib.hid hwf
 clear hds hnum hn hwf
 go_enter Try.func58, Try.ntmps58
 go_wp2_with fail
 refine (HDG.out _).mono ?_
 rintro e w1 ⟨Ad, cd, rfl, ho1, hb1⟩
 have HD1 := Lib.hid ho1
 have HB1 := Lib.hid hb1
 clear ho1 hb1
 go_wp2_with fail
 go_loopw [5, 6, 12] (fun out rs i wr => ∃ (k : Nat) (A : Option Addr) (c : Nat), k ≤ n ∧ i = .int .i64 k ∧ out = .slice A k c ∧ rs = .int .i64 (rsT b ds k) ∧ Hid (wr.ownsRow w1.heap.size 57 3 (.slice A k c) k (rowsV3 (stT b ds k))) ∧ Hid (Below w1.heap.size w1 wr)) (fun _ _ i _ => n - (intOf i).toNat)
 case atStart => exact ⟨0, none, 0, Nat.zero_le _, rfl, rfl, rfl, Lib.hid (World.ownsRow_nil _ _ _ _), Lib.hid (ext_refl _)⟩
 case round =>
  obtain ⟨k, A, c, hk, rfl, rfl, rfl, HO, HX⟩ := hrel
  by_cases hlt : k < n
  · obtain ⟨d, hd⟩ := list_split (l := ds) (k := k) (by rw [HN.out]; exact hlt)
    obtain ⟨V, hV⟩ : ∃ V : World, V = wr := ⟨_, rfl⟩
    subst hV
    obtain ⟨bd, od, rfl, hbd, c0⟩ := ints_at (Reads.of_own (own_ext HD1.out HX.out)) hd
    have hs := s0T_bounds hb.1 HWF.out k
    have hq := qT_bounds hb.1 HWF.out k
    have hrb := rsT_bounds hb.1 ds k
    have hrb2 := rsT_bounds hb.1 ds (k + 1)
    have hdb := HWF.out.get hd
    have hX : s0T b ds k = 10 * rsT b ds k + d := by unfold s0T; rw [List.getD_eq_getElem?_getD, hd]; rfl
    have hst : stT b ds (k + 1) = stT b ds k ++ [⟨s0T b ds k, s0T b ds k / b, s0T b ds k % b⟩] := rfl
    have hrs : rsT b ds (k + 1) = s0T b ds k % b := rfl
    obtain ⟨X, hX2⟩ : ∃ X, s0T b ds k = X := ⟨_, rfl⟩
    rw [hX2] at hs hq hX hst hrs
    obtain ⟨R, hR⟩ : ∃ R, rsT b ds k = R := ⟨_, rfl⟩
    rw [hR] at hrb hX ⊢
    have htd : X.tdiv b = X / b := Int.tdiv_eq_ediv_of_nonneg hs.1
    have htm : X.tmod b = X % b := Int.tmod_eq_emod_of_nonneg hs.1
    obtain ⟨q, hq2⟩ : ∃ q, X / b = q := ⟨_, rfl⟩
    rw [hq2] at htd hq hst
    obtain ⟨r, hr2⟩ : ∃ r, X % b = r := ⟨_, rfl⟩
    rw [hr2] at htm hst hrs
    rw [hrs] at hrb2
    have hb0 : b ≠ 0 := by omega
    have hw1 : 10 * R + d = X := hX.symm
    have hwq : IntKind.i64.wrap q = q := by rw [IntKind.wrap_i64]; omega
    have HST := Lib.hid hst
    have HRS := Lib.hid hrs
    have hbV : w1.heap.size ≤ V.heap.size := HX.out.size
    have m1 : k + 1 ≤ maxLen := by unfold maxLen; omega
    have m2 : (k + 1) * 24 ≤ 140737488355328 := by omega
    have k1 : (k : Int) < (n : Int) := by omega
    have k0 : (0 : Int) ≤ (k : Int) := by omega
    clear hd hX hX2 hR hq2 hr2 hst hrs
    go_upto_region 7 with fail
    go_region_held3 (fun _ => True) (trivial) ((refine step_appO rfl (.tmp 20) (.tmp 29) 47 rfl w1.heap.size 57 i0 _ 3 24 Try.underlying47 hi hz0 hz1 hz2 rfl (by decide) (.slice A k c) k (rowsV3 (stT b ds k)) (by rfl) ((HO.out.alloc (.cells #[.int .i64 X, .int .i64 q, .int .i64 r] 57)).drew) (some ⟨V.heap.size, 0, none⟩) 1 1 [.int .i64 X, .int .i64 q, .int .i64 r] (by rfl) w1.heap.size (lit_own (B := w1.heap.size) V 57 3 [.int .i64 X, .int .i64 q, .int .i64 r] rfl hbV (by rfl)).drew (ints_oneC [X, q, r]) m1 m2 (Nat.le_trans hbV (by simp)) ?_; intro A4 c4 w6 hown hgrow; have HGR := Lib.hid hgrow; have HOW := Lib.hid hown; clear hown hgrow))
    have HB6 := Lib.hid (below_grown' ((HO.out.alloc (.cells #[.int .i64 X, .int .i64 q, .int .i64 r] 57)).drew) (Nat.le_refl _) (ext_drew (ext_alloc HX.out (.cells #[.int .i64 X, .int .i64 q, .int .i64 r] 57))) HGR.out)
    clear hwq
    go_wp2
    go_roundw
    case rel => exact ⟨k + 1, A4, c4, by omega, by go_num, rfl, by rw [HRS.out], Lib.hid (by rw [HST.out]; have h9 := HOW.out; simpa [rowsV3, R3.cells] using h9), HB6⟩
    case measure => simp [intOf]; omega
  · obtain rfl : k = n := by omega
    go_wp2
    go_ret
    exact ⟨_, _, rfl, own_base HO.out HB1.out.size, ext_trans HB1.out HX.out⟩
set_option maxRecDepth 100000 in
set_option maxHeartbeats 4000000 in
theorem specSteps_any (a b : Int) (w : World) (h : dvB a b = true) : Calls Try.prog 60 #[.int .i64 a, .int .i64 b] w (RetSlice w 57 3 (dgA a).length (rowsV3 (stT b (dgA a) (dgA a).length))) := by
 obtain ⟨i0, hi, hz0, hz1, hz2⟩ := info_parts info_tri
 unfold RetSlice
 unfold dvB at h
 simp only [Bool.and_eq_true] at h
 have ha := inB_iff.1 h.1
 have hb := inB_iff.1 h.2
 clear h
 obtain ⟨hwf, hnum, hlen⟩ := dgA_facts ha.1 ha.2
 have HDG := Lib.hid (fun w => specDigits_any a w ha.1 (by omega))
 unfold RetSlice at HDG
 obtain ⟨ds, hds⟩ : ∃ ds, dgA a = ds := ⟨_, rfl⟩
 rw [show digT 9 a = ds from hds] at HDG
 rw [hds] at hwf hlen ⊢
 obtain ⟨n, hn⟩ : ∃ n, ds.length = n := ⟨_, rfl⟩
 rw [hn] at HDG hlen ⊢
 have HN := Lib.hid hn
 have HWF := Lib.hid hwf
 clear hds hnum hn hwf
 go_enter Try.func60, Try.ntmps60
 go_wp2_with fail
 refine (HDG.out _).mono ?_
 rintro e w1 ⟨Ad, cd, rfl, ho1, hb1⟩
 have HD1 := Lib.hid ho1
 have HB1 := Lib.hid hb1
 clear ho1 hb1
 go_wp2_with fail
 go_loopw [6, 7, 8] (fun out rs i wr => ∃ (k : Nat) (A : Option Addr) (c : Nat), k ≤ n ∧ i = .int .i64 k ∧ out = .slice A k c ∧ rs = .int .i64 (rsT b ds k) ∧ Hid (wr.ownsRow w1.heap.size 57 3 (.slice A k c) k (rowsV3 (stT b ds k))) ∧ Hid (Below w1.heap.size w1 wr)) (fun _ _ i _ => n - (intOf i).toNat)
 case atStart => exact ⟨0, some ⟨w1.heap.size, 0, none⟩, 0, Nat.zero_le _, rfl, rfl, rfl, Lib.hid (own_lit0 w1 57 3), Lib.hid (ext_alloc (ext_refl w1) (.cells #[] 57))⟩
 case round =>
  obtain ⟨k, A, c, hk, rfl, rfl, rfl, HO, HX⟩ := hrel
  by_cases hlt : k < n
  · obtain ⟨d, hd⟩ := list_split (l := ds) (k := k) (by rw [HN.out]; exact hlt)
    obtain ⟨V, hV⟩ : ∃ V : World, V = wr := ⟨_, rfl⟩
    subst hV
    obtain ⟨bd, od, rfl, hbd, c0⟩ := ints_at (Reads.of_own (own_ext HD1.out HX.out)) hd
    have hs := s0T_bounds hb.1 HWF.out k
    have hq := qT_bounds hb.1 HWF.out k
    have hrb := rsT_bounds hb.1 ds k
    have hrb2 := rsT_bounds hb.1 ds (k + 1)
    have hdb := HWF.out.get hd
    have hX : s0T b ds k = 10 * rsT b ds k + d := by unfold s0T; rw [List.getD_eq_getElem?_getD, hd]; rfl
    have hst : stT b ds (k + 1) = stT b ds k ++ [⟨s0T b ds k, s0T b ds k / b, s0T b ds k % b⟩] := rfl
    have hrs : rsT b ds (k + 1) = s0T b ds k % b := rfl
    obtain ⟨X, hX2⟩ : ∃ X, s0T b ds k = X := ⟨_, rfl⟩
    rw [hX2] at hs hq hX hst hrs
    obtain ⟨R, hR⟩ : ∃ R, rsT b ds k = R := ⟨_, rfl⟩
    rw [hR] at hrb hX ⊢
    have htd : X.tdiv b = X / b := Int.tdiv_eq_ediv_of_nonneg hs.1
    have htm : X.tmod b = X % b := Int.tmod_eq_emod_of_nonneg hs.1
    obtain ⟨q, hq2⟩ : ∃ q, X / b = q := ⟨_, rfl⟩
    rw [hq2] at htd hq hst
    obtain ⟨r, hr2⟩ : ∃ r, X % b = r := ⟨_, rfl⟩
    rw [hr2] at htm hst hrs
    rw [hrs] at hrb2
    have hb0 : b ≠ 0 := by omega
    have hw1 : 10 * R + d = X := hX.symm
    have hwq : IntKind.i64.wrap q = q := by rw [IntKind.wrap_i64]; omega
    have HST := Lib.hid hst
    have HRS := Lib.hid hrs
    have hbV : w1.heap.size ≤ V.heap.size := HX.out.size
    have m1 : k + 1 ≤ maxLen := by unfold maxLen; omega
    have m2 : (k + 1) * 24 ≤ 140737488355328 := by omega
    have k1 : (k : Int) < (n : Int) := by omega
    have k0 : (0 : Int) ≤ (k : Int) := by omega
    clear hd hX hX2 hR hq2 hr2 hst hrs
    go_wp2_with (at_builtin; refine wpList_appO rfl (.tmp 29) (.tmp 36) 47 rfl w1.heap.size 57 i0 _ 3 24 Try.underlying47 hi hz0 hz1 hz2 rfl (by decide) (.slice A k c) k (rowsV3 (stT b ds k)) rfl (HO.out.alloc (.cells #[.int .i64 X, .int .i64 q, .int .i64 r] 57)) (some ⟨V.heap.size, 0, none⟩) 1 1 [.int .i64 X, .int .i64 q, .int .i64 r] rfl w1.heap.size (lit_own (B := w1.heap.size) V 57 3 [.int .i64 X, .int .i64 q, .int .i64 r] rfl hbV (by rfl)) (ints_oneC [X, q, r]) m1 m2 (Nat.le_trans hbV (by simp)) ?_; intro A4 c4 w6 hown hgrow; have HGR := Lib.hid hgrow; have HOW := Lib.hid hown; clear hown hgrow)
    have HB6 := Lib.hid (below_grown' (HO.out.alloc (.cells #[.int .i64 X, .int .i64 q, .int .i64 r] 57)) (Nat.le_refl _) (ext_alloc HX.out (.cells #[.int .i64 X, .int .i64 q, .int .i64 r] 57)) HGR.out)
    clear hwq
    go_wp2
    go_roundw
    case rel => exact ⟨k + 1, A4, c4, by omega, by go_num, rfl, by rw [HRS.out], Lib.hid (by rw [HST.out]; have h9 := HOW.out; simpa [rowsV3, R3.cells] using h9), HB6⟩
    case measure => simp [intOf]; omega
  · obtain rfl : k = n := by omega
    go_wp2
    go_ret
    exact ⟨_, _, rfl, own_base HO.out HB1.out.size, ext_trans HB1.out HX.out⟩
end Go.Proofs.Ytnoflejomlnmfaa
