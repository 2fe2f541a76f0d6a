/- The parts of two factors: both. -/
import Derived.Test.YtfechhacmkajdaaVTmA
namespace Go.Proofs.Ytfechhacmkajdaa
open Go.RowKit
set_option linter.unusedVariables false
set_option linter.unusedSimpArgs false
set_option maxRecDepth 100000 in
set_option maxHeartbeats 8000000 in
theorem implPartsOf_any (a b : Int) (w : World) (hab : facB a b = true) : Calls Try.prog 27 #[.int .i64 a, .int .i64 b] w (RetSlice w 51 3 (ptsF a b).length (rowsV3 (ptsF a b))) := by
 obtain ⟨i0, hi, hz0, hz1, hz2⟩ := info_parts info_tri
 have ha := inB_iff.1 (fac_parts hab).1
 have hb := inB_iff.1 (fac_parts hab).2
 obtain ⟨hwx, _, hlx⟩ := dgF_facts ha.1 ha.2
 obtain ⟨hwy, _, hly⟩ := dgF_facts hb.1 hb.2
 have HDX := Lib.hid (fun w => implDigits_any a w ha.1 (by omega))
 have HDY := Lib.hid (fun w => implDigits_any b w hb.1 (by omega))
 unfold RetSlice at HDX HDY
 unfold RetSlice ptsF
 obtain ⟨x, hx⟩ : ∃ o9, dgF a = o9 := ⟨_, rfl⟩
 obtain ⟨y, hy⟩ : ∃ o9, dgF b = o9 := ⟨_, rfl⟩
 rw [show digT 9 a = x from hx] at HDX
 rw [show digT 9 b = y from hy] at HDY
 rw [hx] at hwx hlx ⊢
 rw [hy] at hwy hly ⊢
 obtain ⟨nx, hnx⟩ : ∃ o9, x.length = o9 := ⟨_, rfl⟩
 obtain ⟨ny, hny⟩ : ∃ o9, y.length = o9 := ⟨_, rfl⟩
 rw [hnx] at HDX hlx ⊢
 rw [hny] at HDY hly
 have HNX := Lib.hid hnx
 have HNY := Lib.hid hny
 have HWX := Lib.hid hwx
 have HWY := Lib.hid hwy
 clear hx hy hnx hny hwx hwy ha hb hab
 go_enter Try.func27, Try.ntmps27
 go_wp2_with fail
 refine (HDX.out _).mono ?_
 rintro e w1 ⟨Ax, cx, rfl, ho1, hb1⟩
 go_wp2_with fail
 refine (HDY.out _).mono ?_
 rintro e w2 ⟨Ay, cy, rfl, ho2, hb2⟩
 have HX1 := Lib.hid (own_base (base' := w.heap.size) (own_ext ho1 hb2) (Nat.le_refl _))
 have HY1 := Lib.hid (own_base (base' := w.heap.size) ho2 hb1.size)
 have HB1 := Lib.hid (ext_trans hb1 hb2)
 clear ho1 ho2 hb1 hb2
 go_wp2_with fail
 go_loopw [7, 18] (fun out iv wr => ∃ (i : Nat) (A : Option Addr) (c : Nat) (L : List R3), iv = .int .i64 (i : Int) ∧ out = .slice A L.length c ∧ i ≤ nx ∧ L.length ≤ 4 * i ∧ Hid (ptO x y i = L) ∧ Hid (wr.ownsRow w.heap.size 51 3 (.slice A L.length c) L.length (rowsV3 L)) ∧ Hid (wr.ownsRow w.heap.size 3 1 (.slice Ax nx cx) nx (intsV x)) ∧ Hid (wr.ownsRow w.heap.size 3 1 (.slice Ay ny cy) ny (intsV y)) ∧ Hid (Below w.heap.size w wr)) (fun _ iv _ => nx - (intOf iv).toNat)
 case atStart => exact ⟨0, none, 0, [], rfl, rfl, Nat.zero_le _, by simp, Lib.hid rfl, Lib.hid (World.ownsRow_nil _ _ _ _), HX1, HY1, HB1⟩
 case round =>
  clear HX1 HY1 HB1
  obtain ⟨i, A, c, L, rfl, rfl, hi9, hL4, HL, HO, HX1, HY1, HB1⟩ := hrel
  by_cases hlt : i < nx
  · obtain ⟨d, hd⟩ := list_split (l := x) (k := i) (by rw [HNX.out]; exact hlt)
    obtain ⟨V, hV⟩ : ∃ V : World, V = wr := ⟨_, rfl⟩
    subst hV
    have hdb := HWX.out.get hd
    have HD := Lib.hid hd
    have i1 : (i : Int) < (nx : Int) := by omega
    have i0' : (0 : Int) ≤ (i : Int) := by omega
    obtain ⟨bx, ox, hAx, hbx, c0⟩ := ints_at (Reads.of_own HX1.out) hd
    clear hd
    subst hAx
    go_wp2_with fail
    clear c0 hbx
    go_loopw [7, 25] (fun out kv wr => ∃ (k : Nat) (A : Option Addr) (c : Nat) (M : List R3), kv = .int .i64 (k : Int) ∧ out = .slice A M.length c ∧ k ≤ ny ∧ M.length ≤ 4 * i + k ∧ Hid (L ++ ptI x y i k = M) ∧ Hid (wr.ownsRow w.heap.size 51 3 (.slice A M.length c) M.length (rowsV3 M)) ∧ Hid (wr.ownsRow w.heap.size 3 1 (.slice (some ⟨bx, ox, none⟩) nx cx) nx (intsV x)) ∧ Hid (wr.ownsRow w.heap.size 3 1 (.slice Ay ny cy) ny (intsV y)) ∧ Hid (Below w.heap.size w wr)) (fun _ kv _ => ny - (intOf kv).toNat)
    case atStart => exact ⟨0, A, c, L, rfl, rfl, Nat.zero_le _, by omega, Lib.hid (List.append_nil _), HO, HX1, HY1, HB1⟩
    case round =>
     clear HO HX1 HY1 HB1
     obtain ⟨k, A, c, M, rfl, rfl, hk9, hM4, HM, HO, HX1, HY1, HB1⟩ := hrel
     by_cases hlk : k < ny
     · obtain ⟨e, he⟩ := list_split (l := y) (k := k) (by rw [HNY.out]; exact hlk)
       obtain ⟨V, hV⟩ : ∃ V : World, V = wr := ⟨_, rfl⟩
       subst hV
       have heb := HWY.out.get he
       have hv0 : 0 ≤ d * e := Int.mul_nonneg hdb.1 heb.1
       have hv1 : d * e ≤ 9 * 9 := Int.mul_le_mul hdb.2 heb.2 heb.1 (by omega)
       have HPT := Lib.hid (show L ++ ptI x y i (k + 1) = M ++ (if 0 < d * e then [⟨(nx : Int) - 1 - i, (ny : Int) - 1 - k, d * e⟩] else []) by
        rw [ptI, ← List.append_assoc, HM.out, HNX.out, HNY.out, show x.getD i 0 = d by rw [List.getD_eq_getElem?_getD, HD.out]; rfl, show y.getD k 0 = e by rw [List.getD_eq_getElem?_getD, he]; rfl])
       obtain ⟨v, hv⟩ : ∃ o9, d * e = o9 := ⟨_, rfl⟩
       rw [hv] at hv0 hv1 HPT
       have hw1 : IntKind.i64.wrap v = v := by rw [IntKind.wrap_i64]; omega
       have hw2 : wrap64 v = v := by unfold wrap64; omega
       have k1 : (k : Int) < (ny : Int) := by omega
       have k0 : (0 : Int) ≤ (k : Int) := by omega
       obtain ⟨be, oe, hAe, hbe, c1⟩ := ints_at (Reads.of_own HY1.out) he
       subst hAe
       clear he
       have hbV : w.heap.size ≤ V.heap.size := HB1.out.size
       have m1 : M.length + 1 ≤ maxLen := by unfold maxLen; omega
       have m2 : (M.length + 1) * 24 ≤ 140737488355328 := by omega
       by_cases hp : 0 < v
       · rw [if_pos hp] at HPT
         obtain ⟨pa, hpa⟩ : ∃ o9, (nx : Int) - 1 - i = o9 := ⟨_, rfl⟩
         obtain ⟨pb, hpb⟩ : ∃ o9, (ny : Int) - 1 - k = o9 := ⟨_, rfl⟩
         rw [hpa, hpb] at HPT
         have w1 : wrap64 ((nx : Int) - 1) = (nx : Int) - 1 := by unfold wrap64; omega
         have w2 : wrap64 ((ny : Int) - 1) = (ny : Int) - 1 := by unfold wrap64; omega
         have w3 : wrap64 ((nx : Int) - 1 - i) = pa := by unfold wrap64; omega
         have w4 : wrap64 ((ny : Int) - 1 - k) = pb := by unfold wrap64; omega
         have w5 : IntKind.i64.wrap ((nx : Int) - 1) = (nx : Int) - 1 := by rw [IntKind.wrap_i64]; omega
         have w6' : IntKind.i64.wrap ((ny : Int) - 1) = (ny : Int) - 1 := by rw [IntKind.wrap_i64]; omega
         have w7 : IntKind.i64.wrap ((nx : Int) - 1 - i) = pa := by rw [IntKind.wrap_i64]; omega
         have w8 : IntKind.i64.wrap ((ny : Int) - 1 - k) = pb := by rw [IntKind.wrap_i64]; omega
         have HPAB := Lib.hid (And.intro hpa hpb)
         clear hpa hpb
         go_wp2_with (at_builtin; refine wpList_append_own_at _ rfl (.tmp 34) (.tmp 49) 30 rfl w.heap.size 51 i0 _ 3 24 Try.underlying30 hi hz0 hz1 hz2 rfl (by decide) (.slice A M.length c) M.length (rowsV3 M) rfl (HO.out.alloc (.cells #[.int .i64 pa, .int .i64 pb, .int .i64 v] 51)) _ 1 1 [.int .i64 pa, .int .i64 pb, .int .i64 v] rfl rfl (cells_new_at V [.int .i64 pa, .int .i64 pb, .int .i64 v] 51 rfl) (by simp [Value.oneCell']) m1 m2 (Nat.le_trans hbV (by simp)) ?_; intro v9 w6 hown hgrow _ hat; obtain ⟨A4, c4, rfl⟩ := own_shape hown; have HGR := Lib.hid hgrow; have HOW := Lib.hid hown; have HAT := Lib.hid hat; clear hown hgrow hat)
         have HB6 := Lib.hid (below_grown' (HO.out.alloc (.cells #[.int .i64 pa, .int .i64 pb, .int .i64 v] 51)) (Nat.le_refl _) (ext_alloc HB1.out (.cells #[.int .i64 pa, .int .i64 pb, .int .i64 v] 51)) HGR.out)
         have HX6 := Lib.hid ((HX1.out.alloc (.cells #[.int .i64 pa, .int .i64 pb, .int .i64 v] 51)).kept HGR.out (own_neT (HX1.out.alloc (.cells #[.int .i64 pa, .int .i64 pb, .int .i64 v] 51)) (HO.out.alloc (.cells #[.int .i64 pa, .int .i64 pb, .int .i64 v] 51)) (by decide)))
         have HY6 := Lib.hid ((HY1.out.alloc (.cells #[.int .i64 pa, .int .i64 pb, .int .i64 v] 51)).kept HGR.out (own_neT (HY1.out.alloc (.cells #[.int .i64 pa, .int .i64 pb, .int .i64 v] 51)) (HO.out.alloc (.cells #[.int .i64 pa, .int .i64 pb, .int .i64 v] 51)) (by decide)))
         have hlen : (M ++ [(⟨pa, pb, v⟩ : R3)]).length = M.length + 1 := by simp
         have HOW2 := Lib.hid (show w6.ownsRow w.heap.size 51 3 (.slice A4 (M ++ [(⟨pa, pb, v⟩ : R3)]).length c4) (M ++ [(⟨pa, pb, v⟩ : R3)]).length (rowsV3 (M ++ [⟨pa, pb, v⟩])) by rw [hlen]; have h9 := HOW.out; simpa [rowsV3, R3.cells] using h9)
         rw [← hlen]
         have HLL := Lib.hid hlen
         clear hlen
         go_wp2
         go_roundw
         case rel => exact ⟨k + 1, A4, c4, M ++ [⟨pa, pb, v⟩], by go_num, rfl, by omega, by rw [HLL.out]; omega, HPT, HOW2, HX6, HY6, HB6⟩
         case measure => simp [intOf]; omega
       · rw [if_neg hp, List.append_nil] at HPT
         go_wp2
         go_roundw
         case rel => exact ⟨k + 1, A, c, M, by go_num, rfl, by omega, by omega, HPT, HO, HX1, HY1, HB1⟩
         case measure => simp [intOf]; omega
     · obtain rfl : k = ny := by omega
       have HPE := Lib.hid (show ptO x y (i + 1) = M by rw [ptO, HL.out, HNY.out]; exact HM.out)
       go_wp2
       go_roundw
       case rel => exact ⟨i + 1, A, c, M, by go_num, rfl, by omega, by omega, HPE, HO, HX1, HY1, HB1⟩
       case measure => simp [intOf]; omega
  · obtain rfl : i = nx := by omega
    have HLE := HL.out
    subst HLE
    go_wp2
    go_ret
    exact ⟨_, _, rfl, HO.out, HB1.out⟩

set_option maxRecDepth 100000 in
set_option maxHeartbeats 8000000 in
theorem specL9Parts_any (a b : Int) (w : World) (hab : facB a b = true) : Calls Try.prog 30 #[.int .i64 a, .int .i64 b] w (RetSlice w 51 3 (ptsF a b).length (rowsV3 (ptsF a b))) := by
 obtain ⟨i0, hi, hz0, hz1, hz2⟩ := info_parts info_tri
 have ha := inB_iff.1 (fac_parts hab).1
 have hb := inB_iff.1 (fac_parts hab).2
 obtain ⟨hwx, _, hlx⟩ := dgF_facts ha.1 ha.2
 obtain ⟨hwy, _, hly⟩ := dgF_facts hb.1 hb.2
 have HDX := Lib.hid (fun w => specDigits_any a w ha.1 (by omega))
 have HDY := Lib.hid (fun w => specDigits_any b w hb.1 (by omega))
 unfold RetSlice at HDX HDY
 unfold RetSlice ptsF
 obtain ⟨x, hx⟩ : ∃ o9, dgF a = o9 := ⟨_, rfl⟩
 obtain ⟨y, hy⟩ : ∃ o9, dgF b = o9 := ⟨_, rfl⟩
 rw [show digT 9 a = x from hx] at HDX
 rw [show digT 9 b = y from hy] at HDY
 rw [hx] at hwx hlx ⊢
 rw [hy] at hwy hly ⊢
 obtain ⟨nx, hnx⟩ : ∃ o9, x.length = o9 := ⟨_, rfl⟩
 obtain ⟨ny, hny⟩ : ∃ o9, y.length = o9 := ⟨_, rfl⟩
 rw [hnx] at HDX hlx ⊢
 rw [hny] at HDY hly
 have HNX := Lib.hid hnx
 have HNY := Lib.hid hny
 have HWX := Lib.hid hwx
 have HWY := Lib.hid hwy
 clear hx hy hnx hny hwx hwy ha hb hab
 go_enter Try.func30, Try.ntmps30
 go_wp2_with fail
 refine (HDX.out _).mono ?_
 rintro e w1 ⟨Ax, cx, rfl, ho1, hb1⟩
 go_wp2_with fail
 refine (HDY.out _).mono ?_
 rintro e w2 ⟨Ay, cy, rfl, ho2, hb2⟩
 have HX1 := Lib.hid ((own_base (base' := w.heap.size) (own_ext ho1 hb2) (Nat.le_refl _)).alloc (.cells #[] 51))
 have HY1 := Lib.hid ((own_base (base' := w.heap.size) ho2 hb1.size).alloc (.cells #[] 51))
 have HB1 := Lib.hid (ext_alloc (ext_trans hb1 hb2) (.cells #[] 51))
 have HO1 := Lib.hid (own_base (base' := w.heap.size) (own_lit0 w2 51 3) (ext_trans hb1 hb2).size)
 clear ho1 ho2 hb1 hb2
 go_wp2_with fail
 go_loopw [7, 8] (fun out iv wr => ∃ (i : Nat) (A : Option Addr) (c : Nat) (L : List R3), iv = .int .i64 (i : Int) ∧ out = .slice A L.length c ∧ i ≤ nx ∧ L.length ≤ 4 * i ∧ Hid (ptO x y i = L) ∧ Hid (wr.ownsRow w.heap.size 51 3 (.slice A L.length c) L.length (rowsV3 L)) ∧ Hid (wr.ownsRow w.heap.size 3 1 (.slice Ax nx cx) nx (intsV x)) ∧ Hid (wr.ownsRow w.heap.size 3 1 (.slice Ay ny cy) ny (intsV y)) ∧ Hid (Below w.heap.size w wr)) (fun _ iv _ => nx - (intOf iv).toNat)
 case atStart => exact ⟨0, _, _, [], rfl, rfl, Nat.zero_le _, by simp, Lib.hid rfl, HO1, HX1, HY1, HB1⟩
 case round =>
  clear HX1 HY1 HB1 HO1
  obtain ⟨i, A, c, L, rfl, rfl, hi9, hL4, HL, HO, HX1, HY1, HB1⟩ := hrel
  by_cases hlt : i < nx
  · obtain ⟨d, hd⟩ := list_split (l := x) (k := i) (by rw [HNX.out]; exact hlt)
    obtain ⟨V, hV⟩ : ∃ V : World, V = wr := ⟨_, rfl⟩
    subst hV
    have hdb := HWX.out.get hd
    have HD := Lib.hid hd
    have i1 : (i : Int) < (nx : Int) := by omega
    have i0' : (0 : Int) ≤ (i : Int) := by omega
    obtain ⟨bx, ox, hAx, hbx, c0⟩ := ints_at (Reads.of_own HX1.out) hd
    clear hd
    subst hAx
    go_wp2_with fail
    clear c0 hbx
    go_loopw [7, 9] (fun out kv wr => ∃ (k : Nat) (A : Option Addr) (c : Nat) (M : List R3), kv = .int .i64 (k : Int) ∧ out = .slice A M.length c ∧ k ≤ ny ∧ M.length ≤ 4 * i + k ∧ Hid (L ++ ptI x y i k = M) ∧ Hid (wr.ownsRow w.heap.size 51 3 (.slice A M.length c) M.length (rowsV3 M)) ∧ Hid (wr.ownsRow w.heap.size 3 1 (.slice (some ⟨bx, ox, none⟩) nx cx) nx (intsV x)) ∧ Hid (wr.ownsRow w.heap.size 3 1 (.slice Ay ny cy) ny (intsV y)) ∧ Hid (Below w.heap.size w wr)) (fun _ kv _ => ny - (intOf kv).toNat)
    case atStart => exact ⟨0, A, c, L, rfl, rfl, Nat.zero_le _, by omega, Lib.hid (List.append_nil _), HO, HX1, HY1, HB1⟩
    case round =>
     clear HO HX1 HY1 HB1
     obtain ⟨k, A, c, M, rfl, rfl, hk9, hM4, HM, HO, HX1, HY1, HB1⟩ := hrel
     by_cases hlk : k < ny
     · obtain ⟨e, he⟩ := list_split (l := y) (k := k) (by rw [HNY.out]; exact hlk)
       obtain ⟨V, hV⟩ : ∃ V : World, V = wr := ⟨_, rfl⟩
       subst hV
       have heb := HWY.out.get he
       have hv0 : 0 ≤ d * e := Int.mul_nonneg hdb.1 heb.1
       have hv1 : d * e ≤ 9 * 9 := Int.mul_le_mul hdb.2 heb.2 heb.1 (by omega)
       have HPT := Lib.hid (show L ++ ptI x y i (k + 1) = M ++ (if 0 < d * e then [⟨(nx : Int) - 1 - i, (ny : Int) - 1 - k, d * e⟩] else []) by
        rw [ptI, ← List.append_assoc, HM.out, HNX.out, HNY.out, show x.getD i 0 = d by rw [List.getD_eq_getElem?_getD, HD.out]; rfl, show y.getD k 0 = e by rw [List.getD_eq_getElem?_getD, he]; rfl])
       obtain ⟨v, hv⟩ : ∃ o9, d * e = o9 := ⟨_, rfl⟩
       rw [hv] at hv0 hv1 HPT
       have hw1 : IntKind.i64.wrap v = v := by rw [IntKind.wrap_i64]; omega
       have hw2 : wrap64 v = v := by unfold wrap64; omega
       have k1 : (k : Int) < (ny : Int) := by omega
       have k0 : (0 : Int) ≤ (k : Int) := by omega
       obtain ⟨be, oe, hAe, hbe, c1⟩ := ints_at (Reads.of_own HY1.out) he
       subst hAe
       clear he
       have hbV : w.heap.size ≤ V.heap.size := HB1.out.size
       have m1 : M.length + 1 ≤ maxLen := by unfold maxLen; omega
       have m2 : (M.length + 1) * 24 ≤ 140737488355328 := by omega
       obtain ⟨bx', ox', hAx, hbx, c0⟩ := ints_at (Reads.of_own HX1.out) HD.out
       simp only [Option.some.injEq, Addr.mk.injEq] at hAx
       obtain ⟨rfl, rfl, _⟩ := hAx
       by_cases hp : 0 < v
       · rw [if_pos hp] at HPT
         obtain ⟨pa, hpa⟩ : ∃ o9, (nx : Int) - 1 - i = o9 := ⟨_, rfl⟩
         obtain ⟨pb, hpb⟩ : ∃ o9, (ny : Int) - 1 - k = o9 := ⟨_, rfl⟩
         rw [hpa, hpb] at HPT
         have w1 : wrap64 ((nx : Int) - 1) = (nx : Int) - 1 := by unfold wrap64; omega
         have w2 : wrap64 ((ny : Int) - 1) = (ny : Int) - 1 := by unfold wrap64; omega
         have w3 : wrap64 ((nx : Int) - 1 - i) = pa := by unfold wrap64; omega
         have w4 : wrap64 ((ny : Int) - 1 - k) = pb := by unfold wrap64; omega
         have w5 : IntKind.i64.wrap ((nx : Int) - 1) = (nx : Int) - 1 := by rw [IntKind.wrap_i64]; omega
         have w6' : IntKind.i64.wrap ((ny : Int) - 1) = (ny : Int) - 1 := by rw [IntKind.wrap_i64]; omega
         have w7 : IntKind.i64.wrap ((nx : Int) - 1 - i) = pa := by rw [IntKind.wrap_i64]; omega
         have w8 : IntKind.i64.wrap ((ny : Int) - 1 - k) = pb := by rw [IntKind.wrap_i64]; omega
         have HPAB := Lib.hid (And.intro hpa hpb)
         clear hpa hpb
         go_upto_region 8 with fail
         go_region
         go_upto_region 9 with fail
         obtain ⟨U, hU⟩ : ∃ U : World, U = V.drew := ⟨_, rfl⟩
         have HO2 := Lib.hid (show U.ownsRow w.heap.size 51 3 (.slice A M.length c) M.length (rowsV3 M) by rw [hU]; exact HO.out.drew)
         have HX2 := Lib.hid (show U.ownsRow w.heap.size 3 1 (.slice (some ⟨bx, ox, none⟩) nx cx) nx (intsV x) by rw [hU]; exact HX1.out.drew)
         have HY2 := Lib.hid (show U.ownsRow w.heap.size 3 1 (.slice (some ⟨be, oe, none⟩) ny cy) ny (intsV y) by rw [hU]; exact HY1.out.drew)
         have HB2 := Lib.hid (show Below w.heap.size w U by rw [hU]; exact HB1.out.drew)
         have u0 : U.cell? ⟨bx, ox + i, none⟩ = some (.int .i64 d) := by rw [hU]; exact cell_drew c0
         have u1 : U.cell? ⟨be, oe + k, none⟩ = some (.int .i64 e) := by rw [hU]; exact cell_drew c1
         have lx : bx < U.heap.size := by rw [hU]; exact hbx
         have ly : be < U.heap.size := by rw [hU]; exact hbe
         rw [← hU]
         clear hU c0 c1 hbx hbe HO HX1 HY1 HB1 hbV
         have hbV : w.heap.size ≤ U.heap.size := HB2.out.size
         have hnX : Value.ownBlock (.slice A M.length c) ≠ some bx := by
          rcases own_neT HX2.out HO2.out (by decide) with h | h
          · cases h
          · exact fun e => h e.symm
         have hnY : Value.ownBlock (.slice A M.length c) ≠ some be := by
          rcases own_neT HY2.out HO2.out (by decide) with h | h
          · cases h
          · exact fun e => h e.symm
         go_region_held3 (fun w' => w'.cell? ⟨bx, ox + i, none⟩ = some (.int .i64 d) ∧ w'.cell? ⟨be, oe + k, none⟩ = some (.int .i64 e)) (first | (go_split_ands; ((repeat' refine And.intro ?_ ?_) <;> with_reducible (repeat (first | assumption | refine cell_drew ?_ | refine cell_old ?_ _ | refine cell_far_grown HGR.out hnX ?_ | refine cell_far_grown HGR.out hnY ?_))))) ((refine step_appO rfl (.tmp 37) (.tmp 58) 30 rfl w.heap.size 51 i0 _ 3 24 Try.underlying30 hi hz0 hz1 hz2 rfl (by decide) (.slice A M.length c) M.length (rowsV3 M) (by rfl) ((HO2.out.alloc (.cells #[.int .i64 pa, .int .i64 pb, .int .i64 v] 51)).drew) (some ⟨U.heap.size, 0, none⟩) 1 1 [.int .i64 pa, .int .i64 pb, .int .i64 v] (by rfl) w.heap.size ((lit_own (B := w.heap.size) U 51 3 [.int .i64 pa, .int .i64 pb, .int .i64 v] rfl hbV (by rfl)).drew) (ints_oneC [pa, pb, v]) m1 m2 (Nat.le_trans hbV (by simp)) ?_; intro A4 c4 w6 hown hgrow; have HGR := Lib.hid hgrow; have HOW := Lib.hid hown; clear hown hgrow))
         have HB6 := Lib.hid (below_grown' ((HO2.out.alloc (.cells #[.int .i64 pa, .int .i64 pb, .int .i64 v] 51)).drew) (Nat.le_refl _) (ext_drew (ext_alloc HB2.out (.cells #[.int .i64 pa, .int .i64 pb, .int .i64 v] 51))) HGR.out)
         have HX6 := Lib.hid (((HX2.out.alloc (.cells #[.int .i64 pa, .int .i64 pb, .int .i64 v] 51)).drew).kept HGR.out (own_neT ((HX2.out.alloc (.cells #[.int .i64 pa, .int .i64 pb, .int .i64 v] 51)).drew) ((HO2.out.alloc (.cells #[.int .i64 pa, .int .i64 pb, .int .i64 v] 51)).drew) (by decide)))
         have HY6 := Lib.hid (((HY2.out.alloc (.cells #[.int .i64 pa, .int .i64 pb, .int .i64 v] 51)).drew).kept HGR.out (own_neT ((HY2.out.alloc (.cells #[.int .i64 pa, .int .i64 pb, .int .i64 v] 51)).drew) ((HO2.out.alloc (.cells #[.int .i64 pa, .int .i64 pb, .int .i64 v] 51)).drew) (by decide)))
         have hlen : (M ++ [(⟨pa, pb, v⟩ : R3)]).length = M.length + 1 := by simp
         have HOW2 := Lib.hid (show w6.ownsRow w.heap.size 51 3 (.slice A4 (M ++ [(⟨pa, pb, v⟩ : R3)]).length c4) (M ++ [(⟨pa, pb, v⟩ : R3)]).length (rowsV3 (M ++ [⟨pa, pb, v⟩])) by rw [hlen]; have h9 := HOW.out; simpa [rowsV3, R3.cells] using h9)
         rw [← hlen]
         have HLL := Lib.hid hlen
         clear hlen
         go_wp2
         go_roundw
         case rel => exact ⟨k + 1, A4, c4, M ++ [⟨pa, pb, v⟩], by go_num, rfl, by omega, by rw [HLL.out]; omega, HPT, HOW2, HX6, HY6, HB6⟩
         case measure => simp [intOf]; omega
       · rw [if_neg hp, List.append_nil] at HPT
         go_upto_region 8 with fail
         go_region
         go_wp2
         go_roundw
         case rel => exact ⟨k + 1, A, c, M, by go_num, rfl, by omega, by omega, HPT, Lib.hid HO.out.drew, Lib.hid HX1.out.drew, Lib.hid HY1.out.drew, Lib.hid HB1.out.drew⟩
         case measure => simp [intOf]; omega
     · obtain rfl : k = ny := by omega
       have HPE := Lib.hid (show ptO x y (i + 1) = M by rw [ptO, HL.out, HNY.out]; exact HM.out)
       go_wp2
       go_roundw
       case rel => exact ⟨i + 1, A, c, M, by go_num, rfl, by omega, by omega, HPE, HO, HX1, HY1, HB1⟩
       case measure => simp [intOf]; omega
  · obtain rfl : i = nx := by omega
    have HLE := HL.out
    subst HLE
    go_wp2
    go_ret
    exact ⟨_, _, rfl, HO.out, HB1.out⟩

end Go.Proofs.Ytfechhacmkajdaa
