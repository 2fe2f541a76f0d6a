/- Minds: rods that are lost; which steps are valid. -/
import Derived.Test.YtlkfffohjeoooaaVMdK
namespace Go.Proofs.Ytlkfffohjeoooaa
open Go.RowKit
set_option linter.unusedVariables false
set_option linter.unusedSimpArgs false
def lostL (im : List Int) (n : Nat) : List Int := ((List.range n).filter fun i => im.getD i 0 == -1).map fun (i : Nat) => (i : Int)
theorem lostL_yes {im : List Int} {k : Nat} (h : im[k]? = some (-1)) : lostL im (k + 1) = lostL im k ++ [(k : Int)] := by
 unfold lostL
 rw [List.range_succ, List.filter_append, List.map_append]
 simp [List.getD_eq_getElem?_getD, h]
theorem lostL_no {im : List Int} {k : Nat} {d : Int} (h : im[k]? = some d) (hd : d ≠ -1) : lostL im (k + 1) = lostL im k := by
 unfold lostL
 rw [List.range_succ, List.filter_append, List.map_append]
 simp [List.getD_eq_getElem?_getD, h, hd]
theorem lostL_len (im : List Int) (n : Nat) : (lostL im n).length ≤ n := by
 unfold lostL
 have := List.length_filter_le (fun i => im.getD i 0 == -1) (List.range n)
 simp at this ⊢
 omega
set_option maxRecDepth 100000 in
set_option maxHeartbeats 4000000 in
theorem l21Lost_any (u lo : Int) (A : Option Addr) (n c : Nat) (K : Option Addr) (k kc : Nat) (I : Option Addr) (m ic : Nat) (im : List Int) (be gu : Int) (w : World) (hm : m ≤ 1000) (h : Reads w w.heap.size 1 I m (intsV im)) :
 Calls Try.prog 142 #[mdV u lo A n c K k kc I m ic be gu] w (RetSlice w 3 1 (lostL im m).length (intsV (lostL im m))) := by
 have hl := ints_len h
 obtain ⟨i0, hi, hz0, hz1, hz2⟩ := info_parts info_int
 have H := Lib.hid h
 have HL := Lib.hid hl
 have BM0 := Lib.hid ((Blk.born w (mdC u lo A n c K k kc I m ic be gu) 47 (H := w.heap.size) rfl).al (.cells #[] 3))
 have hb0 := Lib.hid (ext_alloc (ext_alloc (ext_refl w) (.cells (mdC u lo A n c K k kc I m ic be gu) 47)) (.cells #[] 3))
 have ho0 := Lib.hid (own_base (base' := w.heap.size) (own_lit0 (w.alloc (.cells (mdC u lo A n c K k kc I m ic be gu) 47)) 3 1) (by simp))
 clear h hl
 go_enter Try.func142, Try.ntmps142
 go_wp2_with fail
 go_loopw [3, 4] (fun v i wr => ∃ j : Nat, j ≤ m ∧ i = .int .i64 j ∧ Hid (wr.ownsRow w.heap.size 3 1 v (lostL im j).length (intsV (lostL im j))) ∧ Hid (Below w.heap.size w wr) ∧ Hid (Blk wr w.heap.size 47 (mdC u lo A n c K k kc I m ic be gu))) (fun _ i _ => m - (intOf i).toNat)
 case atStart => exact ⟨0, Nat.zero_le _, rfl, by simpa [lostL, intsV] using ho0, hb0, BM0⟩
 case round =>
  clear BM0 hb0 ho0
  obtain ⟨j, hj, rfl, HV, hbr, BMr⟩ := hrel
  obtain ⟨d0, d1, d2, d3, d4, d5, d6⟩ := BMr.out.q7
  have sM := BMr.out.lt
  have sz := hbr.out.size
  by_cases hlt : j < m
  · obtain ⟨d, hd⟩ := list_split (l := im) (k := j) (by rw [HL.out]; exact hlt)
    obtain ⟨b, o, rfl, hb, c0⟩ := ints_at (rdx H.out hbr.out) hd
    have hlen := lostL_len im j
    by_cases e : d = -1
    · subst e
      have HY := Lib.hid (lostL_yes hd)
      have hlen2 : (lostL im (j + 1)).length = (lostL im j).length + 1 := by rw [HY.out]; simp
      have HLN := Lib.hid hlen2
      have m1 : (lostL im j).length + 1 ≤ maxLen := by unfold maxLen; omega
      have m2 : ((lostL im j).length + 1) * 8 ≤ 140737488355328 := by omega
      clear hd hlen2
      go_wp2_with (at_builtin; refine wpList_append_own_at _ rfl (.tmp 19) (.tmp 21) 40 rfl w.heap.size 3 i0 _ 1 8 Try.underlying40 hi hz0 hz1 hz2 rfl (by decide) _ (lostL im j).length (intsV (lostL im j)) rfl (HV.out.alloc (.cells #[.int .i64 (j : Int)] 3)) _ 1 1 [.int .i64 (j : Int)] rfl rfl (cells_new_at _ [.int .i64 (j : Int)] _ (by simp)) (by simp [Value.oneCell']) m1 m2 (by simp; omega) ?_; intro v' w6 hown hgrow _ hat; have HOW := Lib.hid hown; have HGR := Lib.hid hgrow; clear hown hgrow hat)
      go_roundw
      case rel => exact ⟨j + 1, by omega, by go_num, Lib.hid (by rw [HLN.out, HY.out]; simpa [intsV] using HOW.out), Lib.hid (below_grown' (HV.out.alloc (.cells #[.int .i64 (j : Int)] 3)) (Nat.le_refl _) (ext_alloc hbr.out _) HGR.out), Lib.hid (Blk.grownF (BMr.out.al (.cells #[.int .i64 (j : Int)] 3)) HGR.out (own_nbT (HV.out.alloc (.cells #[.int .i64 (j : Int)] 3)) (BMr.out.al (.cells #[.int .i64 (j : Int)] 3)) (by decide)))⟩
      case measure => simp [intOf]; omega
    · have e1 : (d == -1) = false := by simpa using e
      have HNo := Lib.hid (lostL_no hd e)
      clear hd e
      go_wp2
      go_roundw
      case rel => exact ⟨j + 1, by omega, by go_num, by rw [HNo.out]; exact HV, hbr, BMr⟩
      case measure => simp [intOf]; omega
  · obtain rfl : j = m := by omega
    obtain ⟨A', c', rfl⟩ := own_shape HV.out
    go_wp2
    go_ret
    exact ⟨A', c', rfl, HV.out, hbr.out⟩
def lsI (im : List Int) (n : Nat) (k : Nat) : Prop := im[k]? = some (-1) ∧ k < n
def stepOkM (k v : Int) : Bool := if k = 1 then inB v 1 9 else if k = 2 then decide (v = 0) else if k = 3 then inB v 0 7 else if k = 4 then inB v 1 99999999 else decide (k = 5) && inB v 0 9
set_option maxHeartbeats 4000000 in
theorem l21Step_any (k v : Int) (w : World) : Calls Try.prog 99 #[.agg #[.int .i64 k, .int .i64 v]] w (RetV (.bool (stepOkM k v)) w) := by
 have hb0 := Lib.hid (ext_alloc (ext_refl w) (.cells #[.int .i64 k, .int .i64 v] 51))
 rcases (show k = 1 ∨ k = 2 ∨ k = 3 ∨ k = 4 ∨ k = 5 ∨ (k ≠ 1 ∧ k ≠ 2 ∧ k ≠ 3 ∧ k ≠ 4 ∧ k ≠ 5) by omega) with rfl | rfl | rfl | rfl | rfl | ⟨h1, h2, h3, h4, h5⟩
 · obtain ⟨B, hB⟩ : ∃ B, inB v 1 9 = B := ⟨_, rfl⟩
   have E := Lib.hid (show stepOkM 1 v = B by unfold stepOkM; rw [if_pos rfl, hB])
   go_enter Try.func99, Try.ntmps99
   go_wp2_with fail
   refine (l1In_b _ _ _ _ _ hB).mono ?_
   rintro e w1 ⟨rfl, hb⟩
   go_wp2
   go_ret
   exact ⟨ret_bool E.out.symm, ext_trans hb0.out hb⟩
 · have E := Lib.hid (show stepOkM 2 v = decide (v = 0) by unfold stepOkM; rw [if_neg (by decide), if_pos rfl])
   by_cases hv : v = 0
   · have e1 : (v == 0) = true := by simpa using hv
     have e2 := Lib.hid (show decide (v = 0) = true by simpa using hv)
     clear hv
     go_enter Try.func99, Try.ntmps99
     go_wp2
     go_ret
     exact ⟨ret_bool (by rw [E.out, e2.out]), hb0.out⟩
   · have e1 : (v == 0) = false := by simpa using hv
     have e2 := Lib.hid (show decide (v = 0) = false by simpa using hv)
     clear hv
     go_enter Try.func99, Try.ntmps99
     go_wp2
     go_ret
     exact ⟨ret_bool (by rw [E.out, e2.out]), hb0.out⟩
 · obtain ⟨B, hB⟩ : ∃ B, inB v 0 7 = B := ⟨_, rfl⟩
   have E := Lib.hid (show stepOkM 3 v = B by unfold stepOkM; rw [if_neg (by decide), if_neg (by decide), if_pos rfl, hB])
   go_enter Try.func99, Try.ntmps99
   go_wp2_with fail
   refine (l1In_b _ _ _ _ _ hB).mono ?_
   rintro e w1 ⟨rfl, hb⟩
   go_wp2
   go_ret
   exact ⟨ret_bool E.out.symm, ext_trans hb0.out hb⟩
 · obtain ⟨B, hB⟩ : ∃ B, inB v 1 99999999 = B := ⟨_, rfl⟩
   have E := Lib.hid (show stepOkM 4 v = B by unfold stepOkM; rw [if_neg (by decide), if_neg (by decide), if_neg (by decide), if_pos rfl, hB])
   go_enter Try.func99, Try.ntmps99
   go_wp2_with fail
   refine (l1In_b _ _ _ _ _ hB).mono ?_
   rintro e w1 ⟨rfl, hb⟩
   go_wp2
   go_ret
   exact ⟨ret_bool E.out.symm, ext_trans hb0.out hb⟩
 · obtain ⟨B, hB⟩ : ∃ B, inB v 0 9 = B := ⟨_, rfl⟩
   have E := Lib.hid (show stepOkM 5 v = B by unfold stepOkM; rw [if_neg (by decide), if_neg (by decide), if_neg (by decide), if_neg (by decide), hB]; simp)
   go_enter Try.func99, Try.ntmps99
   go_wp2_with fail
   refine (l1In_b _ _ _ _ _ hB).mono ?_
   rintro e w1 ⟨rfl, hb⟩
   go_wp2
   go_ret
   exact ⟨ret_bool E.out.symm, ext_trans hb0.out hb⟩
 · have E := Lib.hid (show stepOkM k v = false by unfold stepOkM; rw [if_neg h1, if_neg h2, if_neg h3, if_neg h4]; simp [h5])
   have b1 : (k == 1) = false := by simpa using h1
   have b2 : (k == 2) = false := by simpa using h2
   have b3 : (k == 3) = false := by simpa using h3
   have b4 : (k == 4) = false := by simpa using h4
   have b5 : (k == 5) = false := by simpa using h5
   clear h1 h2 h3 h4 h5
   go_enter Try.func99, Try.ntmps99
   go_wp2
   go_ret
   exact ⟨ret_bool E.out.symm, hb0.out⟩
end Go.Proofs.Ytlkfffohjeoooaa
