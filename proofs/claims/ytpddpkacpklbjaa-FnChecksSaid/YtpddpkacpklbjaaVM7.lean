/- TakeNumber, BorrowsOf both; AddDigit, TakeDigit, CarriesOf: the program's. -/
import Derived.Test.YtpddpkacpklbjaaVFrY
import Derived.Test.YtpddpkacpklbjaaVM6
import Derived.Test.YtpddpkacpklbjaaVM4
import Derived.Test.YtpddpkacpklbjaaVFdC
import Derived.Test.YtpddpkacpklbjaaVM1
namespace Go.Proofs.Ytpddpkacpklbjaa
open Go.RowKit
set_option linter.unusedVariables false
set_option linter.unusedSimpArgs false
def takeNF (u lo : Int) (l : List R2) (m : Int) : Int × Int × List R2 := if takeNok u lo l m = true then (u, lo, rodsD (takeNst l m).ds) else (0, 0, [])
end Go.Proofs.Ytpddpkacpklbjaa
namespace Go.Proofs.Ytpddpkacpklbjaa
open Go.RowKit
set_option linter.unusedVariables false
set_option linter.unusedSimpArgs false
theorem addNF_len (u lo : Int) (l : List R2) (m : Int) : (addNF u lo l m).2.2.length ≤ 8 := by
 unfold addNF
 split
 · rename_i h
   unfold addNok at h
   simp only [Bool.and_eq_true] at h
   have hn := (frB_head (good_fr h.1)).2.2.2
   show (rodsD _).length ≤ 8
   rw [rodsD_len, addNst, addN_len]
   show (dsOf l).length ≤ 8
   rw [dsOf_len]
   exact hn
 · exact Nat.zero_le _
theorem prodF_len (u lo : Int) (l : List R2) (a b : Int) : (prodF u lo l a b).2.2.length ≤ 8 := by
 unfold prodF
 split
 · exact addNF_len _ _ _ _
 · exact Nat.zero_le _
end Go.Proofs.Ytpddpkacpklbjaa
namespace Go.Proofs.Ytpddpkacpklbjaa
open Go.RowKit
set_option linter.unusedVariables false
set_option linter.unusedSimpArgs false
theorem mostL_any (a b : Int) (w : World) : Calls Try.prog 59 #[.int .i64 a, .int .i64 b] w fun e w' => e = .returned (.int .i64 (if b < a then a else b)) ∧ w = w' := by
 by_cases h : b < a
 · rw [if_pos h]
   go_enter Try.func59, Try.ntmps59
   go_wp2
   go_ret
   exact ⟨rfl, rfl⟩
 · rw [if_neg h]
   go_enter Try.func59, Try.ntmps59
   go_wp2
   go_ret
   exact ⟨rfl, rfl⟩
theorem l2Good_b (u lo : Int) (A : Option Addr) (n c : Nat) (l : List R2) (w : World) (b : Bool) (hn : n ≤ 1048576) (h : Reads w w.heap.size 2 A n (rowsV2 l)) (hb : frB u lo l = b) :
 Calls Try.prog 91 #[frV u lo A n c] w (RetV (.bool b) w) := by subst hb; exact l2Good_any u lo A n c l w hn h
end Go.Proofs.Ytpddpkacpklbjaa
namespace Go.Proofs.Ytpddpkacpklbjaa
open Go.RowKit
set_option linter.unusedVariables false
set_option linter.unusedSimpArgs false
theorem cur0T {w : World} {n : Nat} {A : Option Addr} (h : Code w w.heap.size A n) (hn : n ≤ 65536) (c : Nat) : CurAt (w.alloc (.cells #[.slice A n c, .int .i64 0, .int .u64 0] 75)) w.heap.size 0 := h.cur (by omega) c
def fctB (a : Int) : Prop := -1 ≤ a ∧ a ≤ 10000
theorem mul_bd {a b : Int} (ha : -1 ≤ a ∧ a ≤ 10000) (hb : -1 ≤ b ∧ b ≤ 10000) : -20001 ≤ a * b ∧ a * b ≤ 100010001 := by
 have h1 := Int.mul_nonneg (show 0 ≤ 10000 - a by omega) (show 0 ≤ b + 1 by omega)
 have h2 := Int.mul_nonneg (show 0 ≤ a + 1 by omega) (show 0 ≤ b + 1 by omega)
 rw [Int.sub_mul, Int.mul_add, Int.mul_add, Int.mul_one, Int.mul_one] at h1
 rw [Int.add_mul, Int.mul_add, Int.mul_one, Int.one_mul] at h2
 omega
set_option maxRecDepth 100000 in
set_option maxHeartbeats 8000000 in
theorem factor_any (g a : Nat) (w : World) (h : CurAt w g a) (ha : a ≤ 500000000000) :
 Calls Try.prog 54 #[.pointer (some ⟨g, 0, none⟩)] w (DrawIn g a 2 (-1) 10000 w) := by
 have HC := Lib.hid h
 clear h
 go_enter Try.func54, Try.ntmps54
 go_wp2_with fail
 refine (among_lit g a (-1) 10000 [0, 1, 7, 9, 12, 25, 36, 99, 105, 384, 640, 999, 2048, 9999, 10000, -1] 3 _ HC.out (by omega) (by decide) (by decide) (by decide) _ rfl (by simp)).mono ?_
 rintro e w1 ⟨v, a1, rfl, v0, v1, ha1, hc, hg⟩
 have HC1 := Lib.hid hc
 have HG1 := Lib.hid hg
 clear hc hg
 go_wp2
 go_ret
 exact ⟨_, _, rfl, v0, v1, ha1, HC1.out, HG1.out⟩
set_option maxRecDepth 100000 in
set_option maxHeartbeats 8000000 in
theorem drawPartsOf_any (Ac : Option Addr) (nc cc : Nat) (w : World) (h : Code w w.heap.size Ac nc) (hn : nc ≤ 65536) :
 Calls Try.prog 38 #[.slice Ac nc cc] w fun e w' => ∃ x y : Int, e = .returned (.tuple #[.int .i64 x, .int .i64 y]) ∧ fctB x ∧ fctB y ∧ Below w.heap.size w w' := by
 have HC0 := Lib.hid (cur0T h hn cc)
 have hbx := Lib.hid (ext_alloc (ext_refl w) (.cells #[.slice Ac nc cc, .int .i64 0, .int .u64 0] 75))
 clear h
 go_enter Try.func38, Try.ntmps38
 go_wp2_with fail
 refine (factor_any _ 0 _ HC0.out (by omega)).mono ?_
 rintro e w1 ⟨x, a1, rfl, x0, x1, ha1, hc, hg⟩
 have HC1 := Lib.hid hc
 have HB1 := Lib.hid (Gr.below hbx.out hg (Nat.le_refl _))
 clear hc hg HC0
 go_wp2_with fail
 refine (factor_any _ a1 _ HC1.out (by omega)).mono ?_
 rintro e w2 ⟨y, a2, rfl, y0, y1, ha2, hc, hg⟩
 have HC2 := Lib.hid hc
 have HB2 := Lib.hid (Gr.below HB1.out hg (Nat.le_refl _))
 clear hc hg HC1
 go_wp2
 go_ret2
 exact ⟨x, y, rfl, ⟨x0, x1⟩, ⟨y0, y1⟩, HB2.out⟩
set_option maxRecDepth 100000 in
set_option maxHeartbeats 8000000 in
theorem drawTimesCarries_any (Ac : Option Addr) (nc cc : Nat) (w : World) (h : Code w w.heap.size Ac nc) (hn : nc ≤ 65536) :
 Calls Try.prog 36 #[.slice Ac nc cc] w fun e w' => ∃ x y : Int, e = .returned (.tuple #[.int .i64 x, .int .i64 y]) ∧ fctB x ∧ fctB y ∧ Below w.heap.size w w' := by
 have H := Lib.hid h
 clear h
 go_enter Try.func36, Try.ntmps36
 go_wp2_with fail
 refine (drawPartsOf_any Ac nc cc _ H.out hn).mono ?_
 rintro e w1 ⟨x, y, rfl, hx, hy, hb⟩
 go_wp2
 go_ret2
 exact ⟨x, y, rfl, hx, hy, hb⟩
set_option maxRecDepth 100000 in
set_option maxHeartbeats 8000000 in
theorem drawByDoubling_any (Ac : Option Addr) (nc cc : Nat) (w : World) (h : Code w w.heap.size Ac nc) (hn : nc ≤ 65536) :
 Calls Try.prog 37 #[.slice Ac nc cc] w fun e w' => ∃ x y : Int, e = .returned (.tuple #[.int .i64 x, .int .i64 y]) ∧ fctB x ∧ fctB y ∧ Below w.heap.size w w' := by
 have H := Lib.hid h
 clear h
 go_enter Try.func37, Try.ntmps37
 go_wp2_with fail
 refine (drawPartsOf_any Ac nc cc _ H.out hn).mono ?_
 rintro e w1 ⟨x, y, rfl, hx, hy, hb⟩
 go_wp2
 go_ret2
 exact ⟨x, y, rfl, hx, hy, hb⟩
set_option maxRecDepth 100000 in
set_option maxHeartbeats 8000000 in
theorem drawTotals_any (Ac : Option Addr) (nc cc : Nat) (w : World) (h : Code w w.heap.size Ac nc) (hn : nc ≤ 65536) :
 Calls Try.prog 6 #[.slice Ac nc cc] w fun e w' => ∃ x y : Int, e = .returned (.tuple #[.int .i64 x, .int .i64 y]) ∧ fctB x ∧ fctB y ∧ Below w.heap.size w w' := by
 have H := Lib.hid h
 clear h
 go_enter Try.func6, Try.ntmps6
 go_wp2_with fail
 refine (drawPartsOf_any Ac nc cc _ H.out hn).mono ?_
 rintro e w1 ⟨x, y, rfl, hx, hy, hb⟩
 go_wp2
 go_ret2
 exact ⟨x, y, rfl, hx, hy, hb⟩
set_option maxRecDepth 100000 in
set_option maxHeartbeats 8000000 in
theorem drawDigitProducts_any (Ac : Option Addr) (nc cc : Nat) (w : World) (h : Code w w.heap.size Ac nc) (hn : nc ≤ 65536) :
 Calls Try.prog 32 #[.slice Ac nc cc] w fun e w' => ∃ x d : Int, e = .returned (.tuple #[.int .i64 x, .int .i64 d]) ∧ fctB x ∧ Below w.heap.size w w' := by
 have HC0 := Lib.hid (cur0T h hn cc)
 have hbx := Lib.hid (ext_alloc (ext_refl w) (.cells #[.slice Ac nc cc, .int .i64 0, .int .u64 0] 75))
 clear h
 go_enter Try.func32, Try.ntmps32
 go_wp2_with fail
 refine (factor_any _ 0 _ HC0.out (by omega)).mono ?_
 rintro e w1 ⟨x, a1, rfl, x0, x1, ha1, hc, hg⟩
 have HC1 := Lib.hid hc
 have HB1 := Lib.hid (Gr.below hbx.out hg (Nat.le_refl _))
 clear hc hg HC0
 go_wp2_with fail
 refine (pick_any _ a1 11 _ HC1.out (by omega) (by omega) (by omega)).mono ?_
 rintro e w2 ⟨p, a2, rfl, p0, p1, ha2, hc, hg⟩
 have HC2 := Lib.hid hc
 have HB2 := Lib.hid (Gr.below HB1.out hg (Nat.le_refl _))
 clear hc hg HC1
 go_wp2_with fail
 refine (pick_any _ a2 17 _ HC2.out (by omega) (by omega) (by omega)).mono ?_
 rintro e w3 ⟨q, a3, rfl, q0, q1, ha3, hc, hg⟩
 have HC3 := Lib.hid hc
 have HB3 := Lib.hid (Gr.below HB2.out hg (Nat.le_refl _))
 clear hc hg HC2
 have hq : 0 ≤ q / 16 ∧ q / 16 ≤ 1 := by omega
 have htd : q.tdiv 16 = q / 16 := Int.tdiv_eq_ediv_of_nonneg q0
 go_wp2
 go_ret2
 exact ⟨_, _, rfl, ⟨x0, x1⟩, HB3.out⟩
set_option maxRecDepth 100000 in
set_option maxHeartbeats 8000000 in
theorem drawCastingOut_any (Ac : Option Addr) (nc cc : Nat) (w : World) (h : Code w w.heap.size Ac nc) (hn : nc ≤ 65536) :
 Calls Try.prog 30 #[.slice Ac nc cc] w fun e w' => ∃ x y s : Int, e = .returned (.tuple #[.int .i64 x, .int .i64 y, .int .i64 s]) ∧ fctB x ∧ fctB y ∧ s ≤ 1000000000 ∧ Below w.heap.size w w' := by
 have HC0 := Lib.hid (cur0T h hn cc)
 have hbx := Lib.hid (ext_alloc (ext_refl w) (.cells #[.slice Ac nc cc, .int .i64 0, .int .u64 0] 75))
 clear h
 go_enter Try.func30, Try.ntmps30
 go_wp2_with fail
 refine (factor_any _ 0 _ HC0.out (by omega)).mono ?_
 rintro e w1 ⟨x, a1, rfl, x0, x1, ha1, hc, hg⟩
 have HC1 := Lib.hid hc
 have HB1 := Lib.hid (Gr.below hbx.out hg (Nat.le_refl _))
 clear hc hg HC0
 go_wp2_with fail
 refine (factor_any _ a1 _ HC1.out (by omega)).mono ?_
 rintro e w2 ⟨y, a2, rfl, y0, y1, ha2, hc, hg⟩
 have HC2 := Lib.hid hc
 have HB2 := Lib.hid (Gr.below HB1.out hg (Nat.le_refl _))
 clear hc hg HC1
 have hp := mul_bd ⟨x0, x1⟩ ⟨y0, y1⟩
 obtain ⟨p, hp9⟩ : ∃ o9, x * y = o9 := ⟨_, rfl⟩
 rw [hp9] at hp
 have hwp : wrap64 p = p := by unfold wrap64; omega
 have hwp2 : IntKind.i64.wrap p = p := by rw [IntKind.wrap_i64]; omega
 go_wp2_with fail
 refine (among_lit _ a2 (-90) 100 [0, 0, 1, 9, -90, 100] 3 _ HC2.out (by omega) (by decide) (by decide) (by decide) _ rfl (by simp)).mono ?_
 rintro e w3 ⟨z, a3, rfl, z0, z1, ha3, hc, hg⟩
 have HC3 := Lib.hid hc
 have HB3 := Lib.hid (Gr.below HB2.out hg (Nat.le_refl _))
 clear hc hg HC2
 have hs9 : wrap64 (p + z) = p + z := by unfold wrap64; omega
 have hs8 : IntKind.i64.wrap (p + z) = p + z := by rw [IntKind.wrap_i64]; omega
 have HMO := Lib.hid (fun w => mostL_any (-1) (p + z) w)
 obtain ⟨s, hs⟩ : ∃ o9, (if p + z < -1 then -1 else p + z) = o9 := ⟨_, rfl⟩
 rw [hs] at HMO
 have hsb : s ≤ 1000000000 := by split at hs <;> omega
 clear hs
 go_wp2_with fail
 refine (HMO.out _).mono ?_
 rintro e wz ⟨rfl, rfl⟩
 go_wp2
 refine bodyPost_ret (v := .tuple #[.int .i64 x, .int .i64 y, .int .i64 s]) (by simp [results, Try.results30, go_sem, *]) rfl ?_
 exact ⟨x, y, s, rfl, ⟨x0, x1⟩, ⟨y0, y1⟩, hsb, HB3.out⟩
set_option maxRecDepth 100000 in
set_option maxHeartbeats 8000000 in
theorem drawWrongDigits_any (Ac : Option Addr) (nc cc : Nat) (w : World) (h : Code w w.heap.size Ac nc) (hn : nc ≤ 65536) :
 Calls Try.prog 26 #[.slice Ac nc cc] w fun e w' => ∃ x y s : Int, e = .returned (.tuple #[.int .i64 x, .int .i64 y, .int .i64 s]) ∧ fctB x ∧ fctB y ∧ s ≤ 1000000000 ∧ Below w.heap.size w w' := by
 have HC0 := Lib.hid (cur0T h hn cc)
 have hbx := Lib.hid (ext_alloc (ext_refl w) (.cells #[.slice Ac nc cc, .int .i64 0, .int .u64 0] 75))
 clear h
 go_enter Try.func26, Try.ntmps26
 go_wp2_with fail
 refine (factor_any _ 0 _ HC0.out (by omega)).mono ?_
 rintro e w1 ⟨x, a1, rfl, x0, x1, ha1, hc, hg⟩
 have HC1 := Lib.hid hc
 have HB1 := Lib.hid (Gr.below hbx.out hg (Nat.le_refl _))
 clear hc hg HC0
 go_wp2_with fail
 refine (factor_any _ a1 _ HC1.out (by omega)).mono ?_
 rintro e w2 ⟨y, a2, rfl, y0, y1, ha2, hc, hg⟩
 have HC2 := Lib.hid hc
 have HB2 := Lib.hid (Gr.below HB1.out hg (Nat.le_refl _))
 clear hc hg HC1
 have hp := mul_bd ⟨x0, x1⟩ ⟨y0, y1⟩
 obtain ⟨p, hp9⟩ : ∃ o9, x * y = o9 := ⟨_, rfl⟩
 rw [hp9] at hp
 have hwp : wrap64 p = p := by unfold wrap64; omega
 have hwp2 : IntKind.i64.wrap p = p := by rw [IntKind.wrap_i64]; omega
 go_wp2_with fail
 refine (one_any _ a2 8 _ HC2.out (by omega) (by omega) (by omega)).mono ?_
 rintro e w3 ⟨b, a3, rfl, ha3, hc, hg⟩
 have HC3 := Lib.hid hc
 have HB3 := Lib.hid (Gr.below HB2.out hg (Nat.le_refl _))
 clear hc hg HC2
 cases b
 · have HMO := Lib.hid (fun w => mostL_any 0 p w)
   obtain ⟨m, hm⟩ : ∃ o9, (if p < 0 then 0 else p) = o9 := ⟨_, rfl⟩
   rw [hm] at HMO
   have hmb : 0 ≤ m ∧ m ≤ 100010001 := by split at hm <;> omega
   clear hm
   go_wp2_with fail
   refine (HMO.out _).mono ?_
   rintro e wz ⟨rfl, rfl⟩
   go_wp2_with fail
   refine (among_lit _ a3 (0) 5050 [0, 1, 10, 900, 5050] 3 _ HC3.out (by omega) (by decide) (by decide) (by decide) _ rfl (by simp)).mono ?_
   rintro e w4 ⟨z, a4, rfl, z0, z1, ha4, hc, hg⟩
   have HC4 := Lib.hid hc
   have HB4 := Lib.hid (Gr.below HB3.out hg (Nat.le_refl _))
   clear hc hg HC3
   have hmz : wrap64 (m + z) = m + z := by unfold wrap64; omega
   have hmz2 : IntKind.i64.wrap (m + z) = m + z := by rw [IntKind.wrap_i64]; omega
   go_wp2
   refine bodyPost_ret (v := .tuple #[.int .i64 x, .int .i64 y, .int .i64 (m + z)]) (by simp [results, Try.results26, go_sem, *]) rfl ?_
   exact ⟨x, y, _, rfl, ⟨x0, x1⟩, ⟨y0, y1⟩, by omega, HB4.out⟩
 · go_wp2_with fail
   refine (among_lit _ a3 (-1) 100000000 [-1, 0, 99999999, 100000000] 3 _ HC3.out (by omega) (by decide) (by decide) (by decide) _ rfl (by simp)).mono ?_
   rintro e w4 ⟨z, a4, rfl, z0, z1, ha4, hc, hg⟩
   have HC4 := Lib.hid hc
   have HB4 := Lib.hid (Gr.below HB3.out hg (Nat.le_refl _))
   clear hc hg HC3
   go_wp2
   refine bodyPost_ret (v := .tuple #[.int .i64 x, .int .i64 y, .int .i64 z]) (by simp [results, Try.results26, go_sem, *]) rfl ?_
   exact ⟨x, y, z, rfl, ⟨x0, x1⟩, ⟨y0, y1⟩, by omega, HB4.out⟩

end Go.Proofs.Ytpddpkacpklbjaa
