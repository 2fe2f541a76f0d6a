/- TakeNumber, BorrowsOf both; AddDigit, TakeDigit, CarriesOf: the program's. -/
import Derived.Test.YtfechhacmkajdaaVFrY
import Derived.Test.YtfechhacmkajdaaVM6
import Derived.Test.YtfechhacmkajdaaVM4
import Derived.Test.YtfechhacmkajdaaVFdC
import Derived.Test.YtfechhacmkajdaaVM1
namespace Go.Proofs.Ytfechhacmkajdaa
open Go.RowKit
set_option linter.unusedVariables false
set_option linter.unusedSimpArgs false
def takeNF (u lo : Int) (l : List R2) (m : Int) : Int × Int × List R2 := if takeNok u lo l m = true then (u, lo, rodsD (takeNst l m).ds) else (0, 0, [])
end Go.Proofs.Ytfechhacmkajdaa
namespace Go.Proofs.Ytfechhacmkajdaa
open Go.RowKit
set_option linter.unusedVariables false
set_option linter.unusedSimpArgs false
theorem addNF_len (u lo : Int) (l : List R2) (m : Int) : (addNF u lo l m).2.2.length ≤ 8 := by
 unfold addNF
 split
 · rename_i h
   unfold addNok at h
   simp only [Bool.and_eq_true] at h
   have hn := (frB_head (good_fr h.1)).2.2.2
   show (rodsD _).length ≤ 8
   rw [rodsD_len, addNst, addN_len]
   show (dsOf l).length ≤ 8
   rw [dsOf_len]
   exact hn
 · exact Nat.zero_le _
theorem prodF_len (u lo : Int) (l : List R2) (a b : Int) : (prodF u lo l a b).2.2.length ≤ 8 := by
 unfold prodF
 split
 · exact addNF_len _ _ _ _
 · exact Nat.zero_le _
end Go.Proofs.Ytfechhacmkajdaa
namespace Go.Proofs.Ytfechhacmkajdaa
open Go.RowKit
set_option linter.unusedVariables false
set_option linter.unusedSimpArgs false
theorem l2Good_b (u lo : Int) (A : Option Addr) (n c : Nat) (l : List R2) (w : World) (b : Bool) (hn : n ≤ 1048576) (h : Reads w w.heap.size 2 A n (rowsV2 l)) (hb : frB u lo l = b) :
 Calls Try.prog 77 #[frV u lo A n c] w (RetV (.bool b) w) := by subst hb; exact l2Good_any u lo A n c l w hn h
end Go.Proofs.Ytfechhacmkajdaa
namespace Go.Proofs.Ytfechhacmkajdaa
open Go.RowKit
set_option linter.unusedVariables false
set_option linter.unusedSimpArgs false
theorem cur0T {w : World} {n : Nat} {A : Option Addr} (h : Code w w.heap.size A n) (hn : n ≤ 65536) (c : Nat) : CurAt (w.alloc (.cells #[.slice A n c, .int .i64 0, .int .u64 0] 70)) w.heap.size 0 := h.cur (by omega) c
def fctB (a : Int) : Prop := -1 ≤ a ∧ a ≤ 10000
theorem mul_bd {a b : Int} (ha : -1 ≤ a ∧ a ≤ 10000) (hb : -1 ≤ b ∧ b ≤ 10000) : -20001 ≤ a * b ∧ a * b ≤ 100010001 := by
 have h1 := Int.mul_nonneg (show 0 ≤ 10000 - a by omega) (show 0 ≤ b + 1 by omega)
 have h2 := Int.mul_nonneg (show 0 ≤ a + 1 by omega) (show 0 ≤ b + 1 by omega)
 rw [Int.sub_mul, Int.mul_add, Int.mul_add, Int.mul_one, Int.mul_one] at h1
 rw [Int.add_mul, Int.mul_add, Int.mul_one, Int.one_mul] at h2
 omega
set_option maxRecDepth 100000 in
set_option maxHeartbeats 8000000 in
theorem factor_any (g a : Nat) (w : World) (h : CurAt w g a) (ha : a ≤ 500000000000) :
 Calls Try.prog 41 #[.pointer (some ⟨g, 0, none⟩)] w (DrawIn g a 2 (-1) 10000 w) := by
 have HC := Lib.hid h
 clear h
 go_enter Try.func41, Try.ntmps41
 go_wp2_with fail
 refine (among_lit g a (-1) 10000 [0, 1, 7, 9, 12, 25, 36, 99, 105, 384, 640, 999, 2048, 9999, 10000, -1] 3 _ HC.out (by omega) (by decide) (by decide) (by decide) _ rfl (by simp)).mono ?_
 rintro e w1 ⟨v, a1, rfl, v0, v1, ha1, hc, hg⟩
 have HC1 := Lib.hid hc
 have HG1 := Lib.hid hg
 clear hc hg
 go_wp2
 go_ret
 exact ⟨_, _, rfl, v0, v1, ha1, HC1.out, HG1.out⟩
set_option maxRecDepth 100000 in
set_option maxHeartbeats 8000000 in
theorem drawPartsOf_any (Ac : Option Addr) (nc cc : Nat) (w : World) (h : Code w w.heap.size Ac nc) (hn : nc ≤ 65536) :
 Calls Try.prog 25 #[.slice Ac nc cc] w fun e w' => ∃ x y : Int, e = .returned (.tuple #[.int .i64 x, .int .i64 y]) ∧ fctB x ∧ fctB y ∧ Below w.heap.size w w' := by
 have HC0 := Lib.hid (cur0T h hn cc)
 have hbx := Lib.hid (ext_alloc (ext_refl w) (.cells #[.slice Ac nc cc, .int .i64 0, .int .u64 0] 70))
 clear h
 go_enter Try.func25, Try.ntmps25
 go_wp2_with fail
 refine (factor_any _ 0 _ HC0.out (by omega)).mono ?_
 rintro e w1 ⟨x, a1, rfl, x0, x1, ha1, hc, hg⟩
 have HC1 := Lib.hid hc
 have HB1 := Lib.hid (Gr.below hbx.out hg (Nat.le_refl _))
 clear hc hg HC0
 go_wp2_with fail
 refine (factor_any _ a1 _ HC1.out (by omega)).mono ?_
 rintro e w2 ⟨y, a2, rfl, y0, y1, ha2, hc, hg⟩
 have HC2 := Lib.hid hc
 have HB2 := Lib.hid (Gr.below HB1.out hg (Nat.le_refl _))
 clear hc hg HC1
 go_wp2
 go_ret2
 exact ⟨x, y, rfl, ⟨x0, x1⟩, ⟨y0, y1⟩, HB2.out⟩
set_option maxRecDepth 100000 in
set_option maxHeartbeats 8000000 in
theorem drawTotals_any (Ac : Option Addr) (nc cc : Nat) (w : World) (h : Code w w.heap.size Ac nc) (hn : nc ≤ 65536) :
 Calls Try.prog 5 #[.slice Ac nc cc] w fun e w' => ∃ x y : Int, e = .returned (.tuple #[.int .i64 x, .int .i64 y]) ∧ fctB x ∧ fctB y ∧ Below w.heap.size w w' := by
 have H := Lib.hid h
 clear h
 go_enter Try.func5, Try.ntmps5
 go_wp2_with fail
 refine (drawPartsOf_any Ac nc cc _ H.out hn).mono ?_
 rintro e w1 ⟨x, y, rfl, hx, hy, hb⟩
 go_wp2
 go_ret2
 exact ⟨x, y, rfl, hx, hy, hb⟩
end Go.Proofs.Ytfechhacmkajdaa
