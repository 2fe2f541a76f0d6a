
/- within, l1In; 'text' for every number. -/
import Derived.Test.YtclihlihaigddaaNumW
namespace Go.Proofs.Ytclihlihaigddaa
open Go.RowKit
set_option linter.unusedVariables false
set_option linter.unusedSimpArgs false
theorem within_any (n lo hi : Int) (w : World) :
    Calls Try.prog 123 #[.int .i64 n, .int .i64 lo, .int .i64 hi] w fun e w' => e = .returned (.bool (decide (lo ≤ n ∧ n ≤ hi))) ∧ w = w' := by
  go_enter Try.func123, Try.ntmps123
  go_wp2
  all_goals go_ret
  all_goals exact ⟨by simp [*] <;> omega, rfl⟩
theorem l1In_any (n lo hi : Int) (w : World) :
    Calls Try.prog 150 #[.int .i64 n, .int .i64 lo, .int .i64 hi] w fun e w' => e = .returned (.bool (decide (lo ≤ n ∧ n ≤ hi))) ∧ w = w' := by
  go_enter Try.func150, Try.ntmps150
  go_wp2
  all_goals go_ret
  all_goals exact ⟨by simp [*] <;> omega, rfl⟩
theorem text_any (z : Int) (w : World) (h1 : -9223372036854775807 ≤ z) (h2 : z ≤ 9223372036854775807) :
    Calls Try.prog 87 #[.int .i64 z] w fun e w' => e = .returned (.string (decI z)) ∧ Below w.heap.size w w' := by
  by_cases h : z < 0
  · obtain ⟨n, hn⟩ := Int.eq_ofNat_of_zero_le (a := -z) (by omega)
    have hz : z = -(n : Int) := by omega
    subst hz
    have hs := dec_size n
    have e : decI (-(n : Int)) = ⟨#[45]⟩ ++ dec n := by
      unfold decI; rw [if_pos h]; congr 2; omega
    have E := Lib.hid e
    have hc := Lib.hid (fun w => text_pos n w (by omega))
    clear e hn
    rw [E.out]
    go_enter Try.func87, Try.ntmps87
    go_wp2_with (go_at_call 87; refine (hc.out _).mono ?_; rintro e w' ⟨rfl, hb⟩)
    go_ret
    exact ⟨rfl, hb⟩
  · obtain ⟨n, rfl⟩ := Int.eq_ofNat_of_zero_le (a := z) (by omega)
    rw [decI_pos]
    exact text_pos n w (by omega)
theorem lit_size (a : Array UInt8) : (⟨a⟩ : ByteArray).size = a.size := rfl
end Go.Proofs.Ytclihlihaigddaa
