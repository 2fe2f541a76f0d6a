
/- The text of a student: l25Text. -/
import Derived.Test.YtclihlihaigddaaSc
import Derived.Test.YtclihlihaigddaaSmall
namespace Go.Proofs.Ytclihlihaigddaa
open Go.RowKit
set_option linter.unusedVariables false
set_option linter.unusedSimpArgs false
def stuT (r : R5) : ByteArray := ⟨#[103, 114, 97, 100, 101, 32]⟩ ++ decI r.b ++ ⟨#[32, 104, 111, 117, 114, 115, 32]⟩ ++ decI r.c ++ ⟨#[32, 112, 97, 105, 100, 32]⟩ ++ decI r.d ++ ⟨#[32, 102, 97, 105, 108, 115, 32]⟩ ++ decI r.e
theorem stu_bounds {r : R5} (h : stuB r = true) : (1 ≤ r.a ∧ r.a ≤ 99) ∧ (0 ≤ r.b ∧ r.b ≤ 10) ∧ (0 ≤ r.c ∧ r.c ≤ 999) ∧ (0 ≤ r.d ∧ r.d ≤ 4365) ∧ (0 ≤ r.e ∧ r.e ≤ 9) := by
  simp only [stuB, Bool.and_eq_true, inB_iff] at h
  obtain ⟨⟨⟨⟨h1, h2⟩, h3⟩, h4⟩, h5⟩ := h
  exact ⟨h1, h2, h3, h4, h5⟩
set_option maxHeartbeats 1000000 in
set_option maxRecDepth 100000 in
theorem l25Text_any (r : R5) (w : World) (h : stuB r = true) :
    Calls Try.prog 86 #[r.val] w fun e w' => e = .returned (.string (stuT r)) ∧ Below w.heap.size w w' := by
  obtain ⟨_, h2, h3, h4, h5⟩ := stu_bounds h
  have z1 := decI_size r.b
  have z2 := decI_size r.c
  have z3 := decI_size r.d
  have z4 := decI_size r.e
  have hE : Hid (stuT r = ⟨#[103, 114, 97, 100, 101, 32]⟩ ++ decI r.b ++ ⟨#[32, 104, 111, 117, 114, 115, 32]⟩ ++ decI r.c ++ ⟨#[32, 112, 97, 105, 100, 32]⟩ ++ decI r.d ++ ⟨#[32, 102, 97, 105, 108, 115, 32]⟩ ++ decI r.e) := Lib.hid rfl
  rw [hE.out]
  clear hE h
  have b1 : -9223372036854775807 ≤ r.b ∧ r.b ≤ 9223372036854775807 := by omega
  have b2 : -9223372036854775807 ≤ r.c ∧ r.c ≤ 9223372036854775807 := by omega
  have b3 : -9223372036854775807 ≤ r.d ∧ r.d ≤ 9223372036854775807 := by omega
  have b4 : -9223372036854775807 ≤ r.e ∧ r.e ≤ 9223372036854775807 := by omega
  go_enter Try.func86, Try.ntmps86
  go_wp2
  (refine wp_region_later (by kernel_rfl) (by kernel_rfl) ?_; (repeat (go_big_quiet_step ((go_at_call 85; exact Calls.later_of (l1Num_any _ _ (by omega) (by omega)))))); refine wpQuiet_nil ?_; intro w1 hw1; obtain ⟨⟨wl, hbL⟩, hw1'⟩ := hw1; simp only at hw1'; subst hw1'; obtain ⟨hcL, hfL⟩ := bcell hbL)
  go_wp2
  go_ret
  exact ⟨rfl, (by repeat (first | exact ext_refl _ | assumption | refine ext_alloc ?_ _ | refine ext_drew ?_ | refine ext_drewN ?_ _ | refine ext_set ?_ (by simp <;> omega) _ | refine ext_trans ?_ (by assumption)))⟩
end Go.Proofs.Ytclihlihaigddaa
