/- replaceCost. -/
import Derived.Test.YtphhelmcaehclaaVWsC
import Derived.Test.YtphhelmcaehclaaVPlM
namespace Go.Proofs.Ytphhelmcaehclaa
open Go.RowKit
set_option linter.unusedVariables false
set_option linter.unusedSimpArgs false
set_option maxRecDepth 100000 in
theorem replaceCost_any (a b c d e f : Int) (w : World) : Calls Try.prog 81 #[.agg #[.int .i64 a, .int .i64 b, .int .i64 c], .agg #[.int .i64 d, .int .i64 e, .int .i64 f]] w fun en w' => en = .returned (.int .i64 (cost3 ⟨a, b, c⟩ ⟨d, e, f⟩)) ∧ Below w.heap.size w w' := by
 have hE := eqMv a b c d e f
 have hbx := Lib.hid (ext_alloc (ext_alloc (ext_refl w) (.cells #[.int .i64 a, .int .i64 b, .int .i64 c] 75)) (.cells #[.int .i64 d, .int .i64 e, .int .i64 f] 75))
 by_cases h : a = d ∧ b = e ∧ c = f
 · have e1 : (a == d && b == e && c == f) = true := by simp [h.1, h.2.1, h.2.2]
   rw [e1] at hE
   rw [show cost3 ⟨a, b, c⟩ ⟨d, e, f⟩ = 0 by unfold cost3; rw [if_pos h]]
   clear h e1
   go_enter Try.func81, Try.ntmps81
   go_wp2
   go_ret
   exact ⟨rfl, hbx.out⟩
 · have e1 : (a == d && b == e && c == f) = false := by
    cases hx : (a == d && b == e && c == f)
    · rfl
    · simp only [Bool.and_eq_true, beq_iff_eq] at hx
      exact absurd ⟨hx.1.1, hx.1.2, hx.2⟩ h
   rw [e1] at hE
   by_cases h2 : a = d
   · rw [show cost3 ⟨a, b, c⟩ ⟨d, e, f⟩ = 1 by unfold cost3; rw [if_neg h, if_pos h2]]
     have e2 : (a == d) = true := by simp [h2]
     clear h h2 e1
     go_enter Try.func81, Try.ntmps81
     go_wp2
     go_ret
     exact ⟨rfl, hbx.out⟩
   · rw [show cost3 ⟨a, b, c⟩ ⟨d, e, f⟩ = 2 by unfold cost3; rw [if_neg h, if_neg h2]]
     have e2 : (a == d) = false := by simp [h2]
     clear h h2 e1
     go_enter Try.func81, Try.ntmps81
     go_wp2
     go_ret
     exact ⟨rfl, hbx.out⟩
end Go.Proofs.Ytphhelmcaehclaa
