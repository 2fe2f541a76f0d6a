/- The program's AppendRecord returns what the reference's returns, for all arguments: the law FnExactAppendRecord returns true for all arguments. No conditions. -/
import Derived.Test.YtdielldikdmjpaaLaw
import Derived.Test.YtdielldikdmjpaaLawRec
import Derived.Test.YtdielldikdmjpaaLgL2
namespace Go.Proofs.Ytdielldikdmjpaa
open Go.ChangeShapes Go.WideShapes Go.ChangeAt Go.RowKit Go.Deep Go.Joins
set_option linter.unusedVariables false
set_option maxRecDepth 100000 in
theorem FnExactAppendRecord_lifted (os : Os) (started : os.Started) (H : Type) (enc : TypeId × Value → H) :
    ReturnsInHanded {} Try.checked os 9 .any (Rows.fnExactAppendRecordSpec.pre6 enc Try.prog Try.f9 Rows.fnExactAppendRecordRow.domain false) (Rows.fnExactAppendRecordSpec.post enc Try.prog Try.f9 false true false false) := by
  refine returnsInHanded_of_change (C := Try.checked) own started (by kernel_rfl) Try.func9
    (ChangeSpec.witness6 (enc := enc) (C := Try.checked) false ⟨#[], #[.agg #[.string ⟨#[]⟩, .string ⟨#[]⟩, .int .i64 0], .agg #[.string ⟨#[]⟩, .string ⟨#[]⟩]], []⟩ 8 (by kernel_rfl) (by kernel_rfl) (by kernel_rfl) (by kernel_rfl)) ?_
  intro W base args ds gs before hval0 hW hcnd _
  have hval : ∀ (j : Nat) t v, Try.f9.params[j]? = some t → args[j]? = some v → Value.okWide Try.prog W .any base t v := hval0
  have hW' := hW
  obtain ⟨p, q, hA0, hV, rfl, hfz, hnd⟩ := hW
  have hA : DataW.TrodAll enc Try.prog W 0 (fun _ => true) true Try.f9.params.toList args.toList ds p := hA0
  rw [Try.params9] at hA hval
  obtain ⟨v0, v1, d0, d1, p0, p1, rfl, rfl, rfl, h0, h1⟩ := trodAll_two hA
  obtain ⟨rfl, rfl⟩ := trodVars_none hV
  clear hA0 hval0
  have fin : ∀ (e : Ending) (W' : World), (e = .returned (.bool true) ∧ Below W.heap.size W W') → ∃ v, e = .returned v ∧ Rows.fnExactAppendRecordSpec.post enc Try.prog Try.f9 false true false false W _ v W' := fun e W' h => ⟨_, h.1, law_post laidOut (by rw [Try.params9]; decide +kernel) rfl hW' ⟨rfl, rfl, rfl⟩ (by kernel_rfl) Try.underlying4 h.2⟩
  obtain ⟨a0, b0, z0, rfl, ha0, hb0, hz0, hy0⟩ := open_log (hval 0 _ v0 rfl rfl) h0
  obtain ⟨c1, q1, rfl, hc1, hq1⟩ := open_rec (hval 1 _ v1 rfl rfl) h1
  exact (law_AppendRecord a0 b0 z0 c1 q1 W ha0 hb0 hz0 hy0 hc1 hq1).mono fin
theorem FnExactAppendRecord_holds : Rows.FnExactAppendRecordSaid :=
  OpenClaim.holds_of_wide 9 Try.f9 rfl rfl rfl rfl rfl rfl rfl ⟨rfl, rfl, rfl, rfl, rfl⟩ rfl rfl rfl rfl rfl (by kernel_rfl) Try.func9 (by kernel_rfl)
    (of_decide_eq_true (by kernel_rfl)) (by unfold Func.isWrapper; first | (rw [if_pos (by decide +kernel)]; kernel_rfl) | (rw [if_neg (by decide +kernel)]; exact ⟨rfl, rfl⟩))
    (fun os started H enc _ => FnExactAppendRecord_lifted os started H enc)
#print axioms FnExactAppendRecord_holds
end Go.Proofs.Ytdielldikdmjpaa
