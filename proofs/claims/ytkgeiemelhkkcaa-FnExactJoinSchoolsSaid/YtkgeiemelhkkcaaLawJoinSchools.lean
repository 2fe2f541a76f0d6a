/- The program's JoinSchools returns what the reference's returns, for all arguments: the law FnExactJoinSchools returns true for all arguments. No conditions. -/
import Derived.Test.YtkgeiemelhkkcaaLaw
import Derived.Test.YtkgeiemelhkkcaaLawRows5
import Derived.Test.YtkgeiemelhkkcaaJoinLaw
namespace Go.Proofs.Ytkgeiemelhkkcaa
open Go.ChangeShapes Go.WideShapes Go.ChangeAt Go.RowKit Go.Deep Go.Joins
set_option linter.unusedVariables false
set_option maxRecDepth 100000 in
theorem FnExactJoinSchools_lifted (os : Os) (started : os.Started) (H : Type) (enc : TypeId × Value → H) :
    ReturnsInHanded {} Try.checked os 11 .any (Rows.fnExactJoinSchoolsSpec.pre6 enc Try.prog Try.f11 Rows.fnExactJoinSchoolsRow.domain false) (Rows.fnExactJoinSchoolsSpec.post enc Try.prog Try.f11 false true false false) := by
  refine returnsInHanded_of_change (C := Try.checked) own started (by kernel_rfl) Try.func11
    (ChangeSpec.witness6 (enc := enc) (C := Try.checked) false ⟨#[], #[.slice none 0 0, .slice none 0 0], []⟩ 8 (by kernel_rfl) (by kernel_rfl) (by kernel_rfl) (by kernel_rfl)) ?_
  intro W base args ds gs before hval0 hW hcnd _
  have hval : ∀ (j : Nat) t v, Try.f11.params[j]? = some t → args[j]? = some v → Value.okWide Try.prog W .any base t v := hval0
  have hW' := hW
  obtain ⟨p, q, hA0, hV, rfl, hfz, hnd⟩ := hW
  have hA : DataW.TrodAll enc Try.prog W 0 (fun _ => true) true Try.f11.params.toList args.toList ds p := hA0
  rw [Try.params11] at hA hval
  obtain ⟨v0, v1, d0, d1, p0, p1, rfl, rfl, rfl, h0, h1⟩ := trodAll_two hA
  obtain ⟨rfl, rfl⟩ := trodVars_none hV
  clear hA0 hval0
  have fin : ∀ (e : Ending) (W' : World), (e = .returned (.bool true) ∧ Below W.heap.size W W') → ∃ v, e = .returned v ∧ Rows.fnExactJoinSchoolsSpec.post enc Try.prog Try.f11 false true false false W _ v W' := fun e W' h => ⟨_, h.1, law_post laidOut (by rw [Try.params11]; decide +kernel) rfl hW' ⟨rfl, rfl, rfl⟩ (by kernel_rfl) Try.underlying4 h.2⟩
  obtain ⟨A0, len0, cap0, l0, rfl, hlen0, hr0⟩ := open_rows (hval 0 _ v0 rfl rfl) h0
  obtain ⟨A1, len1, cap1, l1, rfl, hlen1, hr1⟩ := open_rows (hval 1 _ v1 rfl rfl) h1
  exact (law_JoinSchools A0 len0 cap0 l0 A1 len1 cap1 l1 W hlen0 hr0 hlen1 hr1).mono fin
theorem FnExactJoinSchools_holds : Rows.FnExactJoinSchoolsSaid :=
  OpenClaim.holds_of_wide 11 Try.f11 rfl rfl rfl rfl rfl rfl rfl ⟨rfl, rfl, rfl, rfl, rfl⟩ rfl rfl rfl rfl rfl (by kernel_rfl) Try.func11 (by kernel_rfl)
    (of_decide_eq_true (by kernel_rfl)) (by unfold Func.isWrapper; first | (rw [if_pos (by decide +kernel)]; kernel_rfl) | (rw [if_neg (by decide +kernel)]; exact ⟨rfl, rfl⟩))
    (fun os started H enc _ => FnExactJoinSchools_lifted os started H enc)
#print axioms FnExactJoinSchools_holds
end Go.Proofs.Ytkgeiemelhkkcaa
