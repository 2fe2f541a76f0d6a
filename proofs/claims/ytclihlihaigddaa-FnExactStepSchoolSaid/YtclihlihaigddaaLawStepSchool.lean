
/- The program's StepSchool returns what the reference's returns, for all arguments: the law FnExactStepSchool returns true for all arguments. No conditions. -/
import Derived.Test.YtclihlihaigddaaLaw
import Derived.Test.YtclihlihaigddaaLawSch
import Derived.Test.YtclihlihaigddaaStpL
namespace Go.Proofs.Ytclihlihaigddaa
open Go.ChangeShapes Go.WideShapes Go.ChangeAt Go.RowKit Go.Deep Go.Joins
set_option linter.unusedVariables false
set_option maxRecDepth 100000 in
theorem open_step {H : Type} {enc : TypeId × Value → H} {w : World} {base b0 : Nat} {spare : Nat → Bool} {held : Bool} {r : Reach} {v : Value} {d : DataW H} {p : List MemPlace}
    (hv : Value.okWide Try.prog w r b0 69 v) (h : DataW.Trod enc Try.prog w base spare held 69 v d p) : ∃ k id u : Int, v = .agg #[.int .i64 k, .int .i64 id, .int .i64 u] ∧ u ≤ 9223372036854775807 := by
  obtain ⟨c0, c1, c2, y0, y1, y2, n, rfl, rfl, rfl, t0, t1, t2⟩ := open_agg3 Try.underlying69 (by kernel_rfl) (by kernel_rfl) hv h
  obtain ⟨a, e0, _, wa⟩ := DataW.trod_int Try.underlying3 t0
  obtain ⟨b, e1, _, wb⟩ := DataW.trod_int Try.underlying3 t1
  obtain ⟨z, e2, _, wz⟩ := DataW.trod_int Try.underlying3 t2
  simp at e0 e1 e2
  subst e0 e1 e2
  have hz : -9223372036854775808 ≤ z ∧ z ≤ 9223372036854775807 := by simpa [Lit.wf, IntKind.min, IntKind.max, IntKind.signed, IntKind.bits] using wz
  exact ⟨a, b, z, rfl, hz.2⟩
set_option maxRecDepth 100000 in
theorem FnExactStepSchool_lifted (os : Os) (started : os.Started) (H : Type) (enc : TypeId × Value → H) :
    ReturnsInHanded {} Try.checked os 11 .any (Rows.fnExactStepSchoolSpec.pre6 enc Try.prog Try.f11 Rows.fnExactStepSchoolRow.domain false) (Rows.fnExactStepSchoolSpec.post enc Try.prog Try.f11 false true false false) := by
  refine returnsInHanded_of_change (C := Try.checked) own started (by kernel_rfl) Try.func11
    (ChangeSpec.witness6 (enc := enc) (C := Try.checked) false ⟨#[], #[.agg #[.int .i64 0, .slice none 0 0, .int .i64 0, .int .i64 0], .agg #[.int .i64 0, .int .i64 0, .int .i64 0]], []⟩ 8 (by kernel_rfl) (by kernel_rfl) (by kernel_rfl) (by kernel_rfl)) ?_
  intro W base args ds gs before hval0 hW hcnd _
  have hval : ∀ (j : Nat) t v, Try.f11.params[j]? = some t → args[j]? = some v → Value.okWide Try.prog W .any base t v := hval0
  have hW' := hW
  obtain ⟨p, q, hA0, hV, rfl, hfz, hnd⟩ := hW
  have hA : DataW.TrodAll enc Try.prog W 0 (fun _ => true) true Try.f11.params.toList args.toList ds p := hA0
  rw [Try.params11] at hA hval
  obtain ⟨v0, v1, d0, d1, p0, p1, rfl, rfl, rfl, h0, h1⟩ := trodAll_two hA
  obtain ⟨rfl, rfl⟩ := trodVars_none hV
  clear hA0 hval0
  have fin : ∀ (e : Ending) (W' : World), (e = .returned (.bool true) ∧ Below W.heap.size W W') → ∃ v, e = .returned v ∧ Rows.fnExactStepSchoolSpec.post enc Try.prog Try.f11 false true false false W _ v W' := fun e W' h => ⟨_, h.1, law_post laidOut (by rw [Try.params11]; decide +kernel) rfl hW' ⟨rfl, rfl, rfl⟩ (by kernel_rfl) Try.underlying4 h.2⟩
  obtain ⟨day, pa, le, A0, n0, c0, l0, rfl, hn0, hsl, hr0⟩ := open_school (hval 0 _ v0 rfl rfl) h0
  obtain ⟨k, id, u, rfl, hu⟩ := open_step (hval 1 _ v1 rfl rfl) h1
  exact (law_StepSchool day pa le A0 n0 c0 l0 k id u W hn0 hr0 hu).mono fin
theorem FnExactStepSchool_holds : Rows.FnExactStepSchoolSaid :=
  OpenClaim.holds_of_wide 11 Try.f11 rfl rfl rfl rfl rfl rfl rfl ⟨rfl, rfl, rfl, rfl, rfl⟩ rfl rfl rfl rfl rfl (by kernel_rfl) Try.func11 (by kernel_rfl)
    (of_decide_eq_true (by kernel_rfl)) (by unfold Func.isWrapper; first | (rw [if_pos (by decide +kernel)]; kernel_rfl) | (rw [if_neg (by decide +kernel)]; exact ⟨rfl, rfl⟩))
    (fun os started H enc _ => FnExactStepSchool_lifted os started H enc)
#print axioms FnExactStepSchool_holds
end Go.Proofs.Ytclihlihaigddaa
