
/- The program's RunSchool returns what the reference's returns, for all arguments: the law FnExactRunSchool returns true for all arguments. No conditions. -/
import Derived.Test.YtclihlihaigddaaLaw
import Derived.Test.YtclihlihaigddaaLawSch
import Derived.Test.YtclihlihaigddaaRunL
namespace Go.Proofs.Ytclihlihaigddaa
open Go.ChangeShapes Go.WideShapes Go.ChangeAt Go.RowKit Go.Deep Go.Joins
set_option linter.unusedVariables false
set_option maxRecDepth 100000 in
theorem open_steps {H : Type} {enc : TypeId × Value → H} {w : World} {base b0 : Nat} {spare : Nat → Bool} {held : Bool} {r : Reach} {v : Value} {d : DataW H} {p : List MemPlace}
    (hv : Value.okWide Try.prog w r b0 79 v) (h : DataW.Trod enc Try.prog w base spare held 79 v d p) :
    ∃ A len cap l, v = .slice A len cap ∧ len ≤ maxLen ∧ Reads w w.heap.size 3 A len (rowsV3 l) ∧ ∀ x ∈ l, x.c ≤ 9223372036854775807 := by
  obtain ⟨A, len, cap, F, rfl, hl, hr, hw⟩ := open_int_structs Try.underlying79 Try.underlying69 (by kernel_rfl) (by kernel_rfl) (by decide) (fun j f hj => by
    match j, hj with
    | 0, hj => simp at hj; subst hj; exact Try.underlying3
    | 1, hj => simp at hj; subst hj; exact Try.underlying3
    | 2, hj => simp at hj; subst hj; exact Try.underlying3
    | j + 3, hj => simp at hj) hv h
  refine ⟨A, len, cap, (List.range len).map fun i => ⟨F i 0, F i 1, F i 2⟩, rfl, hl, ?_, ?_⟩
  · have e : rowsV3 ((List.range len).map fun i => (⟨F i 0, F i 1, F i 2⟩ : R3)) = (List.range len).flatMap fun i => (List.range 3).map fun j => .int .i64 (F i j) := by
      simp [rowsV3, List.flatMap_map, R3.cells, List.range_succ]
    rw [e]
    exact hr
  · intro x hx
    rw [List.mem_map] at hx
    obtain ⟨i, _, rfl⟩ := hx
    have hz : -9223372036854775808 ≤ F i 2 ∧ F i 2 ≤ 9223372036854775807 := by simpa [Lit.wf, IntKind.min, IntKind.max, IntKind.signed, IntKind.bits] using hw i 2
    exact hz.2
set_option maxRecDepth 100000 in
theorem FnExactRunSchool_lifted (os : Os) (started : os.Started) (H : Type) (enc : TypeId × Value → H) :
    ReturnsInHanded {} Try.checked os 12 .any (Rows.fnExactRunSchoolSpec.pre6 enc Try.prog Try.f12 Rows.fnExactRunSchoolRow.domain false) (Rows.fnExactRunSchoolSpec.post enc Try.prog Try.f12 false true false false) := by
  refine returnsInHanded_of_change (C := Try.checked) own started (by kernel_rfl) Try.func12
    (ChangeSpec.witness6 (enc := enc) (C := Try.checked) false ⟨#[], #[.agg #[.int .i64 0, .slice none 0 0, .int .i64 0, .int .i64 0], .slice none 0 0], []⟩ 8 (by kernel_rfl) (by kernel_rfl) (by kernel_rfl) (by kernel_rfl)) ?_
  intro W base args ds gs before hval0 hW hcnd _
  have hval : ∀ (j : Nat) t v, Try.f12.params[j]? = some t → args[j]? = some v → Value.okWide Try.prog W .any base t v := hval0
  have hW' := hW
  obtain ⟨p, q, hA0, hV, rfl, hfz, hnd⟩ := hW
  have hA : DataW.TrodAll enc Try.prog W 0 (fun _ => true) true Try.f12.params.toList args.toList ds p := hA0
  rw [Try.params12] at hA hval
  obtain ⟨v0, v1, d0, d1, p0, p1, rfl, rfl, rfl, h0, h1⟩ := trodAll_two hA
  obtain ⟨rfl, rfl⟩ := trodVars_none hV
  clear hA0 hval0
  have fin : ∀ (e : Ending) (W' : World), (e = .returned (.bool true) ∧ Below W.heap.size W W') → ∃ v, e = .returned v ∧ Rows.fnExactRunSchoolSpec.post enc Try.prog Try.f12 false true false false W _ v W' := fun e W' h => ⟨_, h.1, law_post laidOut (by rw [Try.params12]; decide +kernel) rfl hW' ⟨rfl, rfl, rfl⟩ (by kernel_rfl) Try.underlying4 h.2⟩
  obtain ⟨day, pa, le, A0, n0, c0, l0, rfl, hn0, hsl, hr0⟩ := open_school (hval 0 _ v0 rfl rfl) h0
  obtain ⟨A1, n1, c1, l1, rfl, hn1, hr1, hv1⟩ := open_steps (hval 1 _ v1 rfl rfl) h1
  exact (law_RunSchool day pa le A0 n0 c0 l0 A1 n1 c1 l1 W hn0 hn1 hr0 hr1 hv1).mono fin
theorem FnExactRunSchool_holds : Rows.FnExactRunSchoolSaid :=
  OpenClaim.holds_of_wide 12 Try.f12 rfl rfl rfl rfl rfl rfl rfl ⟨rfl, rfl, rfl, rfl, rfl⟩ rfl rfl rfl rfl rfl (by kernel_rfl) Try.func12 (by kernel_rfl)
    (of_decide_eq_true (by kernel_rfl)) (by unfold Func.isWrapper; first | (rw [if_pos (by decide +kernel)]; kernel_rfl) | (rw [if_neg (by decide +kernel)]; exact ⟨rfl, rfl⟩))
    (fun os started H enc _ => FnExactRunSchool_lifted os started H enc)
#print axioms FnExactRunSchool_holds
end Go.Proofs.Ytclihlihaigddaa
