/- The program's TermLine returns what the reference's returns, for all arguments: the law FnExactTermLine returns true for every row of five ints. No conditions. -/
import Derived.Test.YtkgeiemelhkkcaaLaw
import Derived.Test.YtkgeiemelhkkcaaLineLaw
namespace Go.Proofs.Ytkgeiemelhkkcaa
open Go.ChangeShapes Go.WideShapes Go.ChangeAt Go.RowKit Go.Deep Go.Joins
set_option linter.unusedVariables false
set_option maxRecDepth 100000 in
theorem FnExactTermLine_lifted (os : Os) (started : os.Started) (H : Type) (enc : TypeId × Value → H) :
    ReturnsInHanded {} Try.checked os 5 .any (Rows.fnExactTermLineSpec.pre6 enc Try.prog Try.f5 Rows.fnExactTermLineRow.domain false) (Rows.fnExactTermLineSpec.post enc Try.prog Try.f5 false true false false) := by
  refine returnsInHanded_of_change (C := Try.checked) own started (by kernel_rfl) Try.func5
    (ChangeSpec.witness6 (enc := enc) (C := Try.checked) false ⟨#[], #[.agg #[.int .i64 0, .int .i64 0, .int .i64 0, .int .i64 0, .int .i64 0]], []⟩ 8 (by kernel_rfl) (by kernel_rfl) (by kernel_rfl) (by kernel_rfl)) ?_
  intro W base args ds gs before hval0 hW hcnd _
  have hval : ∀ (j : Nat) t v, Try.f5.params[j]? = some t → args[j]? = some v → Value.okWide Try.prog W .any base t v := hval0
  have hW' := hW
  obtain ⟨p, q, hA0, hV, rfl, hfz, hnd⟩ := hW
  have hA : DataW.TrodAll enc Try.prog W 0 (fun _ => true) true Try.f5.params.toList args.toList ds p := hA0
  rw [Try.params5] at hA hval
  obtain ⟨v0, d0, rfl, rfl, h0⟩ := trodAll_one hA
  obtain ⟨rfl, rfl⟩ := trodVars_none hV
  clear hA0 hval0
  have fin : ∀ (e : Ending) (W' : World), (e = .returned (.bool true) ∧ Below W.heap.size W W') → ∃ v, e = .returned v ∧ Rows.fnExactTermLineSpec.post enc Try.prog Try.f5 false true false false W _ v W' := fun e W' h => ⟨_, h.1, law_post laidOut (by rw [Try.params5]; decide +kernel) rfl hW' ⟨rfl, rfl, rfl⟩ (by kernel_rfl) Try.underlying4 h.2⟩
  obtain ⟨c0, c1, c2, c3, c4, y0, y1, y2, y3, y4, n, rfl, rfl, rfl, t0, t1, t2, t3, t4⟩ := open_agg5 Try.underlying23 (by kernel_rfl) (by kernel_rfl) (hval 0 _ v0 rfl rfl) h0
  obtain ⟨a, e0, rfl, wa⟩ := DataW.trod_int Try.underlying3 t0
  obtain ⟨b, e1, rfl, wb⟩ := DataW.trod_int Try.underlying3 t1
  obtain ⟨c, e2, rfl, wc⟩ := DataW.trod_int Try.underlying3 t2
  obtain ⟨d, e3, rfl, wd⟩ := DataW.trod_int Try.underlying3 t3
  obtain ⟨e, e4, rfl, we⟩ := DataW.trod_int Try.underlying3 t4
  simp at e0 e1 e2 e3 e4
  subst e0 e1 e2 e3 e4
  exact (law_TermLine ⟨a, b, c, d, e⟩ W).mono fin
theorem FnExactTermLine_holds : Rows.FnExactTermLineSaid :=
  OpenClaim.holds_of_wide 5 Try.f5 rfl rfl rfl rfl rfl rfl rfl ⟨rfl, rfl, rfl, rfl, rfl⟩ rfl rfl rfl rfl rfl (by kernel_rfl) Try.func5 (by kernel_rfl)
    (of_decide_eq_true (by kernel_rfl)) (by unfold Func.isWrapper; first | (rw [if_pos (by decide +kernel)]; kernel_rfl) | (rw [if_neg (by decide +kernel)]; exact ⟨rfl, rfl⟩))
    (fun os started H enc _ => FnExactTermLine_lifted os started H enc)
#print axioms FnExactTermLine_holds
end Go.Proofs.Ytkgeiemelhkkcaa
