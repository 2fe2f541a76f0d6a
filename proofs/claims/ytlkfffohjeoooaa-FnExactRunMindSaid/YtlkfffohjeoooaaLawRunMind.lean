
/- The program's RunMind returns what the reference's returns, for all arguments: the law FnExactRunMind returns true for all arguments. No conditions. -/
import Derived.Test.YtlkfffohjeoooaaLawMd
import Derived.Test.YtlkfffohjeoooaaRmL
namespace Go.Proofs.Ytlkfffohjeoooaa
open Go.ChangeShapes Go.WideShapes Go.ChangeAt Go.RowKit Go.Deep Go.Joins
set_option linter.unusedVariables false
set_option maxRecDepth 100000 in
theorem open_msteps {H : Type} {enc : TypeId × Value → H} {w : World} {base b0 : Nat} {spare : Nat → Bool} {held : Bool} {r : Reach} {v : Value} {d : DataW H} {p : List MemPlace}
    (hv : Value.okWide Try.prog w r b0 56 v) (h : DataW.Trod enc Try.prog w base spare held 56 v d p) :
    ∃ A len cap l, v = .slice A len cap ∧ len ≤ maxLen ∧ Reads w w.heap.size 2 A len (rowsV2 l) := by
  obtain ⟨A, len, cap, F, rfl, hl, hr, hw⟩ := open_int_structs Try.underlying56 Try.underlying44 (by kernel_rfl) (by kernel_rfl) (by decide) (fun j f hj => by
    match j, hj with
    | 0, hj => simp at hj; subst hj; exact Try.underlying3
    | 1, hj => simp at hj; subst hj; exact Try.underlying3
    | j + 2, hj => simp at hj) hv h
  refine ⟨A, len, cap, (List.range len).map fun i => ⟨F i 0, F i 1⟩, rfl, hl, ?_⟩
  have e : rowsV2 ((List.range len).map fun i => (⟨F i 0, F i 1⟩ : R2)) = (List.range len).flatMap fun i => (List.range 2).map fun j => .int .i64 (F i j) := by
    simp [rowsV2, List.flatMap_map, R2.cells, List.range_succ]
  rw [e]
  exact hr
set_option maxRecDepth 100000 in
theorem FnExactRunMind_lifted (os : Os) (started : os.Started) (H : Type) (enc : TypeId × Value → H) :
    ReturnsInHanded {} Try.checked os 7 .any (Rows.fnExactRunMindSpec.pre6 enc Try.prog Try.f7 Rows.fnExactRunMindRow.domain false) (Rows.fnExactRunMindSpec.post enc Try.prog Try.f7 false true false false) := by
  refine returnsInHanded_of_change (C := Try.checked) own started (by kernel_rfl) Try.func7
    (ChangeSpec.witness6 (enc := enc) (C := Try.checked) false ⟨#[], #[.agg #[.int .i64 0, .int .i64 0, .slice none 0 0, .slice none 0 0, .slice none 0 0, .int .i64 0, .int .i64 0], .slice none 0 0], []⟩ 8 (by kernel_rfl) (by kernel_rfl) (by kernel_rfl) (by kernel_rfl)) ?_
  intro W base args ds gs before hval0 hW hcnd _
  have hval : ∀ (j : Nat) t v, Try.f7.params[j]? = some t → args[j]? = some v → Value.okWide Try.prog W .any base t v := hval0
  have hW' := hW
  obtain ⟨p, q, hA0, hV, rfl, hfz, hnd⟩ := hW
  have hA : DataW.TrodAll enc Try.prog W 0 (fun _ => true) true Try.f7.params.toList args.toList ds p := hA0
  rw [Try.params7] at hA hval
  obtain ⟨v0, v1, d0, d1, p0, p1, rfl, rfl, rfl, h0, h1⟩ := trodAll_two hA
  obtain ⟨rfl, rfl⟩ := trodVars_none hV
  clear hA0 hval0
  have fin : ∀ (e : Ending) (W' : World), (e = .returned (.bool true) ∧ Below W.heap.size W W') → ∃ v, e = .returned v ∧ Rows.fnExactRunMindSpec.post enc Try.prog Try.f7 false true false false W _ v W' := fun e W' h => ⟨_, h.1, law_post laidOut (by rw [Try.params7]; decide +kernel) rfl hW' ⟨rfl, rfl, rfl⟩ (by kernel_rfl) Try.underlying4 h.2⟩
  obtain ⟨u, lo, A, n, c, l, K, k, kc, cl, I, m, ic, im, be, gu, rfl, hn, hk, hm, hr, hc, hi⟩ := open_mind (hval 0 _ v0 rfl rfl) h0
  obtain ⟨A1, n1, c1, l1, rfl, hn1, hr1⟩ := open_msteps (hval 1 _ v1 rfl rfl) h1
  exact (law_RunMind u lo A n c l K k kc cl I m ic im be gu A1 n1 c1 l1 W hn hk hm hn1 hr hc hi hr1).mono fin
theorem FnExactRunMind_holds : Rows.FnExactRunMindSaid :=
  OpenClaim.holds_of_wide 7 Try.f7 rfl rfl rfl rfl rfl rfl rfl ⟨rfl, rfl, rfl, rfl, rfl⟩ rfl rfl rfl rfl rfl (by kernel_rfl) Try.func7 (by kernel_rfl)
    (of_decide_eq_true (by kernel_rfl)) (by unfold Func.isWrapper; first | (rw [if_pos (by decide +kernel)]; kernel_rfl) | (rw [if_neg (by decide +kernel)]; exact ⟨rfl, rfl⟩))
    (fun os started H enc _ => FnExactRunMind_lifted os started H enc)
#print axioms FnExactRunMind_holds
end Go.Proofs.Ytlkfffohjeoooaa
