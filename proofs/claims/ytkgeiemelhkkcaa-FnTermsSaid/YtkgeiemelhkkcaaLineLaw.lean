
/- TermLine: the program's and the reference's. -/
import Derived.Test.YtkgeiemelhkkcaaLine
namespace Go.Proofs.Ytkgeiemelhkkcaa
open Go.RowKit
set_option linter.unusedVariables false
set_option linter.unusedSimpArgs false
def lineOr (r : R5) : ByteArray := if rowB r then lineB r else ⟨#[]⟩
theorem specTermLine_any (r : R5) (w : World) :
    Calls Try.prog 23 #[r.val] w fun e w' => e = .returned (.tuple #[.string (lineOr r), .bool (rowB r)]) ∧ Below w.heap.size w w' := by
  cases hr : rowB r
  · have E : lineOr r = ⟨#[]⟩ := by simp [lineOr, hr]
    rw [E]
    go_enter Try.func23, Try.ntmps23
    go_wp2_with (go_at_call 56; refine (l26One_any r _).mono ?_; rintro e w' ⟨rfl, hb⟩; obtain ⟨hc, hf⟩ := bcell hb; have hz : w.heap.size < w'.heap.size := by (have := hb.size; (try simp at this); omega))
    go_ret2
    exact ⟨rfl, (by repeat (first | exact ext_refl _ | assumption | refine ext_alloc ?_ _ | refine ext_drew ?_ | refine ext_drewN ?_ _ | refine ext_set ?_ (by simp <;> omega) _ | refine ext_trans ?_ (by assumption)))⟩
  · have E : lineOr r = lineB r := by simp [lineOr, hr]
    rw [E]
    go_enter Try.func23, Try.ntmps23
    go_wp2_with (first | (go_at_call 56; refine (l26One_any r _).mono ?_; rintro e w' ⟨rfl, hb⟩; obtain ⟨hc, hf⟩ := bcell hb; have hz : w.heap.size < w'.heap.size := by (have := hb.size; (try simp at this); omega)) | (go_at_call 60; refine (l26Line_any r _ (by assumption)).mono ?_; rintro e w' ⟨rfl, hb⟩; obtain ⟨hc, hf⟩ := bcell hb; have hz : w.heap.size < w'.heap.size := by (have := hb.size; (try simp at this); omega)))
    go_ret2
    exact ⟨rfl, (by repeat (first | exact ext_refl _ | assumption | refine ext_alloc ?_ _ | refine ext_drew ?_ | refine ext_drewN ?_ _ | refine ext_set ?_ (by simp <;> omega) _ | refine ext_trans ?_ (by assumption)))⟩
theorem implTermLine_any (r : R5) (w : World) :
    Calls Try.prog 24 #[r.val] w fun e w' => e = .returned (.tuple #[.string (lineOr r), .bool (rowB r)]) ∧ Below w.heap.size w w' := by
  cases hr : rowB r
  · have E : lineOr r = ⟨#[]⟩ := by simp [lineOr, hr]
    rw [E]
    go_enter Try.func24, Try.ntmps24
    go_wp2_with (go_at_call 17; refine (isTermRow_any r _).mono ?_; rintro e w' ⟨rfl, hb⟩; obtain ⟨hc, hf⟩ := bcell hb; have hz : w.heap.size < w'.heap.size := by (have := hb.size; (try simp at this); omega))
    go_ret2
    exact ⟨rfl, (by repeat (first | exact ext_refl _ | assumption | refine ext_alloc ?_ _ | refine ext_drew ?_ | refine ext_drewN ?_ _ | refine ext_set ?_ (by simp <;> omega) _ | refine ext_trans ?_ (by assumption)))⟩
  · have E : lineOr r = lineB r := by simp [lineOr, hr]
    rw [E]
    go_enter Try.func24, Try.ntmps24
    go_wp2_with (first | (go_at_call 17; refine (isTermRow_any r _).mono ?_; rintro e w' ⟨rfl, hb⟩; obtain ⟨hc, hf⟩ := bcell hb; have hz : w.heap.size < w'.heap.size := by (have := hb.size; (try simp at this); omega)) | (go_at_call 61; refine (termLine_any r _ (by assumption)).mono ?_; rintro e w' ⟨rfl, hb⟩; obtain ⟨hc, hf⟩ := bcell hb; have hz : w.heap.size < w'.heap.size := by (have := hb.size; (try simp at this); omega)))
    go_ret2
    exact ⟨rfl, (by repeat (first | exact ext_refl _ | assumption | refine ext_alloc ?_ _ | refine ext_drew ?_ | refine ext_drewN ?_ _ | refine ext_set ?_ (by simp <;> omega) _ | refine ext_trans ?_ (by assumption)))⟩
theorem law_TermLine (r : R5) (w : World) :
    Calls Try.prog 5 #[r.val] w fun e w' => e = .returned (.bool true) ∧ Below w.heap.size w w' := by
  go_enter Try.func5, Try.ntmps5
  go_wp2_with (first | (go_at_call 16; refine (toTermRow_any r _).mono ?_; rintro e w' ⟨rfl, hb⟩; obtain ⟨hc, hf⟩ := bcell hb; have hz : w.heap.size < w'.heap.size := by (have := hb.size; (try simp at this); omega)) | (go_at_call 23; refine (specTermLine_any r _).mono ?_; rintro e w' ⟨rfl, hb⟩; obtain ⟨hc, hf⟩ := bcell hb; have hz : w.heap.size < w'.heap.size := by (have := hb.size; (try simp at this); omega)) | (go_at_call 24; refine (implTermLine_any r _).mono ?_; rintro e w' ⟨rfl, hb⟩; obtain ⟨hc, hf⟩ := bcell hb; have hz : w.heap.size < w'.heap.size := by (have := hb.size; (try simp at this); omega)))
  go_ret
  exact ⟨rfl, (by repeat (first | exact ext_refl _ | assumption | refine ext_alloc ?_ _ | refine ext_drew ?_ | refine ext_drewN ?_ _ | refine ext_set ?_ (by simp <;> omega) _ | refine ext_trans ?_ (by assumption)))⟩
end Go.Proofs.Ytkgeiemelhkkcaa
