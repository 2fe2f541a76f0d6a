
/- A step: the program's, whole. -/
import Derived.Test.YtclihlihaigddaaScSc
import Derived.Test.YtclihlihaigddaaScSd
import Derived.Test.YtclihlihaigddaaScSe
import Derived.Test.YtclihlihaigddaaScSf
namespace Go.Proofs.Ytclihlihaigddaa
open Go.RowKit
set_option linter.unusedVariables false
set_option linter.unusedSimpArgs false
theorem stepS_enr {day pa le : Int} {l : List R5} {id v : Int} : stepS day pa le l 2 id v = ((enr day l id v).map fun L => (day, L, pa, le)).filter fun q => schB q.1 q.2.1 q.2.2.1 q.2.2.2 := by
  unfold stepS tryS enr
  rw [if_neg (by omega), if_pos rfl]
  split <;> rfl
theorem stepped_any (day pa le k id v : Int) (A : Option Addr) (n c : Nat) (l : List R5) (w : World) (hA : SlOk A n c) (h : Reads w w.heap.size 5 A n (rowsV l)) (hs : schB day l pa le = true) (hv2 : v ≤ 9223372036854775807) :
    Calls Try.prog 112 #[schV day A n c pa le, .agg #[.int .i64 k, .int .i64 id, .int .i64 v]] w (RetSch (stepS day pa le l k id v) w) := by
  have hn : n ≤ 8 := by have := schB_len hs; have := rows_len h; omega
  by_cases h1 : k = 1
  · subst h1
    by_cases hb : id ≠ 0 ∨ v < 1
    · have : stepS day pa le l 1 id v = none := by unfold stepS tryS; rw [if_pos rfl, if_pos hb]; rfl
      rw [this]
      exact stepped_wait_no day pa le id v A n c l w hn hA h hb
    · have hid : id = 0 := by omega
      have hv : 1 ≤ v := by omega
      rw [stepS_1 (by simp [stepOk]; omega)]
      exact stepped_wait day pa le id v A n c l w hn hA h hid hv hv2 hs
  by_cases h2 : k = 2
  · subst h2
    rw [stepS_enr]
    exact stepped_enrol day pa le id v A n c l w hn hA h hs
  by_cases h3 : k = 3 ∨ k = 4 ∨ k = 5 ∨ k = 6
  · rcases findI_cases l id with ⟨hf, _⟩ | ⟨i, r, hf, hr, _, _⟩
    · rw [find_none h3 hf]
      rcases h3 with rfl | rfl | rfl | rfl
      · exact stepped_find_no_3 day pa le id v A n c l w hn hA h hf
      · exact stepped_find_no_4 day pa le id v A n c l w hn hA h hf
      · exact stepped_find_no_5 day pa le id v A n c l w hn hA h hf
      · exact stepped_find_no_6 day pa le id v A n c l w hn hA h hf
    · rw [stepS_t h3 hf hr]
      rcases h3 with rfl | rfl | rfl | rfl
      · exact stepped_3 day pa le id v A n c l w hn hA h i r hf hr hs
      · exact stepped_4 day pa le id v A n c l w hn hA h i r hf hr hs
      · exact stepped_5 day pa le id v A n c l w hn hA h i r hf hr hs
      · exact stepped_6 day pa le id v A n c l w hn hA h i r hf hr hs
  · have : stepS day pa le l k id v = none := by unfold stepS tryS; rw [if_neg h1, if_neg h2, if_neg h3]; rfl
    rw [this]
    exact stepped_else day pa le k id v A n c l w hn hA h (by omega)
/-- what StepSchool answers -/
def stpB (day pa le : Int) (l : List R5) (k id v : Int) : Option Sch4 := if schB day l pa le = true then stepS day pa le l k id v else none
theorem RetSch.left {o : Option Sch4} {w w1 : World} (hb : Below w.heap.size w w1) {e : Ending} {w' : World} (h : RetSch o w1 e w') : RetSch o w e w' := by
  rcases o with _ | ⟨d, l, p, q⟩
  · exact ⟨h.1, ext_trans hb h.2⟩
  · obtain ⟨A, c, h1, h2, h3⟩ := h
    exact ⟨A, c, h1, own_base h2 hb.size, ext_trans hb h3⟩
end Go.Proofs.Ytclihlihaigddaa
