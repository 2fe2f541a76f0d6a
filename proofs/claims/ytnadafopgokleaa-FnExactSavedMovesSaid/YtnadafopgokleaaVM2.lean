/- The kinds of adding digits, plainly. -/
import Derived.Test.YtnadafopgokleaaVFrP
namespace Go.Proofs.Ytnadafopgokleaa
open Go.RowKit
set_option linter.unusedVariables false
set_option linter.unusedSimpArgs false
/-- the kind of the rule for adding d to v -/
def kindO (v d : Int) : Nat := if v % 5 + d ≤ 4 ∨ (5 ≤ d ∧ v ≤ 4 ∧ v + d - 5 ≤ 4) then 0 else if v + d ≤ 9 then 1 else if (10 - d) % 5 ≤ v % 5 ∧ (5 ≤ v ∨ 10 - d < 5) then 2 else 3
theorem kindO_lt (v d : Int) : kindO v d < 4 := by unfold kindO; split; omega; split; omega; split <;> omega
/-- how many digits of each kind among the first k rods -/
def cntN (n : Nat) (m : Int) (s : WS) : Nat → List Int
 | 0 => [0, 0, 0, 0]
 | k + 1 => if 0 < dg n m k then (cntN n m s k).set (kindO ((addN n m s k).ds.getD k 0) (dg n m k)) ((cntN n m s k).getD (kindO ((addN n m s k).ds.getD k 0) (dg n m k)) 0 + 1) else cntN n m s k
theorem cntN_len (n : Nat) (m : Int) (s : WS) (k : Nat) : (cntN n m s k).length = 4 := by
 induction k with
 | zero => rfl
 | succ k ih => unfold cntN; split <;> simp [ih]
theorem cntN_le (n : Nat) (m : Int) (s : WS) (k : Nat) : ∀ c ∈ cntN n m s k, 0 ≤ c ∧ c ≤ k := by
 induction k with
 | zero => intro c hc; simp [cntN] at hc; omega
 | succ k ih =>
   intro c hc
   unfold cntN at hc
   split at hc
   · rcases List.mem_or_eq_of_mem_set hc with hc | rfl
     · have := ih c hc; omega
     · have hj : (cntN n m s k).length = 4 := cntN_len n m s k
       have hk := kindO_lt ((addN n m s k).ds.getD k 0) (dg n m k)
       rw [List.getD_eq_getElem?_getD, List.getElem?_eq_getElem (by omega)]
       have := ih _ (List.getElem_mem (l := cntN n m s k) (n := kindO ((addN n m s k).ds.getD k 0) (dg n m k)) (by omega))
       simp only [Option.getD_some]
       omega
   · have := ih c hc; omega
end Go.Proofs.Ytnadafopgokleaa
