/- A law's argument that is a code. -/
import Derived.Test.YtaghjaiaoajpiaaVLaw
import Derived.Test.YtaghjaiaoajpiaaVM1
import Derived.Test.YtaghjaiaoajpiaaVFrP
namespace Go.Proofs.Ytaghjaiaoajpiaa
open Go.ChangeShapes Go.WideShapes Go.ChangeAt Go.RowKit Go.Deep Go.Joins
set_option maxRecDepth 100000 in
theorem open_code {H : Type} {enc : TypeId × Value → H} {w : World} {base b0 : Nat} {spare : Nat → Bool} {held : Bool} {r : Reach} {v : Value} {d : DataW H} {p : List MemPlace}
 (hv : Value.okWide Try.prog w r b0 22 v) (h : DataW.Trod enc Try.prog w base spare held 22 v d p) :
 ∃ (A : Option Addr) (n c : Nat), v = .slice A n c ∧ n ≤ maxLen ∧ Code w w.heap.size A n := by
 obtain ⟨a0, len, cap, rfl⟩ := okWide_slice Try.underlying22 hv
 obtain ⟨fuel, hf⟩ := h
 rcases open_ints Try.underlying22 Try.underlying5 (by kernel_rfl) hf with ⟨hcs, _⟩ | ⟨a, len', cap', zs, hcs, hb, hl, hm, hz, hx, hc, hw⟩
 · have hcs : [Value.slice a0 len cap] = [.slice none 0 0] := by simpa [Value.cells] using hcs
   injection hcs with hcs _
   injection hcs with h1 h2 h3
   subst h1 h2 h3
   exact ⟨none, 0, 0, rfl, Nat.zero_le _, fun h => absurd h (by omega)⟩
 · have hcs : [Value.slice a0 len cap] = [.slice (some a) len' cap'] := by simpa [Value.cells] using hcs
   injection hcs with hcs _
   injection hcs with h1 h2 h3
   subst h1 h2 h3
   have hlz : len ≤ zs.length := by rw [hz]; split <;> omega
   refine ⟨some a, len, cap, rfl, by omega, fun h0 => ?_⟩
   have c0 := hc 0 (by omega)
   rw [show a.add 0 = a from by simp [Addr.add]] at c0
   obtain ⟨b, o, rfl⟩ := plain_of_cell c0
   refine ⟨b, o, rfl, World.block_lt_of_cell? w _ c0, fun i hi => ⟨zs.getD i 0, ?_, ?_⟩⟩
   · have := hc i (by omega)
     rwa [add_flat] at this
   · have hm2 : zs.getD i 0 ∈ zs := by
      simp only [List.getD]
      rw [List.getElem?_eq_getElem (by omega)]
      simp
     have := hw _ hm2
     simpa [Lit.wf, IntKind.min, IntKind.max, IntKind.signed, IntKind.bits] using this
end Go.Proofs.Ytaghjaiaoajpiaa
namespace Go.Proofs.Ytaghjaiaoajpiaa
open Go.RowKit
set_option linter.unusedVariables false
set_option linter.unusedSimpArgs false
/-- the kind of the rule for adding d to v -/
def kindO (v d : Int) : Nat := if v % 5 + d ≤ 4 ∨ (5 ≤ d ∧ v ≤ 4 ∧ v + d - 5 ≤ 4) then 0 else if v + d ≤ 9 then 1 else if (10 - d) % 5 ≤ v % 5 ∧ (5 ≤ v ∨ 10 - d < 5) then 2 else 3
theorem kindO_lt (v d : Int) : kindO v d < 4 := by unfold kindO; split; omega; split; omega; split <;> omega
/-- how many digits of each kind among the first k rods -/
def cntN (n : Nat) (m : Int) (s : WS) : Nat → List Int
 | 0 => [0, 0, 0, 0]
 | k + 1 => if 0 < dg n m k then (cntN n m s k).set (kindO ((addN n m s k).ds.getD k 0) (dg n m k)) ((cntN n m s k).getD (kindO ((addN n m s k).ds.getD k 0) (dg n m k)) 0 + 1) else cntN n m s k
theorem cntN_len (n : Nat) (m : Int) (s : WS) (k : Nat) : (cntN n m s k).length = 4 := by
 induction k with
 | zero => rfl
 | succ k ih => unfold cntN; split <;> simp [ih]
theorem cntN_le (n : Nat) (m : Int) (s : WS) (k : Nat) : ∀ c ∈ cntN n m s k, 0 ≤ c ∧ c ≤ k := by
 induction k with
 | zero => intro c hc; simp [cntN] at hc; omega
 | succ k ih =>
   intro c hc
   unfold cntN at hc
   split at hc
   · rcases List.mem_or_eq_of_mem_set hc with hc | rfl
     · have := ih c hc; omega
     · have hj : (cntN n m s k).length = 4 := cntN_len n m s k
       have hk := kindO_lt ((addN n m s k).ds.getD k 0) (dg n m k)
       rw [List.getD_eq_getElem?_getD, List.getElem?_eq_getElem (by omega)]
       have := ih _ (List.getElem_mem (l := cntN n m s k) (n := kindO ((addN n m s k).ds.getD k 0) (dg n m k)) (by omega))
       simp only [Option.getD_some]
       omega
   · have := ih c hc; omega
end Go.Proofs.Ytaghjaiaoajpiaa
