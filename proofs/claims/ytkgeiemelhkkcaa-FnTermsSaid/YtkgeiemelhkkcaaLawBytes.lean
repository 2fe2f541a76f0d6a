
/- A law's argument that is a code. -/
import Derived.Test.YtkgeiemelhkkcaaLaw
import Derived.Test.YtkgeiemelhkkcaaCode
namespace Go.Proofs.Ytkgeiemelhkkcaa
open Go.ChangeShapes Go.WideShapes Go.ChangeAt Go.RowKit Go.Deep Go.Joins
set_option maxRecDepth 100000 in
theorem open_code {H : Type} {enc : TypeId × Value → H} {w : World} {base b0 : Nat} {spare : Nat → Bool} {held : Bool} {r : Reach} {v : Value} {d : DataW H} {p : List MemPlace}
    (hv : Value.okWide Try.prog w r b0 53 v) (h : DataW.Trod enc Try.prog w base spare held 53 v d p) :
    ∃ (A : Option Addr) (n c : Nat), v = .slice A n c ∧ n ≤ maxLen ∧ Code w w.heap.size A n := by
  obtain ⟨a0, len, cap, rfl⟩ := okWide_slice Try.underlying53 hv
  obtain ⟨fuel, hf⟩ := h
  rcases open_ints Try.underlying53 Try.underlying5 (by kernel_rfl) hf with ⟨hcs, _⟩ | ⟨a, len', cap', zs, hcs, hb, hl, hm, hz, hx, hc, hw⟩
  · have hcs : [Value.slice a0 len cap] = [.slice none 0 0] := by simpa [Value.cells] using hcs
    injection hcs with hcs _
    injection hcs with h1 h2 h3
    subst h1 h2 h3
    exact ⟨none, 0, 0, rfl, Nat.zero_le _, fun h => absurd h (by omega)⟩
  · have hcs : [Value.slice a0 len cap] = [.slice (some a) len' cap'] := by simpa [Value.cells] using hcs
    injection hcs with hcs _
    injection hcs with h1 h2 h3
    subst h1 h2 h3
    have hlz : len ≤ zs.length := by rw [hz]; split <;> omega
    refine ⟨some a, len, cap, rfl, by omega, fun h0 => ?_⟩
    have c0 := hc 0 (by omega)
    rw [show a.add 0 = a from by simp [Addr.add]] at c0
    obtain ⟨b, o, rfl⟩ := plain_of_cell c0
    refine ⟨b, o, rfl, World.block_lt_of_cell? w _ c0, fun i hi => ⟨zs.getD i 0, ?_, ?_⟩⟩
    · have := hc i (by omega)
      rwa [add_flat] at this
    · have hm2 : zs.getD i 0 ∈ zs := by
        simp only [List.getD]
        rw [List.getElem?_eq_getElem (by omega)]
        simp
      have := hw _ hm2
      simpa [Lit.wf, IntKind.min, IntKind.max, IntKind.signed, IntKind.bits] using this
end Go.Proofs.Ytkgeiemelhkkcaa
