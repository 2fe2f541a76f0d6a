
/- Small aids for the walks of laws. -/
import Derived.Test.YtlkfffohjeoooaaBase
namespace Go.Proofs.Ytlkfffohjeoooaa
open Go.RowKit
set_option linter.unusedVariables false
set_option linter.unusedSimpArgs false
theorem cells_new_at (w : World) (cs : List Value) (e : TypeId) {H : Nat} (hH : H = w.heap.size) : ∀ j u, cs[j]? = some u → (w.alloc (.cells cs.toArray e)).cell? ((⟨H, 0, none⟩ : Addr).add j) = some u := by
  subst hH
  intro j u hj
  have hk : j < cs.length := (List.getElem?_eq_some_iff.1 hj).1
  rw [add_flat, Nat.zero_add, World.cell?_alloc_at _ _ _ _ rfl]
  simpa using hj
theorem own_ext {w w' : World} {base E size n : Nat} {v : Value} {xs : List Value} (h : w.ownsRow base E size v n xs) (hb : Below w.heap.size w w') : w'.ownsRow base E size v n xs :=
  h.kept (row := none) ⟨hb.os, hb.tape, hb.output, hb.size, fun k hk _ => hb.block k hk⟩ (by
    rcases hv : v.ownBlock with _ | g
    · exact .inl rfl
    · exact .inr (by simp))
theorem cell_far_grown {wx w2 : World} {row : Option Nat} {p : Addr} {u : Value} (hg : wx.grownBy w2 row) (hne : row ≠ some p.block) (h : wx.cell? p = some u) : w2.cell? p = some u := hg.cell h (fun e => hne e.symm)
theorem own_base {w : World} {base base' E size n : Nat} {v : Value} {xs : List Value} (h : w.ownsRow base E size v n xs) (hb : base' ≤ base) : w.ownsRow base' E size v n xs := by
  rcases h.2 with ⟨h1, h2⟩ | ⟨g, cap, cur, hv, hg, h3⟩
  · exact ⟨h.1, .inl ⟨h1, h2⟩⟩
  · exact ⟨h.1, .inr ⟨g, cap, cur, hv, Nat.le_trans hb hg, h3⟩⟩
theorem list_split {α : Type} {l : List α} {k : Nat} (h : k < l.length) : ∃ r, l[k]? = some r := ⟨l[k], List.getElem?_eq_getElem h⟩
theorem own_lit0 (w : World) (E size : Nat) : (w.alloc (.cells #[] E)).ownsRow w.heap.size E size (.slice (some ⟨w.heap.size, 0, none⟩) 0 0) 0 [] :=
  World.ownsRow_made w #[] 0 (Nat.le_refl _) (Nat.zero_le _) (by simp)
theorem cell_old {w : World} {p : Addr} {v : Value} (h : w.cell? p = some v) (o : Obj) : (w.alloc o).cell? p = some v := by
  rw [World.cell?_alloc_some w p o (by rw [h]; rfl)]; exact h
theorem size_mono {w w' : World} (hb : Below w.heap.size w w') : ∀ b, b < w.heap.size → b < w'.heap.size := fun _ h => Nat.lt_of_lt_of_le h hb.size
theorem cell_drew {w : World} {p : Addr} {v : Value} (h : w.cell? p = some v) : w.drew.cell? p = some v := h
theorem cell_set_far {w : World} {p q : Addr} {v u : Value} (hne : q.block ≠ p.block) (h : w.cell? p = some v) : (w.setCell q u).cell? p = some v := by
  rw [World.cell?_setCell_far _ _ _ _ (by simpa using hne)]; exact h
theorem own_far_lt {w : World} {B E size n b : Nat} {v : Value} {xs : List Value} (h : w.ownsRow B E size v n xs) (hb : b < B) : v.ownBlock ≠ some b := fun e => by have := (h.lt b e).1; omega
theorem own_far_ge {w : World} {B E size n b : Nat} {v : Value} {xs : List Value} (h : w.ownsRow B E size v n xs) (hb : w.heap.size ≤ b) : v.ownBlock ≠ some b := fun e => by have := (h.lt b e).2; omega
/-- what a law's sum of sizes leaves -/
def szv (left cost : Int) : Int := if left < cost then -1 else left - cost
theorem szv_no {left cost : Int} (h : left < cost) : szv left cost = -1 := if_pos h
theorem szv_yes {left cost : Int} (h : ¬ left < cost) : szv left cost = left - cost := if_neg h
end Go.Proofs.Ytlkfffohjeoooaa
