
/- The drawing of numbers out of lists that are written there. -/
import Derived.Test.YtkgeiemelhkkcaaCur
import Derived.Test.YtkgeiemelhkkcaaCode
namespace Go.Proofs.Ytkgeiemelhkkcaa
open Go.RowKit
set_option linter.unusedVariables false
set_option linter.unusedSimpArgs false
theorem Blk.gr {w w' : World} {g L : Nat} {t : TypeId} {cs : Array Value} (h : Blk w L t cs) (hg : Gr g w w') (hne : L ≠ g) : Blk w' L t cs := (hg.block L h.lt (by intro e; injection e with e; exact hne e)).trans h
theorem Blk.far {w : World} {L : Nat} {t : TypeId} {cs : Array Value} (h : Blk w L t cs) {p : Addr} (hne : L ≠ p.block) (u : Value) : Blk (w.setCell p u) L t cs := (Below.heap_setCell w p u L hne).trans h
theorem allAt_ext {w w' : World} {g n : Nat} {A : Option Addr} {P : Value → Prop} (h : AllAt w g A n P) (hb : Below w.heap.size w w') : AllAt w' g A n P := h.gr (Gr.of_ext hb)
theorem among_lit (g a : Nat) (lo hi : Int) (l : List Int) (e : TypeId) (w : World) (h : CurAt w g a) (ha : a ≤ 900000000000) (hl : ∀ z ∈ l, lo ≤ z ∧ z ≤ hi) (hn : l.length ≤ 65536) (h0 : 0 < l.length) {n H : Nat} (c : Nat) (hnl : n = l.length) (hH : H = w.heap.size) :
    Calls Try.prog 71 #[.pointer (some ⟨g, 0, none⟩), .slice (some ⟨H, 0, none⟩) n c] (w.alloc (.cells (l.map (Value.int .i64)).toArray e)) (DrawIn g a 2 lo hi w) := by
  subst hnl
  have hA := allAt_lit w g (l.map (Value.int .i64)) e hH h.lt (IntIn lo hi) (by
    intro u hu
    obtain ⟨s, hs, rfl⟩ := List.mem_map.1 hu
    exact ⟨s, rfl, hl s hs⟩)
  rw [List.length_map] at hA
  refine (among_any g a _ l.length c lo hi _ (h.ext (ext_alloc (ext_refl _) _)) ha hn h0 hA).mono ?_
  rintro e w1 ⟨s1, a1, rfl, hs1, hs2, ha1, hc1, hg1⟩
  exact ⟨s1, a1, rfl, hs1, hs2, ha1, hc1, (Gr.of_ext (ext_alloc (ext_refl _) _)).trans hg1⟩
theorem own_gr {w w' : World} {g B E s n : Nat} {v : Value} {xs : List Value} (h : w.ownsRow B E s v n xs) (hg : Gr g w w') (hB : g < B) : w'.ownsRow B E s v n xs := by
  refine h.kept hg ?_
  rcases e : v.ownBlock with _ | b
  · exact .inl rfl
  · refine .inr fun e2 => ?_
    injection e2 with e2
    have := (h.lt b e).1
    omega
/-- a row of the call's own grows: the cursor is untouched -/
theorem CurAt.grown {w w' : World} {g a : Nat} {row : Option Nat} (h : CurAt w g a) (hg : w.grownBy w' row) (hne : ∀ b, row = some b → g < b) : CurAt w' g a := by
  obtain ⟨A, n, c, s, h1, h2, h3⟩ := h
  refine ⟨A, n, c, s, (hg.block g h1.lt (fun e => by have := hne g e.symm; omega)).trans h1, h2, fun hn => ?_⟩
  obtain ⟨b, o, e, hlt, hc⟩ := h3 hn
  refine ⟨b, o, e, hlt, fun i hi => ?_⟩
  obtain ⟨z, hz, h01⟩ := hc i hi
  exact ⟨z, hg.cell hz (fun e => by have := hne b e.symm; omega), h01⟩
theorem Gr.grown {w w1 w2 : World} {g : Nat} {row : Option Nat} (h : Gr g w w1) (hg : w1.grownBy w2 row) (hne : ∀ b, row = some b → w.heap.size ≤ b) : Gr g w w2 :=
  ⟨hg.os.trans h.os, hg.tape.trans h.tape, hg.output.trans h.output, Nat.le_trans h.size hg.size, fun i hi hn => (hg.block i (Nat.lt_of_lt_of_le hi h.size) (fun e => by have := hne i e.symm; omega)).trans (h.block i hi hn)⟩
end Go.Proofs.Ytkgeiemelhkkcaa
