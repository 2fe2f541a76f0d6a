
/- A law's argument that is a code: bytes, and the cursor over them. -/
import Derived.Test.YtkgeiemelhkkcaaCur
namespace Go.Proofs.Ytkgeiemelhkkcaa
open Go.RowKit
set_option linter.unusedVariables false
set_option linter.unusedSimpArgs false
/-- a slice of bytes, below block B -/
def Code (w : World) (B : Nat) (A : Option Addr) (n : Nat) : Prop :=
  0 < n → ∃ b o, A = some ⟨b, o, none⟩ ∧ b < B ∧ ∀ i, i < n → ∃ z : Int, w.cell? ⟨b, o + i, none⟩ = some (.int .u8 z) ∧ 0 ≤ z ∧ z ≤ 255
theorem Code.below {w w' : World} {B n : Nat} {A : Option Addr} (h : Code w B A n) (hb : Below B w w') : Code w' B A n := fun hn => by
  obtain ⟨b, o, e, hlt, hc⟩ := h hn
  refine ⟨b, o, e, hlt, fun i hi => ?_⟩
  obtain ⟨z, hz, h01⟩ := hc i hi
  exact ⟨z, (hb.cell (p := ⟨b, o + i, none⟩) hlt).trans hz, h01⟩
theorem Code.more {w : World} {B B' n : Nat} {A : Option Addr} (h : Code w B A n) (hB : B ≤ B') : Code w B' A n := fun hn => by
  obtain ⟨b, o, e, hlt, hc⟩ := h hn
  exact ⟨b, o, e, Nat.lt_of_lt_of_le hlt hB, hc⟩
theorem Blk.new (w : World) (cs : Array Value) (t : TypeId) : Blk (w.alloc (.cells cs t)) w.heap.size t cs := by
  unfold Blk
  simp [World.alloc, -World.alloc_eq]
theorem Code.cur {w : World} {n : Nat} {A : Option Addr} (h : Code w w.heap.size A n) (hn : n ≤ 1000000000) (c : Nat) : CurAt (w.alloc (.cells #[.slice A n c, .int .i64 0, .int .u64 0] 73)) w.heap.size 0 := by
  refine ⟨A, n, c, 0, Blk.new w _ _, hn, fun h0 => ?_⟩
  obtain ⟨b, o, e, hlt, hc⟩ := h h0
  refine ⟨b, o, e, hlt, fun i hi => ?_⟩
  obtain ⟨z, hz, h01⟩ := hc i hi
  exact ⟨z, ext_cell (ext_alloc (ext_refl _) _) hz, h01⟩
/-- the same where a block of the call's own lies below it -/
theorem Code.cur1 {w : World} {n : Nat} {A : Option Addr} (h : Code w w.heap.size A n) (hn : n ≤ 1000000000) (c : Nat) (o : Obj) : CurAt ((w.alloc o).alloc (.cells #[.slice A n c, .int .i64 0, .int .u64 0] 73)) (w.heap.size + 1) 0 := by
  have := Code.cur ((h.below (ext_alloc (ext_refl _) o)).more (B' := (w.alloc o).heap.size) (by simp)) hn c
  simpa using this
end Go.Proofs.Ytkgeiemelhkkcaa
