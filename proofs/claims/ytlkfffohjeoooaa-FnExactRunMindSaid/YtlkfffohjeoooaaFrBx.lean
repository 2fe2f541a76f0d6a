
/- Frames in boxes: three cells written. -/
import Derived.Test.YtlkfffohjeoooaaFrB
namespace Go.Proofs.Ytlkfffohjeoooaa
open Go.RowKit
set_option linter.unusedVariables false
set_option linter.unusedSimpArgs false
theorem fr_fill {w : World} {g : Nat} {a b c : Value} (h : Blk w g 29 #[.int .i64 0, .int .i64 0, .slice none 0 0]) : Blk (((w.setCell ⟨g, 0, none⟩ a).setCell ⟨g, 1, none⟩ b).setCell ⟨g, 2, none⟩ c) g 29 #[a, b, c] := ((h.set_ 0 a).set_ 1 b).set_ 2 c
theorem fr_put {w : World} {g : Nat} {a b c a' b' c' : Value} (h : Blk w g 29 #[a', b', c']) : Blk (((w.setCell ⟨g, 0, none⟩ a).setCell ⟨g, 1, none⟩ b).setCell ⟨g, 2, none⟩ c) g 29 #[a, b, c] := ((h.set_ 0 a).set_ 1 b).set_ 2 c
theorem fill_far {w : World} {g k : Nat} {t : TypeId} {cs : Array Value} {a b c : Value} (h : Blk w k t cs) (hne : g ≠ k) : Blk (((w.setCell ⟨g, 0, none⟩ a).setCell ⟨g, 1, none⟩ b).setCell ⟨g, 2, none⟩ c) k t cs := ((h.setF (p := ⟨g, 0, none⟩) hne a).setF (p := ⟨g, 1, none⟩) hne b).setF (p := ⟨g, 2, none⟩) hne c
theorem fill_own' {w : World} {g B E size n : Nat} {v : Value} {xs : List Value} {a b c : Value} (h : w.ownsRow B E size v n xs) (hne : v.ownBlock ≠ some g) : (((w.setCell ⟨g, 0, none⟩ a).setCell ⟨g, 1, none⟩ b).setCell ⟨g, 2, none⟩ c).ownsRow B E size v n xs := own_setF (p := ⟨g, 2, none⟩) (own_setF (p := ⟨g, 1, none⟩) (own_setF (p := ⟨g, 0, none⟩) h hne a) hne b) hne c
theorem fill_own {w : World} {g B B' E size n : Nat} {v : Value} {xs : List Value} {a b c : Value} (h : w.ownsRow B E size v n xs) (hg : g < B) (hB : B' ≤ B) : (((w.setCell ⟨g, 0, none⟩ a).setCell ⟨g, 1, none⟩ b).setCell ⟨g, 2, none⟩ c).ownsRow B' E size v n xs := own_base (fill_own' h (own_far_lt h hg)) hB
theorem fill_below {w0 w : World} {g B : Nat} {a b c : Value} (h : Below B w0 w) (hg : B ≤ g) : Below B w0 (((w.setCell ⟨g, 0, none⟩ a).setCell ⟨g, 1, none⟩ b).setCell ⟨g, 2, none⟩ c) := ((h.setCell (p := ⟨g, 0, none⟩) hg a).setCell (p := ⟨g, 1, none⟩) hg b).setCell (p := ⟨g, 2, none⟩) hg c
/-- a frame of its own comes back beside a bool -/
def RetFrB (w : World) (F : Int × Int × List R2) (ok : Bool) (e : Ending) (w' : World) : Prop :=
  ∃ A c, e = .returned (.tuple #[frV F.1 F.2.1 A F.2.2.length c, .bool ok]) ∧ w'.ownsRow w.heap.size 155 2 (.slice A F.2.2.length c) F.2.2.length (rowsV2 F.2.2) ∧ Below w.heap.size w w'
theorem rows_cells2 {w : World} {B h n c : Nat} {l : List R2} (hr : w.ownsRow B 155 2 (.slice (some ⟨h, 0, none⟩) n c) n (rowsV2 l)) {r : Nat} {x : R2} (hd : l[r]? = some x) :
    w.cell? ⟨h, r * 2, none⟩ = some (.int .i64 x.a) ∧ w.cell? ⟨h, r * 2 + 1, none⟩ = some (.int .i64 x.b) ∧ h < w.heap.size ∧ B ≤ h := by
  obtain ⟨b, o, hA, hb, c0, c1⟩ := rows_at2 (Reads.of_own hr) hd
  injection hA with hA
  injection hA with hA1 hA2
  subst hA1 hA2
  rw [Nat.zero_add] at c0 c1
  exact ⟨c0, c1, hb, (hr.lt _ rfl).1⟩
end Go.Proofs.Ytlkfffohjeoooaa
