/- Drawing a frame and numbers beside it. -/
import Derived.Test.YtfechhacmkajdaaVM7
import Derived.Test.YtfechhacmkajdaaVM3
import Derived.Test.YtfechhacmkajdaaVM1
namespace Go.Proofs.Ytfechhacmkajdaa
open Go.RowKit
set_option linter.unusedVariables false
set_option linter.unusedSimpArgs false
theorem fill_gr {w0 w : World} {g b : Nat} {u0 u1 u2 : Value} (h : Gr g w0 w) (hb : w0.heap.size ≤ b) : Gr g w0 (((w.setCell ⟨b, 0, none⟩ u0).setCell ⟨b, 1, none⟩ u1).setCell ⟨b, 2, none⟩ u2) := ((h.setNew (p := ⟨b, 0, none⟩) hb u0).setNew (p := ⟨b, 1, none⟩) hb u1).setNew (p := ⟨b, 2, none⟩) hb u2
def noU8 : Value → Bool
 | .int .u8 _ => false
 | _ => true
/-- a store into a block that holds no bytes: the cursor stays -/
theorem CurAt.side {w : World} {g a b k : Nat} {T : TypeId} {cs : Array Value} {u : Value} (h : CurAt w g a) (hB : Blk w b T cs) (hne : b ≠ g) (hcs : cs.all noU8 = true) : CurAt (w.setCell ⟨b, k, none⟩ u) g a := by
 obtain ⟨A, n, c, s, h1, h2, h3⟩ := h
 refine ⟨A, n, c, s, h1.setF (p := ⟨b, k, none⟩) hne u, h2, fun hn => ?_⟩
 obtain ⟨b', o, e, hlt, hc⟩ := h3 hn
 refine ⟨b', o, e, hlt, fun i hi => ?_⟩
 obtain ⟨z, hz, h01⟩ := hc i hi
 have hbb : b ≠ b' := by
  intro e
  subst e
  rw [hB.cell] at hz
  obtain ⟨hlt', hv⟩ := Array.getElem?_eq_some_iff.1 hz
  have := Array.all_eq_true.1 hcs (o + i) hlt'
  rw [hv] at this
  cases this
 exact ⟨z, (World.cell?_setCell_far w ⟨b, k, none⟩ ⟨b', o + i, none⟩ u hbb).trans hz, h01⟩
theorem side2 {w : World} {g a b : Nat} {T : TypeId} {u0 u1 c0 c1 : Value} (h : CurAt w g a) (hB : Blk w b T #[c0, c1]) (hne : b ≠ g) (hcs : (#[c0, c1] : Array Value).all noU8 = true) (h0 : noU8 u0 = true) : CurAt ((w.setCell ⟨b, 0, none⟩ u0).setCell ⟨b, 1, none⟩ u1) g a := by
 have hc : noU8 c0 = true ∧ noU8 c1 = true := by simpa using hcs
 obtain ⟨q0, q1⟩ := hc
 have C1 := CurAt.side (k := 0) (u := u0) h hB hne (by simp [q0, q1])
 have B1 : Blk (w.setCell ⟨b, 0, none⟩ u0) b T #[u0, c1] := hB.set_ 0 u0
 have C2 := CurAt.side (k := 1) (u := u1) C1 B1 hne (by simp [h0, q1])
 exact C2
theorem side3 {w : World} {g a b : Nat} {T : TypeId} {u0 u1 u2 c0 c1 c2 : Value} (h : CurAt w g a) (hB : Blk w b T #[c0, c1, c2]) (hne : b ≠ g) (hcs : (#[c0, c1, c2] : Array Value).all noU8 = true) (h0 : noU8 u0 = true) (h1 : noU8 u1 = true) : CurAt (((w.setCell ⟨b, 0, none⟩ u0).setCell ⟨b, 1, none⟩ u1).setCell ⟨b, 2, none⟩ u2) g a := by
 have hc : noU8 c0 = true ∧ noU8 c1 = true ∧ noU8 c2 = true := by simpa using hcs
 obtain ⟨q0, q1, q2⟩ := hc
 have C1 := CurAt.side (k := 0) (u := u0) h hB hne (by simp [q0, q1, q2])
 have B1 : Blk (w.setCell ⟨b, 0, none⟩ u0) b T #[u0, c1, c2] := hB.set_ 0 u0
 have C2 := CurAt.side (k := 1) (u := u1) C1 B1 hne (by simp [h0, q1, q2])
 have B2 : Blk ((w.setCell ⟨b, 0, none⟩ u0).setCell ⟨b, 1, none⟩ u1) b T #[u0, u1, c2] := B1.set_ 1 u1
 have C3 := CurAt.side (k := 2) (u := u2) C2 B2 hne (by simp [h0, h1, q2])
 exact C3
def AdN (S g : Nat) (R0 : Nat) (u lo : Int) (A : Option Addr) (c : Nat) (l : List R2) (vs : Nat → Value) (wx : World) : Nat → Prop
 | 0 => vs 11 = frV u lo A l.length c
 | 1 => vs 12 = .pointer (some ⟨g, 0, none⟩)
 | 2 => vs 13 = frV u lo A l.length c
 | 3 => ∃ (z : Int), vs 14 = .int .i64 z ∧ (-1 ≤ z) ∧ (z ≤ 100000001)
 | 4 => (wx.ownsRow S 54 2 (.slice A l.length c) l.length (rowsV2 l)) ∧ (Blk wx R0 42 #[.int .i64 u, .int .i64 lo, .slice A l.length c]) ∧ (R0 < g)
 | 5 => ∃ (z : Int), vs 3 = .int .i64 z ∧ (-1 ≤ z) ∧ (z ≤ 100000001)
 | _ => True
def AdNU : Nat → List Nat
 | 0 => [11]
 | 1 => [12]
 | 2 => [13]
 | 3 => [14]
 | 4 => []
 | 5 => [3]
 | _ => []
def AdNR (g : Nat) (R0 : Nat) (u lo : Int) (A : Option Addr) (c : Nat) (l : List R2) (i : Nat) (wx wy : World) : Prop := if i = 4 then KeepW 42 wx wy else Gr g wx wy
theorem AdN_gr {S g : Nat} {R0 : Nat} {u lo : Int} {A : Option Addr} {c : Nat} {l : List R2} (hgS : g < S) {vs us : Nat → Value} {wx wy : World} {jN : Nat} (hGG : AdN S g R0 u lo A c l vs wx jN) (haG : ∀ d ∈ AdNU jN, us d = vs d) (hbG : Gr g wx wy) : AdN S g R0 u lo A c l us wy jN := by
 match jN, hGG, haG with
 | 0, hGG, haG =>
   exact (haG 11 (by simp [AdNU])).trans hGG
 | 1, hGG, haG =>
   exact (haG 12 (by simp [AdNU])).trans hGG
 | 2, hGG, haG =>
   exact (haG 13 (by simp [AdNU])).trans hGG
 | 3, hGG, haG =>
   obtain ⟨xG0, eG, fG0, fG1⟩ := hGG
   exact ⟨xG0, (haG 14 (by simp [AdNU])).trans eG, fG0, fG1⟩
 | 4, hGG, haG =>
   obtain ⟨fG0, fG1, fG2⟩ := hGG
   exact ⟨own_gr fG0 hbG hgS, fG1.gr hbG (by omega), fG2⟩
 | 5, hGG, haG =>
   obtain ⟨xG0, eG, fG0, fG1⟩ := hGG
   exact ⟨xG0, (haG 3 (by simp [AdNU])).trans eG, fG0, fG1⟩
 | jN + 6, _, _ => trivial
theorem AdN_4 {S g : Nat} {R0 : Nat} {u lo : Int} {A : Option Addr} {c : Nat} {l : List R2} (hgS : g < S) {vs us : Nat → Value} {wx wy : World} {jN : Nat} (hneG : jN ≠ 4) (hGG : AdN S g R0 u lo A c l vs wx jN) (haG : ∀ d ∈ AdNU jN, us d = vs d) (hbG : KeepW 42 wx wy) : AdN S g R0 u lo A c l us wy jN := by
 match jN, hGG, haG, hneG with
 | 0, hGG, haG, hneG =>
   exact (haG 11 (by simp [AdNU])).trans hGG
 | 1, hGG, haG, hneG =>
   exact (haG 12 (by simp [AdNU])).trans hGG
 | 2, hGG, haG, hneG =>
   exact (haG 13 (by simp [AdNU])).trans hGG
 | 3, hGG, haG, hneG =>
   obtain ⟨xG0, eG, fG0, fG1⟩ := hGG
   exact ⟨xG0, (haG 14 (by simp [AdNU])).trans eG, fG0, fG1⟩
 | 4, hGG, haG, hneG =>
   exact absurd rfl hneG
 | 5, hGG, haG, hneG =>
   obtain ⟨xG0, eG, fG0, fG1⟩ := hGG
   exact ⟨xG0, (haG 3 (by simp [AdNU])).trans eG, fG0, fG1⟩
 | jN + 6, _, _, _ => trivial
def AdNP (j i : Nat) : Bool := false
theorem AdN_keep {S g : Nat} {R0 : Nat} {u lo : Int} {A : Option Addr} {c : Nat} {l : List R2} (hgS : g < S) {vs us : Nat → Value} {wx wy : World} {iN jN : Nat} (hneG : iN ≠ jN) (hdpG : AdNP jN iN = false) (hGG : AdN S g R0 u lo A c l vs wx jN) (haG : ∀ d ∈ AdNU jN, us d = vs d) (hbG : AdNR g R0 u lo A c l iN wx wy) : AdN S g R0 u lo A c l us wy jN := by
 unfold AdNR at hbG
 by_cases h4 : iN = 4
 · rw [if_pos h4] at hbG
   exact AdN_4 hgS (by omega) hGG haG hbG
 rw [if_neg h4] at hbG
 exact AdN_gr hgS hGG haG hbG
def DrawAddNumber (w : World) (e : Ending) (w' : World) : Prop := ∃ (u lo : Int) (l : List R2) (A : Option Addr) (c : Nat) (z : Int), e = .returned (.tuple #[frV u lo A l.length c, .int .i64 z]) ∧ FrIn u lo l ∧ (-1 ≤ z) ∧ (z ≤ 100000001) ∧ w'.ownsRow w.heap.size 54 2 (.slice A l.length c) l.length (rowsV2 l) ∧ Below w.heap.size w w'
def AdT (S g : Nat) (R0 : Nat) (u lo : Int) (A : Option Addr) (c : Nat) (l : List R2) (vs : Nat → Value) (wx : World) : Nat → Prop
 | 0 => vs 11 = frV u lo A l.length c
 | 1 => vs 12 = .pointer (some ⟨g, 0, none⟩)
 | 2 => vs 13 = frV u lo A l.length c
 | 3 => ∃ (z : Int), vs 14 = .int .i64 z ∧ (-1 ≤ z) ∧ (z ≤ 200000001)
 | 4 => (wx.ownsRow S 54 2 (.slice A l.length c) l.length (rowsV2 l)) ∧ (Blk wx R0 42 #[.int .i64 u, .int .i64 lo, .slice A l.length c]) ∧ (R0 < g)
 | 5 => ∃ (z : Int), vs 3 = .int .i64 z ∧ (-1 ≤ z) ∧ (z ≤ 200000001)
 | _ => True
def AdTU : Nat → List Nat
 | 0 => [11]
 | 1 => [12]
 | 2 => [13]
 | 3 => [14]
 | 4 => []
 | 5 => [3]
 | _ => []
def AdTR (g : Nat) (R0 : Nat) (u lo : Int) (A : Option Addr) (c : Nat) (l : List R2) (i : Nat) (wx wy : World) : Prop := if i = 4 then KeepW 42 wx wy else Gr g wx wy
theorem AdT_gr {S g : Nat} {R0 : Nat} {u lo : Int} {A : Option Addr} {c : Nat} {l : List R2} (hgS : g < S) {vs us : Nat → Value} {wx wy : World} {jN : Nat} (hGG : AdT S g R0 u lo A c l vs wx jN) (haG : ∀ d ∈ AdTU jN, us d = vs d) (hbG : Gr g wx wy) : AdT S g R0 u lo A c l us wy jN := by
 match jN, hGG, haG with
 | 0, hGG, haG =>
   exact (haG 11 (by simp [AdTU])).trans hGG
 | 1, hGG, haG =>
   exact (haG 12 (by simp [AdTU])).trans hGG
 | 2, hGG, haG =>
   exact (haG 13 (by simp [AdTU])).trans hGG
 | 3, hGG, haG =>
   obtain ⟨xG0, eG, fG0, fG1⟩ := hGG
   exact ⟨xG0, (haG 14 (by simp [AdTU])).trans eG, fG0, fG1⟩
 | 4, hGG, haG =>
   obtain ⟨fG0, fG1, fG2⟩ := hGG
   exact ⟨own_gr fG0 hbG hgS, fG1.gr hbG (by omega), fG2⟩
 | 5, hGG, haG =>
   obtain ⟨xG0, eG, fG0, fG1⟩ := hGG
   exact ⟨xG0, (haG 3 (by simp [AdTU])).trans eG, fG0, fG1⟩
 | jN + 6, _, _ => trivial
theorem AdT_4 {S g : Nat} {R0 : Nat} {u lo : Int} {A : Option Addr} {c : Nat} {l : List R2} (hgS : g < S) {vs us : Nat → Value} {wx wy : World} {jN : Nat} (hneG : jN ≠ 4) (hGG : AdT S g R0 u lo A c l vs wx jN) (haG : ∀ d ∈ AdTU jN, us d = vs d) (hbG : KeepW 42 wx wy) : AdT S g R0 u lo A c l us wy jN := by
 match jN, hGG, haG, hneG with
 | 0, hGG, haG, hneG =>
   exact (haG 11 (by simp [AdTU])).trans hGG
 | 1, hGG, haG, hneG =>
   exact (haG 12 (by simp [AdTU])).trans hGG
 | 2, hGG, haG, hneG =>
   exact (haG 13 (by simp [AdTU])).trans hGG
 | 3, hGG, haG, hneG =>
   obtain ⟨xG0, eG, fG0, fG1⟩ := hGG
   exact ⟨xG0, (haG 14 (by simp [AdTU])).trans eG, fG0, fG1⟩
 | 4, hGG, haG, hneG =>
   exact absurd rfl hneG
 | 5, hGG, haG, hneG =>
   obtain ⟨xG0, eG, fG0, fG1⟩ := hGG
   exact ⟨xG0, (haG 3 (by simp [AdTU])).trans eG, fG0, fG1⟩
 | jN + 6, _, _, _ => trivial
def AdTP (j i : Nat) : Bool := false
theorem AdT_keep {S g : Nat} {R0 : Nat} {u lo : Int} {A : Option Addr} {c : Nat} {l : List R2} (hgS : g < S) {vs us : Nat → Value} {wx wy : World} {iN jN : Nat} (hneG : iN ≠ jN) (hdpG : AdTP jN iN = false) (hGG : AdT S g R0 u lo A c l vs wx jN) (haG : ∀ d ∈ AdTU jN, us d = vs d) (hbG : AdTR g R0 u lo A c l iN wx wy) : AdT S g R0 u lo A c l us wy jN := by
 unfold AdTR at hbG
 by_cases h4 : iN = 4
 · rw [if_pos h4] at hbG
   exact AdT_4 hgS (by omega) hGG haG hbG
 rw [if_neg h4] at hbG
 exact AdT_gr hgS hGG haG hbG
def DrawTakeNumber (w : World) (e : Ending) (w' : World) : Prop := ∃ (u lo : Int) (l : List R2) (A : Option Addr) (c : Nat) (z : Int), e = .returned (.tuple #[frV u lo A l.length c, .int .i64 z]) ∧ FrIn u lo l ∧ (-1 ≤ z) ∧ (z ≤ 200000001) ∧ w'.ownsRow w.heap.size 54 2 (.slice A l.length c) l.length (rowsV2 l) ∧ Below w.heap.size w w'
def AdD (S g : Nat) (R0 : Nat) (u lo : Int) (A : Option Addr) (c : Nat) (l : List R2) (vs : Nat → Value) (wx : World) : Nat → Prop
 | 0 => vs 12 = frV u lo A l.length c
 | 1 => vs 13 = .pointer (some ⟨g, 0, none⟩)
 | 2 => vs 14 = frV u lo A l.length c
 | 3 => ∃ (z : Int), vs 15 = .int .i64 z ∧ (-1 ≤ z) ∧ (z ≤ 9)
 | 4 => vs 16 = .pointer (some ⟨g, 0, none⟩)
 | 5 => ∃ (p : Int), vs 17 = .int .i64 p ∧ (0 ≤ p) ∧ (p ≤ 10)
 | 6 => vs 18 = .pointer (some ⟨g, 0, none⟩)
 | 7 => ∃ (q : Int), vs 19 = .int .i64 q ∧ (0 ≤ q) ∧ (q ≤ 16)
 | 8 => ∃ (y : Int), vs 20 = .int .i64 y ∧ (0 ≤ y) ∧ (y ≤ 1)
 | 9 => ∃ (d : Int), vs 21 = .int .i64 d ∧ (-1 ≤ d) ∧ (d ≤ 10)
 | 10 => (wx.ownsRow S 54 2 (.slice A l.length c) l.length (rowsV2 l)) ∧ (Blk wx R0 42 #[.int .i64 u, .int .i64 lo, .slice A l.length c]) ∧ (R0 < g)
 | 11 => ∃ (z : Int), vs 3 = .int .i64 z ∧ (-1 ≤ z) ∧ (z ≤ 9)
 | 12 => ∃ (d : Int), vs 4 = .int .i64 d ∧ (-1 ≤ d) ∧ (d ≤ 10)
 | _ => True
def AdDU : Nat → List Nat
 | 0 => [12]
 | 1 => [13]
 | 2 => [14]
 | 3 => [15]
 | 4 => [16]
 | 5 => [17]
 | 6 => [18]
 | 7 => [19]
 | 8 => [20]
 | 9 => [21]
 | 10 => []
 | 11 => [3]
 | 12 => [4]
 | _ => []
def AdDR (g : Nat) (R0 : Nat) (u lo : Int) (A : Option Addr) (c : Nat) (l : List R2) (i : Nat) (wx wy : World) : Prop := if i = 10 then KeepW 42 wx wy else Gr g wx wy
theorem AdD_gr {S g : Nat} {R0 : Nat} {u lo : Int} {A : Option Addr} {c : Nat} {l : List R2} (hgS : g < S) {vs us : Nat → Value} {wx wy : World} {jN : Nat} (hGG : AdD S g R0 u lo A c l vs wx jN) (haG : ∀ d ∈ AdDU jN, us d = vs d) (hbG : Gr g wx wy) : AdD S g R0 u lo A c l us wy jN := by
 match jN, hGG, haG with
 | 0, hGG, haG =>
   exact (haG 12 (by simp [AdDU])).trans hGG
 | 1, hGG, haG =>
   exact (haG 13 (by simp [AdDU])).trans hGG
 | 2, hGG, haG =>
   exact (haG 14 (by simp [AdDU])).trans hGG
 | 3, hGG, haG =>
   obtain ⟨xG0, eG, fG0, fG1⟩ := hGG
   exact ⟨xG0, (haG 15 (by simp [AdDU])).trans eG, fG0, fG1⟩
 | 4, hGG, haG =>
   exact (haG 16 (by simp [AdDU])).trans hGG
 | 5, hGG, haG =>
   obtain ⟨xG0, eG, fG0, fG1⟩ := hGG
   exact ⟨xG0, (haG 17 (by simp [AdDU])).trans eG, fG0, fG1⟩
 | 6, hGG, haG =>
   exact (haG 18 (by simp [AdDU])).trans hGG
 | 7, hGG, haG =>
   obtain ⟨xG0, eG, fG0, fG1⟩ := hGG
   exact ⟨xG0, (haG 19 (by simp [AdDU])).trans eG, fG0, fG1⟩
 | 8, hGG, haG =>
   obtain ⟨xG0, eG, fG0, fG1⟩ := hGG
   exact ⟨xG0, (haG 20 (by simp [AdDU])).trans eG, fG0, fG1⟩
 | 9, hGG, haG =>
   obtain ⟨xG0, eG, fG0, fG1⟩ := hGG
   exact ⟨xG0, (haG 21 (by simp [AdDU])).trans eG, fG0, fG1⟩
 | 10, hGG, haG =>
   obtain ⟨fG0, fG1, fG2⟩ := hGG
   exact ⟨own_gr fG0 hbG hgS, fG1.gr hbG (by omega), fG2⟩
 | 11, hGG, haG =>
   obtain ⟨xG0, eG, fG0, fG1⟩ := hGG
   exact ⟨xG0, (haG 3 (by simp [AdDU])).trans eG, fG0, fG1⟩
 | 12, hGG, haG =>
   obtain ⟨xG0, eG, fG0, fG1⟩ := hGG
   exact ⟨xG0, (haG 4 (by simp [AdDU])).trans eG, fG0, fG1⟩
 | jN + 13, _, _ => trivial
theorem AdD_10 {S g : Nat} {R0 : Nat} {u lo : Int} {A : Option Addr} {c : Nat} {l : List R2} (hgS : g < S) {vs us : Nat → Value} {wx wy : World} {jN : Nat} (hneG : jN ≠ 10) (hGG : AdD S g R0 u lo A c l vs wx jN) (haG : ∀ d ∈ AdDU jN, us d = vs d) (hbG : KeepW 42 wx wy) : AdD S g R0 u lo A c l us wy jN := by
 match jN, hGG, haG, hneG with
 | 0, hGG, haG, hneG =>
   exact (haG 12 (by simp [AdDU])).trans hGG
 | 1, hGG, haG, hneG =>
   exact (haG 13 (by simp [AdDU])).trans hGG
 | 2, hGG, haG, hneG =>
   exact (haG 14 (by simp [AdDU])).trans hGG
 | 3, hGG, haG, hneG =>
   obtain ⟨xG0, eG, fG0, fG1⟩ := hGG
   exact ⟨xG0, (haG 15 (by simp [AdDU])).trans eG, fG0, fG1⟩
 | 4, hGG, haG, hneG =>
   exact (haG 16 (by simp [AdDU])).trans hGG
 | 5, hGG, haG, hneG =>
   obtain ⟨xG0, eG, fG0, fG1⟩ := hGG
   exact ⟨xG0, (haG 17 (by simp [AdDU])).trans eG, fG0, fG1⟩
 | 6, hGG, haG, hneG =>
   exact (haG 18 (by simp [AdDU])).trans hGG
 | 7, hGG, haG, hneG =>
   obtain ⟨xG0, eG, fG0, fG1⟩ := hGG
   exact ⟨xG0, (haG 19 (by simp [AdDU])).trans eG, fG0, fG1⟩
 | 8, hGG, haG, hneG =>
   obtain ⟨xG0, eG, fG0, fG1⟩ := hGG
   exact ⟨xG0, (haG 20 (by simp [AdDU])).trans eG, fG0, fG1⟩
 | 9, hGG, haG, hneG =>
   obtain ⟨xG0, eG, fG0, fG1⟩ := hGG
   exact ⟨xG0, (haG 21 (by simp [AdDU])).trans eG, fG0, fG1⟩
 | 10, hGG, haG, hneG =>
   exact absurd rfl hneG
 | 11, hGG, haG, hneG =>
   obtain ⟨xG0, eG, fG0, fG1⟩ := hGG
   exact ⟨xG0, (haG 3 (by simp [AdDU])).trans eG, fG0, fG1⟩
 | 12, hGG, haG, hneG =>
   obtain ⟨xG0, eG, fG0, fG1⟩ := hGG
   exact ⟨xG0, (haG 4 (by simp [AdDU])).trans eG, fG0, fG1⟩
 | jN + 13, _, _, _ => trivial
def AdDP (j i : Nat) : Bool := false
theorem AdD_keep {S g : Nat} {R0 : Nat} {u lo : Int} {A : Option Addr} {c : Nat} {l : List R2} (hgS : g < S) {vs us : Nat → Value} {wx wy : World} {iN jN : Nat} (hneG : iN ≠ jN) (hdpG : AdDP jN iN = false) (hGG : AdD S g R0 u lo A c l vs wx jN) (haG : ∀ d ∈ AdDU jN, us d = vs d) (hbG : AdDR g R0 u lo A c l iN wx wy) : AdD S g R0 u lo A c l us wy jN := by
 unfold AdDR at hbG
 by_cases h10 : iN = 10
 · rw [if_pos h10] at hbG
   exact AdD_10 hgS (by omega) hGG haG hbG
 rw [if_neg h10] at hbG
 exact AdD_gr hgS hGG haG hbG
def DrawAddDigit (w : World) (e : Ending) (w' : World) : Prop := ∃ (u lo : Int) (l : List R2) (A : Option Addr) (c : Nat) (z : Int) (d : Int), e = .returned (.tuple #[frV u lo A l.length c, .int .i64 z, .int .i64 d]) ∧ FrIn u lo l ∧ (-1 ≤ z) ∧ (z ≤ 9) ∧ (-1 ≤ d) ∧ (d ≤ 10) ∧ w'.ownsRow w.heap.size 54 2 (.slice A l.length c) l.length (rowsV2 l) ∧ Below w.heap.size w w'
end Go.Proofs.Ytfechhacmkajdaa
