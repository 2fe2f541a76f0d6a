/- What FnReplay draws: a day and a log. -/
import Derived.Test.YtkcbgiegoadkbaaGreatVM13
import Derived.Test.YtkcbgiegoadkbaaGreatVM3
import Derived.Test.YtkcbgiegoadkbaaGreatVLgA
import Derived.Test.YtkcbgiegoadkbaaGreatVM4
namespace Go.Proofs.YtkcbgiegoadkbaaGreat
open Go.RowKit
set_option linter.unusedVariables false
set_option linter.unusedSimpArgs false
theorem c7_cur {w : World} {g a b : Nat} {u0 u1 u2 u3 u4 u5 u6 : Value} (h : CurAt w g a) (hb : g < b) : CurAt (((((((w.setCell ⟨b, 0, none⟩ u0).setCell ⟨b, 1, none⟩ u1).setCell ⟨b, 2, none⟩ u2).setCell ⟨b, 3, none⟩ u3).setCell ⟨b, 4, none⟩ u4).setCell ⟨b, 5, none⟩ u5).setCell ⟨b, 6, none⟩ u6) g a := (((((((h.far (p := ⟨b, 0, none⟩) hb u0).far (p := ⟨b, 1, none⟩) hb u1).far (p := ⟨b, 2, none⟩) hb u2).far (p := ⟨b, 3, none⟩) hb u3).far (p := ⟨b, 4, none⟩) hb u4).far (p := ⟨b, 5, none⟩) hb u5).far (p := ⟨b, 6, none⟩) hb u6)
theorem c7_gr {w0 w : World} {g b : Nat} {u0 u1 u2 u3 u4 u5 u6 : Value} (h : Gr g w0 w) (hb : w0.heap.size ≤ b) : Gr g w0 (((((((w.setCell ⟨b, 0, none⟩ u0).setCell ⟨b, 1, none⟩ u1).setCell ⟨b, 2, none⟩ u2).setCell ⟨b, 3, none⟩ u3).setCell ⟨b, 4, none⟩ u4).setCell ⟨b, 5, none⟩ u5).setCell ⟨b, 6, none⟩ u6) := (((((((h.setNew (p := ⟨b, 0, none⟩) hb u0).setNew (p := ⟨b, 1, none⟩) hb u1).setNew (p := ⟨b, 2, none⟩) hb u2).setNew (p := ⟨b, 3, none⟩) hb u3).setNew (p := ⟨b, 4, none⟩) hb u4).setNew (p := ⟨b, 5, none⟩) hb u5).setNew (p := ⟨b, 6, none⟩) hb u6)
theorem c7_far {w : World} {b k : Nat} {t : TypeId} {cs : Array Value} {u0 u1 u2 u3 u4 u5 u6 : Value} (h : Blk w k t cs) (hne : b ≠ k) : Blk (((((((w.setCell ⟨b, 0, none⟩ u0).setCell ⟨b, 1, none⟩ u1).setCell ⟨b, 2, none⟩ u2).setCell ⟨b, 3, none⟩ u3).setCell ⟨b, 4, none⟩ u4).setCell ⟨b, 5, none⟩ u5).setCell ⟨b, 6, none⟩ u6) k t cs := (((((((h.setF (p := ⟨b, 0, none⟩) hne u0).setF (p := ⟨b, 1, none⟩) hne u1).setF (p := ⟨b, 2, none⟩) hne u2).setF (p := ⟨b, 3, none⟩) hne u3).setF (p := ⟨b, 4, none⟩) hne u4).setF (p := ⟨b, 5, none⟩) hne u5).setF (p := ⟨b, 6, none⟩) hne u6)
theorem c7_own {w : World} {b B E size n : Nat} {v : Value} {xs : List Value} {u0 u1 u2 u3 u4 u5 u6 : Value} (h : w.ownsRow B E size v n xs) (hne : v.ownBlock ≠ some b) : World.ownsRow (((((((w.setCell ⟨b, 0, none⟩ u0).setCell ⟨b, 1, none⟩ u1).setCell ⟨b, 2, none⟩ u2).setCell ⟨b, 3, none⟩ u3).setCell ⟨b, 4, none⟩ u4).setCell ⟨b, 5, none⟩ u5).setCell ⟨b, 6, none⟩ u6) B E size v n xs := (own_setF (p := ⟨b, 6, none⟩) (own_setF (p := ⟨b, 5, none⟩) (own_setF (p := ⟨b, 4, none⟩) (own_setF (p := ⟨b, 3, none⟩) (own_setF (p := ⟨b, 2, none⟩) (own_setF (p := ⟨b, 1, none⟩) (own_setF (p := ⟨b, 0, none⟩) h hne u0) hne u1) hne u2) hne u3) hne u4) hne u5) hne u6)
theorem c3_cur {w : World} {g a b : Nat} {u0 u1 u2 : Value} (h : CurAt w g a) (hb : g < b) : CurAt (((w.setCell ⟨b, 0, none⟩ u0).setCell ⟨b, 1, none⟩ u1).setCell ⟨b, 2, none⟩ u2) g a := (((h.far (p := ⟨b, 0, none⟩) hb u0).far (p := ⟨b, 1, none⟩) hb u1).far (p := ⟨b, 2, none⟩) hb u2)
theorem c3_gr {w0 w : World} {g b : Nat} {u0 u1 u2 : Value} (h : Gr g w0 w) (hb : w0.heap.size ≤ b) : Gr g w0 (((w.setCell ⟨b, 0, none⟩ u0).setCell ⟨b, 1, none⟩ u1).setCell ⟨b, 2, none⟩ u2) := (((h.setNew (p := ⟨b, 0, none⟩) hb u0).setNew (p := ⟨b, 1, none⟩) hb u1).setNew (p := ⟨b, 2, none⟩) hb u2)
theorem c3_far {w : World} {b k : Nat} {t : TypeId} {cs : Array Value} {u0 u1 u2 : Value} (h : Blk w k t cs) (hne : b ≠ k) : Blk (((w.setCell ⟨b, 0, none⟩ u0).setCell ⟨b, 1, none⟩ u1).setCell ⟨b, 2, none⟩ u2) k t cs := (((h.setF (p := ⟨b, 0, none⟩) hne u0).setF (p := ⟨b, 1, none⟩) hne u1).setF (p := ⟨b, 2, none⟩) hne u2)
theorem c3_own {w : World} {b B E size n : Nat} {v : Value} {xs : List Value} {u0 u1 u2 : Value} (h : w.ownsRow B E size v n xs) (hne : v.ownBlock ≠ some b) : World.ownsRow (((w.setCell ⟨b, 0, none⟩ u0).setCell ⟨b, 1, none⟩ u1).setCell ⟨b, 2, none⟩ u2) B E size v n xs := (own_setF (p := ⟨b, 2, none⟩) (own_setF (p := ⟨b, 1, none⟩) (own_setF (p := ⟨b, 0, none⟩) h hne u0) hne u1) hne u2)

def Fre (S g : Nat) (NC R0 : Nat) (D P Q : Int) (l : List R5) (A : Option Addr) (c : Nat) (p : ByteArray) (z : Int) (vs : Nat → Value) (wx : World) : Nat → Prop
 | 0 => vs 32 = conV D A l.length c P Q ⟨#[]⟩ p z
 | 1 => vs 33 = .pointer (some ⟨g, 0, none⟩)
 | 2 => vs 34 = conV D A l.length c P Q ⟨#[]⟩ p z
 | 3 => ∃ (line : ByteArray), vs 35 = .string line ∧ (line.size ≤ 60)
 | 4 => ∃ (Dn : Int) (Pn : Int) (Qn : Int) (L : List R5) (pn : ByteArray) (zn : Int) (tx : ByteArray) (An : Option Addr) (cn : Nat), vs 36 = .tuple #[conV Dn An L.length cn Pn Qn ⟨#[]⟩ pn zn, .string tx] ∧ (L.length ≤ 9) ∧ ((∀ r ∈ L, 0 ≤ r.a ∧ r.a ≤ 100) ∨ False) ∧ (pn.size ≤ p.size + 405) ∧ (wx.ownsRow S 111 5 (.slice An L.length cn) L.length (rowsV L))
 | 5 => ∃ (Dn : Int) (Pn : Int) (Qn : Int) (L : List R5) (pn : ByteArray) (zn : Int) (tx : ByteArray) (An : Option Addr) (cn : Nat), vs 31 = .tuple #[conV Dn An L.length cn Pn Qn ⟨#[]⟩ pn zn, .string tx] ∧ (L.length ≤ 9) ∧ ((∀ r ∈ L, 0 ≤ r.a ∧ r.a ≤ 100) ∨ False) ∧ (pn.size ≤ p.size + 405) ∧ (wx.ownsRow S 111 5 (.slice An L.length cn) L.length (rowsV L))
 | 6 => ∃ (Dn : Int) (Pn : Int) (Qn : Int) (L : List R5) (pn : ByteArray) (zn : Int) (tx : ByteArray) (An : Option Addr) (cn : Nat), vs 37 = conV Dn An L.length cn Pn Qn ⟨#[]⟩ pn zn ∧ (L.length ≤ 9) ∧ ((∀ r ∈ L, 0 ≤ r.a ∧ r.a ≤ 100) ∨ False) ∧ (pn.size ≤ p.size + 405) ∧ (wx.ownsRow S 111 5 (.slice An L.length cn) L.length (rowsV L))
 | 7 => ∃ (Dn : Int) (Pn : Int) (Qn : Int) (L : List R5) (pn : ByteArray) (zn : Int) (tx : ByteArray) (An : Option Addr) (cn : Nat), vs 38 = .string tx
 | 8 => ∃ (Dn : Int) (Pn : Int) (Qn : Int) (L : List R5) (pn : ByteArray) (zn : Int) (tx : ByteArray) (An : Option Addr) (cn : Nat), (L.length ≤ 9) ∧ ((∀ r ∈ L, 0 ≤ r.a ∧ r.a ≤ 100) ∨ False) ∧ (pn.size ≤ p.size + 405) ∧ (wx.ownsRow S 111 5 (.slice An L.length cn) L.length (rowsV L)) ∧ (Blk wx NC 34 #[.int .i64 Dn, .slice An L.length cn, .int .i64 Pn, .int .i64 Qn, .string ⟨#[]⟩, .string pn, .int .i64 zn]) ∧ (Blk wx R0 25 #[.string ⟨#[]⟩, .string ⟨#[]⟩, .int .i64 0]) ∧ (NC ≠ g) ∧ (R0 ≠ g)
 | _ => True
def FreU : Nat → List Nat
 | 0 => [32]
 | 1 => [33]
 | 2 => [34]
 | 3 => [35]
 | 4 => [36]
 | 5 => [31]
 | 6 => [37]
 | 7 => [38]
 | 8 => []
 | _ => []
def FreR (g : Nat) (NC R0 : Nat) (D P Q : Int) (l : List R5) (A : Option Addr) (c : Nat) (p : ByteArray) (z : Int) (i : Nat) (wx wy : World) : Prop := if i = 8 then KeepW 34 wx wy else Gr g wx wy
theorem Fre_gr {S g : Nat} {NC R0 : Nat} {D P Q : Int} {l : List R5} {A : Option Addr} {c : Nat} {p : ByteArray} {z : Int} (hgS : g < S) {vs us : Nat → Value} {wx wy : World} {jN : Nat} (hGG : Fre S g NC R0 D P Q l A c p z vs wx jN) (haG : ∀ d ∈ FreU jN, us d = vs d) (hbG : Gr g wx wy) : Fre S g NC R0 D P Q l A c p z us wy jN := by
 match jN, hGG, haG with
 | 0, hGG, haG =>
   exact (haG 32 (by simp [FreU])).trans hGG
 | 1, hGG, haG =>
   exact (haG 33 (by simp [FreU])).trans hGG
 | 2, hGG, haG =>
   exact (haG 34 (by simp [FreU])).trans hGG
 | 3, hGG, haG =>
   obtain ⟨xG0, eG, fG0⟩ := hGG
   exact ⟨xG0, (haG 35 (by simp [FreU])).trans eG, fG0⟩
 | 4, hGG, haG =>
   obtain ⟨xG0, xG1, xG2, xG3, xG4, xG5, xG6, xG7, xG8, eG, fG0, fG1, fG2, fG3⟩ := hGG
   exact ⟨xG0, xG1, xG2, xG3, xG4, xG5, xG6, xG7, xG8, (haG 36 (by simp [FreU])).trans eG, fG0, fG1, fG2, own_gr fG3 hbG hgS⟩
 | 5, hGG, haG =>
   obtain ⟨xG0, xG1, xG2, xG3, xG4, xG5, xG6, xG7, xG8, eG, fG0, fG1, fG2, fG3⟩ := hGG
   exact ⟨xG0, xG1, xG2, xG3, xG4, xG5, xG6, xG7, xG8, (haG 31 (by simp [FreU])).trans eG, fG0, fG1, fG2, own_gr fG3 hbG hgS⟩
 | 6, hGG, haG =>
   obtain ⟨xG0, xG1, xG2, xG3, xG4, xG5, xG6, xG7, xG8, eG, fG0, fG1, fG2, fG3⟩ := hGG
   exact ⟨xG0, xG1, xG2, xG3, xG4, xG5, xG6, xG7, xG8, (haG 37 (by simp [FreU])).trans eG, fG0, fG1, fG2, own_gr fG3 hbG hgS⟩
 | 7, hGG, haG =>
   obtain ⟨xG0, xG1, xG2, xG3, xG4, xG5, xG6, xG7, xG8, eG⟩ := hGG
   exact ⟨xG0, xG1, xG2, xG3, xG4, xG5, xG6, xG7, xG8, (haG 38 (by simp [FreU])).trans eG⟩
 | 8, hGG, haG =>
   obtain ⟨xG0, xG1, xG2, xG3, xG4, xG5, xG6, xG7, xG8, fG0, fG1, fG2, fG3, fG4, fG5, fG6, fG7⟩ := hGG
   exact ⟨xG0, xG1, xG2, xG3, xG4, xG5, xG6, xG7, xG8, fG0, fG1, fG2, own_gr fG3 hbG hgS, fG4.gr hbG (by omega), fG5.gr hbG (by omega), fG6, fG7⟩
 | jN + 9, _, _ => trivial
theorem Fre_8 {S g : Nat} {NC R0 : Nat} {D P Q : Int} {l : List R5} {A : Option Addr} {c : Nat} {p : ByteArray} {z : Int} (hgS : g < S) {vs us : Nat → Value} {wx wy : World} {jN : Nat} (hneG : jN ≠ 8) (hGG : Fre S g NC R0 D P Q l A c p z vs wx jN) (haG : ∀ d ∈ FreU jN, us d = vs d) (hbG : KeepW 34 wx wy) : Fre S g NC R0 D P Q l A c p z us wy jN := by
 match jN, hGG, haG, hneG with
 | 0, hGG, haG, hneG =>
   exact (haG 32 (by simp [FreU])).trans hGG
 | 1, hGG, haG, hneG =>
   exact (haG 33 (by simp [FreU])).trans hGG
 | 2, hGG, haG, hneG =>
   exact (haG 34 (by simp [FreU])).trans hGG
 | 3, hGG, haG, hneG =>
   obtain ⟨xG0, eG, fG0⟩ := hGG
   exact ⟨xG0, (haG 35 (by simp [FreU])).trans eG, fG0⟩
 | 4, hGG, haG, hneG =>
   obtain ⟨xG0, xG1, xG2, xG3, xG4, xG5, xG6, xG7, xG8, eG, fG0, fG1, fG2, fG3⟩ := hGG
   exact ⟨xG0, xG1, xG2, xG3, xG4, xG5, xG6, xG7, xG8, (haG 36 (by simp [FreU])).trans eG, fG0, fG1, fG2, hbG.own fG3 (by decide)⟩
 | 5, hGG, haG, hneG =>
   obtain ⟨xG0, xG1, xG2, xG3, xG4, xG5, xG6, xG7, xG8, eG, fG0, fG1, fG2, fG3⟩ := hGG
   exact ⟨xG0, xG1, xG2, xG3, xG4, xG5, xG6, xG7, xG8, (haG 31 (by simp [FreU])).trans eG, fG0, fG1, fG2, hbG.own fG3 (by decide)⟩
 | 6, hGG, haG, hneG =>
   obtain ⟨xG0, xG1, xG2, xG3, xG4, xG5, xG6, xG7, xG8, eG, fG0, fG1, fG2, fG3⟩ := hGG
   exact ⟨xG0, xG1, xG2, xG3, xG4, xG5, xG6, xG7, xG8, (haG 37 (by simp [FreU])).trans eG, fG0, fG1, fG2, hbG.own fG3 (by decide)⟩
 | 7, hGG, haG, hneG =>
   obtain ⟨xG0, xG1, xG2, xG3, xG4, xG5, xG6, xG7, xG8, eG⟩ := hGG
   exact ⟨xG0, xG1, xG2, xG3, xG4, xG5, xG6, xG7, xG8, (haG 38 (by simp [FreU])).trans eG⟩
 | 8, hGG, haG, hneG =>
   exact absurd rfl hneG
 | jN + 9, _, _, _ => trivial
def FreP (j i : Nat) : Bool := false
theorem Fre_keep {S g : Nat} {NC R0 : Nat} {D P Q : Int} {l : List R5} {A : Option Addr} {c : Nat} {p : ByteArray} {z : Int} (hgS : g < S) {vs us : Nat → Value} {wx wy : World} {iN jN : Nat} (hneG : iN ≠ jN) (hdpG : FreP jN iN = false) (hGG : Fre S g NC R0 D P Q l A c p z vs wx jN) (haG : ∀ d ∈ FreU jN, us d = vs d) (hbG : FreR g NC R0 D P Q l A c p z iN wx wy) : Fre S g NC R0 D P Q l A c p z us wy jN := by
 unfold FreR at hbG
 by_cases h8 : iN = 8
 · rw [if_pos h8] at hbG
   exact Fre_8 hgS (by omega) hGG haG hbG
 rw [if_neg h8] at hbG
 exact Fre_gr hgS hGG haG hbG
def Frl (S g : Nat) (NL R0 : Nat) (p : ByteArray) (z : Int) (vs : Nat → Value) (wx : World) : Nat → Prop
 | 0 => vs 44 = logV ⟨#[]⟩ p z
 | 1 => vs 45 = .pointer (some ⟨g, 0, none⟩)
 | 2 => ∃ (rc : ByteArray) (rr : ByteArray), vs 46 = recV rc rr ∧ (rc.size ≤ 20) ∧ (rr.size ≤ 20)
 | 3 => ∃ (pn : ByteArray) (zn : Int) (cd : Int), vs 47 = .tuple #[logV ⟨#[]⟩ pn zn, .int .i64 cd] ∧ (pn.size ≤ p.size + 85)
 | 4 => ∃ (pn : ByteArray) (zn : Int) (cd : Int), vs 43 = .tuple #[logV ⟨#[]⟩ pn zn, .int .i64 cd] ∧ (pn.size ≤ p.size + 85)
 | 5 => ∃ (pn : ByteArray) (zn : Int) (cd : Int), vs 48 = logV ⟨#[]⟩ pn zn ∧ (pn.size ≤ p.size + 85)
 | 6 => ∃ (pn : ByteArray) (zn : Int) (cd : Int), vs 49 = .int .i64 cd
 | 7 => ∃ (pn : ByteArray) (zn : Int) (cd : Int), (pn.size ≤ p.size + 85) ∧ (Blk wx NL 25 #[.string ⟨#[]⟩, .string pn, .int .i64 zn]) ∧ (Blk wx R0 25 #[.string ⟨#[]⟩, .string ⟨#[]⟩, .int .i64 0]) ∧ (NL ≠ g) ∧ (R0 ≠ g)
 | _ => True
def FrlU : Nat → List Nat
 | 0 => [44]
 | 1 => [45]
 | 2 => [46]
 | 3 => [47]
 | 4 => [43]
 | 5 => [48]
 | 6 => [49]
 | 7 => []
 | _ => []
def FrlR (g : Nat) (NL R0 : Nat) (p : ByteArray) (z : Int) (i : Nat) (wx wy : World) : Prop := if i = 7 then KeepW 25 wx wy else Gr g wx wy
theorem Frl_gr {S g : Nat} {NL R0 : Nat} {p : ByteArray} {z : Int} (hgS : g < S) {vs us : Nat → Value} {wx wy : World} {jN : Nat} (hGG : Frl S g NL R0 p z vs wx jN) (haG : ∀ d ∈ FrlU jN, us d = vs d) (hbG : Gr g wx wy) : Frl S g NL R0 p z us wy jN := by
 match jN, hGG, haG with
 | 0, hGG, haG =>
   exact (haG 44 (by simp [FrlU])).trans hGG
 | 1, hGG, haG =>
   exact (haG 45 (by simp [FrlU])).trans hGG
 | 2, hGG, haG =>
   obtain ⟨xG0, xG1, eG, fG0, fG1⟩ := hGG
   exact ⟨xG0, xG1, (haG 46 (by simp [FrlU])).trans eG, fG0, fG1⟩
 | 3, hGG, haG =>
   obtain ⟨xG0, xG1, xG2, eG, fG0⟩ := hGG
   exact ⟨xG0, xG1, xG2, (haG 47 (by simp [FrlU])).trans eG, fG0⟩
 | 4, hGG, haG =>
   obtain ⟨xG0, xG1, xG2, eG, fG0⟩ := hGG
   exact ⟨xG0, xG1, xG2, (haG 43 (by simp [FrlU])).trans eG, fG0⟩
 | 5, hGG, haG =>
   obtain ⟨xG0, xG1, xG2, eG, fG0⟩ := hGG
   exact ⟨xG0, xG1, xG2, (haG 48 (by simp [FrlU])).trans eG, fG0⟩
 | 6, hGG, haG =>
   obtain ⟨xG0, xG1, xG2, eG⟩ := hGG
   exact ⟨xG0, xG1, xG2, (haG 49 (by simp [FrlU])).trans eG⟩
 | 7, hGG, haG =>
   obtain ⟨xG0, xG1, xG2, fG0, fG1, fG2, fG3, fG4⟩ := hGG
   exact ⟨xG0, xG1, xG2, fG0, fG1.gr hbG (by omega), fG2.gr hbG (by omega), fG3, fG4⟩
 | jN + 8, _, _ => trivial
theorem Frl_7 {S g : Nat} {NL R0 : Nat} {p : ByteArray} {z : Int} (hgS : g < S) {vs us : Nat → Value} {wx wy : World} {jN : Nat} (hneG : jN ≠ 7) (hGG : Frl S g NL R0 p z vs wx jN) (haG : ∀ d ∈ FrlU jN, us d = vs d) (hbG : KeepW 25 wx wy) : Frl S g NL R0 p z us wy jN := by
 match jN, hGG, haG, hneG with
 | 0, hGG, haG, hneG =>
   exact (haG 44 (by simp [FrlU])).trans hGG
 | 1, hGG, haG, hneG =>
   exact (haG 45 (by simp [FrlU])).trans hGG
 | 2, hGG, haG, hneG =>
   obtain ⟨xG0, xG1, eG, fG0, fG1⟩ := hGG
   exact ⟨xG0, xG1, (haG 46 (by simp [FrlU])).trans eG, fG0, fG1⟩
 | 3, hGG, haG, hneG =>
   obtain ⟨xG0, xG1, xG2, eG, fG0⟩ := hGG
   exact ⟨xG0, xG1, xG2, (haG 47 (by simp [FrlU])).trans eG, fG0⟩
 | 4, hGG, haG, hneG =>
   obtain ⟨xG0, xG1, xG2, eG, fG0⟩ := hGG
   exact ⟨xG0, xG1, xG2, (haG 43 (by simp [FrlU])).trans eG, fG0⟩
 | 5, hGG, haG, hneG =>
   obtain ⟨xG0, xG1, xG2, eG, fG0⟩ := hGG
   exact ⟨xG0, xG1, xG2, (haG 48 (by simp [FrlU])).trans eG, fG0⟩
 | 6, hGG, haG, hneG =>
   obtain ⟨xG0, xG1, xG2, eG⟩ := hGG
   exact ⟨xG0, xG1, xG2, (haG 49 (by simp [FrlU])).trans eG⟩
 | 7, hGG, haG, hneG =>
   exact absurd rfl hneG
 | jN + 8, _, _, _ => trivial
def FrlP (j i : Nat) : Bool := false
theorem Frl_keep {S g : Nat} {NL R0 : Nat} {p : ByteArray} {z : Int} (hgS : g < S) {vs us : Nat → Value} {wx wy : World} {iN jN : Nat} (hneG : iN ≠ jN) (hdpG : FrlP jN iN = false) (hGG : Frl S g NL R0 p z vs wx jN) (haG : ∀ d ∈ FrlU jN, us d = vs d) (hbG : FrlR g NL R0 p z iN wx wy) : Frl S g NL R0 p z us wy jN := by
 unfold FrlR at hbG
 by_cases h7 : iN = 7
 · rw [if_pos h7] at hbG
   exact Frl_7 hgS (by omega) hGG haG hbG
 rw [if_neg h7] at hbG
 exact Frl_gr hgS hGG haG hbG
def DrawnRpl (w : World) (e : Ending) (w' : World) : Prop := ∃ (day : Int) (d p : ByteArray) (z : Int), e = .returned (.tuple #[.int .i64 day, logV d p z]) ∧ d.size ≤ 100 ∧ p.size ≤ 5000 ∧ Below w.heap.size w w'
set_option maxRecDepth 100000 in
set_option maxHeartbeats 16000000 in
theorem drawReplay_any (Ac : Option Addr) (nc cc : Nat) (w : World) (h : Code w w.heap.size Ac nc) (hn : nc ≤ 65536) : Calls Tryz.prog 5 #[.slice Ac nc cc] w (DrawnRpl w) := by
 obtain ⟨W0, hW0⟩ : ∃ y9 : World, y9 = (w.alloc (.cells #[.string ⟨#[]⟩, .string ⟨#[]⟩, .int .i64 0] 25)).alloc (.cells #[.slice Ac nc cc, .int .i64 0, .int .u64 0] 51) := ⟨_, rfl⟩
 obtain ⟨g, hg⟩ : ∃ g, g = w.heap.size + 1 := ⟨_, rfl⟩
 have HC := Lib.hid (show CurAt W0 g 0 by rw [hW0, hg]; exact h.cur1 (by omega) cc (.cells #[.string ⟨#[]⟩, .string ⟨#[]⟩, .int .i64 0] 25))
 have BR0 := Lib.hid (show Blk W0 w.heap.size 25 #[.string ⟨#[]⟩, .string ⟨#[]⟩, .int .i64 0] by rw [hW0]; exact (Blk.born w #[.string ⟨#[]⟩, .string ⟨#[]⟩, .int .i64 0] 25 (H := w.heap.size) rfl).al _)
 have HG0 := Lib.hid (show Gr g w W0 by rw [hW0]; exact Gr.of_ext (ext_alloc (ext_alloc (ext_refl w) _) _))
 have hs0 : g + 1 = W0.heap.size := by rw [hW0, hg]; simp
 have hRg : w.heap.size ≠ g := by omega
 have hwg : w.heap.size < g := by omega
 have HEX := Lib.hid ex_draw
 clear h
 go_enter Tryz.func5, Tryz.ntmps5
 go_wp2_with fail
 rw [← hW0]
 rw [← hg]
 clear hg hW0
 refine (among_lit g 0 0 4001 [0, 0, 100, 4000, 4001] 3 _ HC.out (by omega) (by decide) (by decide) (by decide) _ rfl (by first | rfl | exact hs0 | omega)).mono ?_
 rintro e w1 ⟨day, a1, rfl, dy0, dy1, ha1, hc, hg'⟩
 have HC1 := Lib.hid hc
 have HG1 := Lib.hid (HG0.out.trans hg')
 have BR1 := Lib.hid (BR0.out.gr hg' hRg)
 clear hc hg' HC HG0 BR0
 have HNC := Lib.hid (fun (w : World) => specNewConsole_any day w)
 unfold RetConB at HNC
 obtain ⟨D7, hD7⟩ : ∃ o9, newD day = o9 := ⟨_, rfl⟩
 obtain ⟨ok, hok⟩ : ∃ o9, inB day 0 4000 = o9 := ⟨_, rfl⟩
 rw [hD7, hok] at HNC
 clear hD7 hok
 go_wp2_with fail
 refine (HNC.out _).mono ?_
 rintro e w2 ⟨A7, c7, rfl, ho7, hb⟩
 obtain ⟨NC, hNC⟩ : ∃ N, N = w2.heap.size := ⟨_, rfl⟩
 obtain ⟨w3, hw3⟩ : ∃ y9 : World, y9 = w2.alloc (.cells #[.int .i64 D7, .slice A7 0 c7, .int .i64 0, .int .i64 0, .string ⟨#[]⟩, .string ⟨#[]⟩, .int .i64 0] 34) := ⟨_, rfl⟩
 have hs1 := HC1.out.lt
 have hgC : g < NC := by have := hb.size; omega
 have hwC : w.heap.size ≤ NC := by omega
 have hCg : NC ≠ g := by omega
 have hCR : NC ≠ w.heap.size := by omega
 have BC3 := Lib.hid (show Blk w3 NC 34 #[.int .i64 D7, .slice A7 0 c7, .int .i64 0, .int .i64 0, .string ⟨#[]⟩, .string ⟨#[]⟩, .int .i64 0] by rw [hw3]; exact Blk.born w2 _ 34 (H := NC) hNC)
 have BR3 := Lib.hid (show Blk w3 w.heap.size 25 #[.string ⟨#[]⟩, .string ⟨#[]⟩, .int .i64 0] by rw [hw3]; exact (BR1.out.ext hb).al _)
 have HO3 := Lib.hid (show w3.ownsRow (g + 1) 111 5 (.slice A7 0 c7) 0 (rowsV []) by rw [hw3]; exact (own_base ho7 hs1).alloc _)
 have HC3 := Lib.hid (show CurAt w3 g a1 by rw [hw3]; exact (HC1.out.ext hb).ext (ext_alloc (ext_refl _) _))
 have HG3 := Lib.hid (show Gr g w w3 by rw [hw3]; exact (HG1.out.trans (Gr.of_ext hb)).trans (Gr.alloc _ _ _))
 go_upto_region 4 with fail
 rw [← hNC, ← hw3]
 clear hNC hw3 ho7 hb hs1 HC1 HG1 BR1 HNC
 cases ok
 · obtain ⟨r0, r1, r2⟩ := BR3.out.q3
   obtain ⟨y0, y1, y2⟩ := BR3.out.z3
   have lr := BR3.out.lt
   go_wp2
   refine bodyPost_ret (v := .tuple #[.int .i64 day, logV ⟨#[]⟩ ⟨#[]⟩ 0]) (by simp [results, Tryz.results5, go_sem, *]) rfl ?_
   exact ⟨day, ⟨#[]⟩, ⟨#[]⟩, 0, rfl, by decide, by decide, bel3 (Gr.below (ext_refl w) HG3.out (by omega)) (Nat.le_refl _)⟩
 go_wp2_with fail
 refine (pick_any g a1 12 _ HC3.out (by omega) (by omega) (by omega)).mono ?_
 rintro e w4 ⟨pk, a2, rfl, pk0, pk1, ha2, hc, hg'⟩
 have HC4 := Lib.hid hc
 have HG4 := Lib.hid (HG3.out.trans hg')
 have BC4 := Lib.hid (BC3.out.gr hg' hCg)
 have BR4 := Lib.hid (BR3.out.gr hg' hRg)
 have HO4 := Lib.hid (own_gr HO3.out hg' (Nat.lt_succ_self g))
 obtain ⟨kn, rfl⟩ := Int.eq_ofNat_of_zero_le pk0
 clear hc hg' HC3 HG3 BC3 BR3 HO3
 go_wp2_with fail
 go_loopw [8] (fun kk wr => ∃ (k : Nat) (D P Q : Int) (l : List R5) (A : Option Addr) (c : Nat) (p : ByteArray) (z : Int) (a2 : Nat), kk = .int .i64 (k : Int) ∧ k ≤ 11 ∧ l.length ≤ 9 ∧ Hid (∀ r ∈ l, 0 ≤ r.a ∧ r.a ≤ 100) ∧ p.size + k * 405 ≤ 4455 ∧ a2 + 30 * 9 * k ≤ 4000 ∧ Hid (CurAt wr g a2) ∧ Hid (Gr g w wr) ∧ Hid (Blk wr NC 34 #[.int .i64 D, .slice A l.length c, .int .i64 P, .int .i64 Q, .string ⟨#[]⟩, .string p, .int .i64 z]) ∧ Hid (Blk wr w.heap.size 25 #[.string ⟨#[]⟩, .string ⟨#[]⟩, .int .i64 0]) ∧ Hid (wr.ownsRow (g + 1) 111 5 (.slice A l.length c) l.length (rowsV l))) (fun kk _ => (intOf kk).toNat)
 case atStart => exact ⟨kn, D7, 0, 0, [], A7, c7, ⟨#[]⟩, 0, a2, rfl, by omega, by simp, Lib.hid (fun r hr => by cases hr), by show 0 + kn * 405 ≤ 4455; omega, by omega, HC4, HG4, BC4, BR4, HO4⟩
 case round =>
  clear HC4 HG4 BC4 BR4 HO4 pk0 pk1 ha1 ha2
  obtain ⟨k, D, P, Q, l, A, c, p, z, a1, rfl, hk11, hl9, HID, hpk, ha1, HC1, HG1, BC1, BR1, HO⟩ := hrel
  obtain ⟨W, hW⟩ : ∃ y : World, y = wr := ⟨_, rfl⟩
  subst hW
  by_cases hk0 : 0 < k
  · have e1 : (0 : Int) < (k : Int) := by omega
    have hsl := slOk_own HO.out
    obtain ⟨m0, m1, m2, m3, m4, m5, m6⟩ := BC1.out.q7
    have lm := BC1.out.lt
    go_upto_region 9 with fail
    refine wp_region_m (by kernel_rfl) (by kernel_rfl) [31, 32, 33, 34, 35, 36, 37, 38] FreU (by kernel_rfl) (by decide) 50 (by kernel_rfl) (by simp) (fun ra0 => ra0.eval (.tmp 4) = .pointer (some ⟨g, 0, none⟩) ∧ ra0.eval (.tmp 6) = .pointer (some ⟨NC, 0, none⟩)) ⟨by kernel_rfl, by kernel_rfl⟩ FreP (by kernel_rfl) (ICur 30 g a1 w W 8 8 (fun wx => Blk wx NC 34 #[.int .i64 D, .slice A l.length c, .int .i64 P, .int .i64 Q, .string ⟨#[]⟩, .string p, .int .i64 z] ∧ Blk wx w.heap.size 25 #[.string ⟨#[]⟩, .string ⟨#[]⟩, .int .i64 0])) (FreR g NC w.heap.size D P Q l A c p z) (fun jN vs wx => Fre (g + 1) g NC w.heap.size D P Q l A c p z vs wx jN) ⟨a1, by omega, (HC1.out).ext (ext_drew (ext_refl _)), (HG1.out).trans (Gr.of_ext (ext_drew (ext_refl _))), Nat.le_refl _, fun _ => Gr.of_ext (ext_drew (ext_refl _)), fun _ => ⟨BC1.out, BR1.out⟩⟩ (fun _ _ _ _ _ _ h0 hd h1 h2 h3 => Fre_keep (Nat.lt_succ_self g) h0 hd h1 h2 h3) ?_ ?_
    · intro ra0 hE ri ro ho Qx vs wx rb KX kk rL hI hkk hnl hLt hcl hdep rb0 rbk HK
      repeat (rename_i hz9; clear hz9)
      obtain ⟨rq4, rq6⟩ := hE
      have hi : ri < 9 := by
       rcases Nat.lt_or_ge ri 9 with h | h
       · exact h
       · rw [Array.getElem?_eq_none (by simpa using h)] at ho; cases ho
      have hkk : kk < 9 := by simpa using hkk
      obtain ⟨ax, hax, hcx, hGw, hsz, hpre, hBx⟩ := hI
      have HQ : ∀ w' a2, CurAt w' g a2 → a2 ≤ ax + 30 → Gr g wx w' → ICur 30 g a1 w W 8 8 (fun wx => Blk wx NC 34 #[.int .i64 D, .slice A l.length c, .int .i64 P, .int .i64 Q, .string ⟨#[]⟩, .string p, .int .i64 z] ∧ Blk wx w.heap.size 25 #[.string ⟨#[]⟩, .string ⟨#[]⟩, .int .i64 0]) (kk + 1) (fun j => j = ri ∨ rL j) w' := fun w' a2 h1 h2 h3 => ⟨a2, by omega, h1, hGw.trans h3, Nat.le_trans hsz h3.size, fun hn => (hpre (fun x => hn (.inr x))).trans h3, fun hn => (fun hB => ⟨hB.1.gr h3 hCg, hB.2.gr h3 hRg⟩) (hBx (fun x => hn (.inr x)))⟩
      have HQX := Lib.hid HQ
      have HCX := Lib.hid hcx
      have HGW := Lib.hid hGw
      have HPRE := Lib.hid hpre
      have HBX := Lib.hid hBx
      have HCL := Lib.hid hcl
      clear HQ hcx hGw hpre hBx hcl
      rcases (show ri = 0 ∨ ri = 1 ∨ ri = 2 ∨ ri = 3 ∨ ri = 4 ∨ ri = 5 ∨ ri = 6 ∨ ri = 7 ∨ ri = 8 by omega) with rfl | rfl | rfl | rfl | rfl | rfl | rfl | rfl | rfl
      · simp only [List.getElem?_toArray, List.getElem?_cons_succ, List.getElem?_cons_zero, Option.some.injEq] at ho
        subst ho
        have HKX := Lib.hid HK
        clear HK
        have p6 := (rb0 6 (by decide)).trans rq6
        have hNL : ¬ rL 8 := fun h => hnl (HCL.out 4 _ 0 rfl (HCL.out 5 _ 4 rfl (HCL.out 6 _ 5 rfl (HCL.out 8 _ 6 rfl h (by kernel_rfl)) (by kernel_rfl)) (by kernel_rfl)) (by kernel_rfl))
        have HGP := Lib.hid (HPRE.out hNL)
        obtain ⟨x0, x1, x2, x3, x4, x5, x6⟩ := (BC1.out.gr HGP.out hCg).q7
        have lnx := (BC1.out.gr HGP.out hCg).lt
        clear rb0 rbk hdep
        go_simp
        exact HKX.out _ _ (HQX.out _ ax HCX.out (by omega) (Gr.refl _ _)) (by unfold FreR; rw [if_neg (by decide)]; exact Gr.refl _ _) (upd_same _ _ _)
      · simp only [List.getElem?_toArray, List.getElem?_cons_succ, List.getElem?_cons_zero, Option.some.injEq] at ho
        subst ho
        have HKX := Lib.hid HK
        clear HK
        have p4 := (rb0 4 (by decide)).trans rq4
        clear rb0 rbk hdep
        go_simp
        exact HKX.out _ _ (HQX.out _ ax HCX.out (by omega) (Gr.refl _ _)) (by unfold FreR; rw [if_neg (by decide)]; exact Gr.refl _ _) (upd_same _ _ _)
      · simp only [List.getElem?_toArray, List.getElem?_cons_succ, List.getElem?_cons_zero, Option.some.injEq] at ho
        subst ho
        have HKX := Lib.hid HK
        clear HK
        have p6 := (rb0 6 (by decide)).trans rq6
        have hNL : ¬ rL 8 := fun h => hnl (HCL.out 3 _ 2 rfl (HCL.out 4 _ 3 rfl (HCL.out 5 _ 4 rfl (HCL.out 6 _ 5 rfl (HCL.out 8 _ 6 rfl h (by kernel_rfl)) (by kernel_rfl)) (by kernel_rfl)) (by kernel_rfl)) (by kernel_rfl))
        have HGP := Lib.hid (HPRE.out hNL)
        obtain ⟨x0, x1, x2, x3, x4, x5, x6⟩ := (BC1.out.gr HGP.out hCg).q7
        have lnx := (BC1.out.gr HGP.out hCg).lt
        clear rb0 rbk hdep
        go_simp
        exact HKX.out _ _ (HQX.out _ ax HCX.out (by omega) (Gr.refl _ _)) (by unfold FreR; rw [if_neg (by decide)]; exact Gr.refl _ _) (upd_same _ _ _)
      · simp only [List.getElem?_toArray, List.getElem?_cons_succ, List.getElem?_cons_zero, Option.some.injEq] at ho
        subst ho
        have HKX := Lib.hid HK
        clear HK
        have e1 : vs 33 = .pointer (some ⟨g, 0, none⟩) := (hdep 1 (by kernel_rfl)).2
        have rr1 := (rbk 33 (by decide)).trans e1
        have E1 := Lib.hid e1
        clear e1
        have e2 : vs 34 = conV D A l.length c P Q ⟨#[]⟩ p z := (hdep 2 (by kernel_rfl)).2
        have rr2 := (rbk 34 (by decide)).trans e2
        have E2 := Lib.hid e2
        clear e2
        have hNL : ¬ rL 8 := fun h => hnl (HCL.out 4 _ 3 rfl (HCL.out 5 _ 4 rfl (HCL.out 6 _ 5 rfl (HCL.out 8 _ 6 rfl h (by kernel_rfl)) (by kernel_rfl)) (by kernel_rfl)) (by kernel_rfl))
        have HGP := Lib.hid (HPRE.out hNL)
        obtain ⟨x0, x1, x2, x3, x4, x5, x6⟩ := (BC1.out.gr HGP.out hCg).q7
        have lnx := (BC1.out.gr HGP.out hCg).lt
        clear rb0 rbk hdep
        go_simp
        refine (command_any g ax D P Q A l.length c l ⟨#[]⟩ p z _ HCX.out (by omega) (by omega) (own_gr HO.out HGP.out (Nat.lt_succ_self g)) HID.out).mono ?_
        rintro e w' ⟨line, a2, rfl, nF0, ha2, hc2, hg2⟩
        go_simp
        exact HKX.out _ _ (HQX.out _ a2 hc2 (by omega) hg2) (by unfold FreR; rw [if_neg (by decide)]; exact hg2) (⟨line, upd_same _ _ _, nF0⟩)
      · simp only [List.getElem?_toArray, List.getElem?_cons_succ, List.getElem?_cons_zero, Option.some.injEq] at ho
        subst ho
        have HKX := Lib.hid HK
        clear HK
        have e0 : vs 32 = conV D A l.length c P Q ⟨#[]⟩ p z := (hdep 0 (by kernel_rfl)).2
        have rr0 := (rbk 32 (by decide)).trans e0
        have E0 := Lib.hid e0
        clear e0
        obtain ⟨line, e3, k3_0⟩ := (hdep 3 (by kernel_rfl)).2
        have rr3 := (rbk 35 (by decide)).trans e3
        have E3 := Lib.hid e3
        clear e3
        have hNL : ¬ rL 8 := fun h => hnl (HCL.out 5 _ 4 rfl (HCL.out 6 _ 5 rfl (HCL.out 8 _ 6 rfl h (by kernel_rfl)) (by kernel_rfl)) (by kernel_rfl))
        have HGP := Lib.hid (HPRE.out hNL)
        obtain ⟨x0, x1, x2, x3, x4, x5, x6⟩ := (BC1.out.gr HGP.out hCg).q7
        have lnx := (BC1.out.gr HGP.out hCg).lt
        clear rb0 rbk hdep
        go_simp
        have hsx := HCX.out.lt
        refine (HEX.out D P Q ⟨#[]⟩ p z A c l line wx (by omega) HID.out (by decide) (by omega) (by omega) hsl (Reads.of_own (own_gr HO.out HGP.out (Nat.lt_succ_self g)))).mono ?_
        rintro e w' ⟨Dn, Pn, Qn, L, pn, zn, tx, An, cn, rfl, hL9, hLid, hpn, ho6, hb⟩
        go_simp
        exact HKX.out _ _ (HQX.out _ ax (HCX.out.ext hb) (by omega) (Gr.of_ext hb)) (by unfold FreR; rw [if_neg (by decide)]; exact Gr.of_ext hb) (⟨Dn, Pn, Qn, L, pn, zn, tx, An, cn, upd_same _ _ _, hL9, .inl hLid, hpn, own_base ho6 hsx⟩)
      · simp only [List.getElem?_toArray, List.getElem?_cons_succ, List.getElem?_cons_zero, Option.some.injEq] at ho
        subst ho
        have HKX := Lib.hid HK
        clear HK
        obtain ⟨Dn, Pn, Qn, L, pn, zn, tx, An, cn, e4, k4_0, k4_1, k4_2, k4_3⟩ := (hdep 4 (by kernel_rfl)).2
        have rr4 := (rbk 36 (by decide)).trans e4
        have E4 := Lib.hid e4
        clear e4
        have K4_1 := Lib.hid k4_1
        clear k4_1
        have K4_3 := Lib.hid k4_3
        clear k4_3
        clear rb0 rbk hdep
        go_simp
        exact HKX.out _ _ (HQX.out _ ax HCX.out (by omega) (Gr.refl _ _)) (by unfold FreR; rw [if_neg (by decide)]; exact Gr.refl _ _) (⟨Dn, Pn, Qn, L, pn, zn, tx, An, cn, upd_same _ _ _, k4_0, K4_1.out, k4_2, K4_3.out⟩)
      · simp only [List.getElem?_toArray, List.getElem?_cons_succ, List.getElem?_cons_zero, Option.some.injEq] at ho
        subst ho
        have HKX := Lib.hid HK
        clear HK
        obtain ⟨Dn, Pn, Qn, L, pn, zn, tx, An, cn, e5, k5_0, k5_1, k5_2, k5_3⟩ := (hdep 5 (by kernel_rfl)).2
        have rr5 := (rbk 31 (by decide)).trans e5
        have E5 := Lib.hid e5
        clear e5
        have K5_1 := Lib.hid k5_1
        clear k5_1
        have K5_3 := Lib.hid k5_3
        clear k5_3
        clear rb0 rbk hdep
        go_simp
        exact HKX.out _ _ (HQX.out _ ax HCX.out (by omega) (Gr.refl _ _)) (by unfold FreR; rw [if_neg (by decide)]; exact Gr.refl _ _) (⟨Dn, Pn, Qn, L, pn, zn, tx, An, cn, upd_same _ _ _, k5_0, K5_1.out, k5_2, K5_3.out⟩)
      · simp only [List.getElem?_toArray, List.getElem?_cons_succ, List.getElem?_cons_zero, Option.some.injEq] at ho
        subst ho
        have HKX := Lib.hid HK
        clear HK
        obtain ⟨Dn, Pn, Qn, L, pn, zn, tx, An, cn, e5, k5_0, k5_1, k5_2, k5_3⟩ := (hdep 5 (by kernel_rfl)).2
        have rr5 := (rbk 31 (by decide)).trans e5
        have E5 := Lib.hid e5
        clear e5
        have K5_1 := Lib.hid k5_1
        clear k5_1
        have K5_3 := Lib.hid k5_3
        clear k5_3
        clear rb0 rbk hdep
        go_simp
        exact HKX.out _ _ (HQX.out _ ax HCX.out (by omega) (Gr.refl _ _)) (by unfold FreR; rw [if_neg (by decide)]; exact Gr.refl _ _) (⟨Dn, Pn, Qn, L, pn, zn, tx, An, cn, upd_same _ _ _⟩)
      · simp only [List.getElem?_toArray, List.getElem?_cons_succ, List.getElem?_cons_zero, Option.some.injEq] at ho
        subst ho
        have HKX := Lib.hid HK
        clear HK
        obtain ⟨Dn, Pn, Qn, L, pn, zn, tx, An, cn, e6, k6_0, k6_1, k6_2, k6_3⟩ := (hdep 6 (by kernel_rfl)).2
        have rr6 := (rbk 37 (by decide)).trans e6
        have E6 := Lib.hid e6
        clear e6
        have K6_1 := Lib.hid k6_1
        clear k6_1
        have K6_3 := Lib.hid k6_3
        clear k6_3
        have p6 := (rb0 6 (by decide)).trans rq6
        have hNL : ¬ rL 8 := hnl
        have HGP := Lib.hid (HPRE.out hNL)
        obtain ⟨x0, x1, x2, x3, x4, x5, x6⟩ := (BC1.out.gr HGP.out hCg).q7
        have lnx := (BC1.out.gr HGP.out hCg).lt
        have HBF := Lib.hid (HBX.out hnl)
        clear x0 x1 x2 x3 x4 x5 x6 lnx
        obtain ⟨yB0, yB1, yB2, yB3, yB4, yB5, yB6⟩ := HBF.out.1.q7
        obtain ⟨zB0, zB1, zB2, zB3, zB4, zB5, zB6⟩ := HBF.out.1.z7
        have hlr := HBF.out.1.lt
        clear rb0 rbk hdep
        go_simp
        have HKW := Lib.hid (keep7 (a0 := .int .i64 Dn) (a1 := .slice An L.length cn) (a2 := .int .i64 Pn) (a3 := .int .i64 Qn) (a4 := .string ⟨#[]⟩) (a5 := .string pn) (a6 := .int .i64 zn) HBF.out.1)
        exact HKX.out undef _ ⟨ax, by omega, c7_cur HCX.out hgC, c7_gr HGW.out hwC, by simpa using hsz, fun hn => (hn (.inl rfl)).elim, fun hn => (hn (.inl rfl)).elim⟩ (by unfold FreR; rw [if_pos rfl]; exact HKW.out) ⟨Dn, Pn, Qn, L, pn, zn, tx, An, cn, k6_0, K6_1.out, k6_2, HKW.out.own K6_3.out (by decide), put7 HBF.out.1, c7_far HBF.out.2 hCR, hCg, hRg⟩
    intro vs wx kk rL hI hkk hLt hall
    obtain ⟨_, Dn, Pn, Qn, L, pn, zn, tx, An, cn, hL9, hLid, hpn, ho, hB2, hR2, _, _⟩ := hall 8 (by decide)
    obtain ⟨a3, ha3, hc3, hg3, _, _, _⟩ := hI
    have hkk : kk ≤ 9 := by simpa using hkk
    have HLI := Lib.hid (hLid.resolve_right id)
    have BC2 := Lib.hid hB2
    have BR2 := Lib.hid hR2
    have HO2 := Lib.hid ho
    have HC2 := Lib.hid hc3
    have HG2 := Lib.hid hg3
    clear hLt hall hB2 hR2 ho hc3 hg3 hLid m0 m1 m2 m3 m4 m5 m6 lm HC1 HG1 BC1 BR1 HO
    simp only [sl]
    simp only [Act.put, List.setIfInBounds_toArray, List.set_cons_succ, List.set_cons_zero]
    go_wp2
    go_roundw
    case rel => exact ⟨k - 1, Dn, Pn, Qn, L, An, cn, pn, zn, a3, by go_num, by omega, hL9, HLI, by omega, by omega, HC2, HG2, BC2, BR2, HO2⟩
    case measure => simp [intOf]; omega
  · obtain rfl : k = 0 := by omega
    obtain ⟨m0, m1, m2, m3, m4, m5, m6⟩ := BC1.out.q7
    have lm := BC1.out.lt
    obtain ⟨NL, hNL⟩ : ∃ N, N = W.heap.size := ⟨_, rfl⟩
    obtain ⟨w5, hw5⟩ : ∃ y9 : World, y9 = W.alloc (.cells #[(.string ⟨#[]⟩), (.string p), (.int .i64 z)] 25) := ⟨_, rfl⟩
    have BL5 := Lib.hid (show Blk w5 NL 25 #[(.string ⟨#[]⟩), (.string p), (.int .i64 z)] by rw [hw5]; exact Blk.born W _ 25 (H := NL) hNL)
    have BR5 := Lib.hid (show Blk w5 w.heap.size 25 #[.string ⟨#[]⟩, .string ⟨#[]⟩, .int .i64 0] by rw [hw5]; exact BR1.out.al _)
    have HC5 := Lib.hid (show CurAt w5 g a1 by rw [hw5]; exact HC1.out.ext (ext_alloc (ext_refl _) _))
    have HG5 := Lib.hid (show Gr g w w5 by rw [hw5]; exact HG1.out.trans (Gr.alloc _ _ _))
    have hgL : g < NL := by have := HC1.out.lt; omega
    have hwL : w.heap.size ≤ NL := by omega
    have hLg : NL ≠ g := by omega
    have hLR : NL ≠ w.heap.size := by omega
    go_upto_region 11 with fail
    rw [← hNL, ← hw5]
    clear hNL hw5 m0 m1 m2 m3 m4 m5 m6 lm HC1 HG1 BC1 BR1 HO HID
    go_wp2_with fail
    refine (one_any g a1 3 _ HC5.out (by omega) (by omega) (by omega)).mono ?_
    rintro e w6 ⟨b, a3, rfl, ha3, hc, hg'⟩
    have HC6 := Lib.hid hc
    have HG6 := Lib.hid (HG5.out.trans hg')
    have BL6 := Lib.hid (BL5.out.gr hg' hLg)
    have BR6 := Lib.hid (BR5.out.gr hg' hRg)
    clear hc hg' HC5 HG5 BL5 BR5
    cases b
    · obtain ⟨n0, n1, n2⟩ := BL6.out.q3
      have ln := BL6.out.lt
      obtain ⟨r0, r1, r2⟩ := BR6.out.q3
      obtain ⟨y0, y1, y2⟩ := BR6.out.z3
      have lr := BR6.out.lt
      go_upto_region 13 with fail
      go_region
      go_wp2
      refine bodyPost_ret (v := .tuple #[.int .i64 day, logV ⟨#[]⟩ p z]) (by simp [results, Tryz.results5, go_sem, *]) rfl ?_
      exact ⟨day, ⟨#[]⟩, p, z, rfl, by decide, by omega, (bel3 (Gr.below (ext_refl w) HG6.out (by omega)) (Nat.le_refl _)).drew⟩
    · obtain ⟨W, hW⟩ : ∃ y : World, y = w6 := ⟨_, rfl⟩
      subst hW
      obtain ⟨m0, m1, m2⟩ := BL6.out.q3
      have lm := BL6.out.lt
      go_upto_region 12 with fail
      refine wp_region_m (by kernel_rfl) (by kernel_rfl) [43, 44, 45, 46, 47, 48, 49] FrlU (by kernel_rfl) (by decide) 50 (by kernel_rfl) (by simp) (fun ra0 => ra0.eval (.tmp 4) = .pointer (some ⟨g, 0, none⟩) ∧ ra0.eval (.tmp 9) = .pointer (some ⟨NL, 0, none⟩)) ⟨by kernel_rfl, by kernel_rfl⟩ FrlP (by kernel_rfl) (ICur 10 g a3 w W 7 7 (fun wx => Blk wx NL 25 #[(.string ⟨#[]⟩), (.string p), (.int .i64 z)] ∧ Blk wx w.heap.size 25 #[.string ⟨#[]⟩, .string ⟨#[]⟩, .int .i64 0])) (FrlR g NL w.heap.size p z) (fun jN vs wx => Frl (g + 1) g NL w.heap.size p z vs wx jN) ⟨a3, by omega, (HC6.out).ext (ext_drew (ext_refl _)), (HG6.out).trans (Gr.of_ext (ext_drew (ext_refl _))), Nat.le_refl _, fun _ => Gr.of_ext (ext_drew (ext_refl _)), fun _ => ⟨BL6.out, BR6.out⟩⟩ (fun _ _ _ _ _ _ h0 hd h1 h2 h3 => Frl_keep (Nat.lt_succ_self g) h0 hd h1 h2 h3) ?_ ?_
      · intro ra0 hE ri ro ho Qx vs wx rb KX kk rL hI hkk hnl hLt hcl hdep rb0 rbk HK
        repeat (rename_i hz9; clear hz9)
        obtain ⟨rq4, rq9⟩ := hE
        have hi : ri < 8 := by
         rcases Nat.lt_or_ge ri 8 with h | h
         · exact h
         · rw [Array.getElem?_eq_none (by simpa using h)] at ho; cases ho
        have hkk : kk < 8 := by simpa using hkk
        obtain ⟨ax, hax, hcx, hGw, hsz, hpre, hBx⟩ := hI
        have HQ : ∀ w' a2, CurAt w' g a2 → a2 ≤ ax + 10 → Gr g wx w' → ICur 10 g a3 w W 7 7 (fun wx => Blk wx NL 25 #[(.string ⟨#[]⟩), (.string p), (.int .i64 z)] ∧ Blk wx w.heap.size 25 #[.string ⟨#[]⟩, .string ⟨#[]⟩, .int .i64 0]) (kk + 1) (fun j => j = ri ∨ rL j) w' := fun w' a2 h1 h2 h3 => ⟨a2, by omega, h1, hGw.trans h3, Nat.le_trans hsz h3.size, fun hn => (hpre (fun x => hn (.inr x))).trans h3, fun hn => (fun hB => ⟨hB.1.gr h3 hLg, hB.2.gr h3 hRg⟩) (hBx (fun x => hn (.inr x)))⟩
        have HQX := Lib.hid HQ
        have HCX := Lib.hid hcx
        have HGW := Lib.hid hGw
        have HPRE := Lib.hid hpre
        have HBX := Lib.hid hBx
        have HCL := Lib.hid hcl
        clear HQ hcx hGw hpre hBx hcl
        rcases (show ri = 0 ∨ ri = 1 ∨ ri = 2 ∨ ri = 3 ∨ ri = 4 ∨ ri = 5 ∨ ri = 6 ∨ ri = 7 by omega) with rfl | rfl | rfl | rfl | rfl | rfl | rfl | rfl
        · simp only [List.getElem?_toArray, List.getElem?_cons_succ, List.getElem?_cons_zero, Option.some.injEq] at ho
          subst ho
          have HKX := Lib.hid HK
          clear HK
          have p9 := (rb0 9 (by decide)).trans rq9
          have hNL : ¬ rL 7 := fun h => hnl (HCL.out 3 _ 0 rfl (HCL.out 4 _ 3 rfl (HCL.out 5 _ 4 rfl (HCL.out 7 _ 5 rfl h (by kernel_rfl)) (by kernel_rfl)) (by kernel_rfl)) (by kernel_rfl))
          have HGP := Lib.hid (HPRE.out hNL)
          obtain ⟨x0, x1, x2⟩ := (BL6.out.gr HGP.out hLg).q3
          have lnx := (BL6.out.gr HGP.out hLg).lt
          clear rb0 rbk hdep
          go_simp
          exact HKX.out _ _ (HQX.out _ ax HCX.out (by omega) (Gr.refl _ _)) (by unfold FrlR; rw [if_neg (by decide)]; exact Gr.refl _ _) (upd_same _ _ _)
        · simp only [List.getElem?_toArray, List.getElem?_cons_succ, List.getElem?_cons_zero, Option.some.injEq] at ho
          subst ho
          have HKX := Lib.hid HK
          clear HK
          have p4 := (rb0 4 (by decide)).trans rq4
          clear rb0 rbk hdep
          go_simp
          exact HKX.out _ _ (HQX.out _ ax HCX.out (by omega) (Gr.refl _ _)) (by unfold FrlR; rw [if_neg (by decide)]; exact Gr.refl _ _) (upd_same _ _ _)
        · simp only [List.getElem?_toArray, List.getElem?_cons_succ, List.getElem?_cons_zero, Option.some.injEq] at ho
          subst ho
          have HKX := Lib.hid HK
          clear HK
          have e1 : vs 45 = .pointer (some ⟨g, 0, none⟩) := (hdep 1 (by kernel_rfl)).2
          have rr1 := (rbk 45 (by decide)).trans e1
          have E1 := Lib.hid e1
          clear e1
          clear rb0 rbk hdep
          go_simp
          refine (logRecord_any g ax _ HCX.out (by omega)).mono ?_
          rintro e w' ⟨rc, rr, a2, rfl, nF0, nF1, ha2, hc2, hg2⟩
          go_simp
          exact HKX.out _ _ (HQX.out _ a2 hc2 (by omega) hg2) (by unfold FrlR; rw [if_neg (by decide)]; exact hg2) (⟨rc, rr, upd_same _ _ _, nF0, nF1⟩)
        · simp only [List.getElem?_toArray, List.getElem?_cons_succ, List.getElem?_cons_zero, Option.some.injEq] at ho
          subst ho
          have HKX := Lib.hid HK
          clear HK
          have e0 : vs 44 = logV ⟨#[]⟩ p z := (hdep 0 (by kernel_rfl)).2
          have rr0 := (rbk 44 (by decide)).trans e0
          have E0 := Lib.hid e0
          clear e0
          obtain ⟨rc, rr, e2, k2_0, k2_1⟩ := (hdep 2 (by kernel_rfl)).2
          have rr2 := (rbk 46 (by decide)).trans e2
          have E2 := Lib.hid e2
          clear e2
          clear rb0 rbk hdep
          go_simp
          have hps := appP_size ⟨#[]⟩ p z rc rr k2_0 k2_1
          have HAP := specAppend_any ⟨#[]⟩ p z rc rr wx (by decide) (by omega) (by omega) (by omega)
          obtain ⟨pn, hpn9⟩ : ∃ o9, appP ⟨#[]⟩ p z rc rr = o9 := ⟨_, rfl⟩
          obtain ⟨zn, hzn9⟩ : ∃ o9, appZ ⟨#[]⟩ p z rc rr = o9 := ⟨_, rfl⟩
          obtain ⟨cd, hcd9⟩ : ∃ o9, appC ⟨#[]⟩ p z rc rr = o9 := ⟨_, rfl⟩
          rw [hpn9, hzn9, hcd9] at HAP
          rw [hpn9] at hps
          clear hpn9 hzn9 hcd9
          refine HAP.mono ?_
          rintro e w' ⟨rfl, hb⟩
          go_simp
          exact HKX.out _ _ (HQX.out _ ax (HCX.out.ext hb) (by omega) (Gr.of_ext hb)) (by unfold FrlR; rw [if_neg (by decide)]; exact Gr.of_ext hb) (⟨pn, zn, cd, upd_same _ _ _, hps⟩)
        · simp only [List.getElem?_toArray, List.getElem?_cons_succ, List.getElem?_cons_zero, Option.some.injEq] at ho
          subst ho
          have HKX := Lib.hid HK
          clear HK
          obtain ⟨pn, zn, cd, e3, k3_0⟩ := (hdep 3 (by kernel_rfl)).2
          have rr3 := (rbk 47 (by decide)).trans e3
          have E3 := Lib.hid e3
          clear e3
          clear rb0 rbk hdep
          go_simp
          exact HKX.out _ _ (HQX.out _ ax HCX.out (by omega) (Gr.refl _ _)) (by unfold FrlR; rw [if_neg (by decide)]; exact Gr.refl _ _) (⟨pn, zn, cd, upd_same _ _ _, k3_0⟩)
        · simp only [List.getElem?_toArray, List.getElem?_cons_succ, List.getElem?_cons_zero, Option.some.injEq] at ho
          subst ho
          have HKX := Lib.hid HK
          clear HK
          obtain ⟨pn, zn, cd, e4, k4_0⟩ := (hdep 4 (by kernel_rfl)).2
          have rr4 := (rbk 43 (by decide)).trans e4
          have E4 := Lib.hid e4
          clear e4
          clear rb0 rbk hdep
          go_simp
          exact HKX.out _ _ (HQX.out _ ax HCX.out (by omega) (Gr.refl _ _)) (by unfold FrlR; rw [if_neg (by decide)]; exact Gr.refl _ _) (⟨pn, zn, cd, upd_same _ _ _, k4_0⟩)
        · simp only [List.getElem?_toArray, List.getElem?_cons_succ, List.getElem?_cons_zero, Option.some.injEq] at ho
          subst ho
          have HKX := Lib.hid HK
          clear HK
          obtain ⟨pn, zn, cd, e4, k4_0⟩ := (hdep 4 (by kernel_rfl)).2
          have rr4 := (rbk 43 (by decide)).trans e4
          have E4 := Lib.hid e4
          clear e4
          clear rb0 rbk hdep
          go_simp
          exact HKX.out _ _ (HQX.out _ ax HCX.out (by omega) (Gr.refl _ _)) (by unfold FrlR; rw [if_neg (by decide)]; exact Gr.refl _ _) (⟨pn, zn, cd, upd_same _ _ _⟩)
        · simp only [List.getElem?_toArray, List.getElem?_cons_succ, List.getElem?_cons_zero, Option.some.injEq] at ho
          subst ho
          have HKX := Lib.hid HK
          clear HK
          obtain ⟨pn, zn, cd, e5, k5_0⟩ := (hdep 5 (by kernel_rfl)).2
          have rr5 := (rbk 48 (by decide)).trans e5
          have E5 := Lib.hid e5
          clear e5
          have p9 := (rb0 9 (by decide)).trans rq9
          have hNL : ¬ rL 7 := hnl
          have HGP := Lib.hid (HPRE.out hNL)
          obtain ⟨x0, x1, x2⟩ := (BL6.out.gr HGP.out hLg).q3
          have lnx := (BL6.out.gr HGP.out hLg).lt
          have HBF := Lib.hid (HBX.out hnl)
          clear x0 x1 x2 lnx
          obtain ⟨yB0, yB1, yB2⟩ := HBF.out.1.q3
          obtain ⟨zB0, zB1, zB2⟩ := HBF.out.1.z3
          have hlr := HBF.out.1.lt
          clear rb0 rbk hdep
          go_simp
          have HKW := Lib.hid (keep3 (a0 := (.string ⟨#[]⟩)) (a1 := (.string pn)) (a2 := (.int .i64 zn)) HBF.out.1)
          exact HKX.out undef _ ⟨ax, by omega, c3_cur HCX.out hgL, c3_gr HGW.out hwL, by simpa using hsz, fun hn => (hn (.inl rfl)).elim, fun hn => (hn (.inl rfl)).elim⟩ (by unfold FrlR; rw [if_pos rfl]; exact HKW.out) ⟨pn, zn, cd, k5_0, put3 HBF.out.1, c3_far HBF.out.2 hLR, hLg, hRg⟩
      intro vs wx kk rL hI hkk hLt hall
      obtain ⟨_, pn, zn, cd, hpn, hB2, hR2, _, _⟩ := hall 7 (by decide)
      obtain ⟨_, _, _, hg3, _, _, _⟩ := hI
      have BL7 := Lib.hid hB2
      have BR7 := Lib.hid hR2
      have HG7 := Lib.hid hg3
      clear hLt hall hB2 hR2 hg3 m0 m1 m2 lm HC6 HG6 BL6 BR6
      simp only [sl]
      simp only [Act.put, List.setIfInBounds_toArray, List.set_cons_succ, List.set_cons_zero]
      obtain ⟨n0, n1, n2⟩ := BL7.out.q3
      have ln := BL7.out.lt
      obtain ⟨r0, r1, r2⟩ := BR7.out.q3
      obtain ⟨y0, y1, y2⟩ := BR7.out.z3
      have lr := BR7.out.lt
      go_upto_region 13 with fail
      go_region
      go_wp2
      refine bodyPost_ret (v := .tuple #[.int .i64 day, logV ⟨#[]⟩ pn zn]) (by simp [results, Tryz.results5, go_sem, *]) rfl ?_
      exact ⟨day, ⟨#[]⟩, pn, zn, rfl, by decide, by omega, (bel3 (Gr.below (ext_refl w) HG7.out (by omega)) (Nat.le_refl _)).drew⟩

end Go.Proofs.YtkcbgiegoadkbaaGreat
