/- The drawing of frames: what the operations of its regions leave. -/
import Derived.Test.YtaghjaiaoajpiaaVM3
import Derived.Test.YtaghjaiaoajpiaaVFrC
namespace Go.Proofs.Ytaghjaiaoajpiaa
open Go.RowKit
set_option linter.unusedVariables false
set_option linter.unusedSimpArgs false
def FrA (S g : Nat) (N RB un lon : Nat) (A : Option Addr) (len c : Nat) (l : List R2) (vs : Nat → Value) (wx : World) : Nat → Prop
 | 0 => vs 20 = .pointer (some ⟨N, 2, none⟩)
 | 1 => vs 21 = .slice A len c
 | 2 => vs 22 = .pointer (some ⟨g, 0, none⟩)
 | 3 => vs 23 = .pointer (some ⟨N, 0, none⟩)
 | 4 => vs 24 = .int .i64 (un : Int)
 | 5 => vs 25 = .int .i64 ((un + 1 : Nat) : Int)
 | 6 => ∃ (p : Int), vs 26 = .int .i64 p ∧ (0 ≤ p) ∧ (p ≤ un)
 | 7 => vs 27 = .pointer (some ⟨g, 0, none⟩)
 | 8 => vs 28 = .pointer (some ⟨N, 1, none⟩)
 | 9 => vs 29 = .int .i64 (lon : Int)
 | 10 => vs 30 = .int .i64 ((lon + 1 : Nat) : Int)
 | 11 => ∃ (r : Int), vs 31 = .int .i64 r ∧ (0 ≤ r) ∧ (r ≤ lon)
 | 12 => ∃ (p : Int) (r : Int), vs 32 = .agg #[.int .i64 p, .int .i64 r] ∧ (0 ≤ p) ∧ (p ≤ un) ∧ (0 ≤ r) ∧ (r ≤ lon)
 | 13 => ∃ (p : Int) (r : Int) (x : Nat), vs 33 = .slice (some ⟨x, 0, none⟩) 1 1 ∧ (0 ≤ p) ∧ (p ≤ un) ∧ (0 ≤ r) ∧ (r ≤ lon) ∧ (S ≤ x) ∧ (Value.ownBlock (.slice A len c) ≠ some x) ∧ (Blk wx x 42 #[.int .i64 p, .int .i64 r])
 | 14 => ∃ (A2 : Option Addr) (c2 : Nat) (p : Int) (r : Int), vs 34 = .slice A2 (len + 1) c2 ∧ (0 ≤ p) ∧ (p ≤ un) ∧ (0 ≤ r) ∧ (r ≤ lon) ∧ (wx.ownsRow S 42 2 (.slice A2 (len + 1) c2) (len + 1) (rowsV2 (l ++ [⟨p, r⟩])))
 | 15 => vs 35 = .pointer (some ⟨N, 2, none⟩)
 | 16 => ∃ (A2 : Option Addr) (c2 : Nat) (p : Int) (r : Int), (0 ≤ p) ∧ (p ≤ un) ∧ (0 ≤ r) ∧ (r ≤ lon) ∧ (wx.ownsRow S 42 2 (.slice A2 (len + 1) c2) (len + 1) (rowsV2 (l ++ [⟨p, r⟩]))) ∧ (Blk wx N 26 #[.int .i64 (un : Int), .int .i64 (lon : Int), .slice A2 (len + 1) c2]) ∧ (Blk wx RB 26 #[.int .i64 0, .int .i64 0, .slice none 0 0]) ∧ (S ≤ N) ∧ (S ≤ RB)
 | _ => True
def FrAU : Nat → List Nat
 | 0 => [20]
 | 1 => [21]
 | 2 => [22]
 | 3 => [23]
 | 4 => [24]
 | 5 => [25]
 | 6 => [26]
 | 7 => [27]
 | 8 => [28]
 | 9 => [29]
 | 10 => [30]
 | 11 => [31]
 | 12 => [32]
 | 13 => [33]
 | 14 => [34]
 | 15 => [35]
 | 16 => []
 | _ => []
def FrAR (g : Nat) (N RB un lon : Nat) (A : Option Addr) (len c : Nat) (l : List R2) (i : Nat) (wx wy : World) : Prop := if i = 14 then wx.grownBy wy (Value.ownBlock (.slice A len c)) else if i = 16 then KeepW 26 wx wy else Gr g wx wy
theorem FrA_gr {S g : Nat} {N RB un lon : Nat} {A : Option Addr} {len c : Nat} {l : List R2} (hgS : g < S) {vs us : Nat → Value} {wx wy : World} {jN : Nat} (hGG : FrA S g N RB un lon A len c l vs wx jN) (haG : ∀ d ∈ FrAU jN, us d = vs d) (hbG : Gr g wx wy) : FrA S g N RB un lon A len c l us wy jN := by
 match jN, hGG, haG with
 | 0, hGG, haG =>
   exact (haG 20 (by simp [FrAU])).trans hGG
 | 1, hGG, haG =>
   exact (haG 21 (by simp [FrAU])).trans hGG
 | 2, hGG, haG =>
   exact (haG 22 (by simp [FrAU])).trans hGG
 | 3, hGG, haG =>
   exact (haG 23 (by simp [FrAU])).trans hGG
 | 4, hGG, haG =>
   exact (haG 24 (by simp [FrAU])).trans hGG
 | 5, hGG, haG =>
   exact (haG 25 (by simp [FrAU])).trans hGG
 | 6, hGG, haG =>
   obtain ⟨xG0, eG, fG0, fG1⟩ := hGG
   exact ⟨xG0, (haG 26 (by simp [FrAU])).trans eG, fG0, fG1⟩
 | 7, hGG, haG =>
   exact (haG 27 (by simp [FrAU])).trans hGG
 | 8, hGG, haG =>
   exact (haG 28 (by simp [FrAU])).trans hGG
 | 9, hGG, haG =>
   exact (haG 29 (by simp [FrAU])).trans hGG
 | 10, hGG, haG =>
   exact (haG 30 (by simp [FrAU])).trans hGG
 | 11, hGG, haG =>
   obtain ⟨xG0, eG, fG0, fG1⟩ := hGG
   exact ⟨xG0, (haG 31 (by simp [FrAU])).trans eG, fG0, fG1⟩
 | 12, hGG, haG =>
   obtain ⟨xG0, xG1, eG, fG0, fG1, fG2, fG3⟩ := hGG
   exact ⟨xG0, xG1, (haG 32 (by simp [FrAU])).trans eG, fG0, fG1, fG2, fG3⟩
 | 13, hGG, haG =>
   obtain ⟨xG0, xG1, xG2, eG, fG0, fG1, fG2, fG3, fG4, fG5, fG6⟩ := hGG
   exact ⟨xG0, xG1, xG2, (haG 33 (by simp [FrAU])).trans eG, fG0, fG1, fG2, fG3, fG4, fG5, fG6.gr hbG (by omega)⟩
 | 14, hGG, haG =>
   obtain ⟨xG0, xG1, xG2, xG3, eG, fG0, fG1, fG2, fG3, fG4⟩ := hGG
   exact ⟨xG0, xG1, xG2, xG3, (haG 34 (by simp [FrAU])).trans eG, fG0, fG1, fG2, fG3, own_gr fG4 hbG hgS⟩
 | 15, hGG, haG =>
   exact (haG 35 (by simp [FrAU])).trans hGG
 | 16, hGG, haG =>
   obtain ⟨xG0, xG1, xG2, xG3, fG0, fG1, fG2, fG3, fG4, fG5, fG6, fG7, fG8⟩ := hGG
   exact ⟨xG0, xG1, xG2, xG3, fG0, fG1, fG2, fG3, own_gr fG4 hbG hgS, fG5.gr hbG (by omega), fG6.gr hbG (by omega), fG7, fG8⟩
 | jN + 17, _, _ => trivial
theorem FrA_14 {S g : Nat} {N RB un lon : Nat} {A : Option Addr} {len c : Nat} {l : List R2} (hgS : g < S) {vs us : Nat → Value} {wx wy : World} {jN : Nat} (hneG : jN ≠ 14 ∧ jN ≠ 16) (hGG : FrA S g N RB un lon A len c l vs wx jN) (haG : ∀ d ∈ FrAU jN, us d = vs d) (hbG : wx.grownBy wy (Value.ownBlock (.slice A len c))) : FrA S g N RB un lon A len c l us wy jN := by
 match jN, hGG, haG, hneG with
 | 0, hGG, haG, hneG =>
   exact (haG 20 (by simp [FrAU])).trans hGG
 | 1, hGG, haG, hneG =>
   exact (haG 21 (by simp [FrAU])).trans hGG
 | 2, hGG, haG, hneG =>
   exact (haG 22 (by simp [FrAU])).trans hGG
 | 3, hGG, haG, hneG =>
   exact (haG 23 (by simp [FrAU])).trans hGG
 | 4, hGG, haG, hneG =>
   exact (haG 24 (by simp [FrAU])).trans hGG
 | 5, hGG, haG, hneG =>
   exact (haG 25 (by simp [FrAU])).trans hGG
 | 6, hGG, haG, hneG =>
   obtain ⟨xG0, eG, fG0, fG1⟩ := hGG
   exact ⟨xG0, (haG 26 (by simp [FrAU])).trans eG, fG0, fG1⟩
 | 7, hGG, haG, hneG =>
   exact (haG 27 (by simp [FrAU])).trans hGG
 | 8, hGG, haG, hneG =>
   exact (haG 28 (by simp [FrAU])).trans hGG
 | 9, hGG, haG, hneG =>
   exact (haG 29 (by simp [FrAU])).trans hGG
 | 10, hGG, haG, hneG =>
   exact (haG 30 (by simp [FrAU])).trans hGG
 | 11, hGG, haG, hneG =>
   obtain ⟨xG0, eG, fG0, fG1⟩ := hGG
   exact ⟨xG0, (haG 31 (by simp [FrAU])).trans eG, fG0, fG1⟩
 | 12, hGG, haG, hneG =>
   obtain ⟨xG0, xG1, eG, fG0, fG1, fG2, fG3⟩ := hGG
   exact ⟨xG0, xG1, (haG 32 (by simp [FrAU])).trans eG, fG0, fG1, fG2, fG3⟩
 | 13, hGG, haG, hneG =>
   obtain ⟨xG0, xG1, xG2, eG, fG0, fG1, fG2, fG3, fG4, fG5, fG6⟩ := hGG
   exact ⟨xG0, xG1, xG2, (haG 33 (by simp [FrAU])).trans eG, fG0, fG1, fG2, fG3, fG4, fG5, fG6.grownF hbG fG5⟩
 | 14, hGG, haG, hneG =>
   exact absurd rfl hneG.1
 | 15, hGG, haG, hneG =>
   exact (haG 35 (by simp [FrAU])).trans hGG
 | 16, hGG, haG, hneG =>
   exact absurd rfl hneG.2
 | jN + 17, _, _, _ => trivial
theorem FrA_16 {S g : Nat} {N RB un lon : Nat} {A : Option Addr} {len c : Nat} {l : List R2} (hgS : g < S) {vs us : Nat → Value} {wx wy : World} {jN : Nat} (hneG : jN ≠ 16) (hGG : FrA S g N RB un lon A len c l vs wx jN) (haG : ∀ d ∈ FrAU jN, us d = vs d) (hbG : KeepW 26 wx wy) : FrA S g N RB un lon A len c l us wy jN := by
 match jN, hGG, haG, hneG with
 | 0, hGG, haG, hneG =>
   exact (haG 20 (by simp [FrAU])).trans hGG
 | 1, hGG, haG, hneG =>
   exact (haG 21 (by simp [FrAU])).trans hGG
 | 2, hGG, haG, hneG =>
   exact (haG 22 (by simp [FrAU])).trans hGG
 | 3, hGG, haG, hneG =>
   exact (haG 23 (by simp [FrAU])).trans hGG
 | 4, hGG, haG, hneG =>
   exact (haG 24 (by simp [FrAU])).trans hGG
 | 5, hGG, haG, hneG =>
   exact (haG 25 (by simp [FrAU])).trans hGG
 | 6, hGG, haG, hneG =>
   obtain ⟨xG0, eG, fG0, fG1⟩ := hGG
   exact ⟨xG0, (haG 26 (by simp [FrAU])).trans eG, fG0, fG1⟩
 | 7, hGG, haG, hneG =>
   exact (haG 27 (by simp [FrAU])).trans hGG
 | 8, hGG, haG, hneG =>
   exact (haG 28 (by simp [FrAU])).trans hGG
 | 9, hGG, haG, hneG =>
   exact (haG 29 (by simp [FrAU])).trans hGG
 | 10, hGG, haG, hneG =>
   exact (haG 30 (by simp [FrAU])).trans hGG
 | 11, hGG, haG, hneG =>
   obtain ⟨xG0, eG, fG0, fG1⟩ := hGG
   exact ⟨xG0, (haG 31 (by simp [FrAU])).trans eG, fG0, fG1⟩
 | 12, hGG, haG, hneG =>
   obtain ⟨xG0, xG1, eG, fG0, fG1, fG2, fG3⟩ := hGG
   exact ⟨xG0, xG1, (haG 32 (by simp [FrAU])).trans eG, fG0, fG1, fG2, fG3⟩
 | 13, hGG, haG, hneG =>
   obtain ⟨xG0, xG1, xG2, eG, fG0, fG1, fG2, fG3, fG4, fG5, fG6⟩ := hGG
   exact ⟨xG0, xG1, xG2, (haG 33 (by simp [FrAU])).trans eG, fG0, fG1, fG2, fG3, fG4, fG5, hbG.2.1 _ _ _ fG6 (by decide)⟩
 | 14, hGG, haG, hneG =>
   obtain ⟨xG0, xG1, xG2, xG3, eG, fG0, fG1, fG2, fG3, fG4⟩ := hGG
   exact ⟨xG0, xG1, xG2, xG3, (haG 34 (by simp [FrAU])).trans eG, fG0, fG1, fG2, fG3, hbG.own fG4 (by decide)⟩
 | 15, hGG, haG, hneG =>
   exact (haG 35 (by simp [FrAU])).trans hGG
 | 16, hGG, haG, hneG =>
   exact absurd rfl hneG
 | jN + 17, _, _, _ => trivial
def FrAP (j i : Nat) : Bool := (j == 16 && i == 14)
theorem FrA_keep {S g : Nat} {N RB un lon : Nat} {A : Option Addr} {len c : Nat} {l : List R2} (hgS : g < S) {vs us : Nat → Value} {wx wy : World} {iN jN : Nat} (hneG : iN ≠ jN) (hdpG : FrAP jN iN = false) (hGG : FrA S g N RB un lon A len c l vs wx jN) (haG : ∀ d ∈ FrAU jN, us d = vs d) (hbG : FrAR g N RB un lon A len c l iN wx wy) : FrA S g N RB un lon A len c l us wy jN := by
 unfold FrAR at hbG
 by_cases h14 : iN = 14
 · rw [if_pos h14] at hbG
   exact FrA_14 hgS ⟨by omega, (fun e => by subst e; subst h14; cases hdpG)⟩ hGG haG hbG
 rw [if_neg h14] at hbG
 by_cases h16 : iN = 16
 · rw [if_pos h16] at hbG
   exact FrA_16 hgS (by omega) hGG haG hbG
 rw [if_neg h16] at hbG
 exact FrA_gr hgS hGG haG hbG
def FrB (S g : Nat) (N RB un lon LL len c : Nat) (l : List R2) (vs : Nat → Value) (wx : World) : Nat → Prop
 | 0 => vs 40 = .pointer (some ⟨N, 2, none⟩)
 | 1 => vs 41 = .slice (some ⟨LL, 0, none⟩) len c
 | 2 => vs 42 = .pointer (some ⟨g, 0, none⟩)
 | 3 => ∃ (x : Nat), vs 43 = .slice (some ⟨x, 0, none⟩) 3 3 ∧ (S ≤ x) ∧ (Blk wx x 3 #[.int .i64 (-1), .int .i64 0, .int .i64 3])
 | 4 => ∃ (p : Int), vs 44 = .int .i64 p ∧ (-1 ≤ p) ∧ (p ≤ 3)
 | 5 => vs 45 = .pointer (some ⟨g, 0, none⟩)
 | 6 => ∃ (x : Nat), vs 46 = .slice (some ⟨x, 0, none⟩) 3 3 ∧ (S ≤ x) ∧ (Blk wx x 3 #[.int .i64 (-1), .int .i64 0, .int .i64 6])
 | 7 => ∃ (r : Int), vs 47 = .int .i64 r ∧ (-1 ≤ r) ∧ (r ≤ 6)
 | 8 => ∃ (p : Int) (r : Int), vs 48 = .agg #[.int .i64 p, .int .i64 r] ∧ (-1 ≤ p) ∧ (p ≤ 3) ∧ (-1 ≤ r) ∧ (r ≤ 6)
 | 9 => vs 49 = .pointer (some ⟨LL, 0, none⟩)
 | 10 => ∃ (p : Int) (r : Int), (-1 ≤ p) ∧ (p ≤ 3) ∧ (-1 ≤ r) ∧ (r ≤ 6) ∧ (wx.ownsRow S 42 2 (.slice (some ⟨LL, 0, none⟩) len c) len (rowsV2 (l.set 0 ⟨p, r⟩))) ∧ (Blk wx N 26 #[.int .i64 (un : Int), .int .i64 (lon : Int), .slice (some ⟨LL, 0, none⟩) len c]) ∧ (Blk wx RB 26 #[.int .i64 0, .int .i64 0, .slice none 0 0]) ∧ (S ≤ N) ∧ (S ≤ RB)
 | _ => True
def FrBU : Nat → List Nat
 | 0 => [40]
 | 1 => [41]
 | 2 => [42]
 | 3 => [43]
 | 4 => [44]
 | 5 => [45]
 | 6 => [46]
 | 7 => [47]
 | 8 => [48]
 | 9 => [49]
 | 10 => []
 | _ => []
def FrBR (g : Nat) (N RB un lon LL len c : Nat) (l : List R2) (i : Nat) (wx wy : World) : Prop := if i = 10 then KeepW 42 wx wy else Gr g wx wy
theorem FrB_gr {S g : Nat} {N RB un lon LL len c : Nat} {l : List R2} (hgS : g < S) {vs us : Nat → Value} {wx wy : World} {jN : Nat} (hGG : FrB S g N RB un lon LL len c l vs wx jN) (haG : ∀ d ∈ FrBU jN, us d = vs d) (hbG : Gr g wx wy) : FrB S g N RB un lon LL len c l us wy jN := by
 match jN, hGG, haG with
 | 0, hGG, haG =>
   exact (haG 40 (by simp [FrBU])).trans hGG
 | 1, hGG, haG =>
   exact (haG 41 (by simp [FrBU])).trans hGG
 | 2, hGG, haG =>
   exact (haG 42 (by simp [FrBU])).trans hGG
 | 3, hGG, haG =>
   obtain ⟨xG0, eG, fG0, fG1⟩ := hGG
   exact ⟨xG0, (haG 43 (by simp [FrBU])).trans eG, fG0, fG1.gr hbG (by omega)⟩
 | 4, hGG, haG =>
   obtain ⟨xG0, eG, fG0, fG1⟩ := hGG
   exact ⟨xG0, (haG 44 (by simp [FrBU])).trans eG, fG0, fG1⟩
 | 5, hGG, haG =>
   exact (haG 45 (by simp [FrBU])).trans hGG
 | 6, hGG, haG =>
   obtain ⟨xG0, eG, fG0, fG1⟩ := hGG
   exact ⟨xG0, (haG 46 (by simp [FrBU])).trans eG, fG0, fG1.gr hbG (by omega)⟩
 | 7, hGG, haG =>
   obtain ⟨xG0, eG, fG0, fG1⟩ := hGG
   exact ⟨xG0, (haG 47 (by simp [FrBU])).trans eG, fG0, fG1⟩
 | 8, hGG, haG =>
   obtain ⟨xG0, xG1, eG, fG0, fG1, fG2, fG3⟩ := hGG
   exact ⟨xG0, xG1, (haG 48 (by simp [FrBU])).trans eG, fG0, fG1, fG2, fG3⟩
 | 9, hGG, haG =>
   exact (haG 49 (by simp [FrBU])).trans hGG
 | 10, hGG, haG =>
   obtain ⟨xG0, xG1, fG0, fG1, fG2, fG3, fG4, fG5, fG6, fG7, fG8⟩ := hGG
   exact ⟨xG0, xG1, fG0, fG1, fG2, fG3, own_gr fG4 hbG hgS, fG5.gr hbG (by omega), fG6.gr hbG (by omega), fG7, fG8⟩
 | jN + 11, _, _ => trivial
theorem FrB_10 {S g : Nat} {N RB un lon LL len c : Nat} {l : List R2} (hgS : g < S) {vs us : Nat → Value} {wx wy : World} {jN : Nat} (hneG : jN ≠ 10) (hGG : FrB S g N RB un lon LL len c l vs wx jN) (haG : ∀ d ∈ FrBU jN, us d = vs d) (hbG : KeepW 42 wx wy) : FrB S g N RB un lon LL len c l us wy jN := by
 match jN, hGG, haG, hneG with
 | 0, hGG, haG, hneG =>
   exact (haG 40 (by simp [FrBU])).trans hGG
 | 1, hGG, haG, hneG =>
   exact (haG 41 (by simp [FrBU])).trans hGG
 | 2, hGG, haG, hneG =>
   exact (haG 42 (by simp [FrBU])).trans hGG
 | 3, hGG, haG, hneG =>
   obtain ⟨xG0, eG, fG0, fG1⟩ := hGG
   exact ⟨xG0, (haG 43 (by simp [FrBU])).trans eG, fG0, hbG.2.1 _ _ _ fG1 (by decide)⟩
 | 4, hGG, haG, hneG =>
   obtain ⟨xG0, eG, fG0, fG1⟩ := hGG
   exact ⟨xG0, (haG 44 (by simp [FrBU])).trans eG, fG0, fG1⟩
 | 5, hGG, haG, hneG =>
   exact (haG 45 (by simp [FrBU])).trans hGG
 | 6, hGG, haG, hneG =>
   obtain ⟨xG0, eG, fG0, fG1⟩ := hGG
   exact ⟨xG0, (haG 46 (by simp [FrBU])).trans eG, fG0, hbG.2.1 _ _ _ fG1 (by decide)⟩
 | 7, hGG, haG, hneG =>
   obtain ⟨xG0, eG, fG0, fG1⟩ := hGG
   exact ⟨xG0, (haG 47 (by simp [FrBU])).trans eG, fG0, fG1⟩
 | 8, hGG, haG, hneG =>
   obtain ⟨xG0, xG1, eG, fG0, fG1, fG2, fG3⟩ := hGG
   exact ⟨xG0, xG1, (haG 48 (by simp [FrBU])).trans eG, fG0, fG1, fG2, fG3⟩
 | 9, hGG, haG, hneG =>
   exact (haG 49 (by simp [FrBU])).trans hGG
 | 10, hGG, haG, hneG =>
   exact absurd rfl hneG
 | jN + 11, _, _, _ => trivial
def FrBP (j i : Nat) : Bool := false
theorem FrB_keep {S g : Nat} {N RB un lon LL len c : Nat} {l : List R2} (hgS : g < S) {vs us : Nat → Value} {wx wy : World} {iN jN : Nat} (hneG : iN ≠ jN) (hdpG : FrBP jN iN = false) (hGG : FrB S g N RB un lon LL len c l vs wx jN) (haG : ∀ d ∈ FrBU jN, us d = vs d) (hbG : FrBR g N RB un lon LL len c l iN wx wy) : FrB S g N RB un lon LL len c l us wy jN := by
 unfold FrBR at hbG
 by_cases h10 : iN = 10
 · rw [if_pos h10] at hbG
   exact FrB_10 hgS (by omega) hGG haG hbG
 rw [if_neg h10] at hbG
 exact FrB_gr hgS hGG haG hbG
def FrC (S g : Nat) (N RB un lon : Nat) (A : Option Addr) (len c : Nat) (vs : Nat → Value) (wx : World) : Nat → Prop
 | 0 => vs 64 = .pointer (some ⟨N, 2, none⟩)
 | 1 => vs 65 = .slice A len c
 | 2 => vs 66 = .int .i64 (len : Int)
 | 3 => vs 67 = .pointer (some ⟨g, 0, none⟩)
 | 4 => ∃ (p : Int), vs 68 = .int .i64 p ∧ (0 ≤ p) ∧ (p ≤ 1)
 | 5 => ∃ (p : Int), vs 69 = .int .i64 (8 + p) ∧ (0 ≤ p) ∧ (p ≤ 1)
 | 6 => ∃ (p : Int), vs 70 = .bool (decide ((len : Int) < 8 + p)) ∧ (0 ≤ p) ∧ (p ≤ 1)
 | _ => True
def FrCU : Nat → List Nat
 | 0 => [64]
 | 1 => [65]
 | 2 => [66]
 | 3 => [67]
 | 4 => [68]
 | 5 => [69]
 | 6 => [70]
 | _ => []
def FrCR (g : Nat) (N RB un lon : Nat) (A : Option Addr) (len c : Nat) (i : Nat) (wx wy : World) : Prop := Gr g wx wy
theorem FrC_gr {S g : Nat} {N RB un lon : Nat} {A : Option Addr} {len c : Nat} (hgS : g < S) {vs us : Nat → Value} {wx wy : World} {jN : Nat} (hGG : FrC S g N RB un lon A len c vs wx jN) (haG : ∀ d ∈ FrCU jN, us d = vs d) (hbG : Gr g wx wy) : FrC S g N RB un lon A len c us wy jN := by
 match jN, hGG, haG with
 | 0, hGG, haG =>
   exact (haG 64 (by simp [FrCU])).trans hGG
 | 1, hGG, haG =>
   exact (haG 65 (by simp [FrCU])).trans hGG
 | 2, hGG, haG =>
   exact (haG 66 (by simp [FrCU])).trans hGG
 | 3, hGG, haG =>
   exact (haG 67 (by simp [FrCU])).trans hGG
 | 4, hGG, haG =>
   obtain ⟨xG0, eG, fG0, fG1⟩ := hGG
   exact ⟨xG0, (haG 68 (by simp [FrCU])).trans eG, fG0, fG1⟩
 | 5, hGG, haG =>
   obtain ⟨xG0, eG, fG0, fG1⟩ := hGG
   exact ⟨xG0, (haG 69 (by simp [FrCU])).trans eG, fG0, fG1⟩
 | 6, hGG, haG =>
   obtain ⟨xG0, eG, fG0, fG1⟩ := hGG
   exact ⟨xG0, (haG 70 (by simp [FrCU])).trans eG, fG0, fG1⟩
 | jN + 7, _, _ => trivial
def FrCP (j i : Nat) : Bool := false
theorem FrC_keep {S g : Nat} {N RB un lon : Nat} {A : Option Addr} {len c : Nat} (hgS : g < S) {vs us : Nat → Value} {wx wy : World} {iN jN : Nat} (hneG : iN ≠ jN) (hdpG : FrCP jN iN = false) (hGG : FrC S g N RB un lon A len c vs wx jN) (haG : ∀ d ∈ FrCU jN, us d = vs d) (hbG : FrCR g N RB un lon A len c iN wx wy) : FrC S g N RB un lon A len c us wy jN := by
 unfold FrCR at hbG
 exact FrC_gr hgS hGG haG hbG
end Go.Proofs.Ytaghjaiaoajpiaa
