/- RunMind: the reference's. -/
import Derived.Test.YtlkfffohjeoooaaVM13
import Derived.Test.YtlkfffohjeoooaaVRegL
namespace Go.Proofs.Ytlkfffohjeoooaa
open Go.RowKit
set_option linter.unusedVariables false
set_option linter.unusedSimpArgs false
def RmA (S : Nat) (N h cr g kc i ic : Nat) (q : Md) (s : R2) (b o j n2 cb : Nat) (q2 : Md) (vs : Nat → Value) (wx : World) : Nat → Prop
 | 0 => vs 36 = mdV q.u q.lo (some ⟨h, 0, none⟩) q.l.length cr (some ⟨g, 0, none⟩) q.l.length kc (some ⟨i, 0, none⟩) q.l.length ic q.be q.gu
 | 1 => vs 37 = .slice (some ⟨b, o, none⟩) n2 cb
 | 2 => vs 38 = .int .i64 j
 | 3 => vs 39 = .pointer (some ⟨b, o + j * 2, none⟩)
 | 4 => vs 40 = .agg #[.int .i64 s.a, .int .i64 s.b]
 | 5 => ∃ (u2 : Int) (lo2 : Int) (A2 : Option Addr) (n2a : Nat) (c2 : Nat) (K2 : Option Addr) (k2 : Nat) (kc2 : Nat) (I2 : Option Addr) (m2 : Nat) (ic2 : Nat) (be2 : Int) (gu2 : Int), vs 41 = .tuple #[mdV u2 lo2 A2 n2a c2 K2 k2 kc2 I2 m2 ic2 be2 gu2, .bool false]
 | 6 => ∃ (u2 : Int) (lo2 : Int) (A2 : Option Addr) (n2a : Nat) (c2 : Nat) (K2 : Option Addr) (k2 : Nat) (kc2 : Nat) (I2 : Option Addr) (m2 : Nat) (ic2 : Nat) (be2 : Int) (gu2 : Int), vs 35 = .tuple #[mdV u2 lo2 A2 n2a c2 K2 k2 kc2 I2 m2 ic2 be2 gu2, .bool false]
 | 7 => ∃ (u2 : Int) (lo2 : Int) (A2 : Option Addr) (n2a : Nat) (c2 : Nat) (K2 : Option Addr) (k2 : Nat) (kc2 : Nat) (I2 : Option Addr) (m2 : Nat) (ic2 : Nat) (be2 : Int) (gu2 : Int), vs 42 = mdV u2 lo2 A2 n2a c2 K2 k2 kc2 I2 m2 ic2 be2 gu2
 | 8 => ∃ (u2 : Int) (lo2 : Int) (A2 : Option Addr) (n2a : Nat) (c2 : Nat) (K2 : Option Addr) (k2 : Nat) (kc2 : Nat) (I2 : Option Addr) (m2 : Nat) (ic2 : Nat) (be2 : Int) (gu2 : Int), vs 43 = .bool false
 | 9 => ∃ gB, vs 10 = .pointer (some ⟨gB, 0, none⟩) ∧ S ≤ gB ∧ ∃ cB0 cB1 cB2 cB3 cB4 cB5 cB6, Blk wx gB 47 #[cB0, cB1, cB2, cB3, cB4, cB5, cB6]
 | 10 => ∃ (gB : Nat) (u2 : Int) (lo2 : Int) (A2 : Option Addr) (n2a : Nat) (c2 : Nat) (K2 : Option Addr) (k2 : Nat) (kc2 : Nat) (I2 : Option Addr) (m2 : Nat) (ic2 : Nat) (be2 : Int) (gu2 : Int), vs 10 = .pointer (some ⟨gB, 0, none⟩) ∧ S ≤ gB ∧ Blk wx gB 47 #[.int .i64 u2, .int .i64 lo2, .slice A2 n2a c2, .slice K2 k2 kc2, .slice I2 m2 ic2, .int .i64 be2, .int .i64 gu2]
 | 11 => ∃ (u2 : Int) (lo2 : Int) (A2 : Option Addr) (n2a : Nat) (c2 : Nat) (K2 : Option Addr) (k2 : Nat) (kc2 : Nat) (I2 : Option Addr) (m2 : Nat) (ic2 : Nat) (be2 : Int) (gu2 : Int), vs 11 = .bool false
 | _ => True
def RmAU : Nat → List Nat
 | 0 => [36]
 | 1 => [37]
 | 2 => [38]
 | 3 => [39]
 | 4 => [40]
 | 5 => [41]
 | 6 => [35]
 | 7 => [42]
 | 8 => [43]
 | 9 => [10]
 | 10 => [10]
 | 11 => [11]
 | _ => []
theorem RmA_ext {S : Nat} {N h cr g kc i ic : Nat} {q : Md} {s : R2} {b o j n2 cb : Nat} {q2 : Md} {vs us : Nat → Value} {wx wy : World} {jN : Nat} (hGG : RmA S N h cr g kc i ic q s b o j n2 cb q2 vs wx jN) (haG : ∀ d ∈ RmAU jN, us d = vs d) (hbG : Below wx.heap.size wx wy) : RmA S N h cr g kc i ic q s b o j n2 cb q2 us wy jN := by
 match jN, hGG, haG with
 | 0, hGG, haG =>
   exact (haG 36 (by simp [RmAU])).trans hGG
 | 1, hGG, haG =>
   exact (haG 37 (by simp [RmAU])).trans hGG
 | 2, hGG, haG =>
   exact (haG 38 (by simp [RmAU])).trans hGG
 | 3, hGG, haG =>
   exact (haG 39 (by simp [RmAU])).trans hGG
 | 4, hGG, haG =>
   exact (haG 40 (by simp [RmAU])).trans hGG
 | 5, hGG, haG =>
   obtain ⟨xG0, xG1, xG2, xG3, xG4, xG5, xG6, xG7, xG8, xG9, xG10, xG11, xG12, eG⟩ := hGG
   exact ⟨xG0, xG1, xG2, xG3, xG4, xG5, xG6, xG7, xG8, xG9, xG10, xG11, xG12, (haG 41 (by simp [RmAU])).trans eG⟩
 | 6, hGG, haG =>
   obtain ⟨xG0, xG1, xG2, xG3, xG4, xG5, xG6, xG7, xG8, xG9, xG10, xG11, xG12, eG⟩ := hGG
   exact ⟨xG0, xG1, xG2, xG3, xG4, xG5, xG6, xG7, xG8, xG9, xG10, xG11, xG12, (haG 35 (by simp [RmAU])).trans eG⟩
 | 7, hGG, haG =>
   obtain ⟨xG0, xG1, xG2, xG3, xG4, xG5, xG6, xG7, xG8, xG9, xG10, xG11, xG12, eG⟩ := hGG
   exact ⟨xG0, xG1, xG2, xG3, xG4, xG5, xG6, xG7, xG8, xG9, xG10, xG11, xG12, (haG 42 (by simp [RmAU])).trans eG⟩
 | 8, hGG, haG =>
   obtain ⟨xG0, xG1, xG2, xG3, xG4, xG5, xG6, xG7, xG8, xG9, xG10, xG11, xG12, eG⟩ := hGG
   exact ⟨xG0, xG1, xG2, xG3, xG4, xG5, xG6, xG7, xG8, xG9, xG10, xG11, xG12, (haG 43 (by simp [RmAU])).trans eG⟩
 | 9, hGG, haG =>
   obtain ⟨gB, eG, hsG, cB0, cB1, cB2, cB3, cB4, cB5, cB6, hBG⟩ := hGG
   exact ⟨gB, (haG 10 (by simp [RmAU])).trans eG, hsG, cB0, cB1, cB2, cB3, cB4, cB5, cB6, hBG.ext hbG⟩
 | 10, hGG, haG =>
   obtain ⟨gB, xG0, xG1, xG2, xG3, xG4, xG5, xG6, xG7, xG8, xG9, xG10, xG11, xG12, eG, hsG, hBG⟩ := hGG
   exact ⟨gB, xG0, xG1, xG2, xG3, xG4, xG5, xG6, xG7, xG8, xG9, xG10, xG11, xG12, (haG 10 (by simp [RmAU])).trans eG, hsG, hBG.ext hbG⟩
 | 11, hGG, haG =>
   obtain ⟨xG0, xG1, xG2, xG3, xG4, xG5, xG6, xG7, xG8, xG9, xG10, xG11, xG12, eG⟩ := hGG
   exact ⟨xG0, xG1, xG2, xG3, xG4, xG5, xG6, xG7, xG8, xG9, xG10, xG11, xG12, (haG 11 (by simp [RmAU])).trans eG⟩
 | jN + 12, _, _ => trivial
theorem RmA_set {S : Nat} {N h cr g kc i ic : Nat} {q : Md} {s : R2} {b o j n2 cb : Nat} {q2 : Md} {vs us : Nat → Value} {wx wy : World} {jN : Nat} (hGG : RmA S N h cr g kc i ic q s b o j n2 cb q2 vs wx jN) (haG : ∀ d ∈ RmAU jN, us d = vs d) (hneG : jN ≠ 10) (hbG : KeepW 47 wx wy) : RmA S N h cr g kc i ic q s b o j n2 cb q2 us wy jN := by
 match jN, hGG, haG, hneG with
 | 0, hGG, haG, hneG =>
   exact (haG 36 (by simp [RmAU])).trans hGG
 | 1, hGG, haG, hneG =>
   exact (haG 37 (by simp [RmAU])).trans hGG
 | 2, hGG, haG, hneG =>
   exact (haG 38 (by simp [RmAU])).trans hGG
 | 3, hGG, haG, hneG =>
   exact (haG 39 (by simp [RmAU])).trans hGG
 | 4, hGG, haG, hneG =>
   exact (haG 40 (by simp [RmAU])).trans hGG
 | 5, hGG, haG, hneG =>
   obtain ⟨xG0, xG1, xG2, xG3, xG4, xG5, xG6, xG7, xG8, xG9, xG10, xG11, xG12, eG⟩ := hGG
   exact ⟨xG0, xG1, xG2, xG3, xG4, xG5, xG6, xG7, xG8, xG9, xG10, xG11, xG12, (haG 41 (by simp [RmAU])).trans eG⟩
 | 6, hGG, haG, hneG =>
   obtain ⟨xG0, xG1, xG2, xG3, xG4, xG5, xG6, xG7, xG8, xG9, xG10, xG11, xG12, eG⟩ := hGG
   exact ⟨xG0, xG1, xG2, xG3, xG4, xG5, xG6, xG7, xG8, xG9, xG10, xG11, xG12, (haG 35 (by simp [RmAU])).trans eG⟩
 | 7, hGG, haG, hneG =>
   obtain ⟨xG0, xG1, xG2, xG3, xG4, xG5, xG6, xG7, xG8, xG9, xG10, xG11, xG12, eG⟩ := hGG
   exact ⟨xG0, xG1, xG2, xG3, xG4, xG5, xG6, xG7, xG8, xG9, xG10, xG11, xG12, (haG 42 (by simp [RmAU])).trans eG⟩
 | 8, hGG, haG, hneG =>
   obtain ⟨xG0, xG1, xG2, xG3, xG4, xG5, xG6, xG7, xG8, xG9, xG10, xG11, xG12, eG⟩ := hGG
   exact ⟨xG0, xG1, xG2, xG3, xG4, xG5, xG6, xG7, xG8, xG9, xG10, xG11, xG12, (haG 43 (by simp [RmAU])).trans eG⟩
 | 9, hGG, haG, hneG =>
   obtain ⟨gB, eG, hsG, cB0, cB1, cB2, cB3, cB4, cB5, cB6, hBG⟩ := hGG
   obtain ⟨cs', hB', hz⟩ := hbG.2.2 gB _ hBG
   obtain ⟨d0, d1, d2, d3, d4, d5, d6, rfl⟩ := arr7 (cs := cs') (by rw [hz]; rfl)
   exact ⟨gB, (haG 10 (by simp [RmAU])).trans eG, hsG, d0, d1, d2, d3, d4, d5, d6, hB'⟩
 | 10, hGG, haG, hneG =>
   exact absurd rfl hneG
 | 11, hGG, haG, hneG =>
   obtain ⟨xG0, xG1, xG2, xG3, xG4, xG5, xG6, xG7, xG8, xG9, xG10, xG11, xG12, eG⟩ := hGG
   exact ⟨xG0, xG1, xG2, xG3, xG4, xG5, xG6, xG7, xG8, xG9, xG10, xG11, xG12, (haG 11 (by simp [RmAU])).trans eG⟩
 | jN + 12, _, _, _ => trivial
def RmB (S : Nat) (N h cr g kc i ic : Nat) (q : Md) (s : R2) (b o j n2 cb : Nat) (q2 : Md) (vs : Nat → Value) (wx : World) : Nat → Prop
 | 0 => vs 36 = mdV q.u q.lo (some ⟨h, 0, none⟩) q.l.length cr (some ⟨g, 0, none⟩) q.l.length kc (some ⟨i, 0, none⟩) q.l.length ic q.be q.gu
 | 1 => vs 37 = .slice (some ⟨b, o, none⟩) n2 cb
 | 2 => vs 38 = .int .i64 j
 | 3 => vs 39 = .pointer (some ⟨b, o + j * 2, none⟩)
 | 4 => vs 40 = .agg #[.int .i64 s.a, .int .i64 s.b]
 | 5 => ∃ (h2 : Nat) (cr2 : Nat) (g2 : Nat) (kc2 : Nat) (i2 : Nat) (ic2 : Nat), vs 41 = .tuple #[mdV q2.u q2.lo (some ⟨h2, 0, none⟩) q2.l.length cr2 (some ⟨g2, 0, none⟩) q2.l.length kc2 (some ⟨i2, 0, none⟩) q2.l.length ic2 q2.be q2.gu, .bool true] ∧ (wx.ownsRow S 155 2 (.slice (some ⟨h2, 0, none⟩) q2.l.length cr2) q2.l.length (rowsV2 q2.l)) ∧ (wx.ownsRow S 3 1 (.slice (some ⟨g2, 0, none⟩) q2.l.length kc2) q2.l.length (intsV q2.cl)) ∧ (wx.ownsRow S 3 1 (.slice (some ⟨i2, 0, none⟩) q2.l.length ic2) q2.l.length (intsV q2.im)) ∧ (g2 ≠ i2)
 | 6 => ∃ (h2 : Nat) (cr2 : Nat) (g2 : Nat) (kc2 : Nat) (i2 : Nat) (ic2 : Nat), vs 35 = .tuple #[mdV q2.u q2.lo (some ⟨h2, 0, none⟩) q2.l.length cr2 (some ⟨g2, 0, none⟩) q2.l.length kc2 (some ⟨i2, 0, none⟩) q2.l.length ic2 q2.be q2.gu, .bool true] ∧ (wx.ownsRow S 155 2 (.slice (some ⟨h2, 0, none⟩) q2.l.length cr2) q2.l.length (rowsV2 q2.l)) ∧ (wx.ownsRow S 3 1 (.slice (some ⟨g2, 0, none⟩) q2.l.length kc2) q2.l.length (intsV q2.cl)) ∧ (wx.ownsRow S 3 1 (.slice (some ⟨i2, 0, none⟩) q2.l.length ic2) q2.l.length (intsV q2.im)) ∧ (g2 ≠ i2)
 | 7 => ∃ (h2 : Nat) (cr2 : Nat) (g2 : Nat) (kc2 : Nat) (i2 : Nat) (ic2 : Nat), vs 42 = mdV q2.u q2.lo (some ⟨h2, 0, none⟩) q2.l.length cr2 (some ⟨g2, 0, none⟩) q2.l.length kc2 (some ⟨i2, 0, none⟩) q2.l.length ic2 q2.be q2.gu ∧ (wx.ownsRow S 155 2 (.slice (some ⟨h2, 0, none⟩) q2.l.length cr2) q2.l.length (rowsV2 q2.l)) ∧ (wx.ownsRow S 3 1 (.slice (some ⟨g2, 0, none⟩) q2.l.length kc2) q2.l.length (intsV q2.cl)) ∧ (wx.ownsRow S 3 1 (.slice (some ⟨i2, 0, none⟩) q2.l.length ic2) q2.l.length (intsV q2.im)) ∧ (g2 ≠ i2)
 | 8 => ∃ (h2 : Nat) (cr2 : Nat) (g2 : Nat) (kc2 : Nat) (i2 : Nat) (ic2 : Nat), vs 43 = .bool true
 | 9 => ∃ gB, vs 10 = .pointer (some ⟨gB, 0, none⟩) ∧ S ≤ gB ∧ ∃ cB0 cB1 cB2 cB3 cB4 cB5 cB6, Blk wx gB 47 #[cB0, cB1, cB2, cB3, cB4, cB5, cB6]
 | 10 => ∃ (gB : Nat) (h2 : Nat) (cr2 : Nat) (g2 : Nat) (kc2 : Nat) (i2 : Nat) (ic2 : Nat), vs 10 = .pointer (some ⟨gB, 0, none⟩) ∧ S ≤ gB ∧ Blk wx gB 47 #[.int .i64 q2.u, .int .i64 q2.lo, .slice (some ⟨h2, 0, none⟩) q2.l.length cr2, .slice (some ⟨g2, 0, none⟩) q2.l.length kc2, .slice (some ⟨i2, 0, none⟩) q2.l.length ic2, .int .i64 q2.be, .int .i64 q2.gu] ∧ (wx.ownsRow S 155 2 (.slice (some ⟨h2, 0, none⟩) q2.l.length cr2) q2.l.length (rowsV2 q2.l)) ∧ (wx.ownsRow S 3 1 (.slice (some ⟨g2, 0, none⟩) q2.l.length kc2) q2.l.length (intsV q2.cl)) ∧ (wx.ownsRow S 3 1 (.slice (some ⟨i2, 0, none⟩) q2.l.length ic2) q2.l.length (intsV q2.im)) ∧ (g2 ≠ i2)
 | 11 => ∃ (h2 : Nat) (cr2 : Nat) (g2 : Nat) (kc2 : Nat) (i2 : Nat) (ic2 : Nat), vs 11 = .bool true
 | _ => True
def RmBU : Nat → List Nat
 | 0 => [36]
 | 1 => [37]
 | 2 => [38]
 | 3 => [39]
 | 4 => [40]
 | 5 => [41]
 | 6 => [35]
 | 7 => [42]
 | 8 => [43]
 | 9 => [10]
 | 10 => [10]
 | 11 => [11]
 | _ => []
theorem RmB_ext {S : Nat} {N h cr g kc i ic : Nat} {q : Md} {s : R2} {b o j n2 cb : Nat} {q2 : Md} {vs us : Nat → Value} {wx wy : World} {jN : Nat} (hGG : RmB S N h cr g kc i ic q s b o j n2 cb q2 vs wx jN) (haG : ∀ d ∈ RmBU jN, us d = vs d) (hbG : Below wx.heap.size wx wy) : RmB S N h cr g kc i ic q s b o j n2 cb q2 us wy jN := by
 match jN, hGG, haG with
 | 0, hGG, haG =>
   exact (haG 36 (by simp [RmBU])).trans hGG
 | 1, hGG, haG =>
   exact (haG 37 (by simp [RmBU])).trans hGG
 | 2, hGG, haG =>
   exact (haG 38 (by simp [RmBU])).trans hGG
 | 3, hGG, haG =>
   exact (haG 39 (by simp [RmBU])).trans hGG
 | 4, hGG, haG =>
   exact (haG 40 (by simp [RmBU])).trans hGG
 | 5, hGG, haG =>
   obtain ⟨xG0, xG1, xG2, xG3, xG4, xG5, eG, fG0, fG1, fG2, fG3⟩ := hGG
   exact ⟨xG0, xG1, xG2, xG3, xG4, xG5, (haG 41 (by simp [RmBU])).trans eG, own_ext fG0 hbG, own_ext fG1 hbG, own_ext fG2 hbG, fG3⟩
 | 6, hGG, haG =>
   obtain ⟨xG0, xG1, xG2, xG3, xG4, xG5, eG, fG0, fG1, fG2, fG3⟩ := hGG
   exact ⟨xG0, xG1, xG2, xG3, xG4, xG5, (haG 35 (by simp [RmBU])).trans eG, own_ext fG0 hbG, own_ext fG1 hbG, own_ext fG2 hbG, fG3⟩
 | 7, hGG, haG =>
   obtain ⟨xG0, xG1, xG2, xG3, xG4, xG5, eG, fG0, fG1, fG2, fG3⟩ := hGG
   exact ⟨xG0, xG1, xG2, xG3, xG4, xG5, (haG 42 (by simp [RmBU])).trans eG, own_ext fG0 hbG, own_ext fG1 hbG, own_ext fG2 hbG, fG3⟩
 | 8, hGG, haG =>
   obtain ⟨xG0, xG1, xG2, xG3, xG4, xG5, eG⟩ := hGG
   exact ⟨xG0, xG1, xG2, xG3, xG4, xG5, (haG 43 (by simp [RmBU])).trans eG⟩
 | 9, hGG, haG =>
   obtain ⟨gB, eG, hsG, cB0, cB1, cB2, cB3, cB4, cB5, cB6, hBG⟩ := hGG
   exact ⟨gB, (haG 10 (by simp [RmBU])).trans eG, hsG, cB0, cB1, cB2, cB3, cB4, cB5, cB6, hBG.ext hbG⟩
 | 10, hGG, haG =>
   obtain ⟨gB, xG0, xG1, xG2, xG3, xG4, xG5, eG, hsG, hBG, fG0, fG1, fG2, fG3⟩ := hGG
   exact ⟨gB, xG0, xG1, xG2, xG3, xG4, xG5, (haG 10 (by simp [RmBU])).trans eG, hsG, hBG.ext hbG, own_ext fG0 hbG, own_ext fG1 hbG, own_ext fG2 hbG, fG3⟩
 | 11, hGG, haG =>
   obtain ⟨xG0, xG1, xG2, xG3, xG4, xG5, eG⟩ := hGG
   exact ⟨xG0, xG1, xG2, xG3, xG4, xG5, (haG 11 (by simp [RmBU])).trans eG⟩
 | jN + 12, _, _ => trivial
theorem RmB_set {S : Nat} {N h cr g kc i ic : Nat} {q : Md} {s : R2} {b o j n2 cb : Nat} {q2 : Md} {vs us : Nat → Value} {wx wy : World} {jN : Nat} (hGG : RmB S N h cr g kc i ic q s b o j n2 cb q2 vs wx jN) (haG : ∀ d ∈ RmBU jN, us d = vs d) (hneG : jN ≠ 10) (hbG : KeepW 47 wx wy) : RmB S N h cr g kc i ic q s b o j n2 cb q2 us wy jN := by
 match jN, hGG, haG, hneG with
 | 0, hGG, haG, hneG =>
   exact (haG 36 (by simp [RmBU])).trans hGG
 | 1, hGG, haG, hneG =>
   exact (haG 37 (by simp [RmBU])).trans hGG
 | 2, hGG, haG, hneG =>
   exact (haG 38 (by simp [RmBU])).trans hGG
 | 3, hGG, haG, hneG =>
   exact (haG 39 (by simp [RmBU])).trans hGG
 | 4, hGG, haG, hneG =>
   exact (haG 40 (by simp [RmBU])).trans hGG
 | 5, hGG, haG, hneG =>
   obtain ⟨xG0, xG1, xG2, xG3, xG4, xG5, eG, fG0, fG1, fG2, fG3⟩ := hGG
   exact ⟨xG0, xG1, xG2, xG3, xG4, xG5, (haG 41 (by simp [RmBU])).trans eG, hbG.own fG0 (by decide), hbG.own fG1 (by decide), hbG.own fG2 (by decide), fG3⟩
 | 6, hGG, haG, hneG =>
   obtain ⟨xG0, xG1, xG2, xG3, xG4, xG5, eG, fG0, fG1, fG2, fG3⟩ := hGG
   exact ⟨xG0, xG1, xG2, xG3, xG4, xG5, (haG 35 (by simp [RmBU])).trans eG, hbG.own fG0 (by decide), hbG.own fG1 (by decide), hbG.own fG2 (by decide), fG3⟩
 | 7, hGG, haG, hneG =>
   obtain ⟨xG0, xG1, xG2, xG3, xG4, xG5, eG, fG0, fG1, fG2, fG3⟩ := hGG
   exact ⟨xG0, xG1, xG2, xG3, xG4, xG5, (haG 42 (by simp [RmBU])).trans eG, hbG.own fG0 (by decide), hbG.own fG1 (by decide), hbG.own fG2 (by decide), fG3⟩
 | 8, hGG, haG, hneG =>
   obtain ⟨xG0, xG1, xG2, xG3, xG4, xG5, eG⟩ := hGG
   exact ⟨xG0, xG1, xG2, xG3, xG4, xG5, (haG 43 (by simp [RmBU])).trans eG⟩
 | 9, hGG, haG, hneG =>
   obtain ⟨gB, eG, hsG, cB0, cB1, cB2, cB3, cB4, cB5, cB6, hBG⟩ := hGG
   obtain ⟨cs', hB', hz⟩ := hbG.2.2 gB _ hBG
   obtain ⟨d0, d1, d2, d3, d4, d5, d6, rfl⟩ := arr7 (cs := cs') (by rw [hz]; rfl)
   exact ⟨gB, (haG 10 (by simp [RmBU])).trans eG, hsG, d0, d1, d2, d3, d4, d5, d6, hB'⟩
 | 10, hGG, haG, hneG =>
   exact absurd rfl hneG
 | 11, hGG, haG, hneG =>
   obtain ⟨xG0, xG1, xG2, xG3, xG4, xG5, eG⟩ := hGG
   exact ⟨xG0, xG1, xG2, xG3, xG4, xG5, (haG 11 (by simp [RmBU])).trans eG⟩
 | jN + 12, _, _, _ => trivial
set_option maxRecDepth 100000 in
set_option maxHeartbeats 16000000 in
theorem specRunMind_any (u lo : Int) (A : Option Addr) (n c : Nat) (l : List R2) (K : Option Addr) (k' kc : Nat) (cl : List Int) (I : Option Addr) (m' ic : Nat) (im : List Int) (be gu : Int) (Bs : Option Addr) (n2 cb : Nat) (ss : List R2) (w : World) (hn : n ≤ 1048576) (hk : k' ≤ 1048576) (hm : m' ≤ 1048576) (hn2 : n2 ≤ 1048576) (h : Reads w w.heap.size 2 A n (rowsV2 l)) (hc : Reads w w.heap.size 1 K k' (intsV cl)) (hi : Reads w w.heap.size 1 I m' (intsV im)) (hs : Reads w w.heap.size 2 Bs n2 (rowsV2 ss)) :
 Calls Try.prog 35 #[mdV u lo A n c K k' kc I m' ic be gu, .slice Bs n2 cb] w (RetRu w (runO ⟨u, lo, l, cl, im, be, gu⟩ ss)) := by
 have hl := rows_len2 h
 have hcl := ints_len hc
 have him := ints_len hi
 have hsl := rows_len2 hs
 have H := Lib.hid h
 have HC := Lib.hid hc
 have HI := Lib.hid hi
 have HS := Lib.hid hs
 have hbx := Lib.hid (ext_alloc (ext_alloc (ext_refl w) (.cells (mdC u lo A n c K k' kc I m' ic be gu) 47)) (.cells #[.int .i64 0, .int .i64 0, .slice none 0 0, .slice none 0 0, .slice none 0 0, .int .i64 0, .int .i64 0] 47))
 have BM0 := Lib.hid ((Blk.born w (mdC u lo A n c K k' kc I m' ic be gu) 47 (H := w.heap.size) rfl).al (.cells #[.int .i64 0, .int .i64 0, .slice none 0 0, .slice none 0 0, .slice none 0 0, .int .i64 0, .int .i64 0] 47))
 have BR0 := Lib.hid (Blk.born (w.alloc (.cells (mdC u lo A n c K k' kc I m' ic be gu) 47)) #[.int .i64 0, .int .i64 0, .slice none 0 0, .slice none 0 0, .slice none 0 0, .int .i64 0, .int .i64 0] 47 (H := w.heap.size + 1) (by simp))
 have HM := Lib.hid (fun (w : World) a b d => l21Good_any u lo A n c l K k' kc cl I m' ic im be gu w hn hk hm a b d)
 cases hok : mdOK ⟨u, lo, l, cl, im, be, gu⟩
 · rw [show mindB u lo l cl im be gu = false from hok] at HM
   rw [show runO ⟨u, lo, l, cl, im, be, gu⟩ ss = none by unfold runO; rw [if_neg (by rw [hok]; simp)]]
   clear h hc hi hs hl hcl him hsl hok
   go_enter Try.func35, Try.ntmps35
   go_wp2_with fail
   refine (HM.out _ (rdx H.out hbx.out) (rdx HC.out hbx.out) (rdx HI.out hbx.out)).mono ?_
   rintro e w1 ⟨rfl, hb⟩
   have BR1 := Lib.hid (BR0.out.ext hb)
   have HB1 := Lib.hid (ext_trans hbx.out hb)
   obtain ⟨r0, r1, r2, r3, r4, r5, r6⟩ := BR1.out.q7
   obtain ⟨y0, y1, y2, y3, y4, y5, y6⟩ := BR1.out.z7
   have lr := BR1.out.lt
   clear hb
   go_wp2
   refine bodyPost_ret (v := .tuple #[mdV 0 0 none 0 0 none 0 0 none 0 0 0 0, .int .i64 0, .bool false]) (by simp [results, Try.results35, go_sem, *]) rfl ?_
   exact ⟨rfl, m7_below HB1.out (by omega)⟩
 obtain ⟨hgd, h1, h2, _⟩ := mdOK_parts hok
 dsimp only at h1 h2 hgd
 have hk2 : k' = n := by omega
 have hm2 : m' = n := by omega
 subst hk2
 subst hm2
 obtain ⟨_, _, hn1, hn8⟩ := frB_head (good_fr hgd)
 subst hl
 rw [show mindB u lo l cl im be gu = true from hok] at HM
 by_cases h40 : 40 < n2
 · rw [show runO ⟨u, lo, l, cl, im, be, gu⟩ ss = none by unfold runO; rw [if_neg (by omega)]]
   have e1 : (40 : Int) < (n2 : Int) := by omega
   clear h hc hi hs hcl him hsl hok hgd h1 h2 h40
   go_enter Try.func35, Try.ntmps35
   go_wp2_with fail
   refine (HM.out _ (rdx H.out hbx.out) (rdx HC.out hbx.out) (rdx HI.out hbx.out)).mono ?_
   rintro e w1 ⟨rfl, hb⟩
   have BR1 := Lib.hid (BR0.out.ext hb)
   have HB1 := Lib.hid (ext_trans hbx.out hb)
   obtain ⟨r0, r1, r2, r3, r4, r5, r6⟩ := BR1.out.q7
   obtain ⟨y0, y1, y2, y3, y4, y5, y6⟩ := BR1.out.z7
   have lr := BR1.out.lt
   clear hb
   go_wp2
   refine bodyPost_ret (v := .tuple #[mdV 0 0 none 0 0 none 0 0 none 0 0 0 0, .int .i64 0, .bool false]) (by simp [results, Try.results35, go_sem, *]) rfl ?_
   exact ⟨rfl, m7_below HB1.out (by omega)⟩
 · have e1 : ¬ (40 : Int) < (n2 : Int) := by omega
   rw [show runO ⟨u, lo, l, cl, im, be, gu⟩ ss = some (runMi ⟨u, lo, l, cl, im, be, gu⟩ ss n2) by unfold runO; rw [if_pos ⟨hok, by omega⟩, hsl]]
   have HOK := Lib.hid hok
   have HSL := Lib.hid hsl
   clear h hc hi hs hcl him hsl hok hgd h1 h2 h40
   go_enter Try.func35, Try.ntmps35
   go_wp2_with fail
   refine (HM.out _ (rdx H.out hbx.out) (rdx HC.out hbx.out) (rdx HI.out hbx.out)).mono ?_
   rintro e w1 ⟨rfl, hb⟩
   have BM1 := Lib.hid (BM0.out.ext hb)
   have BR1 := Lib.hid (BR0.out.ext hb)
   have HB1 := Lib.hid (ext_trans hbx.out hb)
   obtain ⟨m0, m1, m2, m3, m4, m5, m6⟩ := BM1.out.q7
   have lm := BM1.out.lt
   clear hb
   go_wp2_with fail
   (with_reducible refine (l21Own_any u lo A l.length c l K kc cl I ic im be gu _ hn1 (by omega) (rdx H.out HB1.out) (rdx HC.out HB1.out) (rdx HI.out HB1.out)).mono ?_)
   rintro e w2 ⟨h, cr, g, kc1, i, ic1, rfl, hr, hc, hi, hne, hb⟩
   have hs0 := HB1.out.size
   obtain ⟨N, hN⟩ : ∃ N, N = w2.heap.size := ⟨_, rfl⟩
   obtain ⟨W, hW⟩ : ∃ y : World, y = w2.alloc (.cells (mdC u lo (some ⟨h, 0, none⟩) l.length cr (some ⟨g, 0, none⟩) l.length kc1 (some ⟨i, 0, none⟩) l.length ic1 be gu) 47) := ⟨_, rfl⟩
   have BN1 := Lib.hid (show Blk W N 47 (mdC u lo (some ⟨h, 0, none⟩) l.length cr (some ⟨g, 0, none⟩) l.length kc1 (some ⟨i, 0, none⟩) l.length ic1 be gu) by rw [hW]; exact Blk.born w2 _ 47 (H := N) hN)
   have BR2 := Lib.hid (show Blk W (w.heap.size + 1) 47 #[.int .i64 0, .int .i64 0, .slice none 0 0, .slice none 0 0, .slice none 0 0, .int .i64 0, .int .i64 0] by rw [hW]; exact (BR1.out.ext hb).al _)
   have HR1 := Lib.hid (show W.ownsRow w.heap.size 155 2 (.slice (some ⟨h, 0, none⟩) l.length cr) l.length (rowsV2 l) by rw [hW]; exact (own_base (base' := w.heap.size) hr hs0).alloc _)
   have HC1 := Lib.hid (show W.ownsRow w.heap.size 3 1 (.slice (some ⟨g, 0, none⟩) l.length kc1) l.length (intsV cl) by rw [hW]; exact (own_base (base' := w.heap.size) hc hs0).alloc _)
   have HI1 := Lib.hid (show W.ownsRow w.heap.size 3 1 (.slice (some ⟨i, 0, none⟩) l.length ic1) l.length (intsV im) by rw [hW]; exact (own_base (base' := w.heap.size) hi hs0).alloc _)
   have HBW := Lib.hid (show Below w.heap.size w W by rw [hW]; exact ext_alloc (ext_trans HB1.out hb) _)
   have hNw : w.heap.size + 1 < N := by have := (BR1.out.ext hb).lt; omega
   go_upto_region 4 with fail
   rw [← hN, ← hW]
   clear hr hc hi hb hN hW BR0 BM0 BM1 BR1 HB1 hbx hs0 m0 m1 m2 m3 m4 m5 m6 lm
   go_wp2_with fail
   go_loopw [8, 9] (fun cc ii wr => ∃ (j : Nat) (q : Md) (h cr g kc i ic cnt : Nat), j ≤ n2 ∧ ii = .int .i64 j ∧ cc = .int .i64 cnt ∧ cnt ≤ j ∧ g ≠ i ∧ Hid (runMi ⟨u, lo, l, cl, im, be, gu⟩ ss j = (q, cnt)) ∧ Hid (mdOK q = true) ∧ Hid (Blk wr N 47 (mdC q.u q.lo (some ⟨h, 0, none⟩) q.l.length cr (some ⟨g, 0, none⟩) q.l.length kc (some ⟨i, 0, none⟩) q.l.length ic q.be q.gu)) ∧ Hid (wr.ownsRow w.heap.size 155 2 (.slice (some ⟨h, 0, none⟩) q.l.length cr) q.l.length (rowsV2 q.l)) ∧ Hid (wr.ownsRow w.heap.size 3 1 (.slice (some ⟨g, 0, none⟩) q.l.length kc) q.l.length (intsV q.cl)) ∧ Hid (wr.ownsRow w.heap.size 3 1 (.slice (some ⟨i, 0, none⟩) q.l.length ic) q.l.length (intsV q.im)) ∧ Hid (Blk wr (w.heap.size + 1) 47 #[.int .i64 0, .int .i64 0, .slice none 0 0, .slice none 0 0, .slice none 0 0, .int .i64 0, .int .i64 0]) ∧ Hid (Below w.heap.size w wr)) (fun _ ii _ => n2 - (intOf ii).toNat)
   case atStart => exact ⟨0, ⟨u, lo, l, cl, im, be, gu⟩, h, cr, g, kc1, i, ic1, 0, Nat.zero_le _, rfl, rfl, Nat.le_refl _, hne, Lib.hid rfl, HOK, BN1, HR1, HC1, HI1, BR2, HBW⟩
   case round =>
    clear BN1 HR1 HC1 HI1 BR2 HBW hne
    obtain ⟨j, q, h, cr, g, kc, i, ic, cnt, hj, rfl, rfl, hcj, hne, HQ, HQK, BNr, HRr, HCr, HIr, BRr, HBr⟩ := hrel
    obtain ⟨W, hW⟩ : ∃ y : World, y = wr := ⟨_, rfl⟩
    subst hW
    obtain ⟨d0, d1, d2, d3, d4, d5, d6⟩ := BNr.out.q7
    obtain ⟨z0, z1, z2, z3, z4, z5, z6⟩ := BNr.out.z7
    obtain ⟨r0, r1, r2, r3, r4, r5, r6⟩ := BRr.out.q7
    obtain ⟨y0, y1, y2, y3, y4, y5, y6⟩ := BRr.out.z7
    have ln := BNr.out.lt
    have lr := BRr.out.lt
    by_cases hlt : j < n2
    · obtain ⟨s, hs⟩ := list_split (l := ss) (k := j) (by rw [HSL.out]; exact hlt)
      have HRN := Lib.hid (runMi_next HQ.out hs)
      obtain ⟨b, o, rfl, hb, c0, c1⟩ := rows_at2 (rdx HS.out HBr.out) hs
      have e2 : (j : Int) < (n2 : Int) := by omega
      clear hs
      obtain ⟨O, hO⟩ : ∃ O, stM q s.a s.b = O := ⟨_, rfl⟩
      rw [hO] at HRN
      have HO := Lib.hid hO
      clear hO
      have HSP := Lib.hid (fun (w : World) => l21Step_any s.a s.b w)
      cases hst : stepOkM s.a s.b
      · rw [hst] at HSP
        have HON := Lib.hid (show O = none by rw [← HO.out]; exact st_bad HQK.out hst)
        clear hst
        go_wp2_with fail
        refine (HSP.out _).mono ?_
        rintro e w3 ⟨rfl, hb3⟩
        have HX := Lib.hid hb3
        clear hb3
        go_wp2
        go_roundw
        case rel => exact ⟨j + 1, q, h, cr, g, kc, i, ic, cnt, by omega, by go_num, rfl, by omega, hne, Lib.hid (by have h8 := HRN.out; rw [HON.out] at h8; exact h8), HQK, Lib.hid (BNr.out.ext HX.out), Lib.hid (own_ext HRr.out HX.out), Lib.hid (own_ext HCr.out HX.out), Lib.hid (own_ext HIr.out HX.out), Lib.hid (BRr.out.ext HX.out), Lib.hid (ext_trans HBr.out HX.out)⟩
        case measure => simp [intOf]; omega
      · have HMK := Lib.hid (fun (w : World) a b d => (l21Make_any q.u q.lo (some ⟨h, 0, none⟩) q.l.length cr q.l (some ⟨g, 0, none⟩) kc q.cl (some ⟨i, 0, none⟩) ic q.im q.be q.gu s.a s.b w HQK.out hst a b d))
        rw [show stM ⟨q.u, q.lo, q.l, q.cl, q.im, q.be, q.gu⟩ s.a s.b = O from HO.out] at HMK
        rw [hst] at HSP
        clear hst
        go_wp2_with fail
        refine (HSP.out _).mono ?_
        rintro e w3 ⟨rfl, hb3⟩
        have c03 := ext_cell hb3 c0
        have c13 := ext_cell hb3 c1
        have hb' := Nat.lt_of_lt_of_le hb hb3.size
        have HX := Lib.hid hb3
        clear hb3 c0 c1 hb
        have BN3 := Lib.hid (BNr.out.ext HX.out)
        have BR3 := Lib.hid (BRr.out.ext HX.out)
        have HR3 := Lib.hid (own_ext HRr.out HX.out)
        have HC3 := Lib.hid (own_ext HCr.out HX.out)
        have HI3 := Lib.hid (own_ext HIr.out HX.out)
        have HB3 := Lib.hid (ext_trans HBr.out HX.out)
        clear d0 d1 d2 d3 d4 d5 d6 z0 z1 z2 z3 z4 z5 z6 r0 r1 r2 r3 r4 r5 r6 y0 y1 y2 y3 y4 y5 y6 ln lr
        obtain ⟨d0, d1, d2, d3, d4, d5, d6⟩ := BN3.out.q7
        obtain ⟨z0, z1, z2, z3, z4, z5, z6⟩ := BN3.out.z7
        obtain ⟨r0, r1, r2, r3, r4, r5, r6⟩ := BR3.out.q7
        obtain ⟨y0, y1, y2, y3, y4, y5, y6⟩ := BR3.out.z7
        have ln := BN3.out.lt
        have lr := BR3.out.lt
        rcases O with _ | q2
        · go_upto_region 8 with fail
          refine wp_region_left (by kernel_rfl) (by kernel_rfl) [10, 11, 35, 36, 37, 38, 39, 40, 41, 42, 43] RmAU (by kernel_rfl) (by decide) 44 (by kernel_rfl) (by simp) (fun ra0 => ra0.eval (.tmp 1) = .slice (some ⟨b, o, none⟩) n2 cb ∧ ra0.eval (.tmp 7) = .pointer (some ⟨N, 0, none⟩) ∧ ra0.eval (.tmp 9) = .int .i64 j) ⟨by kernel_rfl, by kernel_rfl, by kernel_rfl⟩ (fun _ wx => Below w3.heap.size w3 wx) (fun wx wy => Below wx.heap.size wx wy) 10 (KeepW 47) (fun jN vs wx => RmA w3.heap.size N h cr g kc i ic q s b o j n2 cb q vs wx jN) ((ext_refl w3).drew) (fun _ _ _ _ _ h1 h2 h3 => RmA_ext h1 h2 h3) (fun _ _ _ _ _ h0 h1 h2 h3 => RmA_set h1 h2 h0 h3) ?_ ?_
          · intro ra0 hE ri ro ho Qx vs wx rb KX kk HBw hdep rb0 rbk HK
            repeat (rename_i hz9; clear hz9)
            obtain ⟨rq1, rq7, rq9⟩ := hE
            have hi : ri < 12 := by
             rcases Nat.lt_or_ge ri 12 with h | h
             · exact h
             · rw [Array.getElem?_eq_none (by simpa using h)] at ho; cases ho
            have HBX := Lib.hid HBw
            have hsz := HBw.size
            clear HBw
            rcases (show ri = 0 ∨ ri = 1 ∨ ri = 2 ∨ ri = 3 ∨ ri = 4 ∨ ri = 5 ∨ ri = 6 ∨ ri = 7 ∨ ri = 8 ∨ ri = 9 ∨ ri = 10 ∨ ri = 11 by omega) with rfl | rfl | rfl | rfl | rfl | rfl | rfl | rfl | rfl | rfl | rfl | rfl
            · simp only [List.getElem?_toArray, List.getElem?_cons_succ, List.getElem?_cons_zero, Option.some.injEq] at ho
              subst ho
              have HKX := Lib.hid HK
              clear HK
              have p7 := (rb0 7 (by decide)).trans rq7
              have t0 := ext_cell HBX.out d0
              have t1 := ext_cell HBX.out d1
              have t2 := ext_cell HBX.out d2
              have t3 := ext_cell HBX.out d3
              have t4 := ext_cell HBX.out d4
              have t5 := ext_cell HBX.out d5
              have t6 := ext_cell HBX.out d6
              have lnx : N < wx.heap.size := Nat.lt_of_lt_of_le ln hsz
              have u0 := ext_cell HBX.out c03
              have u1 := ext_cell HBX.out c13
              have lbx : b < wx.heap.size := Nat.lt_of_lt_of_le hb' hsz
              clear rb0 rbk hdep
              go_simp
              exact HKX.out _ _ HBX.out (by rw [if_neg (by decide)]; exact ext_refl _) (upd_same _ _ _)
            · simp only [List.getElem?_toArray, List.getElem?_cons_succ, List.getElem?_cons_zero, Option.some.injEq] at ho
              subst ho
              have HKX := Lib.hid HK
              clear HK
              have p1 := (rb0 1 (by decide)).trans rq1
              have t0 := ext_cell HBX.out d0
              have t1 := ext_cell HBX.out d1
              have t2 := ext_cell HBX.out d2
              have t3 := ext_cell HBX.out d3
              have t4 := ext_cell HBX.out d4
              have t5 := ext_cell HBX.out d5
              have t6 := ext_cell HBX.out d6
              have lnx : N < wx.heap.size := Nat.lt_of_lt_of_le ln hsz
              have u0 := ext_cell HBX.out c03
              have u1 := ext_cell HBX.out c13
              have lbx : b < wx.heap.size := Nat.lt_of_lt_of_le hb' hsz
              clear rb0 rbk hdep
              go_simp
              exact HKX.out _ _ HBX.out (by rw [if_neg (by decide)]; exact ext_refl _) (upd_same _ _ _)
            · simp only [List.getElem?_toArray, List.getElem?_cons_succ, List.getElem?_cons_zero, Option.some.injEq] at ho
              subst ho
              have HKX := Lib.hid HK
              clear HK
              have p9 := (rb0 9 (by decide)).trans rq9
              have t0 := ext_cell HBX.out d0
              have t1 := ext_cell HBX.out d1
              have t2 := ext_cell HBX.out d2
              have t3 := ext_cell HBX.out d3
              have t4 := ext_cell HBX.out d4
              have t5 := ext_cell HBX.out d5
              have t6 := ext_cell HBX.out d6
              have lnx : N < wx.heap.size := Nat.lt_of_lt_of_le ln hsz
              have u0 := ext_cell HBX.out c03
              have u1 := ext_cell HBX.out c13
              have lbx : b < wx.heap.size := Nat.lt_of_lt_of_le hb' hsz
              clear rb0 rbk hdep
              go_simp
              exact HKX.out _ _ HBX.out (by rw [if_neg (by decide)]; exact ext_refl _) (upd_same _ _ _)
            · simp only [List.getElem?_toArray, List.getElem?_cons_succ, List.getElem?_cons_zero, Option.some.injEq] at ho
              subst ho
              have HKX := Lib.hid HK
              clear HK
              have e1 : vs 37 = .slice (some ⟨b, o, none⟩) n2 cb := (hdep 1 (by kernel_rfl))
              have e2 : vs 38 = .int .i64 j := (hdep 2 (by kernel_rfl))
              have rr1 := (rbk 37 (by decide)).trans e1
              have rr2 := (rbk 38 (by decide)).trans e2
              have E1 := Lib.hid e1
              clear e1
              have E2 := Lib.hid e2
              clear e2
              clear rb0 rbk hdep
              go_simp
              exact HKX.out _ _ HBX.out (by rw [if_neg (by decide)]; exact ext_refl _) (upd_same _ _ _)
            · simp only [List.getElem?_toArray, List.getElem?_cons_succ, List.getElem?_cons_zero, Option.some.injEq] at ho
              subst ho
              have HKX := Lib.hid HK
              clear HK
              have e3 : vs 39 = .pointer (some ⟨b, o + j * 2, none⟩) := (hdep 3 (by kernel_rfl))
              have p1 := (rb0 1 (by decide)).trans rq1
              have rr3 := (rbk 39 (by decide)).trans e3
              have E3 := Lib.hid e3
              clear e3
              have t0 := ext_cell HBX.out d0
              have t1 := ext_cell HBX.out d1
              have t2 := ext_cell HBX.out d2
              have t3 := ext_cell HBX.out d3
              have t4 := ext_cell HBX.out d4
              have t5 := ext_cell HBX.out d5
              have t6 := ext_cell HBX.out d6
              have lnx : N < wx.heap.size := Nat.lt_of_lt_of_le ln hsz
              have u0 := ext_cell HBX.out c03
              have u1 := ext_cell HBX.out c13
              have lbx : b < wx.heap.size := Nat.lt_of_lt_of_le hb' hsz
              clear rb0 rbk hdep
              go_simp
              exact HKX.out _ _ HBX.out (by rw [if_neg (by decide)]; exact ext_refl _) (upd_same _ _ _)
            · simp only [List.getElem?_toArray, List.getElem?_cons_succ, List.getElem?_cons_zero, Option.some.injEq] at ho
              subst ho
              have HKX := Lib.hid HK
              clear HK
              have e0 : vs 36 = mdV q.u q.lo (some ⟨h, 0, none⟩) q.l.length cr (some ⟨g, 0, none⟩) q.l.length kc (some ⟨i, 0, none⟩) q.l.length ic q.be q.gu := (hdep 0 (by kernel_rfl))
              have e4 : vs 40 = .agg #[.int .i64 s.a, .int .i64 s.b] := (hdep 4 (by kernel_rfl))
              have rr0 := (rbk 36 (by decide)).trans e0
              have rr4 := (rbk 40 (by decide)).trans e4
              have E0 := Lib.hid e0
              clear e0
              have E4 := Lib.hid e4
              clear e4
              clear rb0 rbk hdep
              go_simp
              (with_reducible refine (HMK.out _ (Reads.of_own (own_ext HR3.out HBX.out)) (Reads.of_own (own_ext HC3.out HBX.out)) (Reads.of_own (own_ext HI3.out HBX.out))).mono ?_)
              rintro e w' ⟨⟨u2, lo2, A2, n2a, c2, K2, k2, kc2, I2, m2, ic2, be2, gu2, rfl⟩, hb⟩
              go_simp
              exact HKX.out _ _ (ext_trans HBX.out hb) (by rw [if_neg (by decide)]; exact hb) (⟨u2, lo2, A2, n2a, c2, K2, k2, kc2, I2, m2, ic2, be2, gu2, upd_same _ _ _⟩)
            · simp only [List.getElem?_toArray, List.getElem?_cons_succ, List.getElem?_cons_zero, Option.some.injEq] at ho
              subst ho
              have HKX := Lib.hid HK
              clear HK
              obtain ⟨u2, lo2, A2, n2a, c2, K2, k2, kc2, I2, m2, ic2, be2, gu2, e5⟩ := (hdep 5 (by kernel_rfl))
              have rr5 := (rbk 41 (by decide)).trans e5
              have E5 := Lib.hid e5
              clear e5
              clear rb0 rbk hdep
              go_simp
              exact HKX.out _ _ HBX.out (by rw [if_neg (by decide)]; exact ext_refl _) (⟨u2, lo2, A2, n2a, c2, K2, k2, kc2, I2, m2, ic2, be2, gu2, upd_same _ _ _⟩)
            · simp only [List.getElem?_toArray, List.getElem?_cons_succ, List.getElem?_cons_zero, Option.some.injEq] at ho
              subst ho
              have HKX := Lib.hid HK
              clear HK
              obtain ⟨u2, lo2, A2, n2a, c2, K2, k2, kc2, I2, m2, ic2, be2, gu2, e6⟩ := (hdep 6 (by kernel_rfl))
              have rr6 := (rbk 35 (by decide)).trans e6
              have E6 := Lib.hid e6
              clear e6
              clear rb0 rbk hdep
              go_simp
              exact HKX.out _ _ HBX.out (by rw [if_neg (by decide)]; exact ext_refl _) (⟨u2, lo2, A2, n2a, c2, K2, k2, kc2, I2, m2, ic2, be2, gu2, upd_same _ _ _⟩)
            · simp only [List.getElem?_toArray, List.getElem?_cons_succ, List.getElem?_cons_zero, Option.some.injEq] at ho
              subst ho
              have HKX := Lib.hid HK
              clear HK
              obtain ⟨u2, lo2, A2, n2a, c2, K2, k2, kc2, I2, m2, ic2, be2, gu2, e6⟩ := (hdep 6 (by kernel_rfl))
              have rr6 := (rbk 35 (by decide)).trans e6
              have E6 := Lib.hid e6
              clear e6
              clear rb0 rbk hdep
              go_simp
              exact HKX.out _ _ HBX.out (by rw [if_neg (by decide)]; exact ext_refl _) (⟨u2, lo2, A2, n2a, c2, K2, k2, kc2, I2, m2, ic2, be2, gu2, upd_same _ _ _⟩)
            · simp only [List.getElem?_toArray, List.getElem?_cons_succ, List.getElem?_cons_zero, Option.some.injEq] at ho
              subst ho
              have HKX := Lib.hid HK
              clear HK
              clear rb0 rbk hdep
              go_simp
              exact HKX.out _ _ (ext_alloc HBX.out _) (by rw [if_neg (by decide)]; exact ext_alloc (ext_refl _) _) ⟨wx.heap.size, upd_same _ _ _, hsz, _, _, _, _, _, _, _, Blk.born _ _ _ rfl⟩
            · simp only [List.getElem?_toArray, List.getElem?_cons_succ, List.getElem?_cons_zero, Option.some.injEq] at ho
              subst ho
              have HKX := Lib.hid HK
              clear HK
              obtain ⟨gB, e9, hs9, cB0, cB1, cB2, cB3, cB4, cB5, cB6, hB9⟩ := (hdep 9 (by kernel_rfl))
              obtain ⟨u2, lo2, A2, n2a, c2, K2, k2, kc2, I2, m2, ic2, be2, gu2, e7⟩ := (hdep 7 (by kernel_rfl))
              have rr9 := (rbk 10 (by decide)).trans e9
              have rr7 := (rbk 42 (by decide)).trans e7
              have E9 := Lib.hid e9
              clear e9
              have E7 := Lib.hid e7
              clear e7
              have hlt := hB9.lt
              obtain ⟨yB0, yB1, yB2, yB3, yB4, yB5, yB6⟩ := hB9.q7
              obtain ⟨zB0, zB1, zB2, zB3, zB4, zB5, zB6⟩ := hB9.z7
              have HBB := Lib.hid hB9
              clear hB9 rb0 rbk hdep
              go_simp
              have HKW := Lib.hid (keep7 (a0 := .int .i64 u2) (a1 := .int .i64 lo2) (a2 := .slice A2 n2a c2) (a3 := .slice K2 k2 kc2) (a4 := .slice I2 m2 ic2) (a5 := .int .i64 be2) (a6 := .int .i64 gu2) HBB.out)
              exact HKX.out undef _ (bel7 HBX.out hs9) (by rw [if_pos rfl]; exact HKW.out) ⟨gB, u2, lo2, A2, n2a, c2, K2, k2, kc2, I2, m2, ic2, be2, gu2, E9.out, hs9, put7 HBB.out⟩
            · simp only [List.getElem?_toArray, List.getElem?_cons_succ, List.getElem?_cons_zero, Option.some.injEq] at ho
              subst ho
              have HKX := Lib.hid HK
              clear HK
              obtain ⟨u2, lo2, A2, n2a, c2, K2, k2, kc2, I2, m2, ic2, be2, gu2, e8⟩ := (hdep 8 (by kernel_rfl))
              have rr8 := (rbk 43 (by decide)).trans e8
              have E8 := Lib.hid e8
              clear e8
              clear rb0 rbk hdep
              go_simp
              exact HKX.out _ _ HBX.out (by rw [if_neg (by decide)]; exact ext_refl _) (⟨u2, lo2, A2, n2a, c2, K2, k2, kc2, I2, m2, ic2, be2, gu2, upd_same _ _ _⟩)
          intro vs wx kk hb hall
          obtain ⟨P, _, _, _, _, _, _, _, _, _, _, _, _, _, e1, hPl, hB⟩ := hall 10 (by decide)
          obtain ⟨_, _, _, _, _, _, _, _, _, _, _, _, _, e2⟩ := hall 11 (by decide)
          clear hall
          simp only [sl]
          rw [e1, e2]
          clear e1 e2 hB
          have HX4 := Lib.hid hb
          clear hb
          go_wp2
          go_roundw
          case rel => exact ⟨j + 1, q, h, cr, g, kc, i, ic, cnt, by omega, by go_num, rfl, by omega, hne, HRN, HQK, Lib.hid (BN3.out.ext HX4.out), Lib.hid (own_ext HR3.out HX4.out), Lib.hid (own_ext HC3.out HX4.out), Lib.hid (own_ext HI3.out HX4.out), Lib.hid (BR3.out.ext HX4.out), Lib.hid (ext_trans HB3.out HX4.out)⟩
          case measure => simp [intOf]; omega
        · go_upto_region 8 with fail
          refine wp_region_left (by kernel_rfl) (by kernel_rfl) [10, 11, 35, 36, 37, 38, 39, 40, 41, 42, 43] RmBU (by kernel_rfl) (by decide) 44 (by kernel_rfl) (by simp) (fun ra0 => ra0.eval (.tmp 1) = .slice (some ⟨b, o, none⟩) n2 cb ∧ ra0.eval (.tmp 7) = .pointer (some ⟨N, 0, none⟩) ∧ ra0.eval (.tmp 9) = .int .i64 j) ⟨by kernel_rfl, by kernel_rfl, by kernel_rfl⟩ (fun _ wx => Below w3.heap.size w3 wx) (fun wx wy => Below wx.heap.size wx wy) 10 (KeepW 47) (fun jN vs wx => RmB w3.heap.size N h cr g kc i ic q s b o j n2 cb q2 vs wx jN) ((ext_refl w3).drew) (fun _ _ _ _ _ h1 h2 h3 => RmB_ext h1 h2 h3) (fun _ _ _ _ _ h0 h1 h2 h3 => RmB_set h1 h2 h0 h3) ?_ ?_
          · intro ra0 hE ri ro ho Qx vs wx rb KX kk HBw hdep rb0 rbk HK
            repeat (rename_i hz9; clear hz9)
            obtain ⟨rq1, rq7, rq9⟩ := hE
            have hi : ri < 12 := by
             rcases Nat.lt_or_ge ri 12 with h | h
             · exact h
             · rw [Array.getElem?_eq_none (by simpa using h)] at ho; cases ho
            have HBX := Lib.hid HBw
            have hsz := HBw.size
            clear HBw
            rcases (show ri = 0 ∨ ri = 1 ∨ ri = 2 ∨ ri = 3 ∨ ri = 4 ∨ ri = 5 ∨ ri = 6 ∨ ri = 7 ∨ ri = 8 ∨ ri = 9 ∨ ri = 10 ∨ ri = 11 by omega) with rfl | rfl | rfl | rfl | rfl | rfl | rfl | rfl | rfl | rfl | rfl | rfl
            · simp only [List.getElem?_toArray, List.getElem?_cons_succ, List.getElem?_cons_zero, Option.some.injEq] at ho
              subst ho
              have HKX := Lib.hid HK
              clear HK
              have p7 := (rb0 7 (by decide)).trans rq7
              have t0 := ext_cell HBX.out d0
              have t1 := ext_cell HBX.out d1
              have t2 := ext_cell HBX.out d2
              have t3 := ext_cell HBX.out d3
              have t4 := ext_cell HBX.out d4
              have t5 := ext_cell HBX.out d5
              have t6 := ext_cell HBX.out d6
              have lnx : N < wx.heap.size := Nat.lt_of_lt_of_le ln hsz
              have u0 := ext_cell HBX.out c03
              have u1 := ext_cell HBX.out c13
              have lbx : b < wx.heap.size := Nat.lt_of_lt_of_le hb' hsz
              clear rb0 rbk hdep
              go_simp
              exact HKX.out _ _ HBX.out (by rw [if_neg (by decide)]; exact ext_refl _) (upd_same _ _ _)
            · simp only [List.getElem?_toArray, List.getElem?_cons_succ, List.getElem?_cons_zero, Option.some.injEq] at ho
              subst ho
              have HKX := Lib.hid HK
              clear HK
              have p1 := (rb0 1 (by decide)).trans rq1
              have t0 := ext_cell HBX.out d0
              have t1 := ext_cell HBX.out d1
              have t2 := ext_cell HBX.out d2
              have t3 := ext_cell HBX.out d3
              have t4 := ext_cell HBX.out d4
              have t5 := ext_cell HBX.out d5
              have t6 := ext_cell HBX.out d6
              have lnx : N < wx.heap.size := Nat.lt_of_lt_of_le ln hsz
              have u0 := ext_cell HBX.out c03
              have u1 := ext_cell HBX.out c13
              have lbx : b < wx.heap.size := Nat.lt_of_lt_of_le hb' hsz
              clear rb0 rbk hdep
              go_simp
              exact HKX.out _ _ HBX.out (by rw [if_neg (by decide)]; exact ext_refl _) (upd_same _ _ _)
            · simp only [List.getElem?_toArray, List.getElem?_cons_succ, List.getElem?_cons_zero, Option.some.injEq] at ho
              subst ho
              have HKX := Lib.hid HK
              clear HK
              have p9 := (rb0 9 (by decide)).trans rq9
              have t0 := ext_cell HBX.out d0
              have t1 := ext_cell HBX.out d1
              have t2 := ext_cell HBX.out d2
              have t3 := ext_cell HBX.out d3
              have t4 := ext_cell HBX.out d4
              have t5 := ext_cell HBX.out d5
              have t6 := ext_cell HBX.out d6
              have lnx : N < wx.heap.size := Nat.lt_of_lt_of_le ln hsz
              have u0 := ext_cell HBX.out c03
              have u1 := ext_cell HBX.out c13
              have lbx : b < wx.heap.size := Nat.lt_of_lt_of_le hb' hsz
              clear rb0 rbk hdep
              go_simp
              exact HKX.out _ _ HBX.out (by rw [if_neg (by decide)]; exact ext_refl _) (upd_same _ _ _)
            · simp only [List.getElem?_toArray, List.getElem?_cons_succ, List.getElem?_cons_zero, Option.some.injEq] at ho
              subst ho
              have HKX := Lib.hid HK
              clear HK
              have e1 : vs 37 = .slice (some ⟨b, o, none⟩) n2 cb := (hdep 1 (by kernel_rfl))
              have e2 : vs 38 = .int .i64 j := (hdep 2 (by kernel_rfl))
              have rr1 := (rbk 37 (by decide)).trans e1
              have rr2 := (rbk 38 (by decide)).trans e2
              have E1 := Lib.hid e1
              clear e1
              have E2 := Lib.hid e2
              clear e2
              clear rb0 rbk hdep
              go_simp
              exact HKX.out _ _ HBX.out (by rw [if_neg (by decide)]; exact ext_refl _) (upd_same _ _ _)
            · simp only [List.getElem?_toArray, List.getElem?_cons_succ, List.getElem?_cons_zero, Option.some.injEq] at ho
              subst ho
              have HKX := Lib.hid HK
              clear HK
              have e3 : vs 39 = .pointer (some ⟨b, o + j * 2, none⟩) := (hdep 3 (by kernel_rfl))
              have p1 := (rb0 1 (by decide)).trans rq1
              have rr3 := (rbk 39 (by decide)).trans e3
              have E3 := Lib.hid e3
              clear e3
              have t0 := ext_cell HBX.out d0
              have t1 := ext_cell HBX.out d1
              have t2 := ext_cell HBX.out d2
              have t3 := ext_cell HBX.out d3
              have t4 := ext_cell HBX.out d4
              have t5 := ext_cell HBX.out d5
              have t6 := ext_cell HBX.out d6
              have lnx : N < wx.heap.size := Nat.lt_of_lt_of_le ln hsz
              have u0 := ext_cell HBX.out c03
              have u1 := ext_cell HBX.out c13
              have lbx : b < wx.heap.size := Nat.lt_of_lt_of_le hb' hsz
              clear rb0 rbk hdep
              go_simp
              exact HKX.out _ _ HBX.out (by rw [if_neg (by decide)]; exact ext_refl _) (upd_same _ _ _)
            · simp only [List.getElem?_toArray, List.getElem?_cons_succ, List.getElem?_cons_zero, Option.some.injEq] at ho
              subst ho
              have HKX := Lib.hid HK
              clear HK
              have e0 : vs 36 = mdV q.u q.lo (some ⟨h, 0, none⟩) q.l.length cr (some ⟨g, 0, none⟩) q.l.length kc (some ⟨i, 0, none⟩) q.l.length ic q.be q.gu := (hdep 0 (by kernel_rfl))
              have e4 : vs 40 = .agg #[.int .i64 s.a, .int .i64 s.b] := (hdep 4 (by kernel_rfl))
              have rr0 := (rbk 36 (by decide)).trans e0
              have rr4 := (rbk 40 (by decide)).trans e4
              have E0 := Lib.hid e0
              clear e0
              have E4 := Lib.hid e4
              clear e4
              clear rb0 rbk hdep
              go_simp
              (with_reducible refine (HMK.out _ (Reads.of_own (own_ext HR3.out HBX.out)) (Reads.of_own (own_ext HC3.out HBX.out)) (Reads.of_own (own_ext HI3.out HBX.out))).mono ?_)
              rintro e w' ⟨h2, cr2, g2, kc2, i2, ic2, rfl, nF0, nF1, nF2, nF3, hb⟩
              go_simp
              exact HKX.out _ _ (ext_trans HBX.out hb) (by rw [if_neg (by decide)]; exact hb) (⟨h2, cr2, g2, kc2, i2, ic2, upd_same _ _ _, own_base nF0 hsz, own_base nF1 hsz, own_base nF2 hsz, nF3⟩)
            · simp only [List.getElem?_toArray, List.getElem?_cons_succ, List.getElem?_cons_zero, Option.some.injEq] at ho
              subst ho
              have HKX := Lib.hid HK
              clear HK
              obtain ⟨h2, cr2, g2, kc2, i2, ic2, e5, k5_0, k5_1, k5_2, k5_3⟩ := (hdep 5 (by kernel_rfl))
              have rr5 := (rbk 41 (by decide)).trans e5
              have E5 := Lib.hid e5
              clear e5
              have K5_0 := Lib.hid k5_0
              clear k5_0
              have K5_1 := Lib.hid k5_1
              clear k5_1
              have K5_2 := Lib.hid k5_2
              clear k5_2
              have K5_3 := Lib.hid k5_3
              clear k5_3
              clear rb0 rbk hdep
              go_simp
              exact HKX.out _ _ HBX.out (by rw [if_neg (by decide)]; exact ext_refl _) (⟨h2, cr2, g2, kc2, i2, ic2, upd_same _ _ _, K5_0.out, K5_1.out, K5_2.out, K5_3.out⟩)
            · simp only [List.getElem?_toArray, List.getElem?_cons_succ, List.getElem?_cons_zero, Option.some.injEq] at ho
              subst ho
              have HKX := Lib.hid HK
              clear HK
              obtain ⟨h2, cr2, g2, kc2, i2, ic2, e6, k6_0, k6_1, k6_2, k6_3⟩ := (hdep 6 (by kernel_rfl))
              have rr6 := (rbk 35 (by decide)).trans e6
              have E6 := Lib.hid e6
              clear e6
              have K6_0 := Lib.hid k6_0
              clear k6_0
              have K6_1 := Lib.hid k6_1
              clear k6_1
              have K6_2 := Lib.hid k6_2
              clear k6_2
              have K6_3 := Lib.hid k6_3
              clear k6_3
              clear rb0 rbk hdep
              go_simp
              exact HKX.out _ _ HBX.out (by rw [if_neg (by decide)]; exact ext_refl _) (⟨h2, cr2, g2, kc2, i2, ic2, upd_same _ _ _, K6_0.out, K6_1.out, K6_2.out, K6_3.out⟩)
            · simp only [List.getElem?_toArray, List.getElem?_cons_succ, List.getElem?_cons_zero, Option.some.injEq] at ho
              subst ho
              have HKX := Lib.hid HK
              clear HK
              obtain ⟨h2, cr2, g2, kc2, i2, ic2, e6, k6_0, k6_1, k6_2, k6_3⟩ := (hdep 6 (by kernel_rfl))
              have rr6 := (rbk 35 (by decide)).trans e6
              have E6 := Lib.hid e6
              clear e6
              have K6_0 := Lib.hid k6_0
              clear k6_0
              have K6_1 := Lib.hid k6_1
              clear k6_1
              have K6_2 := Lib.hid k6_2
              clear k6_2
              have K6_3 := Lib.hid k6_3
              clear k6_3
              clear rb0 rbk hdep
              go_simp
              exact HKX.out _ _ HBX.out (by rw [if_neg (by decide)]; exact ext_refl _) (⟨h2, cr2, g2, kc2, i2, ic2, upd_same _ _ _⟩)
            · simp only [List.getElem?_toArray, List.getElem?_cons_succ, List.getElem?_cons_zero, Option.some.injEq] at ho
              subst ho
              have HKX := Lib.hid HK
              clear HK
              clear rb0 rbk hdep
              go_simp
              exact HKX.out _ _ (ext_alloc HBX.out _) (by rw [if_neg (by decide)]; exact ext_alloc (ext_refl _) _) ⟨wx.heap.size, upd_same _ _ _, hsz, _, _, _, _, _, _, _, Blk.born _ _ _ rfl⟩
            · simp only [List.getElem?_toArray, List.getElem?_cons_succ, List.getElem?_cons_zero, Option.some.injEq] at ho
              subst ho
              have HKX := Lib.hid HK
              clear HK
              obtain ⟨gB, e9, hs9, cB0, cB1, cB2, cB3, cB4, cB5, cB6, hB9⟩ := (hdep 9 (by kernel_rfl))
              obtain ⟨h2, cr2, g2, kc2, i2, ic2, e7, k7_0, k7_1, k7_2, k7_3⟩ := (hdep 7 (by kernel_rfl))
              have rr9 := (rbk 10 (by decide)).trans e9
              have rr7 := (rbk 42 (by decide)).trans e7
              have E9 := Lib.hid e9
              clear e9
              have E7 := Lib.hid e7
              clear e7
              have K7_0 := Lib.hid k7_0
              clear k7_0
              have K7_1 := Lib.hid k7_1
              clear k7_1
              have K7_2 := Lib.hid k7_2
              clear k7_2
              have K7_3 := Lib.hid k7_3
              clear k7_3
              have hlt := hB9.lt
              obtain ⟨yB0, yB1, yB2, yB3, yB4, yB5, yB6⟩ := hB9.q7
              obtain ⟨zB0, zB1, zB2, zB3, zB4, zB5, zB6⟩ := hB9.z7
              have HBB := Lib.hid hB9
              clear hB9 rb0 rbk hdep
              go_simp
              have HKW := Lib.hid (keep7 (a0 := .int .i64 q2.u) (a1 := .int .i64 q2.lo) (a2 := .slice (some ⟨h2, 0, none⟩) q2.l.length cr2) (a3 := .slice (some ⟨g2, 0, none⟩) q2.l.length kc2) (a4 := .slice (some ⟨i2, 0, none⟩) q2.l.length ic2) (a5 := .int .i64 q2.be) (a6 := .int .i64 q2.gu) HBB.out)
              exact HKX.out undef _ (bel7 HBX.out hs9) (by rw [if_pos rfl]; exact HKW.out) ⟨gB, h2, cr2, g2, kc2, i2, ic2, E9.out, hs9, put7 HBB.out, HKW.out.own K7_0.out (by decide), HKW.out.own K7_1.out (by decide), HKW.out.own K7_2.out (by decide), K7_3.out⟩
            · simp only [List.getElem?_toArray, List.getElem?_cons_succ, List.getElem?_cons_zero, Option.some.injEq] at ho
              subst ho
              have HKX := Lib.hid HK
              clear HK
              obtain ⟨h2, cr2, g2, kc2, i2, ic2, e8⟩ := (hdep 8 (by kernel_rfl))
              have rr8 := (rbk 43 (by decide)).trans e8
              have E8 := Lib.hid e8
              clear e8
              clear rb0 rbk hdep
              go_simp
              exact HKX.out _ _ HBX.out (by rw [if_neg (by decide)]; exact ext_refl _) (⟨h2, cr2, g2, kc2, i2, ic2, upd_same _ _ _⟩)
          intro vs wx kk hb hall
          obtain ⟨P, h2, cr2, g2, kc2, i2, ic2, e1, hPl, hB, hr2, hc2, hi2, hne2⟩ := hall 10 (by decide)
          obtain ⟨_, _, _, _, _, _, e2⟩ := hall 11 (by decide)
          clear hall
          simp only [sl]
          rw [e1, e2]
          clear e1 e2
          have s3 := HB3.out.size
          have hN3 := BN3.out.lt
          have BP := Lib.hid hB
          have HR4 := Lib.hid (own_base (base' := w.heap.size) hr2 s3)
          have HC4 := Lib.hid (own_base (base' := w.heap.size) hc2 s3)
          have HI4 := Lib.hid (own_base (base' := w.heap.size) hi2 s3)
          have BN4 := Lib.hid (BN3.out.ext hb)
          have BR4 := Lib.hid (BR3.out.ext hb)
          have HB4 := Lib.hid (ext_trans HB3.out hb)
          have HQ2 := Lib.hid (st_ok HO.out)
          clear hb hr2 hc2 hi2 hB s3
          clear d0 d1 d2 d3 d4 d5 d6 z0 z1 z2 z3 z4 z5 z6 r0 r1 r2 r3 r4 r5 r6 y0 y1 y2 y3 y4 y5 y6 ln lr
          obtain ⟨d0, d1, d2, d3, d4, d5, d6⟩ := BN4.out.q7
          obtain ⟨z0, z1, z2, z3, z4, z5, z6⟩ := BN4.out.z7
          obtain ⟨r0, r1, r2, r3, r4, r5, r6⟩ := BR4.out.q7
          obtain ⟨y0, y1, y2, y3, y4, y5, y6⟩ := BR4.out.z7
          have ln := BN4.out.lt
          have lr := BR4.out.lt
          obtain ⟨v0, v1, v2, v3, v4, v5, v6⟩ := BP.out.q7
          have lp := BP.out.lt
          have hPN : P ≠ N := by omega
          go_wp2
          go_roundw
          case rel => exact ⟨j + 1, q2, h2, cr2, g2, kc2, i2, ic2, cnt + 1, by omega, by go_num, by go_num, by omega, hne2, HRN, HQ2, Lib.hid (m7_put BN4.out), Lib.hid (m7_own HR4.out (own_nbT HR4.out BN4.out (by decide))), Lib.hid (m7_own HC4.out (own_nbT HC4.out BN4.out (by decide))), Lib.hid (m7_own HI4.out (own_nbT HI4.out BN4.out (by decide))), Lib.hid (m7_far BR4.out (by omega)), Lib.hid (m7_below HB4.out (by omega))⟩
          case measure => simp [intOf]; omega
    · obtain rfl : j = n2 := by omega
      go_wp2
      refine bodyPost_ret (v := .tuple #[mdV q.u q.lo (some ⟨h, 0, none⟩) q.l.length cr (some ⟨g, 0, none⟩) q.l.length kc (some ⟨i, 0, none⟩) q.l.length ic q.be q.gu, .int .i64 cnt, .bool true]) (by simp [results, Try.results35, go_sem, *]) rfl ?_
      rw [HQ.out]
      exact ⟨h, cr, g, kc, i, ic, rfl, m7_own HRr.out (own_nbT HRr.out BRr.out (by decide)), m7_own HCr.out (own_nbT HCr.out BRr.out (by decide)), m7_own HIr.out (own_nbT HIr.out BRr.out (by decide)), hne, m7_below HBr.out (by omega)⟩

end Go.Proofs.Ytlkfffohjeoooaa
