/- The best way to a number: the program's. -/
import Derived.Deep.CutBlock
import Derived.Test.YtaghjaiaoajpiaaVM5
import Derived.Test.YtaghjaiaoajpiaaVRegN
namespace Go.Proofs.Ytaghjaiaoajpiaa
open Go.RowKit
set_option linter.unusedVariables false
set_option linter.unusedSimpArgs false
def RetWay (w : World) (x : Way) (e : Ending) (w' : World) : Prop := ∃ (A : Option Addr) (c : Nat), e = .returned (.agg #[.slice A x.l.length c, .int .i64 x.m, .int .i64 x.b, .bool x.ok]) ∧ w'.ownsRow w.heap.size 42 2 (.slice A x.l.length c) x.l.length (rowsV2 x.l) ∧ Below w.heap.size w w'
theorem own4 {w : World} {B e size n b : Nat} {v : Value} {xs : List Value} {a0 a1 a2 a3 : Value} (h : w.ownsRow B e size v n xs) (hne : v.ownBlock ≠ some b) : ((((w.setCell ⟨b, 0, none⟩ a0).setCell ⟨b, 1, none⟩ a1).setCell ⟨b, 2, none⟩ a2).setCell ⟨b, 3, none⟩ a3).ownsRow B e size v n xs :=
 own_setF (p := ⟨b, 3, none⟩) (own_setF (p := ⟨b, 2, none⟩) (own_setF (p := ⟨b, 1, none⟩) (own_setF (p := ⟨b, 0, none⟩) h hne _) hne _) hne _) hne _
theorem fill4 {a w : World} {B b : Nat} {a0 a1 a2 a3 : Value} (h : Below B a w) (hb : B ≤ b) : Below B a ((((w.setCell ⟨b, 0, none⟩ a0).setCell ⟨b, 1, none⟩ a1).setCell ⟨b, 2, none⟩ a2).setCell ⟨b, 3, none⟩ a3) :=
 Below.setCell (Below.setCell (Below.setCell (Below.setCell h (p := ⟨b, 0, none⟩) hb _) (p := ⟨b, 1, none⟩) hb _) (p := ⟨b, 2, none⟩) hb _) (p := ⟨b, 3, none⟩) hb _
theorem keepW4 {w : World} {b : Nat} {t : TypeId} {x0 x1 x2 x3 a0 a1 a2 a3 : Value} (h : Blk w b t #[x0, x1, x2, x3]) : KeepW t w ((((w.setCell ⟨b, 0, none⟩ a0).setCell ⟨b, 1, none⟩ a1).setCell ⟨b, 2, none⟩ a2).setCell ⟨b, 3, none⟩ a3) :=
 ((((KeepW.refl _ _).set h 0 _).set (h.set_ 0 _) 1 _).set ((h.set_ 0 _).set_ 1 _) 2 _).set (((h.set_ 0 _).set_ 1 _).set_ 2 _) 3 _
theorem fill4_put {w : World} {b : Nat} {t : TypeId} {x0 x1 x2 x3 a0 a1 a2 a3 : Value} (h : Blk w b t #[x0, x1, x2, x3]) : Blk ((((w.setCell ⟨b, 0, none⟩ a0).setCell ⟨b, 1, none⟩ a1).setCell ⟨b, 2, none⟩ a2).setCell ⟨b, 3, none⟩ a3) b t #[a0, a1, a2, a3] :=
 (((h.set_ 0 _).set_ 1 _).set_ 2 _).set_ 3 _
theorem blk4 {w : World} {b g : Nat} {t : TypeId} {cs : Array Value} {a0 a1 a2 a3 : Value} (h : Blk w g t cs) (hne : b ≠ g) : Blk ((((w.setCell ⟨b, 0, none⟩ a0).setCell ⟨b, 1, none⟩ a1).setCell ⟨b, 2, none⟩ a2).setCell ⟨b, 3, none⟩ a3) g t cs :=
 (((h.setF (p := ⟨b, 0, none⟩) hne _).setF (p := ⟨b, 1, none⟩) hne _).setF (p := ⟨b, 2, none⟩) hne _).setF (p := ⟨b, 3, none⟩) hne _
theorem own_empty2 {w : World} {B x e size : Nat} (h : Blk w x e #[]) (hB : B ≤ x) : w.ownsRow B e size (.slice (some ⟨x, 0, none⟩) 0 0) 0 [] :=
 ⟨by simp, .inr ⟨x, 0, #[], rfl, hB, h, Nat.le_refl _, Nat.zero_le _, by simp, by simp⟩⟩
def BsR (S g : Nat) (S0 NB NF : Nat) (x : Way) (Ab : Option Addr) (cb : Nat) (Am : Option Addr) (cm : Nat) (ms : List R3) (fa fb : Int) (vs : Nat → Value) (wx : World) : Nat → Prop
 | 0 => ∃ (xq : Nat), vs 65 = .slice (some ⟨xq, 0, none⟩) 0 0 ∧ (S0 ≤ xq) ∧ (Blk wx xq 42 #[])
 | 1 => vs 66 = .pointer (some ⟨NB, 0, none⟩)
 | 2 => vs 67 = .slice Ab x.l.length cb
 | 3 => ∃ (A9 : Option Addr) (c9 : Nat), vs 68 = .slice A9 x.l.length c9 ∧ (wx.ownsRow S 42 2 (.slice A9 x.l.length c9) x.l.length (rowsV2 x.l))
 | 4 => vs 69 = .agg #[.int .i64 fa, .int .i64 fb]
 | 5 => ∃ (xq : Nat), vs 70 = .slice (some ⟨xq, 0, none⟩) 1 1 ∧ (S0 ≤ xq) ∧ (Blk wx xq 42 #[.int .i64 fa, .int .i64 fb])
 | 6 => ∃ (A8 : Option Addr) (c8 : Nat), vs 71 = .slice A8 (x.l.length + 1) c8 ∧ (wx.ownsRow S 42 2 (.slice A8 (x.l.length + 1) c8) (x.l.length + 1) (rowsV2 (x.l ++ [⟨fa, fb⟩])))
 | 7 => vs 72 = .pointer (some ⟨NB, 1, none⟩)
 | 8 => vs 73 = .int .i64 x.m
 | 9 => vs 74 = .slice Am ms.length cm
 | 10 => vs 75 = .int .i64 (ms.length : Int)
 | 11 => vs 76 = .int .i64 (x.m + (ms.length : Int))
 | 12 => vs 77 = .pointer (some ⟨NB, 2, none⟩)
 | 13 => vs 78 = .int .i64 x.b
 | 14 => vs 79 = .slice Am ms.length cm
 | 15 => vs 80 = .int .i64 (beads ms)
 | 16 => vs 81 = .int .i64 (x.b + beads ms)
 | 17 => ∃ (A8 : Option Addr) (c8 : Nat), vs 82 = .agg #[.slice A8 (x.l.length + 1) c8, .int .i64 (x.m + (ms.length : Int)), .int .i64 (x.b + beads ms), .bool true] ∧ (wx.ownsRow S 42 2 (.slice A8 (x.l.length + 1) c8) (x.l.length + 1) (rowsV2 (x.l ++ [⟨fa, fb⟩])))
 | 18 => ∃ gB, vs 15 = .pointer (some ⟨gB, 0, none⟩) ∧ S0 ≤ gB ∧ ∃ cB0 cB1 cB2 cB3, Blk wx gB 69 #[cB0, cB1, cB2, cB3]
 | 19 => ∃ (gB : Nat) (A8 : Option Addr) (c8 : Nat), vs 15 = .pointer (some ⟨gB, 0, none⟩) ∧ (wx.ownsRow S 42 2 (.slice A8 (x.l.length + 1) c8) (x.l.length + 1) (rowsV2 (x.l ++ [⟨fa, fb⟩]))) ∧ (S0 ≤ gB) ∧ (Blk wx gB 69 #[.slice A8 (x.l.length + 1) c8, .int .i64 (x.m + (ms.length : Int)), .int .i64 (x.b + beads ms), .bool true])
 | _ => True
def BsRU : Nat → List Nat
 | 0 => [65]
 | 1 => [66]
 | 2 => [67]
 | 3 => [68]
 | 4 => [69]
 | 5 => [70]
 | 6 => [71]
 | 7 => [72]
 | 8 => [73]
 | 9 => [74]
 | 10 => [75]
 | 11 => [76]
 | 12 => [77]
 | 13 => [78]
 | 14 => [79]
 | 15 => [80]
 | 16 => [81]
 | 17 => [82]
 | 18 => [15]
 | 19 => [15]
 | _ => []
def BsRR (g : Nat) (S0 NB NF : Nat) (x : Way) (Ab : Option Addr) (cb : Nat) (Am : Option Addr) (cm : Nat) (ms : List R3) (fa fb : Int) (i : Nat) (wx wy : World) : Prop := if i = 3 then ∃ bz : Nat, Blk wx bz 42 #[] ∧ S0 ≤ bz ∧ wx.grownBy wy (some bz) else if i = 6 then ∃ (Az : Option Addr) (nz cz : Nat) (xz : List Value), wx.ownsRow S0 42 2 (.slice Az nz cz) nz xz ∧ wx.grownBy wy (Value.ownBlock (.slice Az nz cz)) else if i = 19 then KeepW 69 wx wy else Below wx.heap.size wx wy
theorem BsR_gr {S g : Nat} {S0 NB NF : Nat} {x : Way} {Ab : Option Addr} {cb : Nat} {Am : Option Addr} {cm : Nat} {ms : List R3} {fa fb : Int} (hgS : True) {vs us : Nat → Value} {wx wy : World} {jN : Nat} (hGG : BsR S g S0 NB NF x Ab cb Am cm ms fa fb vs wx jN) (haG : ∀ d ∈ BsRU jN, us d = vs d) (hbG : Below wx.heap.size wx wy) : BsR S g S0 NB NF x Ab cb Am cm ms fa fb us wy jN := by
 match jN, hGG, haG with
 | 0, hGG, haG =>
   obtain ⟨xG0, eG, fG0, fG1⟩ := hGG
   exact ⟨xG0, (haG 65 (by simp [BsRU])).trans eG, fG0, fG1.ext hbG⟩
 | 1, hGG, haG =>
   exact (haG 66 (by simp [BsRU])).trans hGG
 | 2, hGG, haG =>
   exact (haG 67 (by simp [BsRU])).trans hGG
 | 3, hGG, haG =>
   obtain ⟨xG0, xG1, eG, fG0⟩ := hGG
   exact ⟨xG0, xG1, (haG 68 (by simp [BsRU])).trans eG, own_ext fG0 hbG⟩
 | 4, hGG, haG =>
   exact (haG 69 (by simp [BsRU])).trans hGG
 | 5, hGG, haG =>
   obtain ⟨xG0, eG, fG0, fG1⟩ := hGG
   exact ⟨xG0, (haG 70 (by simp [BsRU])).trans eG, fG0, fG1.ext hbG⟩
 | 6, hGG, haG =>
   obtain ⟨xG0, xG1, eG, fG0⟩ := hGG
   exact ⟨xG0, xG1, (haG 71 (by simp [BsRU])).trans eG, own_ext fG0 hbG⟩
 | 7, hGG, haG =>
   exact (haG 72 (by simp [BsRU])).trans hGG
 | 8, hGG, haG =>
   exact (haG 73 (by simp [BsRU])).trans hGG
 | 9, hGG, haG =>
   exact (haG 74 (by simp [BsRU])).trans hGG
 | 10, hGG, haG =>
   exact (haG 75 (by simp [BsRU])).trans hGG
 | 11, hGG, haG =>
   exact (haG 76 (by simp [BsRU])).trans hGG
 | 12, hGG, haG =>
   exact (haG 77 (by simp [BsRU])).trans hGG
 | 13, hGG, haG =>
   exact (haG 78 (by simp [BsRU])).trans hGG
 | 14, hGG, haG =>
   exact (haG 79 (by simp [BsRU])).trans hGG
 | 15, hGG, haG =>
   exact (haG 80 (by simp [BsRU])).trans hGG
 | 16, hGG, haG =>
   exact (haG 81 (by simp [BsRU])).trans hGG
 | 17, hGG, haG =>
   obtain ⟨xG0, xG1, eG, fG0⟩ := hGG
   exact ⟨xG0, xG1, (haG 82 (by simp [BsRU])).trans eG, own_ext fG0 hbG⟩
 | 18, hGG, haG =>
   obtain ⟨gB, eG, hsG, cB0, cB1, cB2, cB3, hBG⟩ := hGG
   exact ⟨gB, (haG 15 (by simp [BsRU])).trans eG, hsG, cB0, cB1, cB2, cB3, hBG.ext hbG⟩
 | 19, hGG, haG =>
   obtain ⟨xG0, xG1, xG2, eG, fG0, fG1, fG2⟩ := hGG
   exact ⟨xG0, xG1, xG2, (haG 15 (by simp [BsRU])).trans eG, own_ext fG0 hbG, fG1, fG2.ext hbG⟩
 | jN + 20, _, _ => trivial
theorem BsR_3 {S g : Nat} {S0 NB NF : Nat} {x : Way} {Ab : Option Addr} {cb : Nat} {Am : Option Addr} {cm : Nat} {ms : List R3} {fa fb : Int} (hgS : True) {vs us : Nat → Value} {wx wy : World} {jN : Nat} (hneG : jN ≠ 3 ∧ jN ≠ 0 ∧ jN ≠ 6 ∧ jN ≠ 17 ∧ jN ≠ 19) (hGG : BsR S g S0 NB NF x Ab cb Am cm ms fa fb vs wx jN) (haG : ∀ d ∈ BsRU jN, us d = vs d) (hbG : ∃ bz : Nat, Blk wx bz 42 #[] ∧ S0 ≤ bz ∧ wx.grownBy wy (some bz)) : BsR S g S0 NB NF x Ab cb Am cm ms fa fb us wy jN := by
 obtain ⟨bz, hz, _, hg⟩ := hbG
 match jN, hGG, haG, hneG with
 | 0, hGG, haG, hneG =>
   exact absurd hneG (by decide)
 | 1, hGG, haG, hneG =>
   exact (haG 66 (by simp [BsRU])).trans hGG
 | 2, hGG, haG, hneG =>
   exact (haG 67 (by simp [BsRU])).trans hGG
 | 3, hGG, haG, hneG =>
   exact absurd hneG (by decide)
 | 4, hGG, haG, hneG =>
   exact (haG 69 (by simp [BsRU])).trans hGG
 | 5, hGG, haG, hneG =>
   obtain ⟨xG0, eG, fG0, fG1⟩ := hGG
   exact ⟨xG0, (haG 70 (by simp [BsRU])).trans eG, fG0, fG1.grownF hg (blk_sz_ne fG1 hz (by simp))⟩
 | 6, hGG, haG, hneG =>
   exact absurd hneG (by decide)
 | 7, hGG, haG, hneG =>
   exact (haG 72 (by simp [BsRU])).trans hGG
 | 8, hGG, haG, hneG =>
   exact (haG 73 (by simp [BsRU])).trans hGG
 | 9, hGG, haG, hneG =>
   exact (haG 74 (by simp [BsRU])).trans hGG
 | 10, hGG, haG, hneG =>
   exact (haG 75 (by simp [BsRU])).trans hGG
 | 11, hGG, haG, hneG =>
   exact (haG 76 (by simp [BsRU])).trans hGG
 | 12, hGG, haG, hneG =>
   exact (haG 77 (by simp [BsRU])).trans hGG
 | 13, hGG, haG, hneG =>
   exact (haG 78 (by simp [BsRU])).trans hGG
 | 14, hGG, haG, hneG =>
   exact (haG 79 (by simp [BsRU])).trans hGG
 | 15, hGG, haG, hneG =>
   exact (haG 80 (by simp [BsRU])).trans hGG
 | 16, hGG, haG, hneG =>
   exact (haG 81 (by simp [BsRU])).trans hGG
 | 17, hGG, haG, hneG =>
   exact absurd hneG (by decide)
 | 18, hGG, haG, hneG =>
   obtain ⟨gB, eG, hsG, cB0, cB1, cB2, cB3, hBG⟩ := hGG
   exact ⟨gB, (haG 15 (by simp [BsRU])).trans eG, hsG, cB0, cB1, cB2, cB3, hBG.grownF hg (blk_sz_ne hBG hz (by simp))⟩
 | 19, hGG, haG, hneG =>
   exact absurd hneG (by decide)
 | jN + 20, _, _, _ => trivial
theorem BsR_6 {S g : Nat} {S0 NB NF : Nat} {x : Way} {Ab : Option Addr} {cb : Nat} {Am : Option Addr} {cm : Nat} {ms : List R3} {fa fb : Int} (hgS : True) {vs us : Nat → Value} {wx wy : World} {jN : Nat} (hneG : jN ≠ 6 ∧ jN ≠ 0 ∧ jN ≠ 3 ∧ jN ≠ 5 ∧ jN ≠ 17 ∧ jN ≠ 19) (hGG : BsR S g S0 NB NF x Ab cb Am cm ms fa fb vs wx jN) (haG : ∀ d ∈ BsRU jN, us d = vs d) (hbG : ∃ (Az : Option Addr) (nz cz : Nat) (xz : List Value), wx.ownsRow S0 42 2 (.slice Az nz cz) nz xz ∧ wx.grownBy wy (Value.ownBlock (.slice Az nz cz))) : BsR S g S0 NB NF x Ab cb Am cm ms fa fb us wy jN := by
 obtain ⟨Az, nz, cz, xz, ho, hg⟩ := hbG
 match jN, hGG, haG, hneG with
 | 0, hGG, haG, hneG =>
   exact absurd hneG (by decide)
 | 1, hGG, haG, hneG =>
   exact (haG 66 (by simp [BsRU])).trans hGG
 | 2, hGG, haG, hneG =>
   exact (haG 67 (by simp [BsRU])).trans hGG
 | 3, hGG, haG, hneG =>
   exact absurd hneG (by decide)
 | 4, hGG, haG, hneG =>
   exact (haG 69 (by simp [BsRU])).trans hGG
 | 5, hGG, haG, hneG =>
   exact absurd hneG (by decide)
 | 6, hGG, haG, hneG =>
   exact absurd hneG (by decide)
 | 7, hGG, haG, hneG =>
   exact (haG 72 (by simp [BsRU])).trans hGG
 | 8, hGG, haG, hneG =>
   exact (haG 73 (by simp [BsRU])).trans hGG
 | 9, hGG, haG, hneG =>
   exact (haG 74 (by simp [BsRU])).trans hGG
 | 10, hGG, haG, hneG =>
   exact (haG 75 (by simp [BsRU])).trans hGG
 | 11, hGG, haG, hneG =>
   exact (haG 76 (by simp [BsRU])).trans hGG
 | 12, hGG, haG, hneG =>
   exact (haG 77 (by simp [BsRU])).trans hGG
 | 13, hGG, haG, hneG =>
   exact (haG 78 (by simp [BsRU])).trans hGG
 | 14, hGG, haG, hneG =>
   exact (haG 79 (by simp [BsRU])).trans hGG
 | 15, hGG, haG, hneG =>
   exact (haG 80 (by simp [BsRU])).trans hGG
 | 16, hGG, haG, hneG =>
   exact (haG 81 (by simp [BsRU])).trans hGG
 | 17, hGG, haG, hneG =>
   exact absurd hneG (by decide)
 | 18, hGG, haG, hneG =>
   obtain ⟨gB, eG, hsG, cB0, cB1, cB2, cB3, hBG⟩ := hGG
   exact ⟨gB, (haG 15 (by simp [BsRU])).trans eG, hsG, cB0, cB1, cB2, cB3, hBG.grownF hg (own_nbT ho hBG (by decide))⟩
 | 19, hGG, haG, hneG =>
   exact absurd hneG (by decide)
 | jN + 20, _, _, _ => trivial
theorem BsR_19 {S g : Nat} {S0 NB NF : Nat} {x : Way} {Ab : Option Addr} {cb : Nat} {Am : Option Addr} {cm : Nat} {ms : List R3} {fa fb : Int} (hgS : True) {vs us : Nat → Value} {wx wy : World} {jN : Nat} (hneG : jN ≠ 19 ∧ jN ≠ 0 ∧ jN ≠ 3 ∧ jN ≠ 5 ∧ jN ≠ 6 ∧ jN ≠ 17 ∧ jN ≠ 18) (hGG : BsR S g S0 NB NF x Ab cb Am cm ms fa fb vs wx jN) (haG : ∀ d ∈ BsRU jN, us d = vs d) (hbG : KeepW 69 wx wy) : BsR S g S0 NB NF x Ab cb Am cm ms fa fb us wy jN := by
 match jN, hGG, haG, hneG with
 | 0, hGG, haG, hneG =>
   exact absurd hneG (by decide)
 | 1, hGG, haG, hneG =>
   exact (haG 66 (by simp [BsRU])).trans hGG
 | 2, hGG, haG, hneG =>
   exact (haG 67 (by simp [BsRU])).trans hGG
 | 3, hGG, haG, hneG =>
   exact absurd hneG (by decide)
 | 4, hGG, haG, hneG =>
   exact (haG 69 (by simp [BsRU])).trans hGG
 | 5, hGG, haG, hneG =>
   exact absurd hneG (by decide)
 | 6, hGG, haG, hneG =>
   exact absurd hneG (by decide)
 | 7, hGG, haG, hneG =>
   exact (haG 72 (by simp [BsRU])).trans hGG
 | 8, hGG, haG, hneG =>
   exact (haG 73 (by simp [BsRU])).trans hGG
 | 9, hGG, haG, hneG =>
   exact (haG 74 (by simp [BsRU])).trans hGG
 | 10, hGG, haG, hneG =>
   exact (haG 75 (by simp [BsRU])).trans hGG
 | 11, hGG, haG, hneG =>
   exact (haG 76 (by simp [BsRU])).trans hGG
 | 12, hGG, haG, hneG =>
   exact (haG 77 (by simp [BsRU])).trans hGG
 | 13, hGG, haG, hneG =>
   exact (haG 78 (by simp [BsRU])).trans hGG
 | 14, hGG, haG, hneG =>
   exact (haG 79 (by simp [BsRU])).trans hGG
 | 15, hGG, haG, hneG =>
   exact (haG 80 (by simp [BsRU])).trans hGG
 | 16, hGG, haG, hneG =>
   exact (haG 81 (by simp [BsRU])).trans hGG
 | 17, hGG, haG, hneG =>
   exact absurd hneG (by decide)
 | 18, hGG, haG, hneG =>
   exact absurd hneG (by decide)
 | 19, hGG, haG, hneG =>
   exact absurd hneG (by decide)
 | jN + 20, _, _, _ => trivial
def BsRP (j i : Nat) : Bool := (j == 0 && i == 3) || (j == 0 && i == 6) || (j == 3 && i == 6) || (j == 5 && i == 6) || (j == 6 && i == 3) || (j == 17 && i == 3) || (j == 19 && i == 3) || (j == 17 && i == 6) || (j == 19 && i == 6) || (j == 0 && i == 19) || (j == 3 && i == 19) || (j == 5 && i == 19) || (j == 6 && i == 19) || (j == 17 && i == 19) || (j == 18 && i == 19)
theorem BsR_keep {S g : Nat} {S0 NB NF : Nat} {x : Way} {Ab : Option Addr} {cb : Nat} {Am : Option Addr} {cm : Nat} {ms : List R3} {fa fb : Int} (hgS : True) {vs us : Nat → Value} {wx wy : World} {iN jN : Nat} (hneG : iN ≠ jN) (hdpG : BsRP jN iN = false) (hGG : BsR S g S0 NB NF x Ab cb Am cm ms fa fb vs wx jN) (haG : ∀ d ∈ BsRU jN, us d = vs d) (hbG : BsRR g S0 NB NF x Ab cb Am cm ms fa fb iN wx wy) : BsR S g S0 NB NF x Ab cb Am cm ms fa fb us wy jN := by
 unfold BsRR at hbG
 by_cases h3 : iN = 3
 · rw [if_pos h3] at hbG
   exact BsR_3 hgS ⟨by omega, (fun e => by subst e; subst h3; cases hdpG), (fun e => by subst e; subst h3; cases hdpG), (fun e => by subst e; subst h3; cases hdpG), (fun e => by subst e; subst h3; cases hdpG)⟩ hGG haG hbG
 rw [if_neg h3] at hbG
 by_cases h6 : iN = 6
 · rw [if_pos h6] at hbG
   exact BsR_6 hgS ⟨by omega, (fun e => by subst e; subst h6; cases hdpG), (fun e => by subst e; subst h6; cases hdpG), (fun e => by subst e; subst h6; cases hdpG), (fun e => by subst e; subst h6; cases hdpG), (fun e => by subst e; subst h6; cases hdpG)⟩ hGG haG hbG
 rw [if_neg h6] at hbG
 by_cases h19 : iN = 19
 · rw [if_pos h19] at hbG
   exact BsR_19 hgS ⟨by omega, (fun e => by subst e; subst h19; cases hdpG), (fun e => by subst e; subst h19; cases hdpG), (fun e => by subst e; subst h19; cases hdpG), (fun e => by subst e; subst h19; cases hdpG), (fun e => by subst e; subst h19; cases hdpG), (fun e => by subst e; subst h19; cases hdpG)⟩ hGG haG hbG
 rw [if_neg h19] at hbG
 exact BsR_gr hgS hGG haG hbG
set_option maxRecDepth 100000 in
set_option maxHeartbeats 16000000 in
theorem bestN_any (u lo : Int) (A : Option Addr) (N c : Nat) (l : List R2) (hf : frB u lo l = true) (hl : l.length = N) : ∀ (r : Nat) (n : Int) (w : World), r ≤ N → 0 ≤ n → n ≤ 9223372036854775807 → Reads w w.heap.size 2 A N (rowsV2 l) →
 Calls Try.prog 64 #[frV u lo A N c, .int .i64 ((r : Nat) : Int), .int .i64 n, .func (.func 65) #[] #[]] w (RetWay w (bestP nearP u lo l r n)) := by
 obtain ⟨i0, hinf, hz0, hz1, hz2⟩ := info_parts info_rod
 have hh := frB_head hf
 rw [hl] at hh
 intro r
 induction r with
 | zero =>
   intro n w hr h0 h63 h
   have hbx := Lib.hid (ext_alloc (ext_alloc (ext_refl w) (.cells #[.int .i64 u, .int .i64 lo, .slice A N c] 26)) (.cells #[.slice none 0 0, .int .i64 0, .int .i64 0, .bool false] 69))
   clear h
   go_enter Try.func64, Try.ntmps64
   go_wp2
   refine bodyPost_ret (v := .agg #[.slice none 0 0, .int .i64 0, .int .i64 0, .bool (n == 0)]) (by simp [results, Try.results64, go_sem, *]) rfl ?_
   exact ⟨none, 0, rfl, World.ownsRow_nil _ _ _ _, ext_alloc (ext_alloc (ext_refl _) _) _⟩
 | succ r ih =>
   intro n w hr h0 h63 h
   have IH := Lib.hid ih
   have H := Lib.hid h
   have HF := Lib.hid hf
   obtain ⟨N8, hN8⟩ : ∃ o9, w.heap.size + 1 = o9 := ⟨_, rfl⟩
   obtain ⟨NO, hNO⟩ : ∃ o9, N8 + 1 = o9 := ⟨_, rfl⟩
   obtain ⟨W1, hW1⟩ : ∃ y : World, y = ((w.alloc (.cells #[.int .i64 u, .int .i64 lo, .slice A N c] 26)).alloc (.cells #[.slice none 0 0, .int .i64 0, .int .i64 0, .bool false] 69)).alloc (.cells #[.slice none 0 0, .int .i64 0, .int .i64 0, .bool false] 69) := ⟨_, rfl⟩
   have BF := Lib.hid (show Blk W1 w.heap.size 26 #[.int .i64 u, .int .i64 lo, .slice A N c] by rw [hW1]; exact ((Blk.born w #[.int .i64 u, .int .i64 lo, .slice A N c] 26 (H := w.heap.size) rfl).al _).al _)
   have B8 := Lib.hid (show Blk W1 N8 69 #[.slice none 0 0, .int .i64 0, .int .i64 0, .bool false] by rw [hW1]; exact (Blk.born _ #[.slice none 0 0, .int .i64 0, .int .i64 0, .bool false] 69 (H := N8) (by rw [← hN8]; simp)).al _)
   have BO := Lib.hid (show Blk W1 NO 69 #[.slice none 0 0, .int .i64 0, .int .i64 0, .bool false] by rw [hW1]; exact Blk.born _ #[.slice none 0 0, .int .i64 0, .int .i64 0, .bool false] 69 (H := NO) (by rw [← hNO, ← hN8]; simp))
   have hb := Lib.hid (show Below w.heap.size w W1 by rw [hW1]; exact ext_alloc (ext_alloc (ext_alloc (ext_refl w) _) _) _)
   have hw8 : w.heap.size < N8 := by omega
   have hwO : N8 < NO := by omega
   obtain ⟨R, hR⟩ : ∃ R, r + 1 = R := ⟨_, rfl⟩
   rw [hR]
   have HRR := Lib.hid hR.symm
   have hrI : ((R : Int) == 0) = false := by simp; omega
   have hrI2 : ¬ (R : Int) = 0 := by omega
   have hrz : IntKind.i64.wrap ((R : Int) - 1) = (r : Int) := by rw [IntKind.wrap_i64]; omega
   have hrN : r < N := by omega
   clear ih h hf hR hr
   go_enter Try.func64, Try.ntmps64
   have htm : n.tmod 10 = valT n 0 := by unfold valT; rw [Int.tmod_eq_emod_of_nonneg h0]; simp
   go_upto_region 4 with fail
   rw [← hW1]
   clear hW1 hN8 hNO
   have hw : w.heap.size < W1.heap.size := BF.out.lt
   go_wp2
   go_loopw [10] (fun v wr => ∃ (j : Nat) (X : Way) (Ax : Option Addr) (cx : Nat), j ≤ 2 ∧ v = .int .i64 (valT n j) ∧ Hid (bestTo nearP u lo l r (bestP nearP u lo l r) n j = X) ∧ Hid (GoodW u lo (r + 1) X) ∧ Hid (Blk wr NO 69 #[.slice Ax X.l.length cx, .int .i64 X.m, .int .i64 X.b, .bool X.ok]) ∧ Hid (wr.ownsRow w.heap.size 42 2 (.slice Ax X.l.length cx) X.l.length (rowsV2 X.l)) ∧ Hid (Blk wr w.heap.size 26 #[.int .i64 u, .int .i64 lo, .slice A N c]) ∧ Hid (Blk wr N8 69 #[.slice none 0 0, .int .i64 0, .int .i64 0, .bool false]) ∧ Hid (Below w.heap.size w wr)) (fun v _ => (100 - intOf v).toNat)
   case atStart => exact ⟨0, zeroW, none, 0, Nat.zero_le _, rfl, Lib.hid rfl, Lib.hid (GoodW.zero u lo (r + 1)), BO, Lib.hid (World.ownsRow_nil _ _ _ _), BF, B8, hb⟩
   case round =>
    clear BO BF B8 hb hw htm
    obtain ⟨j, X, Ax, cx, hj, rfl, HX, HGX, BO, HO, BF, B8, hb⟩ := hrel
    obtain ⟨W, hW⟩ : ∃ y : World, y = wr := ⟨_, rfl⟩
    subst hW
    have lF := BF.out.lt
    have l8 := B8.out.lt
    have lO := BO.out.lt
    cases hv : valB n j
    · have HE := Lib.hid (show bestP nearP u lo l R n = X by rw [HRR.out, bestP, bestTo_stop h0 hj hv, HX.out])
      obtain ⟨x0, x1, x2, x3⟩ := BO.out.q4
      obtain ⟨y0, y1, y2, y3⟩ := B8.out.q4
      obtain ⟨z0, z1, z2, z3⟩ := B8.out.z4
      unfold valB at hv
      rw [Bool.and_eq_false_iff] at hv
      rcases hv with hv | hv
      · have hv1 : ¬ valT n j ≤ 15 := by simpa using hv
        clear hv
        go_wp2
        rw [HE.out]
        refine bodyPost_ret (v := .agg #[.slice Ax X.l.length cx, .int .i64 X.m, .int .i64 X.b, .bool X.ok]) (by simp [results, Try.results64, go_sem, *]) rfl ?_
        exact ⟨Ax, cx, rfl, own4 HO.out (own_nbT HO.out B8.out (by decide)), fill4 hb.out (by omega)⟩
      · by_cases hv1 : valT n j ≤ 15
        · have hv2 : ¬ valT n j ≤ n := by simpa using hv
          clear hv
          go_wp2
          rw [HE.out]
          refine bodyPost_ret (v := .agg #[.slice Ax X.l.length cx, .int .i64 X.m, .int .i64 X.b, .bool X.ok]) (by simp [results, Try.results64, go_sem, *]) rfl ?_
          exact ⟨Ax, cx, rfl, own4 HO.out (own_nbT HO.out B8.out (by decide)), fill4 hb.out (by omega)⟩
        · clear hv
          go_wp2
          rw [HE.out]
          refine bodyPost_ret (v := .agg #[.slice Ax X.l.length cx, .int .i64 X.m, .int .i64 X.b, .bool X.ok]) (by simp [results, Try.results64, go_sem, *]) rfl ?_
          exact ⟨Ax, cx, rfl, own4 HO.out (own_nbT HO.out B8.out (by decide)), fill4 hb.out (by omega)⟩
    · have hvv := hv
      unfold valB at hvv
      rw [Bool.and_eq_true, decide_eq_true_eq, decide_eq_true_eq] at hvv
      obtain ⟨hv1, hv2⟩ := hvv
      have hvd : valT n j = n % 10 + 10 * (j : Int) := rfl
      have hj1 : j ≤ 1 := by omega
      obtain ⟨v, hvn⟩ : ∃ o9, valT n j = o9 := ⟨_, rfl⟩
      have HVN := Lib.hid hvn
      obtain ⟨q, hq⟩ : ∃ o9, (n - v) / 10 = o9 := ⟨_, rfl⟩
      have HQ := Lib.hid hq
      rw [hvn] at hv1 hv2 hvd ⊢
      have hnv : wrap64 (n - v) = n - v := by unfold wrap64; omega
      have htd : (n - v).tdiv 10 = q := by rw [Int.tdiv_eq_ediv_of_nonneg (by omega)]; exact hq
      have hq0 : 0 ≤ q := by omega
      have hq63 : q ≤ 9223372036854775807 := by omega
      have hwq : wrap64 q = q := by unfold wrap64; omega
      have hv10 : IntKind.i64.wrap (v + 10) = v + 10 := by rw [IntKind.wrap_i64]; omega
      have hvs : valT n (j + 1) = v + 10 := by unfold valT; omega
      have hvm : (100 - (v + 10)).toNat < (100 - v).toNat := by omega
      have HSTEP := Lib.hid (show bestTo nearP u lo l r (bestP nearP u lo l r) n (j + 1) = if (bestP nearP u lo l r q).ok = true then wayFold nearP (bestP nearP u lo l r q) r (l.getD r ⟨0, 0⟩) X (forms u lo v) else X by rw [bestTo, bestSt, hv, if_pos rfl, hvn, hq, HX.out])
      have HGB := Lib.hid (GoodW.best nearP HF.out r q)
      have IHq := Lib.hid (fun (w : World) h => IH.out q w (by omega) hq0 hq63 h)
      obtain ⟨x, hx⟩ : ∃ o9, bestP nearP u lo l r q = o9 := ⟨_, rfl⟩
      rw [hx] at HSTEP HGB IHq
      have hv0 : 0 ≤ v := by omega
      clear hx hvn hq hv hvd
      obtain ⟨f0, f1, f2⟩ := BF.out.q3
      unfold RetWay at IHq
      go_wp2_with fail
      refine (IHq.out _ (rdx H.out hb.out)).mono ?_
      rintro e w2 ⟨Ab, cb, rfl, hob, hb2⟩
      obtain ⟨NB, hNB⟩ : ∃ o9, w2.heap.size = o9 := ⟨_, rfl⟩
      have hNOB0 : NO < NB := by have := hb2.size; omega
      obtain ⟨W3, hW3⟩ : ∃ y : World, y = w2.alloc (.cells #[.slice Ab x.l.length cb, .int .i64 x.m, .int .i64 x.b, .bool x.ok] 69) := ⟨_, rfl⟩
      have BB3 := Lib.hid (show Blk W3 NB 69 #[.slice Ab x.l.length cb, .int .i64 x.m, .int .i64 x.b, .bool x.ok] by rw [hW3]; exact Blk.born w2 _ 69 hNB.symm)
      have HB3 := Lib.hid (show W3.ownsRow w.heap.size 42 2 (.slice Ab x.l.length cb) x.l.length (rowsV2 x.l) by rw [hW3]; exact (own_base hob hb.out.size).alloc _)
      have BO3 := Lib.hid (show Blk W3 NO 69 #[.slice Ax X.l.length cx, .int .i64 X.m, .int .i64 X.b, .bool X.ok] by rw [hW3]; exact (BO.out.ext hb2).al _)
      have HO3 := Lib.hid (show W3.ownsRow w.heap.size 42 2 (.slice Ax X.l.length cx) X.l.length (rowsV2 X.l) by rw [hW3]; exact (own_ext HO.out hb2).alloc _)
      have BF3 := Lib.hid (show Blk W3 w.heap.size 26 #[.int .i64 u, .int .i64 lo, .slice A N c] by rw [hW3]; exact (BF.out.ext hb2).al _)
      have B83 := Lib.hid (show Blk W3 N8 69 #[.slice none 0 0, .int .i64 0, .int .i64 0, .bool false] by rw [hW3]; exact (B8.out.ext hb2).al _)
      have hb3 := Lib.hid (show Below w.heap.size w W3 by rw [hW3]; exact ext_alloc (ext_trans hb.out hb2) _)
      go_upto_region 8 with fail
      rw [← hW3]
      clear hNB hW3 hob hb2 BO HO BF B8 hb f0 f1 f2
      have lB := BB3.out.lt
      have lO3 := BO3.out.lt
      have hNOB : NO < NB := hNOB0
      clear lF l8 lO hNOB0
      cases ho : x.ok
      · rw [ho] at BB3
        rw [if_neg (by rw [ho]; simp)] at HSTEP
        obtain ⟨p0, p1, p2, p3⟩ := BB3.out.q4
        clear ho
        go_wp2
        go_roundw
        case rel => exact ⟨j + 1, X, Ax, cx, by omega, by rw [hvs], HSTEP, HGX, BO3, HO3, BF3, B83, hb3⟩
        case measure => simp only [intOf]; exact hvm
      · rw [if_pos ho] at HSTEP
        have HGB1 := Lib.hid (HGB.out.1 ho)
        have HGBok := Lib.hid ho
        rw [ho] at BB3
        clear ho
        obtain ⟨p0, p1, p2, p3⟩ := BB3.out.q4
        obtain ⟨f0, f1, f2⟩ := BF3.out.q3
        have lF := BF3.out.lt
        have HFO := Lib.hid (fun (w : World) => formsOf_any u lo v w (by omega) (by omega))
        have hfm : ∀ f ∈ forms u lo v, 0 ≤ f.a ∧ f.a ≤ u ∧ 0 ≤ f.b ∧ f.b ≤ lo := fun f hff => by have := forms_mem hff; omega
        have hfl : (forms u lo v).length ≤ 1000 := by have := formsN_len lo v (u + 1).toNat; unfold forms; omega
        obtain ⟨fs, hfs⟩ : ∃ o9, forms u lo v = o9 := ⟨_, rfl⟩
        rw [hfs] at HFO HSTEP hfm hfl
        have HFM := Lib.hid hfm
        unfold RetSlice at HFO
        clear hfm hfs
        go_wp2_with fail
        refine (HFO.out _).mono ?_
        rintro e w4 ⟨Af, cf, rfl, hof, hb4⟩
        have BB4 := Lib.hid (BB3.out.ext hb4)
        have HB4 := Lib.hid (own_ext HB3.out hb4)
        have BO4 := Lib.hid (BO3.out.ext hb4)
        have HO4 := Lib.hid (own_ext HO3.out hb4)
        have BF4 := Lib.hid (BF3.out.ext hb4)
        have B84 := Lib.hid (B83.out.ext hb4)
        have HF4 := Lib.hid (own_base (base' := w.heap.size) hof hb3.out.size)
        have hbb4 := Lib.hid (ext_trans hb3.out hb4)
        clear hof hb4 BB3 HB3 BO3 HO3 BF3 B83 hb3 p0 p1 p2 p3 f0 f1 f2 lF lB lO3 HFO
        go_wp2
        obtain ⟨rd, hrd⟩ := list_split (l := l) (k := r) (by omega)
        have HRD := Lib.hid hrd
        rw [show l.getD r ⟨0, 0⟩ = rd by rw [List.getD_eq_getElem?_getD, hrd, Option.getD_some]] at HSTEP
        have HSR := Lib.hid (frB_Sm HF.out hrd)
        have hgd : l.getD r ⟨0, 0⟩ = rd := by rw [List.getD_eq_getElem?_getD, hrd, Option.getD_some]
        have HGN := Lib.hid (fun (f : R2) (hff : 0 ≤ f.a ∧ f.a ≤ u ∧ 0 ≤ f.b ∧ f.b ≤ lo) => show GoodW u lo (r + 1) (wayNext x r rd f) from hgd ▸ GoodW.next HF.out HGB.out HGBok.out hff)
        clear hrd hgd
        go_loopw [51] (fun iv wr => ∃ (i : Nat) (Y : Way) (Ay : Option Addr) (cy : Nat), i ≤ fs.length ∧ iv = .int .i64 (i : Int) ∧ Hid (wayFold nearP x r rd X (fs.take i) = Y) ∧ Hid (GoodW u lo (r + 1) Y) ∧ Hid (Blk wr NO 69 #[.slice Ay Y.l.length cy, .int .i64 Y.m, .int .i64 Y.b, .bool Y.ok]) ∧ Hid (wr.ownsRow w.heap.size 42 2 (.slice Ay Y.l.length cy) Y.l.length (rowsV2 Y.l)) ∧ Hid (Blk wr NB 69 #[.slice Ab x.l.length cb, .int .i64 x.m, .int .i64 x.b, .bool true]) ∧ Hid (wr.ownsRow w.heap.size 42 2 (.slice Ab x.l.length cb) x.l.length (rowsV2 x.l)) ∧ Hid (wr.ownsRow w.heap.size 42 2 (.slice Af fs.length cf) fs.length (rowsV2 fs)) ∧ Hid (Blk wr w.heap.size 26 #[.int .i64 u, .int .i64 lo, .slice A N c]) ∧ Hid (Blk wr N8 69 #[.slice none 0 0, .int .i64 0, .int .i64 0, .bool false]) ∧ Hid (Below w.heap.size w wr)) (fun iv _ => fs.length - (intOf iv).toNat)
        case atStart => exact ⟨0, X, Ax, cx, Nat.zero_le _, rfl, Lib.hid rfl, HGX, BO4, HO4, BB4, HB4, HF4, BF4, B84, hbb4⟩
        case round =>
         clear BO4 HO4 BB4 HB4 HF4 BF4 B84 hbb4 HGX
         obtain ⟨i, Y, Ay, cy, hi9, rfl, HY, HGY, BO, HO, BB, HB, HFS, BF, B8, hb⟩ := hrel
         obtain ⟨V, hV⟩ : ∃ y : World, y = wr := ⟨_, rfl⟩
         subst hV
         by_cases hlt : i < fs.length
         · obtain ⟨f, hf⟩ := list_split (l := fs) (k := i) (by omega)
           have hff := HFM.out f (List.mem_of_getElem? hf)
           have HGF := Lib.hid (HGN.out f hff)
           have HTK := Lib.hid (fold_take (bt := nearP) (x := x) (k := r) (rd := rd) (o := X) hf)
           obtain ⟨bf, of, rfl, hbf, g0, g1⟩ := rows_at2 (Reads.of_own HFS.out) hf
           have hsf : Sm f := by unfold Sm; omega
           have HSF := Lib.hid hsf
           have hi1 : (i : Int) < (fs.length : Int) := by omega
           have hi0 : (0 : Int) ≤ (i : Int) := by omega
           have lFr := BF.out.lt
           obtain ⟨fa, fb⟩ := f
           dsimp only at g0 g1 hff
           obtain ⟨NF, hNF⟩ : ∃ o9, V.heap.size = o9 := ⟨_, rfl⟩
           obtain ⟨V1, hV1⟩ : ∃ y : World, y = V.alloc (.cells #[.int .i64 fa, .int .i64 fb] 42) := ⟨_, rfl⟩
           have BX := Lib.hid (show Blk V1 NF 42 #[.int .i64 fa, .int .i64 fb] by rw [hV1]; exact Blk.born V _ 42 hNF.symm)
           have BO1 := Lib.hid (show Blk V1 NO 69 #[.slice Ay Y.l.length cy, .int .i64 Y.m, .int .i64 Y.b, .bool Y.ok] by rw [hV1]; exact BO.out.al _)
           have HO1 := Lib.hid (show V1.ownsRow w.heap.size 42 2 (.slice Ay Y.l.length cy) Y.l.length (rowsV2 Y.l) by rw [hV1]; exact HO.out.alloc _)
           have BB1 := Lib.hid (show Blk V1 NB 69 #[.slice Ab x.l.length cb, .int .i64 x.m, .int .i64 x.b, .bool true] by rw [hV1]; exact BB.out.al _)
           have HB1 := Lib.hid (show V1.ownsRow w.heap.size 42 2 (.slice Ab x.l.length cb) x.l.length (rowsV2 x.l) by rw [hV1]; exact HB.out.alloc _)
           have HFS1 := Lib.hid (show V1.ownsRow w.heap.size 42 2 (.slice (some ⟨bf, of, none⟩) fs.length cf) fs.length (rowsV2 fs) by rw [hV1]; exact HFS.out.alloc _)
           have BF1 := Lib.hid (show Blk V1 w.heap.size 26 #[.int .i64 u, .int .i64 lo, .slice A N c] by rw [hV1]; exact BF.out.al _)
           have B81 := Lib.hid (show Blk V1 N8 69 #[.slice none 0 0, .int .i64 0, .int .i64 0, .bool false] by rw [hV1]; exact B8.out.al _)
           have hb1 := Lib.hid (show Below w.heap.size w V1 by rw [hV1]; exact ext_alloc hb.out _)
           go_upto_region 12 with fail
           rw [← hV1]
           clear hV1 hNF BO HO BB HB HFS BF B8 hb g0 g1 hf hbf lFr
           obtain ⟨f0, f1, f2⟩ := BF1.out.q3
           obtain ⟨e0, e1⟩ := BX.out.q2
           have lFr := BF1.out.lt
           have lX := BX.out.lt
           obtain ⟨ba, oa, hA9, hba, c0, c1⟩ := rows_at2 (rdx H.out hb1.out) HRD.out
           have hs1 := hb1.out.size
           have hbaV : ba < V1.heap.size := by omega
           have hr0 : (0 : Int) ≤ (r : Int) := by omega
           have hrn : (r : Int) < (N : Int) := by omega
           have HRM := Lib.hid (fun (w : World) => rodMoves_any (r : Int) rd ⟨fa, fb⟩ w HSR.out HSF.out)
           have hml := mvR_len (r : Int) rd ⟨fa, fb⟩
           have HMS := Lib.hid (fun (h : GoodW u lo (r + 1) (wayNext x r rd ⟨fa, fb⟩)) => h)
           obtain ⟨ms, hms⟩ : ∃ o9, mvR (r : Int) rd ⟨fa, fb⟩ = o9 := ⟨_, rfl⟩
           have HWN := Lib.hid (show wayNext x r rd ⟨fa, fb⟩ = ⟨x.l ++ [⟨fa, fb⟩], x.m + ms.length, x.b + beads ms, true⟩ by unfold wayNext; rw [hms])
           have hbs := beads_bound (mvR_small (k := (r : Int)) (fr_nine HF.out r) (s := ⟨fa, fb⟩) (by dsimp only; omega)) (mvR (r : Int) (l.getD r ⟨0, 0⟩) ⟨fa, fb⟩).length
           have HSMM := Lib.hid (mvR_small (k := (r : Int)) (fr_nine HF.out r) (s := ⟨fa, fb⟩) (by dsimp only; omega))
           rw [List.take_of_length_le (Nat.le_refl _), show l.getD r ⟨0, 0⟩ = rd by rw [List.getD_eq_getElem?_getD, HRD.out, Option.getD_some], hms] at hbs
           rw [show l.getD r ⟨0, 0⟩ = rd by rw [List.getD_eq_getElem?_getD, HRD.out, Option.getD_some], hms] at HSMM
           rw [hms] at HRM hml
           obtain ⟨ra, rb⟩ := rd
           unfold R2.val RetSlice at HRM
           dsimp only at HRM c0 c1
           subst hA9
           clear hms HMS
           go_cut [14] (fun s14 wx => ∃ (Am : Option Addr) (cm : Nat), s14 = .slice Am ms.length cm ∧ Hid (wx.ownsRow V1.heap.size 83 3 (.slice Am ms.length cm) ms.length (rowsV3 ms)) ∧ Hid (Below V1.heap.size V1 wx))
           case first =>
            go_region_law (first
             | (go_simp; go_at_call 84; refine (HRM.out _).mono ?_; rintro e w5 ⟨Am, cm, rfl, hm5, hb5⟩; have hb6 := Lib.hid (ext_drew_left hb5); have hm6 := Lib.hid hm5; clear hm5 hb5))
            all_goals
             go_wp2_with fail
             go_meet
             exact ⟨Am, cm, rfl, hm6, hb6⟩
           case rest =>
            clear f0 f1 f2 e0 e1 lFr lX c0 c1 hba hbaV HRM hs1
            have HNOB := Lib.hid hNOB
            obtain ⟨Am, cm, rfl, HMS1, hbV⟩ := hcut
            obtain ⟨V2, hV2⟩ : ∃ y : World, y = wc := ⟨_, rfl⟩
            subst hV2
            have BX2 := Lib.hid (BX.out.ext hbV.out)
            have BO2 := Lib.hid (BO1.out.ext hbV.out)
            have HO2 := Lib.hid (own_ext HO1.out hbV.out)
            have BB2 := Lib.hid (BB1.out.ext hbV.out)
            have HB2 := Lib.hid (own_ext HB1.out hbV.out)
            have HFS2 := Lib.hid (own_ext HFS1.out hbV.out)
            have BF2 := Lib.hid (BF1.out.ext hbV.out)
            have B82 := Lib.hid (B81.out.ext hbV.out)
            have HW0 := Lib.hid (ext_trans hb1.out hbV.out)
            have HMS2 := Lib.hid HMS1.out
            clear BX BO1 HO1 BB1 HB1 HFS1 BF1 B81 hb1 hbV HMS1
            have HBD := Lib.hid (fun (w : World) h => beadsOf_any Am ms.length cm ms w (by omega) HSMM.out h)
            unfold RetV at HBD
            have hxr := HGB1.out
            have m1 : 0 + x.l.length ≤ maxLen := by unfold maxLen; omega
            have m2 : (0 + x.l.length) * 16 ≤ 140737488355328 := by omega
            have m3 : x.l.length + 1 ≤ maxLen := by unfold maxLen; omega
            have m4 : (x.l.length + 1) * 16 ≤ 140737488355328 := by omega
            have hw2 : IntKind.i64.wrap (x.m + (ms.length : Int)) = x.m + (ms.length : Int) := by have := HGB.out.2.2.2; rw [IntKind.wrap_i64]; omega
            have hw3 : IntKind.i64.wrap (x.b + beads ms) = x.b + beads ms := by have := HGB.out.2.2.2; rw [IntKind.wrap_i64]; omega
            clear hxr
            go_upto_region 13 with fail
            refine wp_region_n (by kernel_rfl) (by kernel_rfl) [15, 65, 66, 67, 68, 69, 70, 71, 72, 73, 74, 75, 76, 77, 78, 79, 80, 81, 82] BsRU (by kernel_rfl) (by decide) 89 (by kernel_rfl) (by simp) (fun ra0 => ra0.eval (.tmp 11) = .pointer (some ⟨NB, 0, none⟩) ∧ ra0.eval (.tmp 13) = .pointer (some ⟨NF, 0, none⟩) ∧ ra0.eval (.tmp 14) = .slice Am ms.length cm) ⟨by kernel_rfl, by kernel_rfl, by kernel_rfl⟩ BsRP (fun j => j == 19) (by kernel_rfl) (IExt w V2 20 20 (fun wx => True)) (BsRR 0 V2.heap.size NB NF x Ab cb Am cm ms fa fb) (fun jN vs wx => BsR V2.heap.size 0 V2.heap.size NB NF x Ab cb Am cm ms fa fb vs wx jN) ⟨(HW0.out).drew, Nat.le_refl _, fun _ => (ext_refl _).drew, fun _ => trivial⟩ (fun _ _ _ _ _ _ h0 hd h1 h2 h3 => BsR_keep trivial h0 hd h1 h2 h3) ?_ ?_
            · intro ra0 hE ri ro ho Qx vs wx rb KX kk rL hI hkk hnl hLt hcl hdep rb0 rbk hini HK
              repeat (rename_i hz9; clear hz9)
              obtain ⟨rq11, rq13, rq14⟩ := hE
              have hi : ri < 20 := by
               rcases Nat.lt_or_ge ri 20 with h | h
               · exact h
               · rw [Array.getElem?_eq_none (by simpa using h)] at ho; cases ho
              have hkk : kk < 20 := by simpa using hkk
              obtain ⟨hGw, hsz, hpre, hBx⟩ := hI
              have HQ : ∀ w', Below wx.heap.size wx w' → IExt w V2 20 20 (fun wx => True) (kk + 1) (fun j => j = ri ∨ rL j) w' := fun w' h3 => ⟨ext_trans hGw h3, Nat.le_trans hsz h3.size, fun hn => ext_trans (hpre (fun x => hn (.inr x))) h3, fun hn => (fun hB => trivial) (hBx (fun x => hn (.inr x)))⟩
              have HQX := Lib.hid HQ
              have HGW := Lib.hid hGw
              have HPRE := Lib.hid hpre
              have HBX := Lib.hid hBx
              have HCL := Lib.hid hcl
              clear HQ hGw hpre hBx hcl
              rcases (show ri = 0 ∨ ri = 1 ∨ ri = 2 ∨ ri = 3 ∨ ri = 4 ∨ ri = 5 ∨ ri = 6 ∨ ri = 7 ∨ ri = 8 ∨ ri = 9 ∨ ri = 10 ∨ ri = 11 ∨ ri = 12 ∨ ri = 13 ∨ ri = 14 ∨ ri = 15 ∨ ri = 16 ∨ ri = 17 ∨ ri = 18 ∨ ri = 19 by omega) with rfl | rfl | rfl | rfl | rfl | rfl | rfl | rfl | rfl | rfl | rfl | rfl | rfl | rfl | rfl | rfl | rfl | rfl | rfl | rfl
              · simp only [List.getElem?_toArray, List.getElem?_cons_succ, List.getElem?_cons_zero, Option.some.injEq] at ho
                subst ho
                have HKX := Lib.hid HK
                clear HK
                have hSx : V2.heap.size ≤ wx.heap.size := hsz
                clear rb0 rbk hdep hini
                go_simp
                exact HKX.out _ _ (HQX.out _ (ext_alloc (ext_refl _) _)) (by unfold BsRR; rw [if_neg (by decide)]; rw [if_neg (by decide)]; rw [if_neg (by decide)]; exact ext_alloc (ext_refl _) _) ⟨wx.heap.size, upd_same _ _ _, hSx, Blk.born _ _ _ rfl⟩
              · simp only [List.getElem?_toArray, List.getElem?_cons_succ, List.getElem?_cons_zero, Option.some.injEq] at ho
                subst ho
                have HKX := Lib.hid HK
                clear HK
                have p11 := (rb0 11 (by decide)).trans rq11
                clear rb0 rbk hdep hini
                go_simp
                exact HKX.out _ _ (HQX.out _ (ext_refl _)) (by unfold BsRR; rw [if_neg (by decide)]; rw [if_neg (by decide)]; rw [if_neg (by decide)]; exact ext_refl _) (upd_same _ _ _)
              · simp only [List.getElem?_toArray, List.getElem?_cons_succ, List.getElem?_cons_zero, Option.some.injEq] at ho
                subst ho
                have HKX := Lib.hid HK
                clear HK
                have e1 : vs 66 = .pointer (some ⟨NB, 0, none⟩) := (hdep 1 (by kernel_rfl)).2
                have rr1 := (rbk 66 (by decide)).trans e1
                have E1 := Lib.hid e1
                clear e1
                have hNL : ¬ rL 20 := fun h => absurd (hLt _ h) (by simp)
                have HGP := Lib.hid (HPRE.out hNL)
                obtain ⟨p0, p1, p2, p3⟩ := (BB2.out.ext HGP.out).q4
                obtain ⟨e0, e1⟩ := (BX2.out.ext HGP.out).q2
                clear rb0 rbk hdep hini
                go_simp
                exact HKX.out _ _ (HQX.out _ (ext_refl _)) (by unfold BsRR; rw [if_neg (by decide)]; rw [if_neg (by decide)]; rw [if_neg (by decide)]; exact ext_refl _) (upd_same _ _ _)
              · simp only [List.getElem?_toArray, List.getElem?_cons_succ, List.getElem?_cons_zero, Option.some.injEq] at ho
                subst ho
                have HKX := Lib.hid HK
                clear HK
                obtain ⟨xq, e0, k0_0, k0_1⟩ := (hdep 0 (by kernel_rfl)).2
                have rr0 := (rbk 65 (by decide)).trans e0
                have E0 := Lib.hid e0
                clear e0
                have K0_1 := Lib.hid k0_1
                clear k0_1
                have e2 : vs 67 = .slice Ab x.l.length cb := (hdep 2 (by kernel_rfl)).2
                have rr2 := (rbk 67 (by decide)).trans e2
                have E2 := Lib.hid e2
                clear e2
                have hNL : ¬ rL 20 := fun h => absurd (hLt _ h) (by simp)
                have HGP := Lib.hid (HPRE.out hNL)
                obtain ⟨p0, p1, p2, p3⟩ := (BB2.out.ext HGP.out).q4
                obtain ⟨e0, e1⟩ := (BX2.out.ext HGP.out).q2
                have hSx : V2.heap.size ≤ wx.heap.size := HGP.out.size
                have HXR := own_ext HB2.out HGP.out
                have HOL := Lib.hid (own_empty2 (size := 2) K0_1.out k0_0)
                have HBZ := Lib.hid K0_1.out
                clear rb0 rbk hdep hini
                refine step_appO rfl (.tmp 65) (.tmp 67) 24 rfl V2.heap.size 42 i0 _ 2 16 Try.underlying24 hinf hz0 hz1 hz2 rfl (by decide) (.slice (some ⟨xq, 0, none⟩) 0 0) 0 [] ((Array.getD_eq_getD_getElem? ..).trans rr0) HOL.out Ab x.l.length cb (rowsV2 x.l) ((Array.getD_eq_getD_getElem? ..).trans rr2) w.heap.size HXR (rows2_one _) m1 m2 hSx ?_
                intro A9 c9 w' hown hgr
                rw [Nat.zero_add, List.nil_append] at hown
                rw [Nat.zero_add]
                have hblk : ∀ q, Value.ownBlock (.slice (some ⟨xq, 0, none⟩) 0 0) = some q → V2.heap.size ≤ q := fun q hq => (HOL.out.lt q hq).1
                have hb9 := Below.grown HGP.out hgr hSx hblk
                exact HKX.out _ _ ⟨ext_trans HW0.out hb9, Nat.le_trans hsz hgr.size, fun hn => hb9, fun hn => trivial⟩ (by unfold BsRR; rw [if_pos rfl]; exact ⟨xq, HBZ.out, k0_0, hgr⟩) ⟨A9, c9, upd_same _ _ _, hown⟩
              · simp only [List.getElem?_toArray, List.getElem?_cons_succ, List.getElem?_cons_zero, Option.some.injEq] at ho
                subst ho
                have HKX := Lib.hid HK
                clear HK
                have p13 := (rb0 13 (by decide)).trans rq13
                have hNL : ¬ rL 20 := fun h => absurd (hLt _ h) (by simp)
                have HGP := Lib.hid (HPRE.out hNL)
                obtain ⟨p0, p1, p2, p3⟩ := (BB2.out.ext HGP.out).q4
                obtain ⟨e0, e1⟩ := (BX2.out.ext HGP.out).q2
                clear rb0 rbk hdep hini
                go_simp
                exact HKX.out _ _ (HQX.out _ (ext_refl _)) (by unfold BsRR; rw [if_neg (by decide)]; rw [if_neg (by decide)]; rw [if_neg (by decide)]; exact ext_refl _) (upd_same _ _ _)
              · simp only [List.getElem?_toArray, List.getElem?_cons_succ, List.getElem?_cons_zero, Option.some.injEq] at ho
                subst ho
                have HKX := Lib.hid HK
                clear HK
                have e4 : vs 69 = .agg #[.int .i64 fa, .int .i64 fb] := (hdep 4 (by kernel_rfl)).2
                have rr4 := (rbk 69 (by decide)).trans e4
                have E4 := Lib.hid e4
                clear e4
                have hSx : V2.heap.size ≤ wx.heap.size := hsz
                clear rb0 rbk hdep hini
                go_simp
                exact HKX.out _ _ (HQX.out _ (ext_alloc (ext_refl _) _)) (by unfold BsRR; rw [if_neg (by decide)]; rw [if_neg (by decide)]; rw [if_neg (by decide)]; exact ext_alloc (ext_refl _) _) ⟨wx.heap.size, upd_same _ _ _, hSx, Blk.born _ _ _ rfl⟩
              · simp only [List.getElem?_toArray, List.getElem?_cons_succ, List.getElem?_cons_zero, Option.some.injEq] at ho
                subst ho
                have HKX := Lib.hid HK
                clear HK
                obtain ⟨A9, c9, e3, k3_0⟩ := (hdep 3 (by kernel_rfl)).2
                have rr3 := (rbk 68 (by decide)).trans e3
                have E3 := Lib.hid e3
                clear e3
                have K3_0 := Lib.hid k3_0
                clear k3_0
                obtain ⟨xq, e5, k5_0, k5_1⟩ := (hdep 5 (by kernel_rfl)).2
                have rr5 := (rbk 70 (by decide)).trans e5
                have E5 := Lib.hid e5
                clear e5
                have K5_1 := Lib.hid k5_1
                clear k5_1
                have hNL : ¬ rL 20 := fun h => absurd (hLt _ h) (by simp)
                have HGP := Lib.hid (HPRE.out hNL)
                obtain ⟨p0, p1, p2, p3⟩ := (BB2.out.ext HGP.out).q4
                obtain ⟨e0, e1⟩ := (BX2.out.ext HGP.out).q2
                have hSx : V2.heap.size ≤ wx.heap.size := HGP.out.size
                have HOL := Lib.hid K3_0.out
                have HS5 := Lib.hid (own_blk2 K5_1.out k5_0)
                clear rb0 rbk hdep hini
                refine step_appO rfl (.tmp 68) (.tmp 70) 24 rfl V2.heap.size 42 i0 _ 2 16 Try.underlying24 hinf hz0 hz1 hz2 rfl (by decide) (.slice A9 x.l.length c9) x.l.length (rowsV2 x.l) ((Array.getD_eq_getD_getElem? ..).trans rr3) HOL.out (some ⟨xq, 0, none⟩) 1 1 [.int .i64 fa, .int .i64 fb] ((Array.getD_eq_getD_getElem? ..).trans rr5) V2.heap.size HS5.out (by intro u hu; rcases List.mem_cons.1 hu with rfl | hu; rfl; rcases List.mem_cons.1 hu with rfl | hu; rfl; cases hu) m3 m4 hSx ?_
                intro A8 c8 w' hown hgr
                have hblk : ∀ q, Value.ownBlock (.slice A9 x.l.length c9) = some q → V2.heap.size ≤ q := fun q hq => (HOL.out.lt q hq).1
                have hb9 := Below.grown HGP.out hgr hSx hblk
                exact HKX.out _ _ ⟨ext_trans HW0.out hb9, Nat.le_trans hsz hgr.size, fun hn => hb9, fun hn => trivial⟩ (by unfold BsRR; rw [if_neg (by decide), if_pos rfl]; exact ⟨_, _, _, _, HOL.out, hgr⟩) ⟨A8, c8, upd_same _ _ _, by have h9 := hown; rwa [show rowsV2 x.l ++ [Value.int .i64 fa, Value.int .i64 fb] = rowsV2 (x.l ++ [⟨fa, fb⟩]) by simp [rowsV2, R2.cells]] at h9⟩
              · simp only [List.getElem?_toArray, List.getElem?_cons_succ, List.getElem?_cons_zero, Option.some.injEq] at ho
                subst ho
                have HKX := Lib.hid HK
                clear HK
                have p11 := (rb0 11 (by decide)).trans rq11
                clear rb0 rbk hdep hini
                go_simp
                exact HKX.out _ _ (HQX.out _ (ext_refl _)) (by unfold BsRR; rw [if_neg (by decide)]; rw [if_neg (by decide)]; rw [if_neg (by decide)]; exact ext_refl _) (upd_same _ _ _)
              · simp only [List.getElem?_toArray, List.getElem?_cons_succ, List.getElem?_cons_zero, Option.some.injEq] at ho
                subst ho
                have HKX := Lib.hid HK
                clear HK
                have e7 : vs 72 = .pointer (some ⟨NB, 1, none⟩) := (hdep 7 (by kernel_rfl)).2
                have rr7 := (rbk 72 (by decide)).trans e7
                have E7 := Lib.hid e7
                clear e7
                have hNL : ¬ rL 20 := fun h => absurd (hLt _ h) (by simp)
                have HGP := Lib.hid (HPRE.out hNL)
                obtain ⟨p0, p1, p2, p3⟩ := (BB2.out.ext HGP.out).q4
                obtain ⟨e0, e1⟩ := (BX2.out.ext HGP.out).q2
                clear rb0 rbk hdep hini
                go_simp
                exact HKX.out _ _ (HQX.out _ (ext_refl _)) (by unfold BsRR; rw [if_neg (by decide)]; rw [if_neg (by decide)]; rw [if_neg (by decide)]; exact ext_refl _) (upd_same _ _ _)
              · simp only [List.getElem?_toArray, List.getElem?_cons_succ, List.getElem?_cons_zero, Option.some.injEq] at ho
                subst ho
                have HKX := Lib.hid HK
                clear HK
                have p14 := (rb0 14 (by decide)).trans rq14
                clear rb0 rbk hdep hini
                go_simp
                exact HKX.out _ _ (HQX.out _ (ext_refl _)) (by unfold BsRR; rw [if_neg (by decide)]; rw [if_neg (by decide)]; rw [if_neg (by decide)]; exact ext_refl _) (upd_same _ _ _)
              · simp only [List.getElem?_toArray, List.getElem?_cons_succ, List.getElem?_cons_zero, Option.some.injEq] at ho
                subst ho
                have HKX := Lib.hid HK
                clear HK
                have e9 : vs 74 = .slice Am ms.length cm := (hdep 9 (by kernel_rfl)).2
                have rr9 := (rbk 74 (by decide)).trans e9
                have E9 := Lib.hid e9
                clear e9
                clear rb0 rbk hdep hini
                go_simp
                exact HKX.out _ _ (HQX.out _ (ext_refl _)) (by unfold BsRR; rw [if_neg (by decide)]; rw [if_neg (by decide)]; rw [if_neg (by decide)]; exact ext_refl _) (upd_same _ _ _)
              · simp only [List.getElem?_toArray, List.getElem?_cons_succ, List.getElem?_cons_zero, Option.some.injEq] at ho
                subst ho
                have HKX := Lib.hid HK
                clear HK
                have e8 : vs 73 = .int .i64 x.m := (hdep 8 (by kernel_rfl)).2
                have rr8 := (rbk 73 (by decide)).trans e8
                have E8 := Lib.hid e8
                clear e8
                have e10 : vs 75 = .int .i64 (ms.length : Int) := (hdep 10 (by kernel_rfl)).2
                have rr10 := (rbk 75 (by decide)).trans e10
                have E10 := Lib.hid e10
                clear e10
                clear rb0 rbk hdep hini
                go_simp
                (try rw [hw2])
                exact HKX.out _ _ (HQX.out _ (ext_refl _)) (by unfold BsRR; rw [if_neg (by decide)]; rw [if_neg (by decide)]; rw [if_neg (by decide)]; exact ext_refl _) (upd_same _ _ _)
              · simp only [List.getElem?_toArray, List.getElem?_cons_succ, List.getElem?_cons_zero, Option.some.injEq] at ho
                subst ho
                have HKX := Lib.hid HK
                clear HK
                have p11 := (rb0 11 (by decide)).trans rq11
                clear rb0 rbk hdep hini
                go_simp
                exact HKX.out _ _ (HQX.out _ (ext_refl _)) (by unfold BsRR; rw [if_neg (by decide)]; rw [if_neg (by decide)]; rw [if_neg (by decide)]; exact ext_refl _) (upd_same _ _ _)
              · simp only [List.getElem?_toArray, List.getElem?_cons_succ, List.getElem?_cons_zero, Option.some.injEq] at ho
                subst ho
                have HKX := Lib.hid HK
                clear HK
                have e12 : vs 77 = .pointer (some ⟨NB, 2, none⟩) := (hdep 12 (by kernel_rfl)).2
                have rr12 := (rbk 77 (by decide)).trans e12
                have E12 := Lib.hid e12
                clear e12
                have hNL : ¬ rL 20 := fun h => absurd (hLt _ h) (by simp)
                have HGP := Lib.hid (HPRE.out hNL)
                obtain ⟨p0, p1, p2, p3⟩ := (BB2.out.ext HGP.out).q4
                obtain ⟨e0, e1⟩ := (BX2.out.ext HGP.out).q2
                clear rb0 rbk hdep hini
                go_simp
                exact HKX.out _ _ (HQX.out _ (ext_refl _)) (by unfold BsRR; rw [if_neg (by decide)]; rw [if_neg (by decide)]; rw [if_neg (by decide)]; exact ext_refl _) (upd_same _ _ _)
              · simp only [List.getElem?_toArray, List.getElem?_cons_succ, List.getElem?_cons_zero, Option.some.injEq] at ho
                subst ho
                have HKX := Lib.hid HK
                clear HK
                have p14 := (rb0 14 (by decide)).trans rq14
                clear rb0 rbk hdep hini
                go_simp
                exact HKX.out _ _ (HQX.out _ (ext_refl _)) (by unfold BsRR; rw [if_neg (by decide)]; rw [if_neg (by decide)]; rw [if_neg (by decide)]; exact ext_refl _) (upd_same _ _ _)
              · simp only [List.getElem?_toArray, List.getElem?_cons_succ, List.getElem?_cons_zero, Option.some.injEq] at ho
                subst ho
                have HKX := Lib.hid HK
                clear HK
                have e14 : vs 79 = .slice Am ms.length cm := (hdep 14 (by kernel_rfl)).2
                have rr14 := (rbk 79 (by decide)).trans e14
                have E14 := Lib.hid e14
                clear e14
                have hNL : ¬ rL 20 := fun h => absurd (hLt _ h) (by simp)
                have HGP := Lib.hid (HPRE.out hNL)
                obtain ⟨p0, p1, p2, p3⟩ := (BB2.out.ext HGP.out).q4
                obtain ⟨e0, e1⟩ := (BX2.out.ext HGP.out).q2
                clear rb0 rbk hdep hini
                go_simp
                refine (HBD.out wx (Reads.of_own (own_ext HMS2.out HGP.out))).mono ?_
                rintro e w' ⟨rfl, hb⟩
                go_simp
                exact HKX.out _ _ (HQX.out _ hb) (by unfold BsRR; rw [if_neg (by decide)]; rw [if_neg (by decide)]; rw [if_neg (by decide)]; exact hb) (upd_same _ _ _)
              · simp only [List.getElem?_toArray, List.getElem?_cons_succ, List.getElem?_cons_zero, Option.some.injEq] at ho
                subst ho
                have HKX := Lib.hid HK
                clear HK
                have e13 : vs 78 = .int .i64 x.b := (hdep 13 (by kernel_rfl)).2
                have rr13 := (rbk 78 (by decide)).trans e13
                have E13 := Lib.hid e13
                clear e13
                have e15 : vs 80 = .int .i64 (beads ms) := (hdep 15 (by kernel_rfl)).2
                have rr15 := (rbk 80 (by decide)).trans e15
                have E15 := Lib.hid e15
                clear e15
                clear rb0 rbk hdep hini
                go_simp
                (try rw [hw3])
                exact HKX.out _ _ (HQX.out _ (ext_refl _)) (by unfold BsRR; rw [if_neg (by decide)]; rw [if_neg (by decide)]; rw [if_neg (by decide)]; exact ext_refl _) (upd_same _ _ _)
              · simp only [List.getElem?_toArray, List.getElem?_cons_succ, List.getElem?_cons_zero, Option.some.injEq] at ho
                subst ho
                have HKX := Lib.hid HK
                clear HK
                obtain ⟨A8, c8, e6, k6_0⟩ := (hdep 6 (by kernel_rfl)).2
                have rr6 := (rbk 71 (by decide)).trans e6
                have E6 := Lib.hid e6
                clear e6
                have K6_0 := Lib.hid k6_0
                clear k6_0
                have e11 : vs 76 = .int .i64 (x.m + (ms.length : Int)) := (hdep 11 (by kernel_rfl)).2
                have rr11 := (rbk 76 (by decide)).trans e11
                have E11 := Lib.hid e11
                clear e11
                have e16 : vs 81 = .int .i64 (x.b + beads ms) := (hdep 16 (by kernel_rfl)).2
                have rr16 := (rbk 81 (by decide)).trans e16
                have E16 := Lib.hid e16
                clear e16
                clear rb0 rbk hdep hini
                go_simp
                exact HKX.out _ _ (HQX.out _ (ext_refl _)) (by unfold BsRR; rw [if_neg (by decide)]; rw [if_neg (by decide)]; rw [if_neg (by decide)]; exact ext_refl _) (⟨A8, c8, upd_same _ _ _, K6_0.out⟩)
              · simp only [List.getElem?_toArray, List.getElem?_cons_succ, List.getElem?_cons_zero, Option.some.injEq] at ho
                subst ho
                have HKX := Lib.hid HK
                clear HK
                have hSx : V2.heap.size ≤ wx.heap.size := hsz
                clear rb0 rbk hdep hini
                go_simp
                exact HKX.out _ _ (HQX.out _ (ext_alloc (ext_refl _) _)) (by unfold BsRR; rw [if_neg (by decide)]; rw [if_neg (by decide)]; rw [if_neg (by decide)]; exact ext_alloc (ext_refl _) _) ⟨wx.heap.size, upd_same _ _ _, hSx, _, _, _, _, Blk.born _ _ _ rfl⟩
              · simp only [List.getElem?_toArray, List.getElem?_cons_succ, List.getElem?_cons_zero, Option.some.injEq] at ho
                subst ho
                have HKX := Lib.hid HK
                clear HK
                obtain ⟨gB, e18, hs18, cB0, cB1, cB2, cB3, hB18⟩ := (hdep 18 (by kernel_rfl)).2
                have rr18 := (rbk 15 (by decide)).trans e18
                have E18 := Lib.hid e18
                clear e18
                obtain ⟨A8, c8, e17, k17_0⟩ := (hdep 17 (by kernel_rfl)).2
                have rr17 := (rbk 82 (by decide)).trans e17
                have E17 := Lib.hid e17
                clear e17
                have K17_0 := Lib.hid k17_0
                clear k17_0
                have hNL : ¬ rL 20 := fun h => absurd (hLt _ h) (by simp)
                have HGP := Lib.hid (HPRE.out hNL)
                obtain ⟨p0, p1, p2, p3⟩ := (BB2.out.ext HGP.out).q4
                obtain ⟨e0, e1⟩ := (BX2.out.ext HGP.out).q2
                have hlt := hB18.lt
                obtain ⟨yB0, yB1, yB2, yB3⟩ := hB18.q4
                obtain ⟨zB0, zB1, zB2, zB3⟩ := hB18.z4
                have HBB := Lib.hid hB18
                have hgS : V2.heap.size ≤ gB := hs18
                clear hB18 rb0 rbk hdep
                go_simp
                have HKW := Lib.hid (keepW4 (a0 := .slice A8 (x.l.length + 1) c8) (a1 := .int .i64 (x.m + (ms.length : Int))) (a2 := .int .i64 (x.b + beads ms)) (a3 := .bool true) HBB.out)
                have hb9 := Lib.hid (fill4 (a0 := .slice A8 (x.l.length + 1) c8) (a1 := .int .i64 (x.m + (ms.length : Int))) (a2 := .int .i64 (x.b + beads ms)) (a3 := .bool true) HGP.out hgS)
                exact HKX.out undef _ ⟨ext_trans HW0.out hb9.out, by simpa using hsz, fun hn => hb9.out, fun hn => trivial⟩ (by unfold BsRR; rw [if_neg (by decide), if_neg (by decide), if_pos rfl]; exact HKW.out) ⟨gB, A8, c8, E18.out, HKW.out.own K17_0.out (by decide), hgS, fill4_put HBB.out⟩
            intro vs wx kk rL hI hkk hLt hall
            obtain ⟨gB, A8, c8, e15, hO8, hgB, hB8⟩ := (hall 19 (by decide)).2 rfl
            have hp9 := hI.2.2.1 (fun h => absurd (hLt _ h) (by simp))
            obtain ⟨W9, hW9⟩ : ∃ y : World, y = wx := ⟨_, rfl⟩
            subst hW9
            have BN9 := Lib.hid hB8
            have HN9 := Lib.hid (own_base (base' := w.heap.size) hO8 HW0.out.size)
            have BO9 := Lib.hid (BO2.out.ext hp9)
            have HO9 := Lib.hid (own_ext HO2.out hp9)
            have BB9 := Lib.hid (BB2.out.ext hp9)
            have HB9 := Lib.hid (own_ext HB2.out hp9)
            have HFS9 := Lib.hid (own_ext HFS2.out hp9)
            have BF9 := Lib.hid (BF2.out.ext hp9)
            have B89 := Lib.hid (B82.out.ext hp9)
            have hb9 := Lib.hid (ext_trans HW0.out hp9)
            have hgO : gB ≠ NO := by have := BO2.out.lt; omega
            have hgN : NO ≠ NB := by have := HNOB.out; omega
            clear hall hI hLt hkk hp9 hO8 hB8 BX2 BO2 HO2 BB2 HB2 HFS2 BF2 B82 HW0 HMS2 HBD hw2 hw3 m1 m2 m3 m4
            simp only [sl]
            rw [e15]
            simp only [Act.put, List.setIfInBounds_toArray, List.set_cons_succ, List.set_cons_zero]
            clear e15
            obtain ⟨x0, x1, x2, x3⟩ := BN9.out.q4
            obtain ⟨y0, y1, y2, y3⟩ := BO9.out.q4
            obtain ⟨z0, z1, z2, z3⟩ := BO9.out.z4
            have l0 := BN9.out.lt
            have l1 := BO9.out.lt
            have hll : (x.l ++ [(⟨fa, fb⟩ : R2)]).length = x.l.length + 1 := by rw [List.length_append]; rfl
            have hxl := HGB1.out
            have hGn : GoodW u lo (r + 1) ⟨x.l ++ [⟨fa, fb⟩], x.m + (ms.length : Int), x.b + beads ms, true⟩ := by have h9 := HGF.out; rw [HWN.out] at h9; exact h9
            have HNR := Lib.hid (fun (w : World) h h' => nearer_any A8 Ay c8 cy (x.l ++ [⟨fa, fb⟩]) Y.l (x.m + (ms.length : Int)) Y.m (x.b + beads ms) Y.b true Y.ok w (by omega) (fun _ h9 => by rw [HGY.out.1 h9, hll, hxl]) (GoodW.small HF.out hGn) (GoodW.small HF.out HGY.out) h h')
            rw [hll] at HNR
            obtain ⟨bb, hbb⟩ : ∃ o9, nearP ⟨x.l ++ [⟨fa, fb⟩], x.m + (ms.length : Int), x.b + beads ms, true⟩ ⟨Y.l, Y.m, Y.b, Y.ok⟩ = o9 := ⟨_, rfl⟩
            rw [hbb] at HNR
            have HGN2 := Lib.hid hGn
            have HLL := Lib.hid hll
            have HT2 := Lib.hid (show wayFold nearP x r ⟨ra, rb⟩ X (fs.take (i + 1)) = if bb = true then ⟨x.l ++ [⟨fa, fb⟩], x.m + (ms.length : Int), x.b + beads ms, true⟩ else Y by
             rw [HTK.out, HY.out]
             unfold wayStep
             rw [HWN.out]
             show (if nearP ⟨x.l ++ [⟨fa, fb⟩], x.m + (ms.length : Int), x.b + beads ms, true⟩ ⟨Y.l, Y.m, Y.b, Y.ok⟩ = true then _ else _) = _
             rw [hbb])
            clear hbb hGn hll hxl HTK HY HWN
            go_wp2_with fail
            refine (HNR.out _ (Reads.of_own HN9.out) (Reads.of_own HO9.out)).mono ?_
            rintro e w10 ⟨rfl, hb10⟩
            have BN10 := Lib.hid (BN9.out.ext hb10)
            have HN10 := Lib.hid (own_ext HN9.out hb10)
            have BO10 := Lib.hid (BO9.out.ext hb10)
            have HO10 := Lib.hid (own_ext HO9.out hb10)
            have BB10 := Lib.hid (BB9.out.ext hb10)
            have HB10 := Lib.hid (own_ext HB9.out hb10)
            have HFS10 := Lib.hid (own_ext HFS9.out hb10)
            have BF10 := Lib.hid (BF9.out.ext hb10)
            have B810 := Lib.hid (B89.out.ext hb10)
            have hbb10 := Lib.hid (ext_trans hb9.out hb10)
            clear hb10 BN9 HN9 BO9 HO9 BB9 HB9 HFS9 BF9 B89 hb9 x0 x1 x2 x3 y0 y1 y2 y3 z0 z1 z2 z3 l0 l1 HNR
            cases bb
            · rw [if_neg (by simp)] at HT2
              go_wp2
              go_roundw
              case rel => exact ⟨i + 1, Y, Ay, cy, by omega, by go_num, HT2, HGY, BO10, HO10, BB10, HB10, HFS10, BF10, B810, hbb10⟩
              case measure => simp [intOf]; omega
            · rw [if_pos rfl] at HT2
              obtain ⟨x0, x1, x2, x3⟩ := BN10.out.q4
              obtain ⟨y0, y1, y2, y3⟩ := BO10.out.q4
              obtain ⟨z0, z1, z2, z3⟩ := BO10.out.z4
              have l0 := BN10.out.lt
              have l1 := BO10.out.lt
              obtain ⟨W11, hW11⟩ : ∃ y : World, y = (((w10.setCell ⟨NO, 0, none⟩ (.slice A8 (x.l.length + 1) c8)).setCell ⟨NO, 1, none⟩ (.int .i64 (x.m + (ms.length : Int)))).setCell ⟨NO, 2, none⟩ (.int .i64 (x.b + beads ms))).setCell ⟨NO, 3, none⟩ (.bool true) := ⟨_, rfl⟩
              have BO11 := Lib.hid (show Blk W11 NO 69 #[.slice A8 (x.l ++ [(⟨fa, fb⟩ : R2)]).length c8, .int .i64 (x.m + (ms.length : Int)), .int .i64 (x.b + beads ms), .bool true] by rw [HLL.out, hW11]; exact fill4_put BO10.out)
              have HN11 := Lib.hid (show W11.ownsRow w.heap.size 42 2 (.slice A8 (x.l ++ [(⟨fa, fb⟩ : R2)]).length c8) (x.l ++ [(⟨fa, fb⟩ : R2)]).length (rowsV2 (x.l ++ [⟨fa, fb⟩])) by rw [HLL.out, hW11]; exact own4 HN10.out (own_nbT HN10.out BO10.out (by decide)))
              have BB11 := Lib.hid (show Blk W11 NB 69 #[.slice Ab x.l.length cb, .int .i64 x.m, .int .i64 x.b, .bool true] by rw [hW11]; exact blk4 BB10.out hgN)
              have HB11 := Lib.hid (show W11.ownsRow w.heap.size 42 2 (.slice Ab x.l.length cb) x.l.length (rowsV2 x.l) by rw [hW11]; exact own4 HB10.out (own_nbT HB10.out BO10.out (by decide)))
              have HFS11 := Lib.hid (show W11.ownsRow w.heap.size 42 2 (.slice (some ⟨bf, of, none⟩) fs.length cf) fs.length (rowsV2 fs) by rw [hW11]; exact own4 HFS10.out (own_nbT HFS10.out BO10.out (by decide)))
              have BF11 := Lib.hid (show Blk W11 w.heap.size 26 #[.int .i64 u, .int .i64 lo, .slice (some ⟨ba, oa, none⟩) N c] by rw [hW11]; exact blk4 BF10.out (by omega))
              have B811 := Lib.hid (show Blk W11 N8 69 #[.slice none 0 0, .int .i64 0, .int .i64 0, .bool false] by rw [hW11]; exact blk4 B810.out (by omega))
              have hb11 := Lib.hid (show Below w.heap.size w W11 by rw [hW11]; exact fill4 hbb10.out (by omega))
              clear BN10 HN10 BO10 HO10 BB10 HB10 HFS10 BF10 B810 hbb10 HLL
              go_wp2
              rw [← hW11]
              clear hW11
              go_roundw
              case rel => exact ⟨i + 1, ⟨x.l ++ [⟨fa, fb⟩], x.m + (ms.length : Int), x.b + beads ms, true⟩, A8, c8, by omega, by go_num, HT2, HGN2, BO11, HN11, BB11, HB11, HFS11, BF11, B811, hb11⟩
              case measure => simp [intOf]; omega
         · obtain rfl : i = fs.length := by omega
           rw [List.take_of_length_le (Nat.le_refl _)] at HY
           have HS2 := Lib.hid (HSTEP.out.trans HY.out)
           go_wp2
           go_roundw
           case rel => exact ⟨j + 1, Y, Ay, cy, by omega, by rw [hvs], HS2, HGY, BO, HO, BF, B8, hb⟩
           case measure => simp only [intOf]; exact hvm

end Go.Proofs.Ytaghjaiaoajpiaa
