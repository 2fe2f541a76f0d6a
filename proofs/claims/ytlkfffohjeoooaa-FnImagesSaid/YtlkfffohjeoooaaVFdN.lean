/- The drawing of minds. -/
import Derived.Deep.CutBlock
import Derived.Test.YtlkfffohjeoooaaVFdM
import Derived.Test.YtlkfffohjeoooaaVFdD
import Derived.Test.YtlkfffohjeoooaaVM13
namespace Go.Proofs.Ytlkfffohjeoooaa
open Go.RowKit
set_option linter.unusedVariables false
set_option linter.unusedSimpArgs false
theorem cur7 {w : World} {g a b : Nat} {u0 u1 u2 u3 u4 u5 u6 : Value} (h : CurAt w g a) (hb : g < b) : CurAt (((((((w.setCell ⟨b, 0, none⟩ u0).setCell ⟨b, 1, none⟩ u1).setCell ⟨b, 2, none⟩ u2).setCell ⟨b, 3, none⟩ u3).setCell ⟨b, 4, none⟩ u4).setCell ⟨b, 5, none⟩ u5).setCell ⟨b, 6, none⟩ u6) g a := (((((((h.far (p := ⟨b, 0, none⟩) hb u0).far (p := ⟨b, 1, none⟩) hb u1).far (p := ⟨b, 2, none⟩) hb u2).far (p := ⟨b, 3, none⟩) hb u3).far (p := ⟨b, 4, none⟩) hb u4).far (p := ⟨b, 5, none⟩) hb u5).far (p := ⟨b, 6, none⟩) hb u6)
theorem gr7 {w0 w : World} {g b : Nat} {u0 u1 u2 u3 u4 u5 u6 : Value} (h : Gr g w0 w) (hb : w0.heap.size ≤ b) : Gr g w0 (((((((w.setCell ⟨b, 0, none⟩ u0).setCell ⟨b, 1, none⟩ u1).setCell ⟨b, 2, none⟩ u2).setCell ⟨b, 3, none⟩ u3).setCell ⟨b, 4, none⟩ u4).setCell ⟨b, 5, none⟩ u5).setCell ⟨b, 6, none⟩ u6) := (((((((h.setNew (p := ⟨b, 0, none⟩) hb u0).setNew (p := ⟨b, 1, none⟩) hb u1).setNew (p := ⟨b, 2, none⟩) hb u2).setNew (p := ⟨b, 3, none⟩) hb u3).setNew (p := ⟨b, 4, none⟩) hb u4).setNew (p := ⟨b, 5, none⟩) hb u5).setNew (p := ⟨b, 6, none⟩) hb u6)
theorem newM_ok {u lo : Int} {l : List R2} (h : goodB u lo l = true) : mdOK ⟨u, lo, l, List.replicate l.length 5, dsOf l, 0, 0⟩ = true := by
 have hw := dsOf_WF (good_fr h) (good_std h)
 have hr : rowsM (dsOf l) (List.replicate l.length 5) l.length = true := rowsM_of fun k hk => by
  obtain ⟨d, hd⟩ := list_split (l := dsOf l) (k := k) (by rw [dsOf_len]; exact hk)
  rw [getD_of hd, getD_of (l := List.replicate l.length 5) (a := 5) (by simp [hk])]
  have := hw d (List.mem_of_getElem? hd)
  exact rowM_iff.2 ⟨by omega, by omega, by omega⟩
 show (goodB u lo l && decide ((dsOf l).length = l.length) && decide ((List.replicate l.length (5 : Int)).length = l.length) && inB 0 0 9999 && inB 0 0 9999 && rowsM (dsOf l) (List.replicate l.length 5) l.length) = true
 rw [h, dsOf_len, List.length_replicate, hr]
 simp [inB]
theorem stepO_ok {q q' : Md} {k v : Int} (h : stepO q k v = some q') : mdOK q' = true := by
 unfold stepO at h
 split at h
 · exact st_ok h
 · cases h
/-- a mind is drawn: it is the call's own -/
def DrawMd (g a K : Nat) (w : World) (e : Ending) (w' : World) : Prop := ∃ (q : Md) (A : Option Addr) (c : Nat) (Kc : Option Addr) (kc : Nat) (I : Option Addr) (ic a' : Nat), e = .returned (mdV q.u q.lo A q.l.length c Kc q.cl.length kc I q.im.length ic q.be q.gu) ∧ q.l.length ≤ 9 ∧ q.cl.length ≤ 9 ∧ q.im.length ≤ 9 ∧ a' ≤ a + K ∧ w'.ownsRow w.heap.size 155 2 (.slice A q.l.length c) q.l.length (rowsV2 q.l) ∧ w'.ownsRow w.heap.size 3 1 (.slice Kc q.cl.length kc) q.cl.length (intsV q.cl) ∧ w'.ownsRow w.heap.size 3 1 (.slice I q.im.length ic) q.im.length (intsV q.im) ∧ CurAt w' g a' ∧ Gr g w w'
def FrG (S g : Nat) (Z0 NM RB : Nat) (q : Md) (A : Option Addr) (cr : Nat) (K : Option Addr) (kc : Nat) (I : Option Addr) (ic : Nat) (vs : Nat → Value) (wx : World) : Nat → Prop
 | 0 => vs 27 = mdV q.u q.lo A q.l.length cr K q.cl.length kc I q.im.length ic q.be q.gu
 | 1 => vs 28 = .pointer (some ⟨g, 0, none⟩)
 | 2 => vs 29 = mdV q.u q.lo A q.l.length cr K q.cl.length kc I q.im.length ic q.be q.gu
 | 3 => ∃ (kd : Int) (v : Int), vs 30 = .agg #[.int .i64 kd, .int .i64 v]
 | 4 => ∃ (kd : Int) (v : Int) (q2 : Md) (ok : Bool) (A2 : Option Addr) (c2 : Nat) (K2 : Option Addr) (kc2 : Nat) (I2 : Option Addr) (ic2 : Nat), vs 31 = .tuple #[mdV q2.u q2.lo A2 q2.l.length c2 K2 q2.cl.length kc2 I2 q2.im.length ic2 q2.be q2.gu, .bool ok] ∧ ((ok = true ∧ stepO q kd v = some q2) ∨ (ok = false ∧ stepO q kd v = none)) ∧ (Value.ownBlock (.slice K2 q2.cl.length kc2) = none ∨ Value.ownBlock (.slice K2 q2.cl.length kc2) ≠ Value.ownBlock (.slice I2 q2.im.length ic2)) ∧ (wx.ownsRow S 155 2 (.slice A2 q2.l.length c2) q2.l.length (rowsV2 q2.l)) ∧ (wx.ownsRow S 3 1 (.slice K2 q2.cl.length kc2) q2.cl.length (intsV q2.cl)) ∧ (wx.ownsRow S 3 1 (.slice I2 q2.im.length ic2) q2.im.length (intsV q2.im))
 | 5 => ∃ (kd : Int) (v : Int) (q2 : Md) (ok : Bool) (A2 : Option Addr) (c2 : Nat) (K2 : Option Addr) (kc2 : Nat) (I2 : Option Addr) (ic2 : Nat), vs 26 = .tuple #[mdV q2.u q2.lo A2 q2.l.length c2 K2 q2.cl.length kc2 I2 q2.im.length ic2 q2.be q2.gu, .bool ok] ∧ ((ok = true ∧ stepO q kd v = some q2) ∨ (ok = false ∧ stepO q kd v = none)) ∧ (Value.ownBlock (.slice K2 q2.cl.length kc2) = none ∨ Value.ownBlock (.slice K2 q2.cl.length kc2) ≠ Value.ownBlock (.slice I2 q2.im.length ic2)) ∧ (wx.ownsRow S 155 2 (.slice A2 q2.l.length c2) q2.l.length (rowsV2 q2.l)) ∧ (wx.ownsRow S 3 1 (.slice K2 q2.cl.length kc2) q2.cl.length (intsV q2.cl)) ∧ (wx.ownsRow S 3 1 (.slice I2 q2.im.length ic2) q2.im.length (intsV q2.im))
 | 6 => ∃ (kd : Int) (v : Int) (q2 : Md) (ok : Bool) (A2 : Option Addr) (c2 : Nat) (K2 : Option Addr) (kc2 : Nat) (I2 : Option Addr) (ic2 : Nat), vs 32 = mdV q2.u q2.lo A2 q2.l.length c2 K2 q2.cl.length kc2 I2 q2.im.length ic2 q2.be q2.gu ∧ ((ok = true ∧ stepO q kd v = some q2) ∨ (ok = false ∧ stepO q kd v = none)) ∧ (Value.ownBlock (.slice K2 q2.cl.length kc2) = none ∨ Value.ownBlock (.slice K2 q2.cl.length kc2) ≠ Value.ownBlock (.slice I2 q2.im.length ic2)) ∧ (wx.ownsRow S 155 2 (.slice A2 q2.l.length c2) q2.l.length (rowsV2 q2.l)) ∧ (wx.ownsRow S 3 1 (.slice K2 q2.cl.length kc2) q2.cl.length (intsV q2.cl)) ∧ (wx.ownsRow S 3 1 (.slice I2 q2.im.length ic2) q2.im.length (intsV q2.im)) ∧ (vs 26 = .tuple #[mdV q2.u q2.lo A2 q2.l.length c2 K2 q2.cl.length kc2 I2 q2.im.length ic2 q2.be q2.gu, .bool ok])
 | 7 => ∃ (kd : Int) (v : Int) (q2 : Md) (ok : Bool) (A2 : Option Addr) (c2 : Nat) (K2 : Option Addr) (kc2 : Nat) (I2 : Option Addr) (ic2 : Nat), vs 33 = .bool ok ∧ ((ok = true ∧ stepO q kd v = some q2) ∨ (ok = false ∧ stepO q kd v = none)) ∧ (vs 26 = .tuple #[mdV q2.u q2.lo A2 q2.l.length c2 K2 q2.cl.length kc2 I2 q2.im.length ic2 q2.be q2.gu, .bool ok])
 | 8 => ∃ gB, vs 7 = .pointer (some ⟨gB, 0, none⟩) ∧ (S ≤ Z0 ∧ Z0 ≤ gB) ∧ ∃ cB0 cB1 cB2 cB3 cB4 cB5 cB6, Blk wx gB 47 #[cB0, cB1, cB2, cB3, cB4, cB5, cB6]
 | 9 => ∃ (gB : Nat) (kd : Int) (v : Int) (q2 : Md) (ok : Bool) (A2 : Option Addr) (c2 : Nat) (K2 : Option Addr) (kc2 : Nat) (I2 : Option Addr) (ic2 : Nat), vs 7 = .pointer (some ⟨gB, 0, none⟩) ∧ ((ok = true ∧ stepO q kd v = some q2) ∨ (ok = false ∧ stepO q kd v = none)) ∧ (Value.ownBlock (.slice K2 q2.cl.length kc2) = none ∨ Value.ownBlock (.slice K2 q2.cl.length kc2) ≠ Value.ownBlock (.slice I2 q2.im.length ic2)) ∧ (wx.ownsRow S 155 2 (.slice A2 q2.l.length c2) q2.l.length (rowsV2 q2.l)) ∧ (wx.ownsRow S 3 1 (.slice K2 q2.cl.length kc2) q2.cl.length (intsV q2.cl)) ∧ (wx.ownsRow S 3 1 (.slice I2 q2.im.length ic2) q2.im.length (intsV q2.im)) ∧ (vs 26 = .tuple #[mdV q2.u q2.lo A2 q2.l.length c2 K2 q2.cl.length kc2 I2 q2.im.length ic2 q2.be q2.gu, .bool ok]) ∧ (wx.ownsRow S 155 2 (.slice A q.l.length cr) q.l.length (rowsV2 q.l)) ∧ (wx.ownsRow S 3 1 (.slice K q.cl.length kc) q.cl.length (intsV q.cl)) ∧ (wx.ownsRow S 3 1 (.slice I q.im.length ic) q.im.length (intsV q.im)) ∧ (Z0 ≤ gB) ∧ (S ≤ Z0) ∧ (Blk wx gB 47 #[.int .i64 q2.u, .int .i64 q2.lo, .slice A2 q2.l.length c2, .slice K2 q2.cl.length kc2, .slice I2 q2.im.length ic2, .int .i64 q2.be, .int .i64 q2.gu]) ∧ (Blk wx NM 47 #[.int .i64 q.u, .int .i64 q.lo, .slice A q.l.length cr, .slice K q.cl.length kc, .slice I q.im.length ic, .int .i64 q.be, .int .i64 q.gu]) ∧ (Blk wx RB 47 #[.int .i64 0, .int .i64 0, .slice none 0 0, .slice none 0 0, .slice none 0 0, .int .i64 0, .int .i64 0]) ∧ (S ≤ NM) ∧ (S ≤ RB)
 | 10 => ∃ (kd : Int) (v : Int) (q2 : Md) (ok : Bool) (A2 : Option Addr) (c2 : Nat) (K2 : Option Addr) (kc2 : Nat) (I2 : Option Addr) (ic2 : Nat), vs 8 = .bool ok ∧ ((ok = true ∧ stepO q kd v = some q2) ∨ (ok = false ∧ stepO q kd v = none)) ∧ (vs 26 = .tuple #[mdV q2.u q2.lo A2 q2.l.length c2 K2 q2.cl.length kc2 I2 q2.im.length ic2 q2.be q2.gu, .bool ok])
 | _ => True
def FrGU : Nat → List Nat
 | 0 => [27]
 | 1 => [28]
 | 2 => [29]
 | 3 => [30]
 | 4 => [31]
 | 5 => [26]
 | 6 => [32, 26]
 | 7 => [33, 26]
 | 8 => [7]
 | 9 => [7, 26]
 | 10 => [8, 26]
 | _ => []
def FrGR (g : Nat) (Z0 NM RB : Nat) (q : Md) (A : Option Addr) (cr : Nat) (K : Option Addr) (kc : Nat) (I : Option Addr) (ic : Nat) (i : Nat) (wx wy : World) : Prop := if i = 9 then KeepW 47 wx wy else Gr g wx wy
theorem FrG_gr {S g : Nat} {Z0 NM RB : Nat} {q : Md} {A : Option Addr} {cr : Nat} {K : Option Addr} {kc : Nat} {I : Option Addr} {ic : Nat} (hgS : g < S) {vs us : Nat → Value} {wx wy : World} {jN : Nat} (hGG : FrG S g Z0 NM RB q A cr K kc I ic vs wx jN) (haG : ∀ d ∈ FrGU jN, us d = vs d) (hbG : Gr g wx wy) : FrG S g Z0 NM RB q A cr K kc I ic us wy jN := by
 match jN, hGG, haG with
 | 0, hGG, haG =>
   exact (haG 27 (by simp [FrGU])).trans hGG
 | 1, hGG, haG =>
   exact (haG 28 (by simp [FrGU])).trans hGG
 | 2, hGG, haG =>
   exact (haG 29 (by simp [FrGU])).trans hGG
 | 3, hGG, haG =>
   obtain ⟨xG0, xG1, eG⟩ := hGG
   exact ⟨xG0, xG1, (haG 30 (by simp [FrGU])).trans eG⟩
 | 4, hGG, haG =>
   obtain ⟨xG0, xG1, xG2, xG3, xG4, xG5, xG6, xG7, xG8, xG9, eG, fG0, fG1, fG2, fG3, fG4⟩ := hGG
   exact ⟨xG0, xG1, xG2, xG3, xG4, xG5, xG6, xG7, xG8, xG9, (haG 31 (by simp [FrGU])).trans eG, fG0, fG1, own_gr fG2 hbG hgS, own_gr fG3 hbG hgS, own_gr fG4 hbG hgS⟩
 | 5, hGG, haG =>
   obtain ⟨xG0, xG1, xG2, xG3, xG4, xG5, xG6, xG7, xG8, xG9, eG, fG0, fG1, fG2, fG3, fG4⟩ := hGG
   exact ⟨xG0, xG1, xG2, xG3, xG4, xG5, xG6, xG7, xG8, xG9, (haG 26 (by simp [FrGU])).trans eG, fG0, fG1, own_gr fG2 hbG hgS, own_gr fG3 hbG hgS, own_gr fG4 hbG hgS⟩
 | 6, hGG, haG =>
   obtain ⟨xG0, xG1, xG2, xG3, xG4, xG5, xG6, xG7, xG8, xG9, eG, fG0, fG1, fG2, fG3, fG4, fG5⟩ := hGG
   exact ⟨xG0, xG1, xG2, xG3, xG4, xG5, xG6, xG7, xG8, xG9, (haG 32 (by simp [FrGU])).trans eG, fG0, fG1, own_gr fG2 hbG hgS, own_gr fG3 hbG hgS, own_gr fG4 hbG hgS, (haG 26 (by simp [FrGU])).trans fG5⟩
 | 7, hGG, haG =>
   obtain ⟨xG0, xG1, xG2, xG3, xG4, xG5, xG6, xG7, xG8, xG9, eG, fG0, fG1⟩ := hGG
   exact ⟨xG0, xG1, xG2, xG3, xG4, xG5, xG6, xG7, xG8, xG9, (haG 33 (by simp [FrGU])).trans eG, fG0, (haG 26 (by simp [FrGU])).trans fG1⟩
 | 8, hGG, haG =>
   obtain ⟨gB, eG, hsG, cB0, cB1, cB2, cB3, cB4, cB5, cB6, hBG⟩ := hGG
   exact ⟨gB, (haG 7 (by simp [FrGU])).trans eG, hsG, cB0, cB1, cB2, cB3, cB4, cB5, cB6, hBG.gr hbG (by omega)⟩
 | 9, hGG, haG =>
   obtain ⟨xG0, xG1, xG2, xG3, xG4, xG5, xG6, xG7, xG8, xG9, xG10, eG, fG0, fG1, fG2, fG3, fG4, fG5, fG6, fG7, fG8, fG9, fG10, fG11, fG12, fG13, fG14, fG15⟩ := hGG
   exact ⟨xG0, xG1, xG2, xG3, xG4, xG5, xG6, xG7, xG8, xG9, xG10, (haG 7 (by simp [FrGU])).trans eG, fG0, fG1, own_gr fG2 hbG hgS, own_gr fG3 hbG hgS, own_gr fG4 hbG hgS, (haG 26 (by simp [FrGU])).trans fG5, own_gr fG6 hbG hgS, own_gr fG7 hbG hgS, own_gr fG8 hbG hgS, fG9, fG10, fG11.gr hbG (by omega), fG12.gr hbG (by omega), fG13.gr hbG (by omega), fG14, fG15⟩
 | 10, hGG, haG =>
   obtain ⟨xG0, xG1, xG2, xG3, xG4, xG5, xG6, xG7, xG8, xG9, eG, fG0, fG1⟩ := hGG
   exact ⟨xG0, xG1, xG2, xG3, xG4, xG5, xG6, xG7, xG8, xG9, (haG 8 (by simp [FrGU])).trans eG, fG0, (haG 26 (by simp [FrGU])).trans fG1⟩
 | jN + 11, _, _ => trivial
theorem FrG_9 {S g : Nat} {Z0 NM RB : Nat} {q : Md} {A : Option Addr} {cr : Nat} {K : Option Addr} {kc : Nat} {I : Option Addr} {ic : Nat} (hgS : g < S) {vs us : Nat → Value} {wx wy : World} {jN : Nat} (hneG : jN ≠ 9) (hGG : FrG S g Z0 NM RB q A cr K kc I ic vs wx jN) (haG : ∀ d ∈ FrGU jN, us d = vs d) (hbG : KeepW 47 wx wy) : FrG S g Z0 NM RB q A cr K kc I ic us wy jN := by
 match jN, hGG, haG, hneG with
 | 0, hGG, haG, hneG =>
   exact (haG 27 (by simp [FrGU])).trans hGG
 | 1, hGG, haG, hneG =>
   exact (haG 28 (by simp [FrGU])).trans hGG
 | 2, hGG, haG, hneG =>
   exact (haG 29 (by simp [FrGU])).trans hGG
 | 3, hGG, haG, hneG =>
   obtain ⟨xG0, xG1, eG⟩ := hGG
   exact ⟨xG0, xG1, (haG 30 (by simp [FrGU])).trans eG⟩
 | 4, hGG, haG, hneG =>
   obtain ⟨xG0, xG1, xG2, xG3, xG4, xG5, xG6, xG7, xG8, xG9, eG, fG0, fG1, fG2, fG3, fG4⟩ := hGG
   exact ⟨xG0, xG1, xG2, xG3, xG4, xG5, xG6, xG7, xG8, xG9, (haG 31 (by simp [FrGU])).trans eG, fG0, fG1, hbG.own fG2 (by decide), hbG.own fG3 (by decide), hbG.own fG4 (by decide)⟩
 | 5, hGG, haG, hneG =>
   obtain ⟨xG0, xG1, xG2, xG3, xG4, xG5, xG6, xG7, xG8, xG9, eG, fG0, fG1, fG2, fG3, fG4⟩ := hGG
   exact ⟨xG0, xG1, xG2, xG3, xG4, xG5, xG6, xG7, xG8, xG9, (haG 26 (by simp [FrGU])).trans eG, fG0, fG1, hbG.own fG2 (by decide), hbG.own fG3 (by decide), hbG.own fG4 (by decide)⟩
 | 6, hGG, haG, hneG =>
   obtain ⟨xG0, xG1, xG2, xG3, xG4, xG5, xG6, xG7, xG8, xG9, eG, fG0, fG1, fG2, fG3, fG4, fG5⟩ := hGG
   exact ⟨xG0, xG1, xG2, xG3, xG4, xG5, xG6, xG7, xG8, xG9, (haG 32 (by simp [FrGU])).trans eG, fG0, fG1, hbG.own fG2 (by decide), hbG.own fG3 (by decide), hbG.own fG4 (by decide), (haG 26 (by simp [FrGU])).trans fG5⟩
 | 7, hGG, haG, hneG =>
   obtain ⟨xG0, xG1, xG2, xG3, xG4, xG5, xG6, xG7, xG8, xG9, eG, fG0, fG1⟩ := hGG
   exact ⟨xG0, xG1, xG2, xG3, xG4, xG5, xG6, xG7, xG8, xG9, (haG 33 (by simp [FrGU])).trans eG, fG0, (haG 26 (by simp [FrGU])).trans fG1⟩
 | 8, hGG, haG, hneG =>
   obtain ⟨gB, eG, hsG, cB0, cB1, cB2, cB3, cB4, cB5, cB6, hBG⟩ := hGG
   obtain ⟨cs', hB', hz⟩ := hbG.2.2 gB _ hBG
   obtain ⟨dB0, dB1, dB2, dB3, dB4, dB5, dB6, rfl⟩ := arr7 (cs := cs') (by rw [hz]; rfl)
   exact ⟨gB, (haG 7 (by simp [FrGU])).trans eG, hsG, dB0, dB1, dB2, dB3, dB4, dB5, dB6, hB'⟩
 | 9, hGG, haG, hneG =>
   exact absurd rfl hneG
 | 10, hGG, haG, hneG =>
   obtain ⟨xG0, xG1, xG2, xG3, xG4, xG5, xG6, xG7, xG8, xG9, eG, fG0, fG1⟩ := hGG
   exact ⟨xG0, xG1, xG2, xG3, xG4, xG5, xG6, xG7, xG8, xG9, (haG 8 (by simp [FrGU])).trans eG, fG0, (haG 26 (by simp [FrGU])).trans fG1⟩
 | jN + 11, _, _, _ => trivial
def FrGP (j i : Nat) : Bool := false
theorem FrG_keep {S g : Nat} {Z0 NM RB : Nat} {q : Md} {A : Option Addr} {cr : Nat} {K : Option Addr} {kc : Nat} {I : Option Addr} {ic : Nat} (hgS : g < S) {vs us : Nat → Value} {wx wy : World} {iN jN : Nat} (hneG : iN ≠ jN) (hdpG : FrGP jN iN = false) (hGG : FrG S g Z0 NM RB q A cr K kc I ic vs wx jN) (haG : ∀ d ∈ FrGU jN, us d = vs d) (hbG : FrGR g Z0 NM RB q A cr K kc I ic iN wx wy) : FrG S g Z0 NM RB q A cr K kc I ic us wy jN := by
 unfold FrGR at hbG
 by_cases h9 : iN = 9
 · rw [if_pos h9] at hbG
   exact FrG_9 hgS (by omega) hGG haG hbG
 rw [if_neg h9] at hbG
 exact FrG_gr hgS hGG haG hbG
def FrH (S g : Nat) (NM RB LL : Nat) (q : Md) (A : Option Addr) (cr : Nat) (K : Option Addr) (kc ic : Nat) (vs : Nat → Value) (wx : World) : Nat → Prop
 | 0 => vs 40 = .pointer (some ⟨NM, 4, none⟩)
 | 1 => vs 41 = .slice (some ⟨LL, 0, none⟩) q.im.length ic
 | 2 => vs 42 = .pointer (some ⟨g, 0, none⟩)
 | 3 => ∃ (x : Nat), vs 43 = .slice (some ⟨x, 0, none⟩) 4 4 ∧ (S ≤ x) ∧ (Value.ownBlock (.slice (some ⟨LL, 0, none⟩) q.im.length ic) ≠ some x) ∧ (Blk wx x 3 #[.int .i64 (-2), .int .i64 (-1), .int .i64 10, .int .i64 0])
 | 4 => ∃ (b : Int), vs 44 = .int .i64 b ∧ (-2 ≤ b) ∧ (b ≤ 10)
 | 5 => vs 45 = .pointer (some ⟨LL, 0, none⟩)
 | 6 => ∃ (b : Int), (wx.ownsRow S 155 2 (.slice A q.l.length cr) q.l.length (rowsV2 q.l)) ∧ (wx.ownsRow S 3 1 (.slice K q.cl.length kc) q.cl.length (intsV q.cl)) ∧ (wx.ownsRow S 3 1 (.slice (some ⟨LL, 0, none⟩) q.im.length ic) q.im.length (intsV (q.im.set 0 b))) ∧ (Blk wx NM 47 #[.int .i64 q.u, .int .i64 q.lo, .slice A q.l.length cr, .slice K q.cl.length kc, .slice (some ⟨LL, 0, none⟩) q.im.length ic, .int .i64 q.be, .int .i64 q.gu]) ∧ (Blk wx RB 47 #[.int .i64 0, .int .i64 0, .slice none 0 0, .slice none 0 0, .slice none 0 0, .int .i64 0, .int .i64 0]) ∧ (S ≤ NM) ∧ (S ≤ RB)
 | _ => True
def FrHU : Nat → List Nat
 | 0 => [40]
 | 1 => [41]
 | 2 => [42]
 | 3 => [43]
 | 4 => [44]
 | 5 => [45]
 | 6 => []
 | _ => []
def FrHR (g : Nat) (NM RB LL : Nat) (q : Md) (A : Option Addr) (cr : Nat) (K : Option Addr) (kc ic : Nat) (i : Nat) (wx wy : World) : Prop := if i = 6 then wx.grownBy wy (Value.ownBlock (.slice (some ⟨LL, 0, none⟩) q.im.length ic)) else Gr g wx wy
theorem FrH_gr {S g : Nat} {NM RB LL : Nat} {q : Md} {A : Option Addr} {cr : Nat} {K : Option Addr} {kc ic : Nat} (hgS : g < S) {vs us : Nat → Value} {wx wy : World} {jN : Nat} (hGG : FrH S g NM RB LL q A cr K kc ic vs wx jN) (haG : ∀ d ∈ FrHU jN, us d = vs d) (hbG : Gr g wx wy) : FrH S g NM RB LL q A cr K kc ic us wy jN := by
 match jN, hGG, haG with
 | 0, hGG, haG =>
   exact (haG 40 (by simp [FrHU])).trans hGG
 | 1, hGG, haG =>
   exact (haG 41 (by simp [FrHU])).trans hGG
 | 2, hGG, haG =>
   exact (haG 42 (by simp [FrHU])).trans hGG
 | 3, hGG, haG =>
   obtain ⟨xG0, eG, fG0, fG1, fG2⟩ := hGG
   exact ⟨xG0, (haG 43 (by simp [FrHU])).trans eG, fG0, fG1, fG2.gr hbG (by omega)⟩
 | 4, hGG, haG =>
   obtain ⟨xG0, eG, fG0, fG1⟩ := hGG
   exact ⟨xG0, (haG 44 (by simp [FrHU])).trans eG, fG0, fG1⟩
 | 5, hGG, haG =>
   exact (haG 45 (by simp [FrHU])).trans hGG
 | 6, hGG, haG =>
   obtain ⟨xG0, fG0, fG1, fG2, fG3, fG4, fG5, fG6⟩ := hGG
   exact ⟨xG0, own_gr fG0 hbG hgS, own_gr fG1 hbG hgS, own_gr fG2 hbG hgS, fG3.gr hbG (by omega), fG4.gr hbG (by omega), fG5, fG6⟩
 | jN + 7, _, _ => trivial
theorem FrH_6 {S g : Nat} {NM RB LL : Nat} {q : Md} {A : Option Addr} {cr : Nat} {K : Option Addr} {kc ic : Nat} (hgS : g < S) {vs us : Nat → Value} {wx wy : World} {jN : Nat} (hneG : jN ≠ 6) (hGG : FrH S g NM RB LL q A cr K kc ic vs wx jN) (haG : ∀ d ∈ FrHU jN, us d = vs d) (hbG : wx.grownBy wy (Value.ownBlock (.slice (some ⟨LL, 0, none⟩) q.im.length ic))) : FrH S g NM RB LL q A cr K kc ic us wy jN := by
 match jN, hGG, haG, hneG with
 | 0, hGG, haG, hneG =>
   exact (haG 40 (by simp [FrHU])).trans hGG
 | 1, hGG, haG, hneG =>
   exact (haG 41 (by simp [FrHU])).trans hGG
 | 2, hGG, haG, hneG =>
   exact (haG 42 (by simp [FrHU])).trans hGG
 | 3, hGG, haG, hneG =>
   obtain ⟨xG0, eG, fG0, fG1, fG2⟩ := hGG
   exact ⟨xG0, (haG 43 (by simp [FrHU])).trans eG, fG0, fG1, fG2.grownF hbG fG1⟩
 | 4, hGG, haG, hneG =>
   obtain ⟨xG0, eG, fG0, fG1⟩ := hGG
   exact ⟨xG0, (haG 44 (by simp [FrHU])).trans eG, fG0, fG1⟩
 | 5, hGG, haG, hneG =>
   exact (haG 45 (by simp [FrHU])).trans hGG
 | 6, hGG, haG, hneG =>
   exact absurd rfl hneG
 | jN + 7, _, _, _ => trivial
def FrHP (j i : Nat) : Bool := false
theorem FrH_keep {S g : Nat} {NM RB LL : Nat} {q : Md} {A : Option Addr} {cr : Nat} {K : Option Addr} {kc ic : Nat} (hgS : g < S) {vs us : Nat → Value} {wx wy : World} {iN jN : Nat} (hneG : iN ≠ jN) (hdpG : FrHP jN iN = false) (hGG : FrH S g NM RB LL q A cr K kc ic vs wx jN) (haG : ∀ d ∈ FrHU jN, us d = vs d) (hbG : FrHR g NM RB LL q A cr K kc ic iN wx wy) : FrH S g NM RB LL q A cr K kc ic us wy jN := by
 unfold FrHR at hbG
 by_cases h6 : iN = 6
 · rw [if_pos h6] at hbG
   exact FrH_6 hgS (by omega) hGG haG hbG
 rw [if_neg h6] at hbG
 exact FrH_gr hgS hGG haG hbG
def FrJ (S g : Nat) (NM RB LL : Nat) (q : Md) (A : Option Addr) (cr : Nat) (kc : Nat) (I : Option Addr) (ic : Nat) (vs : Nat → Value) (wx : World) : Nat → Prop
 | 0 => vs 48 = .pointer (some ⟨NM, 3, none⟩)
 | 1 => vs 49 = .slice (some ⟨LL, 0, none⟩) q.cl.length kc
 | 2 => vs 50 = .pointer (some ⟨g, 0, none⟩)
 | 3 => ∃ (x : Nat), vs 51 = .slice (some ⟨x, 0, none⟩) 4 4 ∧ (S ≤ x) ∧ (Value.ownBlock (.slice (some ⟨LL, 0, none⟩) q.cl.length kc) ≠ some x) ∧ (Blk wx x 3 #[.int .i64 (-1), .int .i64 0, .int .i64 6, .int .i64 1])
 | 4 => ∃ (b : Int), vs 52 = .int .i64 b ∧ (-1 ≤ b) ∧ (b ≤ 6)
 | 5 => vs 53 = .pointer (some ⟨LL, 0, none⟩)
 | 6 => ∃ (b : Int), (wx.ownsRow S 155 2 (.slice A q.l.length cr) q.l.length (rowsV2 q.l)) ∧ (wx.ownsRow S 3 1 (.slice (some ⟨LL, 0, none⟩) q.cl.length kc) q.cl.length (intsV (q.cl.set 0 b))) ∧ (wx.ownsRow S 3 1 (.slice I q.im.length ic) q.im.length (intsV q.im)) ∧ (Blk wx NM 47 #[.int .i64 q.u, .int .i64 q.lo, .slice A q.l.length cr, .slice (some ⟨LL, 0, none⟩) q.cl.length kc, .slice I q.im.length ic, .int .i64 q.be, .int .i64 q.gu]) ∧ (Blk wx RB 47 #[.int .i64 0, .int .i64 0, .slice none 0 0, .slice none 0 0, .slice none 0 0, .int .i64 0, .int .i64 0]) ∧ (S ≤ NM) ∧ (S ≤ RB)
 | _ => True
def FrJU : Nat → List Nat
 | 0 => [48]
 | 1 => [49]
 | 2 => [50]
 | 3 => [51]
 | 4 => [52]
 | 5 => [53]
 | 6 => []
 | _ => []
def FrJR (g : Nat) (NM RB LL : Nat) (q : Md) (A : Option Addr) (cr : Nat) (kc : Nat) (I : Option Addr) (ic : Nat) (i : Nat) (wx wy : World) : Prop := if i = 6 then wx.grownBy wy (Value.ownBlock (.slice (some ⟨LL, 0, none⟩) q.cl.length kc)) else Gr g wx wy
theorem FrJ_gr {S g : Nat} {NM RB LL : Nat} {q : Md} {A : Option Addr} {cr : Nat} {kc : Nat} {I : Option Addr} {ic : Nat} (hgS : g < S) {vs us : Nat → Value} {wx wy : World} {jN : Nat} (hGG : FrJ S g NM RB LL q A cr kc I ic vs wx jN) (haG : ∀ d ∈ FrJU jN, us d = vs d) (hbG : Gr g wx wy) : FrJ S g NM RB LL q A cr kc I ic us wy jN := by
 match jN, hGG, haG with
 | 0, hGG, haG =>
   exact (haG 48 (by simp [FrJU])).trans hGG
 | 1, hGG, haG =>
   exact (haG 49 (by simp [FrJU])).trans hGG
 | 2, hGG, haG =>
   exact (haG 50 (by simp [FrJU])).trans hGG
 | 3, hGG, haG =>
   obtain ⟨xG0, eG, fG0, fG1, fG2⟩ := hGG
   exact ⟨xG0, (haG 51 (by simp [FrJU])).trans eG, fG0, fG1, fG2.gr hbG (by omega)⟩
 | 4, hGG, haG =>
   obtain ⟨xG0, eG, fG0, fG1⟩ := hGG
   exact ⟨xG0, (haG 52 (by simp [FrJU])).trans eG, fG0, fG1⟩
 | 5, hGG, haG =>
   exact (haG 53 (by simp [FrJU])).trans hGG
 | 6, hGG, haG =>
   obtain ⟨xG0, fG0, fG1, fG2, fG3, fG4, fG5, fG6⟩ := hGG
   exact ⟨xG0, own_gr fG0 hbG hgS, own_gr fG1 hbG hgS, own_gr fG2 hbG hgS, fG3.gr hbG (by omega), fG4.gr hbG (by omega), fG5, fG6⟩
 | jN + 7, _, _ => trivial
theorem FrJ_6 {S g : Nat} {NM RB LL : Nat} {q : Md} {A : Option Addr} {cr : Nat} {kc : Nat} {I : Option Addr} {ic : Nat} (hgS : g < S) {vs us : Nat → Value} {wx wy : World} {jN : Nat} (hneG : jN ≠ 6) (hGG : FrJ S g NM RB LL q A cr kc I ic vs wx jN) (haG : ∀ d ∈ FrJU jN, us d = vs d) (hbG : wx.grownBy wy (Value.ownBlock (.slice (some ⟨LL, 0, none⟩) q.cl.length kc))) : FrJ S g NM RB LL q A cr kc I ic us wy jN := by
 match jN, hGG, haG, hneG with
 | 0, hGG, haG, hneG =>
   exact (haG 48 (by simp [FrJU])).trans hGG
 | 1, hGG, haG, hneG =>
   exact (haG 49 (by simp [FrJU])).trans hGG
 | 2, hGG, haG, hneG =>
   exact (haG 50 (by simp [FrJU])).trans hGG
 | 3, hGG, haG, hneG =>
   obtain ⟨xG0, eG, fG0, fG1, fG2⟩ := hGG
   exact ⟨xG0, (haG 51 (by simp [FrJU])).trans eG, fG0, fG1, fG2.grownF hbG fG1⟩
 | 4, hGG, haG, hneG =>
   obtain ⟨xG0, eG, fG0, fG1⟩ := hGG
   exact ⟨xG0, (haG 52 (by simp [FrJU])).trans eG, fG0, fG1⟩
 | 5, hGG, haG, hneG =>
   exact (haG 53 (by simp [FrJU])).trans hGG
 | 6, hGG, haG, hneG =>
   exact absurd rfl hneG
 | jN + 7, _, _, _ => trivial
def FrJP (j i : Nat) : Bool := false
theorem FrJ_keep {S g : Nat} {NM RB LL : Nat} {q : Md} {A : Option Addr} {cr : Nat} {kc : Nat} {I : Option Addr} {ic : Nat} (hgS : g < S) {vs us : Nat → Value} {wx wy : World} {iN jN : Nat} (hneG : iN ≠ jN) (hdpG : FrJP jN iN = false) (hGG : FrJ S g NM RB LL q A cr kc I ic vs wx jN) (haG : ∀ d ∈ FrJU jN, us d = vs d) (hbG : FrJR g NM RB LL q A cr kc I ic iN wx wy) : FrJ S g NM RB LL q A cr kc I ic us wy jN := by
 unfold FrJR at hbG
 by_cases h6 : iN = 6
 · rw [if_pos h6] at hbG
   exact FrJ_6 hgS (by omega) hGG haG hbG
 rw [if_neg h6] at hbG
 exact FrJ_gr hgS hGG haG hbG
set_option maxRecDepth 100000 in
set_option maxHeartbeats 16000000 in
theorem drawMind_any (g a : Nat) (w : World) (h : CurAt w g a) (ha : a ≤ 300000000000) :
 Calls Try.prog 132 #[.pointer (some ⟨g, 0, none⟩)] w (DrawMd g a 3000 w) := by
 obtain ⟨i0, hi0, hz0, hz1, hz2⟩ := info_parts info_int
 have hgS : g < w.heap.size := h.lt
 have BR0 := Lib.hid (Blk.born w #[.int .i64 0, .int .i64 0, .slice none 0 0, .slice none 0 0, .slice none 0 0, .int .i64 0, .int .i64 0] 47 (H := w.heap.size) rfl)
 have HC0 := Lib.hid (h.ext (ext_alloc (ext_refl w) (.cells #[.int .i64 0, .int .i64 0, .slice none 0 0, .slice none 0 0, .slice none 0 0, .int .i64 0, .int .i64 0] 47)))
 have HG0 := Lib.hid (Gr.alloc g w (.cells #[.int .i64 0, .int .i64 0, .slice none 0 0, .slice none 0 0, .slice none 0 0, .int .i64 0, .int .i64 0] 47))
 have hRg : w.heap.size ≠ g := by omega
 have hwR : w.heap.size ≤ w.heap.size := Nat.le_refl _
 clear h
 go_enter Try.func132, Try.ntmps132
 go_wp2_with fail
 refine (stdFrame_any g a _ HC0.out (by omega)).mono ?_
 rintro e w1 ⟨u, lo, l, A, c, a1, rfl, hIN, ha1, ho1, hc1, hg1⟩
 obtain ⟨_, _, _, _, hl1, hl9, _⟩ := hIN
 obtain ⟨N, hN⟩ : ∃ N, N = w1.heap.size := ⟨_, rfl⟩
 obtain ⟨W, hW⟩ : ∃ y : World, y = w1.alloc (.cells #[.int .i64 u, .int .i64 lo, .slice A l.length c] 29) := ⟨_, rfl⟩
 have hs1 : w.heap.size < w1.heap.size := (BR0.out.gr hg1 hRg).lt
 have BF1 := Lib.hid (show Blk W N 29 #[.int .i64 u, .int .i64 lo, .slice A l.length c] by rw [hW]; exact Blk.born w1 _ 29 (H := N) hN)
 have BR1 := Lib.hid (show Blk W w.heap.size 47 #[.int .i64 0, .int .i64 0, .slice none 0 0, .slice none 0 0, .slice none 0 0, .int .i64 0, .int .i64 0] by rw [hW]; exact (BR0.out.gr hg1 hRg).al _)
 have HR1 := Lib.hid (show W.ownsRow w.heap.size 155 2 (.slice A l.length c) l.length (rowsV2 l) by rw [hW]; exact (own_base ho1 (by simp)).alloc _)
 have HC1 := Lib.hid (show CurAt W g a1 by rw [hW]; exact hc1.ext (ext_alloc (ext_refl _) _))
 have HG1 := Lib.hid (show Gr g w W by rw [hW]; exact (HG0.out.trans hg1).trans (Gr.alloc _ _ _))
 have hNw : w.heap.size < N := by omega
 go_upto_region 2 with fail
 rw [← hN, ← hW]
 clear hN hW HC0 HG0 BR0 ho1 hc1 hg1 hs1
 obtain ⟨d0, d1, d2⟩ := BF1.out.q3
 have lf := BF1.out.lt
 obtain ⟨B, hB⟩ : ∃ B, goodB u lo l = B := ⟨_, rfl⟩
 go_wp2_with fail
 refine (l2Standard_b u lo A l.length c l _ B (by omega) (Reads.of_own HR1.out) hB).mono ?_
 rintro e w2 ⟨rfl, hb2⟩
 have HGD := Lib.hid hB
 have BF2 := Lib.hid (BF1.out.ext hb2)
 have BR2 := Lib.hid (BR1.out.ext hb2)
 have HR2 := Lib.hid (own_ext HR1.out hb2)
 have HC2 := Lib.hid (HC1.out.ext hb2)
 have HG2 := Lib.hid (HG1.out.trans (Gr.of_ext hb2))
 clear hb2 hB d0 d1 d2 lf BF1 BR1 HR1 HC1 HG1
 obtain ⟨d0, d1, d2⟩ := BF2.out.q3
 obtain ⟨z0, z1, z2⟩ := BF2.out.z3
 have lf := BF2.out.lt
 go_upto_if 13 with fail
 go_cut [] (fun wx => ∃ (u lo : Int) (l : List R2) (A : Option Addr) (c : Nat), Hid (goodB u lo l = true) ∧ Hid (Blk wx N 29 #[.int .i64 u, .int .i64 lo, .slice A l.length c]) ∧ Hid (wx.ownsRow w.heap.size 155 2 (.slice A l.length c) l.length (rowsV2 l)) ∧ Hid (Blk wx w.heap.size 47 #[.int .i64 0, .int .i64 0, .slice none 0 0, .slice none 0 0, .slice none 0 0, .int .i64 0, .int .i64 0]) ∧ Hid (CurAt wx g a1) ∧ Hid (Gr g w wx))
 case first =>
  cases B
  · go_wp2_with fail
    refine (l2For_any 1 4 3 384 _ (by omega) (by omega) (by omega) (by omega)).mono ?_
    rintro e w3 ⟨A3, c3, rfl, ho3, hb3⟩
    have hs3 := HG2.out.size
    have BF3 := Lib.hid (BF2.out.ext hb3)
    have BR3 := Lib.hid (BR2.out.ext hb3)
    have HR3 := Lib.hid (own_base (base' := w.heap.size) ho3 hs3)
    have HC3 := Lib.hid (HC2.out.ext hb3)
    have HG3 := Lib.hid (HG2.out.trans (Gr.of_ext hb3))
    clear hb3 ho3 d0 d1 d2 z0 z1 z2 lf
    obtain ⟨d0, d1, d2⟩ := BF3.out.q3
    obtain ⟨z0, z1, z2⟩ := BF3.out.z3
    have lf := BF3.out.lt
    go_wp2_with fail
    go_meet
    exact ⟨1, 4, forL 3 384 3, A3, c3, Lib.hid (by decide +kernel), Lib.hid (((BF3.out.set_ 0 _).set_ 1 _).set_ 2 _), Lib.hid (fill_own' HR3.out (own_nbT HR3.out BF3.out (by decide))), Lib.hid (fill_far BR3.out (by omega)), Lib.hid (((HC3.out.far (p := ⟨N, 0, none⟩) (by show g < N; omega) _).far (p := ⟨N, 1, none⟩) (by show g < N; omega) _).far (p := ⟨N, 2, none⟩) (by show g < N; omega) _), Lib.hid (((HG3.out.setNew (p := ⟨N, 0, none⟩) (by show w.heap.size ≤ N; omega) _).setNew (p := ⟨N, 1, none⟩) (by show w.heap.size ≤ N; omega) _).setNew (p := ⟨N, 2, none⟩) (by show w.heap.size ≤ N; omega) _)⟩
  · go_wp2_with fail
    go_meet
    exact ⟨u, lo, l, A, c, HGD, BF2, HR2, BR2, HC2, HG2⟩
 case rest =>
  clear d0 d1 d2 z0 z1 z2 lf BF2 BR2 HR2 HC2 HG2 HGD hl1 hl9
  obtain ⟨u, lo, l, A, c, HGD, BF2, HR2, BR2, HC2, HG2⟩ := hcut
  obtain ⟨W2, hW2⟩ : ∃ y : World, y = wc := ⟨_, rfl⟩
  subst hW2
  obtain ⟨d0, d1, d2⟩ := BF2.out.q3
  have lf := BF2.out.lt
  have hl8 := (frB_head (good_fr HGD.out)).2.2.2
  have HNW := Lib.hid (fun (w : World) a => specNewMind_any u lo A l.length c l w (by omega) a)
  rw [show newO u lo l = some ⟨u, lo, l, List.replicate l.length 5, dsOf l, 0, 0⟩ by unfold newO; rw [if_pos HGD.out]] at HNW
  obtain ⟨q, hq⟩ : ∃ q : Md, (⟨u, lo, l, List.replicate l.length 5, dsOf l, 0, 0⟩ : Md) = q := ⟨_, rfl⟩
  rw [hq] at HNW
  have HQ0 := Lib.hid (show mdOK q = true by rw [← hq]; exact newM_ok HGD.out)
  clear hq
  have HN2 := Lib.hid (fun (w : World) a => show Calls Try.prog 70 #[frV u lo A l.length c] w (RetU w q true) from (HNW.out w a).mono (retU (some q) w))
  clear HNW
  go_wp2_with fail
  refine (HN2.out _ (Reads.of_own HR2.out)).mono ?_
  rintro e w4 ⟨A4, c4, K4, k4, I4, j4, rfl, hdj, hr4, hc4, hi4, hb4⟩
  have hs4 := HG2.out.size
  obtain ⟨NM, hNM⟩ : ∃ N, N = w4.heap.size := ⟨_, rfl⟩
  obtain ⟨W3, hW3⟩ : ∃ y : World, y = w4.alloc (.cells #[.int .i64 q.u, .int .i64 q.lo, .slice A4 q.l.length c4, .slice K4 q.cl.length k4, .slice I4 q.im.length j4, .int .i64 q.be, .int .i64 q.gu] 47) := ⟨_, rfl⟩
  have BN3 := Lib.hid (show Blk W3 NM 47 #[.int .i64 q.u, .int .i64 q.lo, .slice A4 q.l.length c4, .slice K4 q.cl.length k4, .slice I4 q.im.length j4, .int .i64 q.be, .int .i64 q.gu] by rw [hW3]; exact Blk.born w4 _ 47 (H := NM) hNM)
  have BR3 := Lib.hid (show Blk W3 w.heap.size 47 #[.int .i64 0, .int .i64 0, .slice none 0 0, .slice none 0 0, .slice none 0 0, .int .i64 0, .int .i64 0] by rw [hW3]; exact (BR2.out.ext hb4).al _)
  have HR3 := Lib.hid (show W3.ownsRow w.heap.size 155 2 (.slice A4 q.l.length c4) q.l.length (rowsV2 q.l) by rw [hW3]; exact (own_base hr4 hs4).alloc _)
  have HCl3 := Lib.hid (show W3.ownsRow w.heap.size 3 1 (.slice K4 q.cl.length k4) q.cl.length (intsV q.cl) by rw [hW3]; exact (own_base hc4 hs4).alloc _)
  have HIm3 := Lib.hid (show W3.ownsRow w.heap.size 3 1 (.slice I4 q.im.length j4) q.im.length (intsV q.im) by rw [hW3]; exact (own_base hi4 hs4).alloc _)
  have HC3 := Lib.hid (show CurAt W3 g a1 by rw [hW3]; exact (HC2.out.ext hb4).ext (ext_alloc (ext_refl _) _))
  have HG3 := Lib.hid (show Gr g w W3 by rw [hW3]; exact (HG2.out.trans (Gr.of_ext hb4)).trans (Gr.alloc _ _ _))
  have HDJ := Lib.hid hdj
  have hwN : w.heap.size < NM := by have := (BR2.out.ext hb4).lt; omega
  go_upto_region 5 with fail
  rw [← hNM, ← hW3]
  clear hNM hW3 hr4 hc4 hi4 hb4 hdj hs4 d0 d1 d2 lf BF2 HR2 BR2 HC2 HG2 HGD hl8 hNw HN2
  go_wp2_with fail
  refine (pick_any g a1 12 _ HC3.out (by omega) (by omega) (by omega)).mono ?_
  rintro e w5 ⟨pk, a2, rfl, pk0, pk1, ha2, hc5, hg5⟩
  have hNg : NM ≠ g := by omega
  have BN5 := Lib.hid (BN3.out.gr hg5 hNg)
  have BR5 := Lib.hid (BR3.out.gr hg5 hRg)
  have HR5 := Lib.hid (own_gr HR3.out hg5 hgS)
  have HCl5 := Lib.hid (own_gr HCl3.out hg5 hgS)
  have HIm5 := Lib.hid (own_gr HIm3.out hg5 hgS)
  have HC5 := Lib.hid hc5
  have HG5 := Lib.hid (HG3.out.trans hg5)
  clear hc5 hg5 BN3 BR3 HR3 HCl3 HIm3 HC3 HG3
  obtain ⟨kn, hkn⟩ := Int.eq_ofNat_of_zero_le pk0
  subst hkn
  have hkn11 : kn ≤ 11 := by omega
  have hA2 : a2 ≤ a + 602 := by omega
  clear ha1 ha2 pk0 pk1
  go_wp2_with fail
  go_loopw [6] (fun v wr => ∃ (k a3 : Nat) (q : Md) (A : Option Addr) (cr : Nat) (K : Option Addr) (kc : Nat) (I : Option Addr) (ic : Nat), v = .int .i64 k ∧ k ≤ kn ∧ a3 ≤ a + 602 + 110 * (kn - k) ∧ Hid (mdOK q = true) ∧  Hid (CurAt wr g a3) ∧ Hid (Gr g w wr) ∧ Hid (Blk wr NM 47 #[.int .i64 q.u, .int .i64 q.lo, .slice A q.l.length cr, .slice K q.cl.length kc, .slice I q.im.length ic, .int .i64 q.be, .int .i64 q.gu]) ∧ Hid (wr.ownsRow w.heap.size 155 2 (.slice A q.l.length cr) q.l.length (rowsV2 q.l)) ∧ Hid (wr.ownsRow w.heap.size 3 1 (.slice K q.cl.length kc) q.cl.length (intsV q.cl)) ∧ Hid (wr.ownsRow w.heap.size 3 1 (.slice I q.im.length ic) q.im.length (intsV q.im)) ∧ Hid (Value.ownBlock (.slice K q.cl.length kc) = none ∨ Value.ownBlock (.slice K q.cl.length kc) ≠ Value.ownBlock (.slice I q.im.length ic)) ∧ Hid (Blk wr w.heap.size 47 #[.int .i64 0, .int .i64 0, .slice none 0 0, .slice none 0 0, .slice none 0 0, .int .i64 0, .int .i64 0])) (fun v _ => (intOf v).toNat)
  case atStart => exact ⟨kn, a2, q, A4, c4, K4, k4, I4, j4, rfl, Nat.le_refl _, by omega, HQ0, HC5, HG5, BN5, HR5, HCl5, HIm5, HDJ, BR5⟩
  case round =>
   clear HQ0 HC5 HG5 BN5 HR5 HCl5 HIm5 HDJ BR5
   obtain ⟨k, a3, q, A, cr, K, kc, I, ic, rfl, hk, ha3, HQ, HC5, HG5, BN, HR, HC, HI, HDJ, BR⟩ := hrel
   obtain ⟨W0, hW0e⟩ : ∃ y : World, y = wr := ⟨_, rfl⟩
   subst hW0e
   have hW0 := HG5.out.size
   obtain ⟨hgd, hiq, hcq, _⟩ := mdOK_parts HQ.out
   have hq8 := (frB_head (good_fr hgd)).2.2.2
   have hq1 := (frB_head (good_fr hgd)).2.2.1

   have hc8 : q.cl.length ≤ 8 := by omega
   have hi8 : q.im.length ≤ 8 := by omega
   have hc1 : 1 ≤ q.cl.length := by omega
   have hi1 : 1 ≤ q.im.length := by omega
   clear hgd hiq hcq
   by_cases hk0 : 0 < k
   · have e1 : (0 : Int) < (k : Int) := by omega
     have hlNM := BN.out.lt
     go_upto_region 8 with fail
     refine wp_region_m (by kernel_rfl) (by kernel_rfl) [7, 8, 26, 27, 28, 29, 30, 31, 32, 33] FrGU (by kernel_rfl) (by decide) 34 (by kernel_rfl) (by simp) (fun ra0 => ra0.eval (.tmp 0) = .pointer (some ⟨g, 0, none⟩) ∧ ra0.eval (.tmp 4) = .pointer (some ⟨NM, 0, none⟩)) ⟨by kernel_rfl, by kernel_rfl⟩ FrGP (by kernel_rfl) (ICur 10 g a3 w W0 9 9 (fun wx => Blk wx NM 47 #[.int .i64 q.u, .int .i64 q.lo, .slice A q.l.length cr, .slice K q.cl.length kc, .slice I q.im.length ic, .int .i64 q.be, .int .i64 q.gu] ∧ Blk wx w.heap.size 47 #[.int .i64 0, .int .i64 0, .slice none 0 0, .slice none 0 0, .slice none 0 0, .int .i64 0, .int .i64 0])) (FrGR g W0.heap.size NM w.heap.size q A cr K kc I ic) (fun jN vs wx => FrG w.heap.size g W0.heap.size NM w.heap.size q A cr K kc I ic vs wx jN) ⟨a3, by omega, (HC5.out).ext (ext_drew (ext_refl _)), (HG5.out).trans (Gr.of_ext (ext_drew (ext_refl _))), Nat.le_refl _, fun _ => Gr.of_ext (ext_drew (ext_refl _)), fun _ => ⟨BN.out, BR.out⟩⟩ (fun _ _ _ _ _ _ h0 hd h1 h2 h3 => FrG_keep hgS h0 hd h1 h2 h3) ?_ ?_
     · intro ra0 hE ri ro ho Qx vs wx rb KX kk rL hI hkk hnl hLt hcl hdep rb0 rbk HK
       repeat (rename_i hz9; clear hz9)
       obtain ⟨rq0, rq4⟩ := hE
       have hi : ri < 11 := by
        rcases Nat.lt_or_ge ri 11 with h | h
        · exact h
        · rw [Array.getElem?_eq_none (by simpa using h)] at ho; cases ho
       have hkk : kk < 11 := by simpa using hkk
       obtain ⟨ax, hax, hcx, hGw, hsz, hpre, hBx⟩ := hI
       have HQ : ∀ w' a2, CurAt w' g a2 → a2 ≤ ax + 10 → Gr g wx w' → ICur 10 g a3 w W0 9 9 (fun wx => Blk wx NM 47 #[.int .i64 q.u, .int .i64 q.lo, .slice A q.l.length cr, .slice K q.cl.length kc, .slice I q.im.length ic, .int .i64 q.be, .int .i64 q.gu] ∧ Blk wx w.heap.size 47 #[.int .i64 0, .int .i64 0, .slice none 0 0, .slice none 0 0, .slice none 0 0, .int .i64 0, .int .i64 0]) (kk + 1) (fun j => j = ri ∨ rL j) w' := fun w' a2 h1 h2 h3 => ⟨a2, by omega, h1, hGw.trans h3, Nat.le_trans hsz h3.size, fun hn => (hpre (fun x => hn (.inr x))).trans h3, fun hn => (fun hB => ⟨hB.1.gr h3 hNg, hB.2.gr h3 hRg⟩) (hBx (fun x => hn (.inr x)))⟩
       have HQX := Lib.hid HQ
       have HCX := Lib.hid hcx
       have HGW := Lib.hid hGw
       have HPRE := Lib.hid hpre
       have HBX := Lib.hid hBx
       have HCL := Lib.hid hcl
       clear HQ hcx hGw hpre hBx hcl
       rcases (show ri = 0 ∨ ri = 1 ∨ ri = 2 ∨ ri = 3 ∨ ri = 4 ∨ ri = 5 ∨ ri = 6 ∨ ri = 7 ∨ ri = 8 ∨ ri = 9 ∨ ri = 10 by omega) with rfl | rfl | rfl | rfl | rfl | rfl | rfl | rfl | rfl | rfl | rfl
       · simp only [List.getElem?_toArray, List.getElem?_cons_succ, List.getElem?_cons_zero, Option.some.injEq] at ho
         subst ho
         have HKX := Lib.hid HK
         clear HK
         have p4 := (rb0 4 (by decide)).trans rq4
         have hNL : ¬ rL 9 := fun h => hnl (HCL.out 4 _ 0 rfl (HCL.out 5 _ 4 rfl (HCL.out 6 _ 5 rfl (HCL.out 9 _ 6 rfl h (by kernel_rfl)) (by kernel_rfl)) (by kernel_rfl)) (by kernel_rfl))
         have HGP := Lib.hid (HPRE.out hNL)
         obtain ⟨d0, d1, d2, d3, d4, d5, d6⟩ := (BN.out.gr HGP.out hNg).q7
         have lnx := (BN.out.gr HGP.out hNg).lt
         clear rb0 rbk hdep
         go_simp
         exact HKX.out _ _ (HQX.out _ ax HCX.out (by omega) (Gr.refl _ _)) (by unfold FrGR; rw [if_neg (by decide)]; exact Gr.refl _ _) (upd_same _ _ _)
       · simp only [List.getElem?_toArray, List.getElem?_cons_succ, List.getElem?_cons_zero, Option.some.injEq] at ho
         subst ho
         have HKX := Lib.hid HK
         clear HK
         have p0 := (rb0 0 (by decide)).trans rq0
         clear rb0 rbk hdep
         go_simp
         exact HKX.out _ _ (HQX.out _ ax HCX.out (by omega) (Gr.refl _ _)) (by unfold FrGR; rw [if_neg (by decide)]; exact Gr.refl _ _) (upd_same _ _ _)
       · simp only [List.getElem?_toArray, List.getElem?_cons_succ, List.getElem?_cons_zero, Option.some.injEq] at ho
         subst ho
         have HKX := Lib.hid HK
         clear HK
         have p4 := (rb0 4 (by decide)).trans rq4
         have hNL : ¬ rL 9 := fun h => hnl (HCL.out 3 _ 2 rfl (HCL.out 4 _ 3 rfl (HCL.out 5 _ 4 rfl (HCL.out 6 _ 5 rfl (HCL.out 9 _ 6 rfl h (by kernel_rfl)) (by kernel_rfl)) (by kernel_rfl)) (by kernel_rfl)) (by kernel_rfl))
         have HGP := Lib.hid (HPRE.out hNL)
         obtain ⟨d0, d1, d2, d3, d4, d5, d6⟩ := (BN.out.gr HGP.out hNg).q7
         have lnx := (BN.out.gr HGP.out hNg).lt
         clear rb0 rbk hdep
         go_simp
         exact HKX.out _ _ (HQX.out _ ax HCX.out (by omega) (Gr.refl _ _)) (by unfold FrGR; rw [if_neg (by decide)]; exact Gr.refl _ _) (upd_same _ _ _)
       · simp only [List.getElem?_toArray, List.getElem?_cons_succ, List.getElem?_cons_zero, Option.some.injEq] at ho
         subst ho
         have HKX := Lib.hid HK
         clear HK
         have e1 : vs 28 = .pointer (some ⟨g, 0, none⟩) := (hdep 1 (by kernel_rfl)).2
         have rr1 := (rbk 28 (by decide)).trans e1
         have E1 := Lib.hid e1
         clear e1
         have e2 : vs 29 = mdV q.u q.lo A q.l.length cr K q.cl.length kc I q.im.length ic q.be q.gu := (hdep 2 (by kernel_rfl)).2
         have rr2 := (rbk 29 (by decide)).trans e2
         have E2 := Lib.hid e2
         clear e2
         clear rb0 rbk hdep
         go_simp
         refine (mindStep_any g ax q.u q.lo A q.l.length cr K q.cl.length kc I q.im.length ic q.be q.gu _ HCX.out (by omega) (by omega)).mono ?_
         rintro e w' ⟨kd, v, a2, rfl, _, _, _, _, ha2, hc2, hg2⟩
         go_simp
         exact HKX.out _ _ (HQX.out _ a2 hc2 (by omega) hg2) (by unfold FrGR; rw [if_neg (by decide)]; exact hg2) (⟨kd, v, upd_same _ _ _⟩)
       · simp only [List.getElem?_toArray, List.getElem?_cons_succ, List.getElem?_cons_zero, Option.some.injEq] at ho
         subst ho
         have HKX := Lib.hid HK
         clear HK
         have e0 : vs 27 = mdV q.u q.lo A q.l.length cr K q.cl.length kc I q.im.length ic q.be q.gu := (hdep 0 (by kernel_rfl)).2
         have rr0 := (rbk 27 (by decide)).trans e0
         have E0 := Lib.hid e0
         clear e0
         obtain ⟨kd, v, e3⟩ := (hdep 3 (by kernel_rfl)).2
         have rr3 := (rbk 30 (by decide)).trans e3
         have E3 := Lib.hid e3
         clear e3
         have hNL : ¬ rL 9 := fun h => hnl (HCL.out 5 _ 4 rfl (HCL.out 6 _ 5 rfl (HCL.out 9 _ 6 rfl h (by kernel_rfl)) (by kernel_rfl)) (by kernel_rfl))
         have HGP := Lib.hid (HPRE.out hNL)
         obtain ⟨d0, d1, d2, d3, d4, d5, d6⟩ := (BN.out.gr HGP.out hNg).q7
         have lnx := (BN.out.gr HGP.out hNg).lt
         clear rb0 rbk hdep
         go_simp
         have HR4 := own_gr HR.out HGP.out hgS
         have HC4 := own_gr HC.out HGP.out hgS
         have HI4 := own_gr HI.out HGP.out hgS
         have HST := fun (w : World) a b d => (specStepMind_any q.u q.lo A q.l.length cr q.l K q.cl.length kc q.cl I q.im.length ic q.im q.be q.gu kd v w (by omega) (by omega) (by omega) a b d).mono (retU _ w)
         obtain ⟨O, hO⟩ : ∃ O, stepO q kd v = O := ⟨_, rfl⟩
         rw [show stepO ⟨q.u, q.lo, q.l, q.cl, q.im, q.be, q.gu⟩ kd v = O from hO] at HST
         obtain ⟨q2, hq2⟩ : ∃ q2, resQ O = q2 := ⟨_, rfl⟩
         obtain ⟨ok, hok⟩ : ∃ ok, O.isSome = ok := ⟨_, rfl⟩
         rw [hq2, hok] at HST
         have hst : (ok = true ∧ stepO q kd v = some q2) ∨ (ok = false ∧ stepO q kd v = none) := by
          rw [hO]
          cases O with
          | none => exact .inr ⟨hok.symm, rfl⟩
          | some x => exact .inl ⟨hok.symm, by rw [← hq2]; rfl⟩
         refine (HST _ (Reads.of_own HR4) (Reads.of_own HC4) (Reads.of_own HI4)).mono ?_
         rintro e w' ⟨A2, c2, K2, kc2, I2, ic2, rfl, hdj, hr4, hc4, hi4, hb⟩
         have hsx := HGW.out.size
         clear HST hO hq2 hok
         go_simp
         exact HKX.out _ _ (HQX.out _ ax (HCX.out.ext hb) (by omega) (Gr.of_ext hb)) (by unfold FrGR; rw [if_neg (by decide)]; exact Gr.of_ext hb) (⟨kd, v, q2, ok, A2, c2, K2, kc2, I2, ic2, upd_same _ _ _, hst, hdj, own_base hr4 hsx, own_base hc4 hsx, own_base hi4 hsx⟩)
       · simp only [List.getElem?_toArray, List.getElem?_cons_succ, List.getElem?_cons_zero, Option.some.injEq] at ho
         subst ho
         have HKX := Lib.hid HK
         clear HK
         obtain ⟨kd, v, q2, ok, A2, c2, K2, kc2, I2, ic2, e4, k4_0, k4_1, k4_2, k4_3, k4_4⟩ := (hdep 4 (by kernel_rfl)).2
         have rr4 := (rbk 31 (by decide)).trans e4
         have E4 := Lib.hid e4
         clear e4
         have K4_0 := Lib.hid k4_0
         clear k4_0
         have K4_1 := Lib.hid k4_1
         clear k4_1
         have K4_2 := Lib.hid k4_2
         clear k4_2
         have K4_3 := Lib.hid k4_3
         clear k4_3
         have K4_4 := Lib.hid k4_4
         clear k4_4
         clear rb0 rbk hdep
         go_simp
         exact HKX.out _ _ (HQX.out _ ax HCX.out (by omega) (Gr.refl _ _)) (by unfold FrGR; rw [if_neg (by decide)]; exact Gr.refl _ _) (⟨kd, v, q2, ok, A2, c2, K2, kc2, I2, ic2, upd_same _ _ _, K4_0.out, K4_1.out, K4_2.out, K4_3.out, K4_4.out⟩)
       · simp only [List.getElem?_toArray, List.getElem?_cons_succ, List.getElem?_cons_zero, Option.some.injEq] at ho
         subst ho
         have HKX := Lib.hid HK
         clear HK
         obtain ⟨kd, v, q2, ok, A2, c2, K2, kc2, I2, ic2, e5, k5_0, k5_1, k5_2, k5_3, k5_4⟩ := (hdep 5 (by kernel_rfl)).2
         have rr5 := (rbk 26 (by decide)).trans e5
         have E5 := Lib.hid e5
         clear e5
         have K5_0 := Lib.hid k5_0
         clear k5_0
         have K5_1 := Lib.hid k5_1
         clear k5_1
         have K5_2 := Lib.hid k5_2
         clear k5_2
         have K5_3 := Lib.hid k5_3
         clear k5_3
         have K5_4 := Lib.hid k5_4
         clear k5_4
         clear rb0 rbk hdep
         go_simp
         exact HKX.out _ _ (HQX.out _ ax HCX.out (by omega) (Gr.refl _ _)) (by unfold FrGR; rw [if_neg (by decide)]; exact Gr.refl _ _) (⟨kd, v, q2, ok, A2, c2, K2, kc2, I2, ic2, upd_same _ _ _, K5_0.out, K5_1.out, K5_2.out, K5_3.out, K5_4.out, (upd_ne _ _ (by decide)).trans E5.out⟩)
       · simp only [List.getElem?_toArray, List.getElem?_cons_succ, List.getElem?_cons_zero, Option.some.injEq] at ho
         subst ho
         have HKX := Lib.hid HK
         clear HK
         obtain ⟨kd, v, q2, ok, A2, c2, K2, kc2, I2, ic2, e5, k5_0, k5_1, k5_2, k5_3, k5_4⟩ := (hdep 5 (by kernel_rfl)).2
         have rr5 := (rbk 26 (by decide)).trans e5
         have E5 := Lib.hid e5
         clear e5
         have K5_0 := Lib.hid k5_0
         clear k5_0
         have K5_1 := Lib.hid k5_1
         clear k5_1
         have K5_2 := Lib.hid k5_2
         clear k5_2
         have K5_3 := Lib.hid k5_3
         clear k5_3
         have K5_4 := Lib.hid k5_4
         clear k5_4
         clear rb0 rbk hdep
         go_simp
         exact HKX.out _ _ (HQX.out _ ax HCX.out (by omega) (Gr.refl _ _)) (by unfold FrGR; rw [if_neg (by decide)]; exact Gr.refl _ _) (⟨kd, v, q2, ok, A2, c2, K2, kc2, I2, ic2, upd_same _ _ _, K5_0.out, (upd_ne _ _ (by decide)).trans E5.out⟩)
       · simp only [List.getElem?_toArray, List.getElem?_cons_succ, List.getElem?_cons_zero, Option.some.injEq] at ho
         subst ho
         have HKX := Lib.hid HK
         clear HK
         have hSx : w.heap.size ≤ wx.heap.size := HGW.out.size
         clear rb0 rbk hdep
         go_simp
         exact HKX.out _ _ (HQX.out _ ax (HCX.out.ext (ext_alloc (ext_refl _) _)) (by omega) (Gr.alloc _ _ _)) (by unfold FrGR; rw [if_neg (by decide)]; exact Gr.alloc _ _ _) ⟨wx.heap.size, upd_same _ _ _, ⟨hW0, hsz⟩, _, _, _, _, _, _, _, Blk.born _ _ _ rfl⟩
       · simp only [List.getElem?_toArray, List.getElem?_cons_succ, List.getElem?_cons_zero, Option.some.injEq] at ho
         subst ho
         have HKX := Lib.hid HK
         clear HK
         obtain ⟨gB, e8, hs8, cB0, cB1, cB2, cB3, cB4, cB5, cB6, hB8⟩ := (hdep 8 (by kernel_rfl)).2
         have rr8 := (rbk 7 (by decide)).trans e8
         have E8 := Lib.hid e8
         clear e8
         obtain ⟨kd, v, q2, ok, A2, c2, K2, kc2, I2, ic2, e6, k6_0, k6_1, k6_2, k6_3, k6_4, k6_5⟩ := (hdep 6 (by kernel_rfl)).2
         have rr6 := (rbk 32 (by decide)).trans e6
         have E6 := Lib.hid e6
         clear e6
         have K6_0 := Lib.hid k6_0
         clear k6_0
         have K6_1 := Lib.hid k6_1
         clear k6_1
         have K6_2 := Lib.hid k6_2
         clear k6_2
         have K6_3 := Lib.hid k6_3
         clear k6_3
         have K6_4 := Lib.hid k6_4
         clear k6_4
         have K6_5 := Lib.hid k6_5
         clear k6_5
         have hNL : ¬ rL 9 := hnl
         have HGP := Lib.hid (HPRE.out hNL)
         obtain ⟨d0, d1, d2, d3, d4, d5, d6⟩ := (BN.out.gr HGP.out hNg).q7
         have lnx := (BN.out.gr HGP.out hNg).lt
         have HBF := Lib.hid (HBX.out hnl)
         have HRo := Lib.hid (own_gr HR.out HGP.out hgS)
         have HCo := Lib.hid (own_gr HC.out HGP.out hgS)
         have HIo := Lib.hid (own_gr HI.out HGP.out hgS)
         clear d0 d1 d2 d3 d4 d5 d6 lnx
         have hlt := hB8.lt
         obtain ⟨yB0, yB1, yB2, yB3, yB4, yB5, yB6⟩ := hB8.q7
         obtain ⟨zB0, zB1, zB2, zB3, zB4, zB5, zB6⟩ := hB8.z7
         have HBB := Lib.hid hB8
         clear hB8 rb0 rbk hdep
         go_simp
         have HKW := Lib.hid (keep7 (a0 := .int .i64 q2.u) (a1 := .int .i64 q2.lo) (a2 := .slice A2 q2.l.length c2) (a3 := .slice K2 q2.cl.length kc2) (a4 := .slice I2 q2.im.length ic2) (a5 := .int .i64 q2.be) (a6 := .int .i64 q2.gu) HBB.out)
         exact HKX.out undef _ ⟨ax, by omega, cur7 HCX.out (by omega), gr7 HGW.out (by omega), by simpa using hsz, fun hn => (hn (.inl rfl)).elim, fun hn => (hn (.inl rfl)).elim⟩ (by unfold FrGR; rw [if_pos rfl]; exact HKW.out) ⟨gB, kd, v, q2, ok, A2, c2, K2, kc2, I2, ic2, E8.out, K6_0.out, K6_1.out, HKW.out.own K6_2.out (by decide), HKW.out.own K6_3.out (by decide), HKW.out.own K6_4.out (by decide), K6_5.out, HKW.out.own HRo.out (by decide), HKW.out.own HCo.out (by decide), HKW.out.own HIo.out (by decide), hs8.2, hW0, put7 HBB.out, m7_far HBF.out.1 (by omega), m7_far HBF.out.2 (by omega), Nat.le_of_lt hwN, hwR⟩
       · simp only [List.getElem?_toArray, List.getElem?_cons_succ, List.getElem?_cons_zero, Option.some.injEq] at ho
         subst ho
         have HKX := Lib.hid HK
         clear HK
         obtain ⟨kd, v, q2, ok, A2, c2, K2, kc2, I2, ic2, e7, k7_0, k7_1⟩ := (hdep 7 (by kernel_rfl)).2
         have rr7 := (rbk 33 (by decide)).trans e7
         have E7 := Lib.hid e7
         clear e7
         have K7_0 := Lib.hid k7_0
         clear k7_0
         have K7_1 := Lib.hid k7_1
         clear k7_1
         clear rb0 rbk hdep
         go_simp
         exact HKX.out _ _ (HQX.out _ ax HCX.out (by omega) (Gr.refl _ _)) (by unfold FrGR; rw [if_neg (by decide)]; exact Gr.refl _ _) (⟨kd, v, q2, ok, A2, c2, K2, kc2, I2, ic2, upd_same _ _ _, K7_0.out, (upd_ne _ _ (by decide)).trans K7_1.out⟩)
     intro vs wx kk rL hI hkk hLt hall
     obtain ⟨_, gB, kd, v, q2, ok, A2, c2, K2, kc2, I2, ic2, e7, hst, hdj2, hr2, hc2, hi2, es, hro, hco, hio, hgB, _, hB2, hNM2, hRB2, _, _⟩ := hall 9 (by decide)
     obtain ⟨_, kd', v', q2', ok', A2', c2', K2', kc2', I2', ic2', e8, _, es'⟩ := hall 10 (by decide)
     have hok : ok' = ok := by
      rw [es] at es'
      injection es' with es'
      injection es' with es'
      injection es' with _ es'
      injection es' with es'
      injection es' with es'
      exact es'.symm
     rw [hok] at e8
     obtain ⟨a6, ha6, hc6, hg6, _, _, _⟩ := hI
     have hkk : kk ≤ 11 := by simpa using hkk
     have BP6 := Lib.hid hB2
     have BN6 := Lib.hid hNM2
     have BR6 := Lib.hid hRB2
     have HR6 := Lib.hid hr2
     have HCl6 := Lib.hid hc2
     have HIm6 := Lib.hid hi2
     have HC6 := Lib.hid hc6
     have HG6 := Lib.hid hg6
     have HDJ6 := Lib.hid hdj2
     have HRo := Lib.hid hro
     have HCo := Lib.hid hco
     have HIo := Lib.hid hio
     have HST := Lib.hid hst
     have hgN : gB ≠ NM := by omega
     clear hLt hall hB2 hNM2 hRB2 hr2 hc2 hi2 hro hco hio hc6 hg6 hdj2 hst es es' hok
     simp only [sl]
     rw [e7, e8]
     simp only [Act.put, List.setIfInBounds_toArray, List.set_cons_succ, List.set_cons_zero]
     clear e7 e8
     cases ok
     · go_wp2
       go_roundw
       case rel => exact ⟨k - 1, a6, q, A, cr, K, kc, I, ic, by go_num, by omega, by omega, HQ, HC6, HG6, BN6, HRo, HCo, HIo, HDJ, BR6⟩
       case measure => simp [intOf]; omega
     · have hs2 : stepO q kd v = some q2 := by
        rcases HST.out with h | h
        · exact h.2
        · exact absurd h.1 (by simp)
       have HQ2 := Lib.hid (stepO_ok hs2)
       clear hs2
       obtain ⟨p0, p1, p2, p3, p4, p5, p6⟩ := BP6.out.q7
       obtain ⟨d0, d1, d2, d3, d4, d5, d6⟩ := BN6.out.q7
       obtain ⟨z0, z1, z2, z3, z4, z5, z6⟩ := BN6.out.z7
       have lp := BP6.out.lt
       have ln := BN6.out.lt
       go_wp2
       go_roundw
       case rel => exact ⟨k - 1, a6, q2, A2, c2, K2, kc2, I2, ic2, by go_num, by omega, by omega, HQ2, Lib.hid (cur7 HC6.out (by omega)), Lib.hid (gr7 HG6.out (by omega)), Lib.hid (put7 BN6.out), Lib.hid (m7_own HR6.out (own_nbT HR6.out BN6.out (by decide))), Lib.hid (m7_own HCl6.out (own_nbT HCl6.out BN6.out (by decide))), Lib.hid (m7_own HIm6.out (own_nbT HIm6.out BN6.out (by decide))), HDJ6, Lib.hid (m7_far BR6.out (by omega))⟩
       case measure => simp [intOf]; omega
   · have hk00 : k = 0 := by omega
     subst hk00
     go_wp2_with fail
     refine (pick_any g a3 32 _ HC5.out (by omega) (by omega) (by omega)).mono ?_
     rintro e w6 ⟨z, a6, rfl, zz0, zz1, ha6, hc6, hg6⟩
     have HC6 := Lib.hid hc6
     have HG6 := Lib.hid (HG5.out.trans hg6)
     have BN6 := Lib.hid (BN.out.gr hg6 hNg)
     have BR6 := Lib.hid (BR.out.gr hg6 hRg)
     have HR6 := Lib.hid (own_gr HR.out hg6 hgS)
     have HCl6 := Lib.hid (own_gr HC.out hg6 hgS)
     have HIm6 := Lib.hid (own_gr HI.out hg6 hgS)
     have hA6 : a6 ≤ a + 2000 := by omega
     clear hc6 hg6 HC5 HG5 BN BR HR HC HI ha3 ha6
     obtain ⟨d0, d1, d2, d3, d4, d5, d6⟩ := BN6.out.q7
     obtain ⟨z0, z1, z2, z3, z4, z5, z6⟩ := BN6.out.z7
     obtain ⟨r0, r1, r2, r3, r4, r5, r6⟩ := BR6.out.q7
     obtain ⟨y0, y1, y2, y3, y4, y5, y6⟩ := BR6.out.z7
     have ln := BN6.out.lt
     have lr := BR6.out.lt
     rcases (show z = 0 ∨ z = 1 ∨ z = 2 ∨ z = 3 ∨ (z ≠ 0 ∧ z ≠ 1 ∧ z ≠ 2 ∧ z ≠ 3) by omega) with rfl | rfl | rfl | rfl | ⟨h0, h1, h2, h3⟩
     · obtain ⟨LL, c', hv, _, _⟩ := HIm6.out.form (by omega)
       injection hv with hv _ hv2
       subst hv hv2
       have hwL : w.heap.size ≤ LL := (HIm6.out.lt _ rfl).1
       have hgL : g < LL := by omega
       have hLN : LL ≠ NM := fun e => own_nbT HIm6.out BN6.out (by decide) (by rw [← e]; rfl)
       have hLR : LL ≠ w.heap.size := fun e => own_nbT HIm6.out BR6.out (by decide) (by rw [e]; rfl)
       have hLO : Value.ownBlock (.slice K q.cl.length kc) ≠ some LL := fun e => HDJ.out.elim (fun h => by rw [h] at e; cases e) (fun h => h e)
       have hW6 := HG6.out.size
       have hl0 : (0 : Int) < (q.im.length : Int) := by omega
       go_upto_region 13 with fail
       refine wp_region_m (by kernel_rfl) (by kernel_rfl) [40, 41, 42, 43, 44, 45] FrHU (by kernel_rfl) (by decide) 46 (by kernel_rfl) (by simp) (fun ra0 => ra0.eval (.tmp 0) = .pointer (some ⟨g, 0, none⟩) ∧ ra0.eval (.tmp 4) = .pointer (some ⟨NM, 0, none⟩)) ⟨by kernel_rfl, by kernel_rfl⟩ FrHP (by kernel_rfl) (ICur 2 g a6 w w6 6 6 (fun wx => Blk wx NM 47 #[.int .i64 q.u, .int .i64 q.lo, .slice A q.l.length cr, .slice K q.cl.length kc, .slice (some ⟨LL, 0, none⟩) q.im.length ic, .int .i64 q.be, .int .i64 q.gu] ∧ Blk wx w.heap.size 47 #[.int .i64 0, .int .i64 0, .slice none 0 0, .slice none 0 0, .slice none 0 0, .int .i64 0, .int .i64 0])) (FrHR g NM w.heap.size LL q A cr K kc ic) (fun jN vs wx => FrH w.heap.size g NM w.heap.size LL q A cr K kc ic vs wx jN) ⟨a6, by omega, (HC6.out).ext (ext_drew (ext_refl _)), (HG6.out).trans (Gr.of_ext (ext_drew (ext_refl _))), Nat.le_refl _, fun _ => Gr.of_ext (ext_drew (ext_refl _)), fun _ => ⟨BN6.out, BR6.out⟩⟩ (fun _ _ _ _ _ _ h0 hd h1 h2 h3 => FrH_keep hgS h0 hd h1 h2 h3) ?_ ?_
       · intro ra0 hE ri ro ho Qx vs wx rb KX kk rL hI hkk hnl hLt hcl hdep rb0 rbk HK
         repeat (rename_i hz9; clear hz9)
         obtain ⟨rq0, rq4⟩ := hE
         have hi : ri < 7 := by
          rcases Nat.lt_or_ge ri 7 with h | h
          · exact h
          · rw [Array.getElem?_eq_none (by simpa using h)] at ho; cases ho
         have hkk : kk < 7 := by simpa using hkk
         obtain ⟨ax, hax, hcx, hGw, hsz, hpre, hBx⟩ := hI
         have HQ : ∀ w' a2, CurAt w' g a2 → a2 ≤ ax + 2 → Gr g wx w' → ICur 2 g a6 w w6 6 6 (fun wx => Blk wx NM 47 #[.int .i64 q.u, .int .i64 q.lo, .slice A q.l.length cr, .slice K q.cl.length kc, .slice (some ⟨LL, 0, none⟩) q.im.length ic, .int .i64 q.be, .int .i64 q.gu] ∧ Blk wx w.heap.size 47 #[.int .i64 0, .int .i64 0, .slice none 0 0, .slice none 0 0, .slice none 0 0, .int .i64 0, .int .i64 0]) (kk + 1) (fun j => j = ri ∨ rL j) w' := fun w' a2 h1 h2 h3 => ⟨a2, by omega, h1, hGw.trans h3, Nat.le_trans hsz h3.size, fun hn => (hpre (fun x => hn (.inr x))).trans h3, fun hn => (fun hB => ⟨hB.1.gr h3 hNg, hB.2.gr h3 hRg⟩) (hBx (fun x => hn (.inr x)))⟩
         have HQX := Lib.hid HQ
         have HCX := Lib.hid hcx
         have HGW := Lib.hid hGw
         have HPRE := Lib.hid hpre
         have HBX := Lib.hid hBx
         have HCL := Lib.hid hcl
         clear HQ hcx hGw hpre hBx hcl
         rcases (show ri = 0 ∨ ri = 1 ∨ ri = 2 ∨ ri = 3 ∨ ri = 4 ∨ ri = 5 ∨ ri = 6 by omega) with rfl | rfl | rfl | rfl | rfl | rfl | rfl
         · simp only [List.getElem?_toArray, List.getElem?_cons_succ, List.getElem?_cons_zero, Option.some.injEq] at ho
           subst ho
           have HKX := Lib.hid HK
           clear HK
           have p4 := (rb0 4 (by decide)).trans rq4
           clear rb0 rbk hdep
           go_simp
           exact HKX.out _ _ (HQX.out _ ax HCX.out (by omega) (Gr.refl _ _)) (by unfold FrHR; rw [if_neg (by decide)]; exact Gr.refl _ _) (upd_same _ _ _)
         · simp only [List.getElem?_toArray, List.getElem?_cons_succ, List.getElem?_cons_zero, Option.some.injEq] at ho
           subst ho
           have HKX := Lib.hid HK
           clear HK
           have e0 : vs 40 = .pointer (some ⟨NM, 4, none⟩) := (hdep 0 (by kernel_rfl)).2
           have rr0 := (rbk 40 (by decide)).trans e0
           have E0 := Lib.hid e0
           clear e0
           have hNL : ¬ rL 6 := fun h => hnl (HCL.out 5 _ 1 rfl (HCL.out 6 _ 5 rfl h (by kernel_rfl)) (by kernel_rfl))
           have HGP := Lib.hid (HPRE.out hNL)
           obtain ⟨x0, x1, x2, x3, x4, x5, x6⟩ := (BN6.out.gr HGP.out hNg).q7
           have lnx := (BN6.out.gr HGP.out hNg).lt
           clear rb0 rbk hdep
           go_simp
           exact HKX.out _ _ (HQX.out _ ax HCX.out (by omega) (Gr.refl _ _)) (by unfold FrHR; rw [if_neg (by decide)]; exact Gr.refl _ _) (upd_same _ _ _)
         · simp only [List.getElem?_toArray, List.getElem?_cons_succ, List.getElem?_cons_zero, Option.some.injEq] at ho
           subst ho
           have HKX := Lib.hid HK
           clear HK
           have p0 := (rb0 0 (by decide)).trans rq0
           clear rb0 rbk hdep
           go_simp
           exact HKX.out _ _ (HQX.out _ ax HCX.out (by omega) (Gr.refl _ _)) (by unfold FrHR; rw [if_neg (by decide)]; exact Gr.refl _ _) (upd_same _ _ _)
         · simp only [List.getElem?_toArray, List.getElem?_cons_succ, List.getElem?_cons_zero, Option.some.injEq] at ho
           subst ho
           have HKX := Lib.hid HK
           clear HK
           have hSx : w.heap.size ≤ wx.heap.size := HGW.out.size
           clear rb0 rbk hdep
           go_simp
           exact HKX.out _ _ (HQX.out _ ax (HCX.out.ext (ext_alloc (ext_refl _) _)) (by omega) (Gr.alloc _ _ _)) (by unfold FrHR; rw [if_neg (by decide)]; exact Gr.alloc _ _ _) ⟨wx.heap.size, upd_same _ _ _, hSx, (fun e => absurd ((HIm6.out.lt _ e).2) (by omega)), Blk.born _ _ _ rfl⟩
         · simp only [List.getElem?_toArray, List.getElem?_cons_succ, List.getElem?_cons_zero, Option.some.injEq] at ho
           subst ho
           have HKX := Lib.hid HK
           clear HK
           have e2 : vs 42 = .pointer (some ⟨g, 0, none⟩) := (hdep 2 (by kernel_rfl)).2
           have rr2 := (rbk 42 (by decide)).trans e2
           have E2 := Lib.hid e2
           clear e2
           obtain ⟨x, e3, k3_0, k3_1, k3_2⟩ := (hdep 3 (by kernel_rfl)).2
           have rr3 := (rbk 43 (by decide)).trans e3
           have E3 := Lib.hid e3
           clear e3
           have K3_1 := Lib.hid k3_1
           clear k3_1
           have K3_2 := Lib.hid k3_2
           clear k3_2
           clear rb0 rbk hdep
           go_simp
           refine (among_any g ax _ 4 _ (-2) 10 _ HCX.out (by omega) (by decide) (by decide) (allAt_blk (l := [-2, -1, 10, 0]) K3_2.out rfl rfl (by omega) (by decide))).mono ?_
           rintro e w' ⟨b, a2, rfl, nF0, nF1, ha2, hc2, hg2⟩
           go_simp
           exact HKX.out _ _ (HQX.out _ a2 hc2 (by omega) hg2) (by unfold FrHR; rw [if_neg (by decide)]; exact hg2) (⟨b, upd_same _ _ _, nF0, nF1⟩)
         · simp only [List.getElem?_toArray, List.getElem?_cons_succ, List.getElem?_cons_zero, Option.some.injEq] at ho
           subst ho
           have HKX := Lib.hid HK
           clear HK
           have e1 : vs 41 = .slice (some ⟨LL, 0, none⟩) q.im.length ic := (hdep 1 (by kernel_rfl)).2
           have rr1 := (rbk 41 (by decide)).trans e1
           have E1 := Lib.hid e1
           clear e1
           clear rb0 rbk hdep
           go_simp
           rw [if_pos (by omega)]
           go_simp
           exact HKX.out _ _ (HQX.out _ ax HCX.out (by omega) (Gr.refl _ _)) (by unfold FrHR; rw [if_neg (by decide)]; exact Gr.refl _ _) (upd_same _ _ _)
         · simp only [List.getElem?_toArray, List.getElem?_cons_succ, List.getElem?_cons_zero, Option.some.injEq] at ho
           subst ho
           have HKX := Lib.hid HK
           clear HK
           obtain ⟨b, e4, k4_0, k4_1⟩ := (hdep 4 (by kernel_rfl)).2
           have rr4 := (rbk 44 (by decide)).trans e4
           have E4 := Lib.hid e4
           clear e4
           have e5 : vs 45 = .pointer (some ⟨LL, 0, none⟩) := (hdep 5 (by kernel_rfl)).2
           have rr5 := (rbk 45 (by decide)).trans e5
           have E5 := Lib.hid e5
           clear e5
           have hNL : ¬ rL 6 := hnl
           have HGP := Lib.hid (HPRE.out hNL)
           obtain ⟨x0, x1, x2, x3, x4, x5, x6⟩ := (BN6.out.gr HGP.out hNg).q7
           have lnx := (BN6.out.gr HGP.out hNg).lt
           have HBF := Lib.hid (HBX.out hnl)
           have HO := Lib.hid (own_gr HIm6.out HGP.out hgS)
           have HP := Lib.hid (own_gr HCl6.out HGP.out hgS)
           have HRo := Lib.hid (own_gr HR6.out HGP.out hgS)
           clear x0 x1 x2 x3 x4 x5 x6 lnx
           have hlL : LL < wx.heap.size := (HO.out.lt _ rfl).2
           obtain ⟨x0, hx0⟩ : ∃ u, wx.cell? ⟨LL, 0, none⟩ = some u := by rw [HO.out.cellAt 0 (by omega)]; exact list_split (by have := HO.out.1; omega)
           have hf0 := HO.out.frozenAt 0
           obtain ⟨cs, hcs⟩ := own_blkF HO.out
           have HCS := Lib.hid hcs
           have HS1 := Lib.hid ((HO.out.stored 0 (.int .i64 b)).1)
           clear rb0 rbk hdep hcs
           go_simp
           exact HKX.out undef _ ⟨ax, by omega, HCX.out.far (p := ⟨LL, 0, none⟩) hgL _, HGW.out.setNew (p := ⟨LL, 0, none⟩) hwL _, by simpa using hsz, fun hn => (hn (.inl rfl)).elim, fun hn => (hn (.inl rfl)).elim⟩ (by unfold FrHR; rw [if_pos rfl]; exact (Gr.refl LL wx).set 0 _) ⟨b, own_setF (p := ⟨LL, 0, none⟩) HRo.out (own_nbT HRo.out HCS.out (by decide)) _, own_setF (p := ⟨LL, 0, none⟩) HP.out hLO _, by rw [intsV_set]; exact HS1.out, HBF.out.1.setF (p := ⟨LL, 0, none⟩) hLN _, HBF.out.2.setF (p := ⟨LL, 0, none⟩) hLR _, Nat.le_of_lt hwN, hwR⟩
       intro vs wx kk rL hI hkk hLt hall
       obtain ⟨_, b, hr2, hk2, hi2, hB2, hBR2, _, _⟩ := hall 6 (by decide)
       obtain ⟨a7, ha7, hc7, hg7, _, _, _⟩ := hI
       have hkk : kk ≤ 7 := by simpa using hkk
       have HR7 := Lib.hid hr2
       have HCl7 := Lib.hid hk2
       have HIm7 := Lib.hid hi2
       have BN7 := Lib.hid hB2
       have BR7 := Lib.hid hBR2
       have HC7 := Lib.hid hc7
       have HG7 := Lib.hid hg7
       have hlen : (q.im.set 0 b).length = q.im.length := List.length_set
       have HLEN := Lib.hid hlen
       clear hlen hLt hall hr2 hk2 hi2 hB2 hBR2 hc7 hg7 d0 d1 d2 d3 d4 d5 d6 z0 z1 z2 z3 z4 z5 z6 r0 r1 r2 r3 r4 r5 r6 y0 y1 y2 y3 y4 y5 y6 ln lr
       obtain ⟨d0, d1, d2, d3, d4, d5, d6⟩ := BN7.out.q7
       obtain ⟨z0, z1, z2, z3, z4, z5, z6⟩ := BN7.out.z7
       obtain ⟨r0, r1, r2, r3, r4, r5, r6⟩ := BR7.out.q7
       obtain ⟨y0, y1, y2, y3, y4, y5, y6⟩ := BR7.out.z7
       have ln := BN7.out.lt
       have lr := BR7.out.lt
       simp only [sl]
       simp only [Act.put, List.setIfInBounds_toArray, List.set_cons_succ, List.set_cons_zero]
       go_wp2
       refine bodyPost_ret (v := mdV q.u q.lo A q.l.length cr K q.cl.length kc (some ⟨LL, 0, none⟩) q.im.length ic q.be q.gu) (by simp [results, Try.results132, go_sem, *]) rfl ?_
       refine ⟨(⟨q.u, q.lo, q.l, q.cl, q.im.set 0 b, q.be, q.gu⟩ : Md), A, cr, K, kc, (some ⟨LL, 0, none⟩), ic, a7, ?_, by dsimp only; omega, by dsimp only; (try rw [HLEN.out]); omega, by dsimp only; (try rw [HLEN.out]); omega, by omega, ?_, ?_, ?_, cur7 HC7.out (by omega), gr7 HG7.out (by omega)⟩
       · dsimp only
         rw [HLEN.out]
       · exact m7_own HR7.out (own_nbT HR7.out BR7.out (by decide))
       · dsimp only
         (try rw [HLEN.out])
         exact m7_own HCl7.out (own_nbT HCl7.out BR7.out (by decide))
       · dsimp only
         (try rw [HLEN.out])
         exact m7_own HIm7.out (own_nbT HIm7.out BR7.out (by decide))
     · obtain ⟨LL, c', hv, _, _⟩ := HCl6.out.form (by omega)
       injection hv with hv _ hv2
       subst hv hv2
       have hwL : w.heap.size ≤ LL := (HCl6.out.lt _ rfl).1
       have hgL : g < LL := by omega
       have hLN : LL ≠ NM := fun e => own_nbT HCl6.out BN6.out (by decide) (by rw [← e]; rfl)
       have hLR : LL ≠ w.heap.size := fun e => own_nbT HCl6.out BR6.out (by decide) (by rw [e]; rfl)
       have hLO : Value.ownBlock (.slice I q.im.length ic) ≠ some LL := fun e => HDJ.out.elim (fun h => by cases h) (fun h => h e.symm)
       have hW6 := HG6.out.size
       have hl0 : (0 : Int) < (q.cl.length : Int) := by omega
       go_upto_region 15 with fail
       refine wp_region_m (by kernel_rfl) (by kernel_rfl) [48, 49, 50, 51, 52, 53] FrJU (by kernel_rfl) (by decide) 54 (by kernel_rfl) (by simp) (fun ra0 => ra0.eval (.tmp 0) = .pointer (some ⟨g, 0, none⟩) ∧ ra0.eval (.tmp 4) = .pointer (some ⟨NM, 0, none⟩)) ⟨by kernel_rfl, by kernel_rfl⟩ FrJP (by kernel_rfl) (ICur 2 g a6 w w6 6 6 (fun wx => Blk wx NM 47 #[.int .i64 q.u, .int .i64 q.lo, .slice A q.l.length cr, .slice (some ⟨LL, 0, none⟩) q.cl.length kc, .slice I q.im.length ic, .int .i64 q.be, .int .i64 q.gu] ∧ Blk wx w.heap.size 47 #[.int .i64 0, .int .i64 0, .slice none 0 0, .slice none 0 0, .slice none 0 0, .int .i64 0, .int .i64 0])) (FrJR g NM w.heap.size LL q A cr kc I ic) (fun jN vs wx => FrJ w.heap.size g NM w.heap.size LL q A cr kc I ic vs wx jN) ⟨a6, by omega, (HC6.out).ext (ext_drew (ext_refl _)), (HG6.out).trans (Gr.of_ext (ext_drew (ext_refl _))), Nat.le_refl _, fun _ => Gr.of_ext (ext_drew (ext_refl _)), fun _ => ⟨BN6.out, BR6.out⟩⟩ (fun _ _ _ _ _ _ h0 hd h1 h2 h3 => FrJ_keep hgS h0 hd h1 h2 h3) ?_ ?_
       · intro ra0 hE ri ro ho Qx vs wx rb KX kk rL hI hkk hnl hLt hcl hdep rb0 rbk HK
         repeat (rename_i hz9; clear hz9)
         obtain ⟨rq0, rq4⟩ := hE
         have hi : ri < 7 := by
          rcases Nat.lt_or_ge ri 7 with h | h
          · exact h
          · rw [Array.getElem?_eq_none (by simpa using h)] at ho; cases ho
         have hkk : kk < 7 := by simpa using hkk
         obtain ⟨ax, hax, hcx, hGw, hsz, hpre, hBx⟩ := hI
         have HQ : ∀ w' a2, CurAt w' g a2 → a2 ≤ ax + 2 → Gr g wx w' → ICur 2 g a6 w w6 6 6 (fun wx => Blk wx NM 47 #[.int .i64 q.u, .int .i64 q.lo, .slice A q.l.length cr, .slice (some ⟨LL, 0, none⟩) q.cl.length kc, .slice I q.im.length ic, .int .i64 q.be, .int .i64 q.gu] ∧ Blk wx w.heap.size 47 #[.int .i64 0, .int .i64 0, .slice none 0 0, .slice none 0 0, .slice none 0 0, .int .i64 0, .int .i64 0]) (kk + 1) (fun j => j = ri ∨ rL j) w' := fun w' a2 h1 h2 h3 => ⟨a2, by omega, h1, hGw.trans h3, Nat.le_trans hsz h3.size, fun hn => (hpre (fun x => hn (.inr x))).trans h3, fun hn => (fun hB => ⟨hB.1.gr h3 hNg, hB.2.gr h3 hRg⟩) (hBx (fun x => hn (.inr x)))⟩
         have HQX := Lib.hid HQ
         have HCX := Lib.hid hcx
         have HGW := Lib.hid hGw
         have HPRE := Lib.hid hpre
         have HBX := Lib.hid hBx
         have HCL := Lib.hid hcl
         clear HQ hcx hGw hpre hBx hcl
         rcases (show ri = 0 ∨ ri = 1 ∨ ri = 2 ∨ ri = 3 ∨ ri = 4 ∨ ri = 5 ∨ ri = 6 by omega) with rfl | rfl | rfl | rfl | rfl | rfl | rfl
         · simp only [List.getElem?_toArray, List.getElem?_cons_succ, List.getElem?_cons_zero, Option.some.injEq] at ho
           subst ho
           have HKX := Lib.hid HK
           clear HK
           have p4 := (rb0 4 (by decide)).trans rq4
           clear rb0 rbk hdep
           go_simp
           exact HKX.out _ _ (HQX.out _ ax HCX.out (by omega) (Gr.refl _ _)) (by unfold FrJR; rw [if_neg (by decide)]; exact Gr.refl _ _) (upd_same _ _ _)
         · simp only [List.getElem?_toArray, List.getElem?_cons_succ, List.getElem?_cons_zero, Option.some.injEq] at ho
           subst ho
           have HKX := Lib.hid HK
           clear HK
           have e0 : vs 48 = .pointer (some ⟨NM, 3, none⟩) := (hdep 0 (by kernel_rfl)).2
           have rr0 := (rbk 48 (by decide)).trans e0
           have E0 := Lib.hid e0
           clear e0
           have hNL : ¬ rL 6 := fun h => hnl (HCL.out 5 _ 1 rfl (HCL.out 6 _ 5 rfl h (by kernel_rfl)) (by kernel_rfl))
           have HGP := Lib.hid (HPRE.out hNL)
           obtain ⟨x0, x1, x2, x3, x4, x5, x6⟩ := (BN6.out.gr HGP.out hNg).q7
           have lnx := (BN6.out.gr HGP.out hNg).lt
           clear rb0 rbk hdep
           go_simp
           exact HKX.out _ _ (HQX.out _ ax HCX.out (by omega) (Gr.refl _ _)) (by unfold FrJR; rw [if_neg (by decide)]; exact Gr.refl _ _) (upd_same _ _ _)
         · simp only [List.getElem?_toArray, List.getElem?_cons_succ, List.getElem?_cons_zero, Option.some.injEq] at ho
           subst ho
           have HKX := Lib.hid HK
           clear HK
           have p0 := (rb0 0 (by decide)).trans rq0
           clear rb0 rbk hdep
           go_simp
           exact HKX.out _ _ (HQX.out _ ax HCX.out (by omega) (Gr.refl _ _)) (by unfold FrJR; rw [if_neg (by decide)]; exact Gr.refl _ _) (upd_same _ _ _)
         · simp only [List.getElem?_toArray, List.getElem?_cons_succ, List.getElem?_cons_zero, Option.some.injEq] at ho
           subst ho
           have HKX := Lib.hid HK
           clear HK
           have hSx : w.heap.size ≤ wx.heap.size := HGW.out.size
           clear rb0 rbk hdep
           go_simp
           exact HKX.out _ _ (HQX.out _ ax (HCX.out.ext (ext_alloc (ext_refl _) _)) (by omega) (Gr.alloc _ _ _)) (by unfold FrJR; rw [if_neg (by decide)]; exact Gr.alloc _ _ _) ⟨wx.heap.size, upd_same _ _ _, hSx, (fun e => absurd ((HCl6.out.lt _ e).2) (by omega)), Blk.born _ _ _ rfl⟩
         · simp only [List.getElem?_toArray, List.getElem?_cons_succ, List.getElem?_cons_zero, Option.some.injEq] at ho
           subst ho
           have HKX := Lib.hid HK
           clear HK
           have e2 : vs 50 = .pointer (some ⟨g, 0, none⟩) := (hdep 2 (by kernel_rfl)).2
           have rr2 := (rbk 50 (by decide)).trans e2
           have E2 := Lib.hid e2
           clear e2
           obtain ⟨x, e3, k3_0, k3_1, k3_2⟩ := (hdep 3 (by kernel_rfl)).2
           have rr3 := (rbk 51 (by decide)).trans e3
           have E3 := Lib.hid e3
           clear e3
           have K3_1 := Lib.hid k3_1
           clear k3_1
           have K3_2 := Lib.hid k3_2
           clear k3_2
           clear rb0 rbk hdep
           go_simp
           refine (among_any g ax _ 4 _ (-1) 6 _ HCX.out (by omega) (by decide) (by decide) (allAt_blk (l := [-1, 0, 6, 1]) K3_2.out rfl rfl (by omega) (by decide))).mono ?_
           rintro e w' ⟨b, a2, rfl, nF0, nF1, ha2, hc2, hg2⟩
           go_simp
           exact HKX.out _ _ (HQX.out _ a2 hc2 (by omega) hg2) (by unfold FrJR; rw [if_neg (by decide)]; exact hg2) (⟨b, upd_same _ _ _, nF0, nF1⟩)
         · simp only [List.getElem?_toArray, List.getElem?_cons_succ, List.getElem?_cons_zero, Option.some.injEq] at ho
           subst ho
           have HKX := Lib.hid HK
           clear HK
           have e1 : vs 49 = .slice (some ⟨LL, 0, none⟩) q.cl.length kc := (hdep 1 (by kernel_rfl)).2
           have rr1 := (rbk 49 (by decide)).trans e1
           have E1 := Lib.hid e1
           clear e1
           clear rb0 rbk hdep
           go_simp
           rw [if_pos (by omega)]
           go_simp
           exact HKX.out _ _ (HQX.out _ ax HCX.out (by omega) (Gr.refl _ _)) (by unfold FrJR; rw [if_neg (by decide)]; exact Gr.refl _ _) (upd_same _ _ _)
         · simp only [List.getElem?_toArray, List.getElem?_cons_succ, List.getElem?_cons_zero, Option.some.injEq] at ho
           subst ho
           have HKX := Lib.hid HK
           clear HK
           obtain ⟨b, e4, k4_0, k4_1⟩ := (hdep 4 (by kernel_rfl)).2
           have rr4 := (rbk 52 (by decide)).trans e4
           have E4 := Lib.hid e4
           clear e4
           have e5 : vs 53 = .pointer (some ⟨LL, 0, none⟩) := (hdep 5 (by kernel_rfl)).2
           have rr5 := (rbk 53 (by decide)).trans e5
           have E5 := Lib.hid e5
           clear e5
           have hNL : ¬ rL 6 := hnl
           have HGP := Lib.hid (HPRE.out hNL)
           obtain ⟨x0, x1, x2, x3, x4, x5, x6⟩ := (BN6.out.gr HGP.out hNg).q7
           have lnx := (BN6.out.gr HGP.out hNg).lt
           have HBF := Lib.hid (HBX.out hnl)
           have HO := Lib.hid (own_gr HCl6.out HGP.out hgS)
           have HP := Lib.hid (own_gr HIm6.out HGP.out hgS)
           have HRo := Lib.hid (own_gr HR6.out HGP.out hgS)
           clear x0 x1 x2 x3 x4 x5 x6 lnx
           have hlL : LL < wx.heap.size := (HO.out.lt _ rfl).2
           obtain ⟨x0, hx0⟩ : ∃ u, wx.cell? ⟨LL, 0, none⟩ = some u := by rw [HO.out.cellAt 0 (by omega)]; exact list_split (by have := HO.out.1; omega)
           have hf0 := HO.out.frozenAt 0
           obtain ⟨cs, hcs⟩ := own_blkF HO.out
           have HCS := Lib.hid hcs
           have HS1 := Lib.hid ((HO.out.stored 0 (.int .i64 b)).1)
           clear rb0 rbk hdep hcs
           go_simp
           exact HKX.out undef _ ⟨ax, by omega, HCX.out.far (p := ⟨LL, 0, none⟩) hgL _, HGW.out.setNew (p := ⟨LL, 0, none⟩) hwL _, by simpa using hsz, fun hn => (hn (.inl rfl)).elim, fun hn => (hn (.inl rfl)).elim⟩ (by unfold FrJR; rw [if_pos rfl]; exact (Gr.refl LL wx).set 0 _) ⟨b, own_setF (p := ⟨LL, 0, none⟩) HRo.out (own_nbT HRo.out HCS.out (by decide)) _, by rw [intsV_set]; exact HS1.out, own_setF (p := ⟨LL, 0, none⟩) HP.out hLO _, HBF.out.1.setF (p := ⟨LL, 0, none⟩) hLN _, HBF.out.2.setF (p := ⟨LL, 0, none⟩) hLR _, Nat.le_of_lt hwN, hwR⟩
       intro vs wx kk rL hI hkk hLt hall
       obtain ⟨_, b, hr2, hk2, hi2, hB2, hBR2, _, _⟩ := hall 6 (by decide)
       obtain ⟨a7, ha7, hc7, hg7, _, _, _⟩ := hI
       have hkk : kk ≤ 7 := by simpa using hkk
       have HR7 := Lib.hid hr2
       have HCl7 := Lib.hid hk2
       have HIm7 := Lib.hid hi2
       have BN7 := Lib.hid hB2
       have BR7 := Lib.hid hBR2
       have HC7 := Lib.hid hc7
       have HG7 := Lib.hid hg7
       have hlen : (q.cl.set 0 b).length = q.cl.length := List.length_set
       have HLEN := Lib.hid hlen
       clear hlen hLt hall hr2 hk2 hi2 hB2 hBR2 hc7 hg7 d0 d1 d2 d3 d4 d5 d6 z0 z1 z2 z3 z4 z5 z6 r0 r1 r2 r3 r4 r5 r6 y0 y1 y2 y3 y4 y5 y6 ln lr
       obtain ⟨d0, d1, d2, d3, d4, d5, d6⟩ := BN7.out.q7
       obtain ⟨z0, z1, z2, z3, z4, z5, z6⟩ := BN7.out.z7
       obtain ⟨r0, r1, r2, r3, r4, r5, r6⟩ := BR7.out.q7
       obtain ⟨y0, y1, y2, y3, y4, y5, y6⟩ := BR7.out.z7
       have ln := BN7.out.lt
       have lr := BR7.out.lt
       simp only [sl]
       simp only [Act.put, List.setIfInBounds_toArray, List.set_cons_succ, List.set_cons_zero]
       go_wp2
       refine bodyPost_ret (v := mdV q.u q.lo A q.l.length cr (some ⟨LL, 0, none⟩) q.cl.length kc I q.im.length ic q.be q.gu) (by simp [results, Try.results132, go_sem, *]) rfl ?_
       refine ⟨(⟨q.u, q.lo, q.l, q.cl.set 0 b, q.im, q.be, q.gu⟩ : Md), A, cr, (some ⟨LL, 0, none⟩), kc, I, ic, a7, ?_, by dsimp only; omega, by dsimp only; (try rw [HLEN.out]); omega, by dsimp only; (try rw [HLEN.out]); omega, by omega, ?_, ?_, ?_, cur7 HC7.out (by omega), gr7 HG7.out (by omega)⟩
       · dsimp only
         rw [HLEN.out]
       · exact m7_own HR7.out (own_nbT HR7.out BR7.out (by decide))
       · dsimp only
         (try rw [HLEN.out])
         exact m7_own HCl7.out (own_nbT HCl7.out BR7.out (by decide))
       · dsimp only
         (try rw [HLEN.out])
         exact m7_own HIm7.out (own_nbT HIm7.out BR7.out (by decide))
     · go_wp2_with fail
       refine (among_lit g a6 (-1) 10000 [-1, 9999, 10000] 3 w6 HC6.out (by omega) (by decide) (by decide) (by decide) _ rfl rfl).mono ?_
       rintro e w7 ⟨b, a7, rfl, bb0, bb1, ha7, hc7, hg7⟩
       have HC7 := Lib.hid hc7
       have HG7 := Lib.hid (HG6.out.trans hg7)
       have BN7 := Lib.hid (BN6.out.gr hg7 hNg)
       have BR7 := Lib.hid (BR6.out.gr hg7 hRg)
       have HR7 := Lib.hid (own_gr HR6.out hg7 hgS)
       have HCl7 := Lib.hid (own_gr HCl6.out hg7 hgS)
       have HIm7 := Lib.hid (own_gr HIm6.out hg7 hgS)
       clear hc7 hg7 HC6 HG6 BN6 BR6 HR6 HCl6 HIm6 d0 d1 d2 d3 d4 d5 d6 z0 z1 z2 z3 z4 z5 z6 r0 r1 r2 r3 r4 r5 r6 y0 y1 y2 y3 y4 y5 y6 ln lr
       obtain ⟨d0, d1, d2, d3, d4, d5, d6⟩ := BN7.out.q7
       obtain ⟨z0, z1, z2, z3, z4, z5, z6⟩ := BN7.out.z7
       obtain ⟨r0, r1, r2, r3, r4, r5, r6⟩ := BR7.out.q7
       obtain ⟨y0, y1, y2, y3, y4, y5, y6⟩ := BR7.out.z7
       have ln := BN7.out.lt
       have lr := BR7.out.lt
       have hNR : NM ≠ w.heap.size := by omega
       have BR8 := Lib.hid (BR7.out.setF (p := ⟨NM, 5, none⟩) hNR (.int .i64 b))
       have hgNM : g < NM := by omega
       have hwNM : w.heap.size ≤ NM := by omega
       go_wp2
       refine bodyPost_ret (v := mdV q.u q.lo A q.l.length cr K q.cl.length kc I q.im.length ic b q.gu) (by simp [results, Try.results132, go_sem, *]) rfl ?_
       exact ⟨(⟨q.u, q.lo, q.l, q.cl, q.im, b, q.gu⟩ : Md), A, cr, K, kc, I, ic, a7, rfl, by first | omega | (dsimp only; omega), by first | omega | (dsimp only; omega), by first | omega | (dsimp only; omega), by omega, m7_own (own_setF (p := ⟨NM, 5, none⟩) HR7.out (own_nbT HR7.out BN7.out (by decide)) _) (own_nbT (own_setF (p := ⟨NM, 5, none⟩) HR7.out (own_nbT HR7.out BN7.out (by decide)) _) BR8.out (by decide)), m7_own (own_setF (p := ⟨NM, 5, none⟩) HCl7.out (own_nbT HCl7.out BN7.out (by decide)) _) (own_nbT (own_setF (p := ⟨NM, 5, none⟩) HCl7.out (own_nbT HCl7.out BN7.out (by decide)) _) BR8.out (by decide)), m7_own (own_setF (p := ⟨NM, 5, none⟩) HIm7.out (own_nbT HIm7.out BN7.out (by decide)) _) (own_nbT (own_setF (p := ⟨NM, 5, none⟩) HIm7.out (own_nbT HIm7.out BN7.out (by decide)) _) BR8.out (by decide)), cur7 (HC7.out.far (p := ⟨NM, 5, none⟩) hgNM _) (by omega), gr7 (HG7.out.setNew (p := ⟨NM, 5, none⟩) hwNM _) (by omega)⟩
     · have m1 : q.cl.length + 1 ≤ maxLen := by unfold maxLen; omega
       have m2 : (q.cl.length + 1) * 8 ≤ 140737488355328 := by omega
       go_wp2_with (at_builtin; refine wpList_append_own_at _ rfl (.tmp 63) (.tmp 64) 40 rfl w.heap.size 3 i0 _ 1 8 Try.underlying40 hi0 hz0 hz1 hz2 rfl (by decide) (.slice K q.cl.length kc) q.cl.length (intsV q.cl) rfl (HCl6.out.alloc (.cells #[.int .i64 1] 3)) _ 1 1 [.int .i64 1] rfl rfl (cells_new_at _ [.int .i64 1] _ (by simp)) (by simp [Value.oneCell']) m1 m2 (by simp; omega) ?_; intro v' w8 hown hgrow _ hat; obtain ⟨g8, cap8, hv8, _, _⟩ := hown.form (by omega); subst hv8; have BN8 := Blk.grownF (BN6.out.al (.cells #[.int .i64 1] 3)) hgrow (own_nbT (HCl6.out.alloc (.cells #[.int .i64 1] 3)) (BN6.out.al (.cells #[.int .i64 1] 3)) (by decide)); have BR8 := Blk.grownF (BR6.out.al (.cells #[.int .i64 1] 3)) hgrow (own_nbT (HCl6.out.alloc (.cells #[.int .i64 1] 3)) (BR6.out.al (.cells #[.int .i64 1] 3)) (by decide)); obtain ⟨e0, e1, e2, e3, e4, e5, e6⟩ := BN8.q7; obtain ⟨f0, f1, f2, f3, f4, f5, f6⟩ := BN8.z7; obtain ⟨j0, j1, j2, j3, j4, j5, j6⟩ := BR8.q7; obtain ⟨k0, k1, k2, k3, k4, k5, k6⟩ := BR8.z7; have sN8 := BN8.lt; have sR8 := BR8.lt; have HGR := Lib.hid hgrow; have HOW := Lib.hid hown; have BN8 := Lib.hid BN8; have BR8 := Lib.hid BR8; clear hown hgrow hat)
       have hbl : ∀ q', Value.ownBlock (.slice K q.cl.length kc) = some q' → w.heap.size ≤ q' := fun q' hq => (HCl6.out.lt q' hq).1
       have HDI : Value.ownBlock (.slice I q.im.length ic) = none ∨ Value.ownBlock (.slice I q.im.length ic) ≠ Value.ownBlock (.slice K q.cl.length kc) := by
        rcases HDJ.out with h | h
        · cases hI : Value.ownBlock (.slice I q.im.length ic) with
          | none => exact .inl rfl
          | some b => right; rw [h]; simp
        · exact .inr fun e => h e.symm
       have HC8 := Lib.hid ((HC6.out.ext (ext_alloc (ext_refl _) (.cells #[.int .i64 1] 3))).grown HGR.out (fun q' hq => Nat.lt_of_lt_of_le hgS (hbl q' hq)))
       have HG8 := Lib.hid ((HG6.out.trans (Gr.alloc _ _ (.cells #[.int .i64 1] 3))).grown HGR.out hbl)
       have HR8 := Lib.hid ((HR6.out.alloc (.cells #[.int .i64 1] 3)).kept HGR.out (own_neT (HR6.out.alloc (.cells #[.int .i64 1] 3)) (HCl6.out.alloc (.cells #[.int .i64 1] 3)) (by decide)))
       have HIm8 := Lib.hid ((HIm6.out.alloc (.cells #[.int .i64 1] 3)).kept HGR.out HDI)
       have HCl8 := Lib.hid (show w8.ownsRow w.heap.size 3 1 (.slice (some ⟨g8, 0, none⟩) (q.cl.length + 1) cap8) (q.cl.length + 1) (intsV (q.cl ++ [1])) by have h9 := HOW.out; rwa [show intsV q.cl ++ [Value.int .i64 1] = intsV (q.cl ++ [1]) by simp [intsV]] at h9)
       have hNR : NM ≠ w.heap.size := by omega
       have BR9 := Lib.hid (BR8.out.setF (p := ⟨NM, 3, none⟩) hNR (.slice (some ⟨g8, 0, none⟩) (q.cl.length + 1) cap8))
       have hgNM : g < NM := by omega
       have hwNM : w.heap.size ≤ NM := by omega
       have HLEN := Lib.hid (show (q.cl ++ [(1 : Int)]).length = q.cl.length + 1 by simp)
       clear HDI hbl d0 d1 d2 d3 d4 d5 d6 z0 z1 z2 z3 z4 z5 z6 r0 r1 r2 r3 r4 r5 r6 y0 y1 y2 y3 y4 y5 y6 ln lr HGR HOW
       go_wp2
       refine bodyPost_ret (v := mdV q.u q.lo A q.l.length cr (some ⟨g8, 0, none⟩) (q.cl.length + 1) cap8 I q.im.length ic q.be q.gu) (by simp [results, Try.results132, go_sem, *]) rfl ?_
       refine ⟨(⟨q.u, q.lo, q.l, q.cl ++ [1], q.im, q.be, q.gu⟩ : Md), A, cr, (some ⟨g8, 0, none⟩), cap8, I, ic, a6, ?_, by dsimp only; omega, by dsimp only; rw [HLEN.out]; omega, by dsimp only; omega, by omega, ?_, ?_, ?_, cur7 (HC8.out.far (p := ⟨NM, 3, none⟩) hgNM _) (by omega), gr7 (HG8.out.setNew (p := ⟨NM, 3, none⟩) hwNM _) (by omega)⟩
       · dsimp only
         rw [HLEN.out]
       · exact m7_own (own_setF (p := ⟨NM, 3, none⟩) HR8.out (own_nbT HR8.out BN8.out (by decide)) _) (own_nbT (own_setF (p := ⟨NM, 3, none⟩) HR8.out (own_nbT HR8.out BN8.out (by decide)) _) BR9.out (by decide))
       · dsimp only
         rw [HLEN.out]
         exact m7_own (own_setF (p := ⟨NM, 3, none⟩) HCl8.out (own_nbT HCl8.out BN8.out (by decide)) _) (own_nbT (own_setF (p := ⟨NM, 3, none⟩) HCl8.out (own_nbT HCl8.out BN8.out (by decide)) _) BR9.out (by decide))
       · exact m7_own (own_setF (p := ⟨NM, 3, none⟩) HIm8.out (own_nbT HIm8.out BN8.out (by decide)) _) (own_nbT (own_setF (p := ⟨NM, 3, none⟩) HIm8.out (own_nbT HIm8.out BN8.out (by decide)) _) BR9.out (by decide))
     · have b0 : (z == 0) = false := by simpa using h0
       have b1 : (z == 1) = false := by simpa using h1
       have b2 : (z == 2) = false := by simpa using h2
       have b3 : (z == 3) = false := by simpa using h3
       clear h0 h1 h2 h3
       go_wp2
       refine bodyPost_ret (v := mdV q.u q.lo A q.l.length cr K q.cl.length kc I q.im.length ic q.be q.gu) (by simp [results, Try.results132, go_sem, *]) rfl ?_
       exact ⟨q, A, cr, K, kc, I, ic, a6, rfl, by first | omega | (dsimp only; omega), by first | omega | (dsimp only; omega), by first | omega | (dsimp only; omega), by omega, m7_own (HR6.out) (own_nbT (HR6.out) BR6.out (by decide)), m7_own (HCl6.out) (own_nbT (HCl6.out) BR6.out (by decide)), m7_own (HIm6.out) (own_nbT (HIm6.out) BR6.out (by decide)), cur7 (HC6.out) (by omega), gr7 (HG6.out) (by omega)⟩

end Go.Proofs.Ytlkfffohjeoooaa
