/- The drawing for the law of minds. -/
import Derived.Test.YtlkfffohjeoooaaVFdN
namespace Go.Proofs.Ytlkfffohjeoooaa
open Go.RowKit
set_option linter.unusedVariables false
set_option linter.unusedSimpArgs false
theorem Code.cur2 {w : World} {n : Nat} {A : Option Addr} (h : Code w w.heap.size A n) (hn : n ≤ 1000000000) (c : Nat) (o o2 : Obj) : CurAt (((w.alloc o).alloc o2).alloc (.cells #[.slice A n c, .int .i64 0, .int .u64 0] 125)) (w.heap.size + 1 + 1) 0 := by
 have := Code.cur ((h.below (ext_alloc (ext_alloc (ext_refl _) o) o2)).more (B' := ((w.alloc o).alloc o2).heap.size) (by simp; omega)) hn c
 simpa using this
set_option maxRecDepth 100000 in
set_option maxHeartbeats 4000000 in
theorem drawNewMind_any (Ac : Option Addr) (nc cc : Nat) (w : World) (h : Code w w.heap.size Ac nc) (hn : nc ≤ 65536) :
 Calls Try.prog 68 #[.slice Ac nc cc] w fun e w' => ∃ (u lo : Int) (l : List R2) (A : Option Addr) (c : Nat), e = .returned (frV u lo A l.length c) ∧ FrIn u lo l ∧ w'.ownsRow w.heap.size 155 2 (.slice A l.length c) l.length (rowsV2 l) ∧ Below w.heap.size w w' := by
 have HC := Lib.hid (h.cur1 (by omega) cc (.cells #[.int .i64 0, .int .i64 0, .slice none 0 0] 29))
 have BR0 := Lib.hid ((Blk.born w #[.int .i64 0, .int .i64 0, .slice none 0 0] 29 (H := w.heap.size) rfl).al (.cells #[.slice Ac nc cc, .int .i64 0, .int .u64 0] 125))
 have hbx := Lib.hid (ext_alloc (ext_alloc (ext_refl w) (.cells #[.int .i64 0, .int .i64 0, .slice none 0 0] 29)) (.cells #[.slice Ac nc cc, .int .i64 0, .int .u64 0] 125))
 clear h
 go_enter Try.func68, Try.ntmps68
 go_wp2_with fail
 refine (stdFrame_any _ 0 _ HC.out (by omega)).mono ?_
 rintro e w1 ⟨u, lo, l, A, c, a1, rfl, hIN, ha1, ho1, hc1, hg1⟩
 have BR1 := Lib.hid (BR0.out.gr hg1 (by omega))
 have HR1 := Lib.hid (own_base (base' := w.heap.size) ho1 (by simp <;> omega))
 have HB1 := Lib.hid (Gr.below hbx.out hg1 (Nat.le_succ _))
 have HIN := Lib.hid hIN
 clear ho1 hc1 hg1 hIN
 obtain ⟨r0, r1, r2⟩ := BR1.out.q3
 obtain ⟨y0, y1, y2⟩ := BR1.out.z3
 have lr := BR1.out.lt
 go_wp2
 refine bodyPost_ret (v := frV u lo A l.length c) (by simp [results, Try.results68, go_sem, *]) rfl ?_
 exact ⟨u, lo, l, A, c, rfl, HIN.out, fill_own' HR1.out (own_nbT HR1.out BR1.out (by decide)), fill_below HB1.out (Nat.le_refl _)⟩
def noU8 : Value → Bool
 | .int .u8 _ => false
 | _ => true
/-- a store into a block that holds no bytes: the cursor stays -/
theorem CurAt.side {w : World} {g a b k : Nat} {T : TypeId} {cs : Array Value} {u : Value} (h : CurAt w g a) (hB : Blk w b T cs) (hne : b ≠ g) (hcs : cs.all noU8 = true) : CurAt (w.setCell ⟨b, k, none⟩ u) g a := by
 obtain ⟨A, n, c, s, h1, h2, h3⟩ := h
 refine ⟨A, n, c, s, h1.setF (p := ⟨b, k, none⟩) hne u, h2, fun hn => ?_⟩
 obtain ⟨b', o, e, hlt, hc⟩ := h3 hn
 refine ⟨b', o, e, hlt, fun i hi => ?_⟩
 obtain ⟨z, hz, h01⟩ := hc i hi
 have hbb : b ≠ b' := by
  intro e
  subst e
  rw [hB.cell] at hz
  obtain ⟨hlt', hv⟩ := Array.getElem?_eq_some_iff.1 hz
  have := Array.all_eq_true.1 hcs (o + i) hlt'
  rw [hv] at this
  cases this
 exact ⟨z, (World.cell?_setCell_far w ⟨b, k, none⟩ ⟨b', o + i, none⟩ u hbb).trans hz, h01⟩
theorem side7 {w : World} {g a b : Nat} {T : TypeId} {u0 u1 u2 u3 u4 u5 u6 c0 c1 c2 c3 c4 c5 c6 : Value} (h : CurAt w g a) (hB : Blk w b T #[c0, c1, c2, c3, c4, c5, c6]) (hne : b ≠ g) (hcs : (#[c0, c1, c2, c3, c4, c5, c6] : Array Value).all noU8 = true) (h0 : noU8 u0 = true) (h1 : noU8 u1 = true) (h2 : noU8 u2 = true) (h3 : noU8 u3 = true) (h4 : noU8 u4 = true) (h5 : noU8 u5 = true) : CurAt (((((((w.setCell ⟨b, 0, none⟩ u0).setCell ⟨b, 1, none⟩ u1).setCell ⟨b, 2, none⟩ u2).setCell ⟨b, 3, none⟩ u3).setCell ⟨b, 4, none⟩ u4).setCell ⟨b, 5, none⟩ u5).setCell ⟨b, 6, none⟩ u6) g a := by
 have hc : noU8 c0 = true ∧ noU8 c1 = true ∧ noU8 c2 = true ∧ noU8 c3 = true ∧ noU8 c4 = true ∧ noU8 c5 = true ∧ noU8 c6 = true := by simpa using hcs
 obtain ⟨q0, q1, q2, q3, q4, q5, q6⟩ := hc
 have C1 := CurAt.side (k := 0) (u := u0) h hB hne (by simp [q0, q1, q2, q3, q4, q5, q6])
 have B1 : Blk (w.setCell ⟨b, 0, none⟩ u0) b T #[u0, c1, c2, c3, c4, c5, c6] := hB.set_ 0 u0
 have C2 := CurAt.side (k := 1) (u := u1) C1 B1 hne (by simp [h0, q1, q2, q3, q4, q5, q6])
 have B2 : Blk ((w.setCell ⟨b, 0, none⟩ u0).setCell ⟨b, 1, none⟩ u1) b T #[u0, u1, c2, c3, c4, c5, c6] := B1.set_ 1 u1
 have C3 := CurAt.side (k := 2) (u := u2) C2 B2 hne (by simp [h0, h1, q2, q3, q4, q5, q6])
 have B3 : Blk (((w.setCell ⟨b, 0, none⟩ u0).setCell ⟨b, 1, none⟩ u1).setCell ⟨b, 2, none⟩ u2) b T #[u0, u1, u2, c3, c4, c5, c6] := B2.set_ 2 u2
 have C4 := CurAt.side (k := 3) (u := u3) C3 B3 hne (by simp [h0, h1, h2, q3, q4, q5, q6])
 have B4 : Blk ((((w.setCell ⟨b, 0, none⟩ u0).setCell ⟨b, 1, none⟩ u1).setCell ⟨b, 2, none⟩ u2).setCell ⟨b, 3, none⟩ u3) b T #[u0, u1, u2, u3, c4, c5, c6] := B3.set_ 3 u3
 have C5 := CurAt.side (k := 4) (u := u4) C4 B4 hne (by simp [h0, h1, h2, h3, q4, q5, q6])
 have B5 : Blk (((((w.setCell ⟨b, 0, none⟩ u0).setCell ⟨b, 1, none⟩ u1).setCell ⟨b, 2, none⟩ u2).setCell ⟨b, 3, none⟩ u3).setCell ⟨b, 4, none⟩ u4) b T #[u0, u1, u2, u3, u4, c5, c6] := B4.set_ 4 u4
 have C6 := CurAt.side (k := 5) (u := u5) C5 B5 hne (by simp [h0, h1, h2, h3, h4, q5, q6])
 have B6 : Blk ((((((w.setCell ⟨b, 0, none⟩ u0).setCell ⟨b, 1, none⟩ u1).setCell ⟨b, 2, none⟩ u2).setCell ⟨b, 3, none⟩ u3).setCell ⟨b, 4, none⟩ u4).setCell ⟨b, 5, none⟩ u5) b T #[u0, u1, u2, u3, u4, u5, c6] := B5.set_ 5 u5
 have C7 := CurAt.side (k := 6) (u := u6) C6 B6 hne (by simp [h0, h1, h2, h3, h4, h5, q6])
 exact C7
theorem side2 {w : World} {g a b : Nat} {T : TypeId} {u0 u1 c0 c1 : Value} (h : CurAt w g a) (hB : Blk w b T #[c0, c1]) (hne : b ≠ g) (hcs : (#[c0, c1] : Array Value).all noU8 = true) (h0 : noU8 u0 = true) : CurAt ((w.setCell ⟨b, 0, none⟩ u0).setCell ⟨b, 1, none⟩ u1) g a := by
 have hc : noU8 c0 = true ∧ noU8 c1 = true := by simpa using hcs
 obtain ⟨q0, q1⟩ := hc
 have C1 := CurAt.side (k := 0) (u := u0) h hB hne (by simp [q0, q1])
 have B1 : Blk (w.setCell ⟨b, 0, none⟩ u0) b T #[u0, c1] := hB.set_ 0 u0
 have C2 := CurAt.side (k := 1) (u := u1) C1 B1 hne (by simp [h0, q1])
 exact C2
def FrK (S g : Nat) (R0 R1 : Nat) (q : Md) (A : Option Addr) (cr : Nat) (K : Option Addr) (kc : Nat) (I : Option Addr) (ic : Nat) (vs : Nat → Value) (wx : World) : Nat → Prop
 | 0 => vs 11 = mdV q.u q.lo A q.l.length cr K q.cl.length kc I q.im.length ic q.be q.gu
 | 1 => vs 12 = .pointer (some ⟨g, 0, none⟩)
 | 2 => vs 13 = mdV q.u q.lo A q.l.length cr K q.cl.length kc I q.im.length ic q.be q.gu
 | 3 => ∃ (kd : Int) (v : Int), vs 14 = .agg #[.int .i64 kd, .int .i64 v]
 | 4 => (wx.ownsRow S 155 2 (.slice A q.l.length cr) q.l.length (rowsV2 q.l)) ∧ (wx.ownsRow S 3 1 (.slice K q.cl.length kc) q.cl.length (intsV q.cl)) ∧ (wx.ownsRow S 3 1 (.slice I q.im.length ic) q.im.length (intsV q.im)) ∧ (Blk wx R0 47 #[.int .i64 q.u, .int .i64 q.lo, .slice A q.l.length cr, .slice K q.cl.length kc, .slice I q.im.length ic, .int .i64 q.be, .int .i64 q.gu]) ∧ (R0 < g)
 | 5 => ∃ (kd : Int) (v : Int), (Blk wx R1 51 #[.int .i64 kd, .int .i64 v]) ∧ (R1 < g)
 | _ => True
def FrKU : Nat → List Nat
 | 0 => [11]
 | 1 => [12]
 | 2 => [13]
 | 3 => [14]
 | 4 => []
 | 5 => []
 | _ => []
def FrKR (g : Nat) (R0 R1 : Nat) (q : Md) (A : Option Addr) (cr : Nat) (K : Option Addr) (kc : Nat) (I : Option Addr) (ic : Nat) (i : Nat) (wx wy : World) : Prop := if i = 4 then KeepW 47 wx wy else if i = 5 then KeepW 51 wx wy else Gr g wx wy
theorem FrK_gr {S g : Nat} {R0 R1 : Nat} {q : Md} {A : Option Addr} {cr : Nat} {K : Option Addr} {kc : Nat} {I : Option Addr} {ic : Nat} (hgS : g < S) {vs us : Nat → Value} {wx wy : World} {jN : Nat} (hGG : FrK S g R0 R1 q A cr K kc I ic vs wx jN) (haG : ∀ d ∈ FrKU jN, us d = vs d) (hbG : Gr g wx wy) : FrK S g R0 R1 q A cr K kc I ic us wy jN := by
 match jN, hGG, haG with
 | 0, hGG, haG =>
   exact (haG 11 (by simp [FrKU])).trans hGG
 | 1, hGG, haG =>
   exact (haG 12 (by simp [FrKU])).trans hGG
 | 2, hGG, haG =>
   exact (haG 13 (by simp [FrKU])).trans hGG
 | 3, hGG, haG =>
   obtain ⟨xG0, xG1, eG⟩ := hGG
   exact ⟨xG0, xG1, (haG 14 (by simp [FrKU])).trans eG⟩
 | 4, hGG, haG =>
   obtain ⟨fG0, fG1, fG2, fG3, fG4⟩ := hGG
   exact ⟨own_gr fG0 hbG hgS, own_gr fG1 hbG hgS, own_gr fG2 hbG hgS, fG3.gr hbG (by omega), fG4⟩
 | 5, hGG, haG =>
   obtain ⟨xG0, xG1, fG0, fG1⟩ := hGG
   exact ⟨xG0, xG1, fG0.gr hbG (by omega), fG1⟩
 | jN + 6, _, _ => trivial
theorem FrK_4 {S g : Nat} {R0 R1 : Nat} {q : Md} {A : Option Addr} {cr : Nat} {K : Option Addr} {kc : Nat} {I : Option Addr} {ic : Nat} (hgS : g < S) {vs us : Nat → Value} {wx wy : World} {jN : Nat} (hneG : jN ≠ 4) (hGG : FrK S g R0 R1 q A cr K kc I ic vs wx jN) (haG : ∀ d ∈ FrKU jN, us d = vs d) (hbG : KeepW 47 wx wy) : FrK S g R0 R1 q A cr K kc I ic us wy jN := by
 match jN, hGG, haG, hneG with
 | 0, hGG, haG, hneG =>
   exact (haG 11 (by simp [FrKU])).trans hGG
 | 1, hGG, haG, hneG =>
   exact (haG 12 (by simp [FrKU])).trans hGG
 | 2, hGG, haG, hneG =>
   exact (haG 13 (by simp [FrKU])).trans hGG
 | 3, hGG, haG, hneG =>
   obtain ⟨xG0, xG1, eG⟩ := hGG
   exact ⟨xG0, xG1, (haG 14 (by simp [FrKU])).trans eG⟩
 | 4, hGG, haG, hneG =>
   exact absurd rfl hneG
 | 5, hGG, haG, hneG =>
   obtain ⟨xG0, xG1, fG0, fG1⟩ := hGG
   exact ⟨xG0, xG1, hbG.2.1 _ _ _ fG0 (by decide), fG1⟩
 | jN + 6, _, _, _ => trivial
theorem FrK_5 {S g : Nat} {R0 R1 : Nat} {q : Md} {A : Option Addr} {cr : Nat} {K : Option Addr} {kc : Nat} {I : Option Addr} {ic : Nat} (hgS : g < S) {vs us : Nat → Value} {wx wy : World} {jN : Nat} (hneG : jN ≠ 5) (hGG : FrK S g R0 R1 q A cr K kc I ic vs wx jN) (haG : ∀ d ∈ FrKU jN, us d = vs d) (hbG : KeepW 51 wx wy) : FrK S g R0 R1 q A cr K kc I ic us wy jN := by
 match jN, hGG, haG, hneG with
 | 0, hGG, haG, hneG =>
   exact (haG 11 (by simp [FrKU])).trans hGG
 | 1, hGG, haG, hneG =>
   exact (haG 12 (by simp [FrKU])).trans hGG
 | 2, hGG, haG, hneG =>
   exact (haG 13 (by simp [FrKU])).trans hGG
 | 3, hGG, haG, hneG =>
   obtain ⟨xG0, xG1, eG⟩ := hGG
   exact ⟨xG0, xG1, (haG 14 (by simp [FrKU])).trans eG⟩
 | 4, hGG, haG, hneG =>
   obtain ⟨fG0, fG1, fG2, fG3, fG4⟩ := hGG
   exact ⟨hbG.own fG0 (by decide), hbG.own fG1 (by decide), hbG.own fG2 (by decide), hbG.2.1 _ _ _ fG3 (by decide), fG4⟩
 | 5, hGG, haG, hneG =>
   exact absurd rfl hneG
 | jN + 6, _, _, _ => trivial
def FrKP (j i : Nat) : Bool := false
theorem FrK_keep {S g : Nat} {R0 R1 : Nat} {q : Md} {A : Option Addr} {cr : Nat} {K : Option Addr} {kc : Nat} {I : Option Addr} {ic : Nat} (hgS : g < S) {vs us : Nat → Value} {wx wy : World} {iN jN : Nat} (hneG : iN ≠ jN) (hdpG : FrKP jN iN = false) (hGG : FrK S g R0 R1 q A cr K kc I ic vs wx jN) (haG : ∀ d ∈ FrKU jN, us d = vs d) (hbG : FrKR g R0 R1 q A cr K kc I ic iN wx wy) : FrK S g R0 R1 q A cr K kc I ic us wy jN := by
 unfold FrKR at hbG
 by_cases h4 : iN = 4
 · rw [if_pos h4] at hbG
   exact FrK_4 hgS (by omega) hGG haG hbG
 rw [if_neg h4] at hbG
 by_cases h5 : iN = 5
 · rw [if_pos h5] at hbG
   exact FrK_5 hgS (by omega) hGG haG hbG
 rw [if_neg h5] at hbG
 exact FrK_gr hgS hGG haG hbG
set_option maxRecDepth 100000 in
set_option maxHeartbeats 8000000 in
theorem drawStepMind_any (Ac : Option Addr) (nc cc : Nat) (w : World) (h : Code w w.heap.size Ac nc) (hn : nc ≤ 65536) :
 Calls Try.prog 63 #[.slice Ac nc cc] w fun e w' => ∃ (q : Md) (A : Option Addr) (cr : Nat) (K : Option Addr) (kc : Nat) (I : Option Addr) (ic : Nat) (kd v : Int), e = .returned (.tuple #[mdV q.u q.lo A q.l.length cr K q.cl.length kc I q.im.length ic q.be q.gu, .agg #[.int .i64 kd, .int .i64 v]]) ∧ q.l.length ≤ 9 ∧ q.cl.length ≤ 9 ∧ q.im.length ≤ 9 ∧ w'.ownsRow w.heap.size 155 2 (.slice A q.l.length cr) q.l.length (rowsV2 q.l) ∧ w'.ownsRow w.heap.size 3 1 (.slice K q.cl.length kc) q.cl.length (intsV q.cl) ∧ w'.ownsRow w.heap.size 3 1 (.slice I q.im.length ic) q.im.length (intsV q.im) ∧ Below w.heap.size w w' := by
 have HC := Lib.hid (h.cur2 (by omega) cc (.cells #[.int .i64 0, .int .i64 0, .slice none 0 0, .slice none 0 0, .slice none 0 0, .int .i64 0, .int .i64 0] 47) (.cells #[.int .i64 0, .int .i64 0] 51))
 have BR0 := Lib.hid (((Blk.born w #[.int .i64 0, .int .i64 0, .slice none 0 0, .slice none 0 0, .slice none 0 0, .int .i64 0, .int .i64 0] 47 (H := w.heap.size) rfl).al (.cells #[.int .i64 0, .int .i64 0] 51)).al (.cells #[.slice Ac nc cc, .int .i64 0, .int .u64 0] 125))
 have BS0 := Lib.hid ((Blk.born (w.alloc (.cells #[.int .i64 0, .int .i64 0, .slice none 0 0, .slice none 0 0, .slice none 0 0, .int .i64 0, .int .i64 0] 47)) #[.int .i64 0, .int .i64 0] 51 (H := w.heap.size + 1) (by simp)).al (.cells #[.slice Ac nc cc, .int .i64 0, .int .u64 0] 125))
 have hbx := Lib.hid (ext_alloc (ext_alloc (ext_alloc (ext_refl w) (.cells #[.int .i64 0, .int .i64 0, .slice none 0 0, .slice none 0 0, .slice none 0 0, .int .i64 0, .int .i64 0] 47)) (.cells #[.int .i64 0, .int .i64 0] 51)) (.cells #[.slice Ac nc cc, .int .i64 0, .int .u64 0] 125))
 obtain ⟨g, hg⟩ : ∃ g, g = w.heap.size + 1 + 1 := ⟨_, rfl⟩
 rw [← hg] at HC
 have hwg : w.heap.size + 1 < g := by omega
 clear h
 go_enter Try.func63, Try.ntmps63
 go_wp2_with fail
 rw [← hg]
 have HGE := Lib.hid hg
 clear hg
 refine (drawMind_any g 0 _ HC.out (by omega)).mono ?_
 rintro e w1 ⟨q, A, cr, K, kc, I, ic, a1, rfl, hl9, hc9, hi9, ha1, hr1, hk1, hi1, hc1, hg1⟩
 have hs1 := hg1.size
 have hs2 := hbx.out.size
 obtain ⟨NM, hNM⟩ : ∃ N, N = w1.heap.size := ⟨_, rfl⟩
 obtain ⟨W, hW⟩ : ∃ y : World, y = w1.alloc (.cells #[.int .i64 q.u, .int .i64 q.lo, .slice A q.l.length cr, .slice K q.cl.length kc, .slice I q.im.length ic, .int .i64 q.be, .int .i64 q.gu] 47) := ⟨_, rfl⟩
 have hRg : w.heap.size ≠ g := by omega
 have hSg : w.heap.size + 1 ≠ g := by omega
 have hgl : g < NM := by have := hc1.lt; omega
 have hNg : NM ≠ g := by omega
 have hNR : NM ≠ w.heap.size := by omega
 have hNS : NM ≠ w.heap.size + 1 := by omega
 have BN1 := Lib.hid (show Blk W NM 47 #[.int .i64 q.u, .int .i64 q.lo, .slice A q.l.length cr, .slice K q.cl.length kc, .slice I q.im.length ic, .int .i64 q.be, .int .i64 q.gu] by rw [hW]; exact Blk.born w1 _ 47 (H := NM) hNM)
 have BR1 := Lib.hid (show Blk W w.heap.size 47 #[.int .i64 0, .int .i64 0, .slice none 0 0, .slice none 0 0, .slice none 0 0, .int .i64 0, .int .i64 0] by rw [hW]; exact (BR0.out.gr hg1 hRg).al _)
 have BS1 := Lib.hid (show Blk W (w.heap.size + 1) 51 #[.int .i64 0, .int .i64 0] by rw [hW]; exact (BS0.out.gr hg1 hSg).al _)
 have HR1 := Lib.hid (show W.ownsRow (g + 1) 155 2 (.slice A q.l.length cr) q.l.length (rowsV2 q.l) by rw [hW]; exact (own_base hr1 (by rw [HGE.out]; simp <;> omega)).alloc _)
 have HK1 := Lib.hid (show W.ownsRow (g + 1) 3 1 (.slice K q.cl.length kc) q.cl.length (intsV q.cl) by rw [hW]; exact (own_base hk1 (by rw [HGE.out]; simp <;> omega)).alloc _)
 have HI1 := Lib.hid (show W.ownsRow (g + 1) 3 1 (.slice I q.im.length ic) q.im.length (intsV q.im) by rw [hW]; exact (own_base hi1 (by rw [HGE.out]; simp <;> omega)).alloc _)
 have HC1 := Lib.hid (show CurAt W g a1 by rw [hW]; exact hc1.ext (ext_alloc (ext_refl _) _))
 have HG1 := Lib.hid (show Gr g w W by rw [hW]; exact ((Gr.of_ext hbx.out).trans hg1).trans (Gr.alloc _ _ _))
 go_upto_region 3 with fail
 rw [← hNM, ← hW]
 clear hNM hW hr1 hk1 hi1 hc1 hg1 hs1 hs2 HC BR0 BS0 hbx HGE
 obtain ⟨m0, m1, m2, m3, m4, m5, m6⟩ := BN1.out.q7
 have lm := BN1.out.lt
 have hlR := BR1.out.lt
 have hlS := BS1.out.lt
 refine wp_region_m (by kernel_rfl) (by kernel_rfl) [11, 12, 13, 14] FrKU (by kernel_rfl) (by decide) 15 (by kernel_rfl) (by simp) (fun ra0 => ra0.eval (.tmp 2) = .pointer (some ⟨w.heap.size, 0, none⟩) ∧ ra0.eval (.tmp 3) = .pointer (some ⟨w.heap.size + 1, 0, none⟩) ∧ ra0.eval (.tmp 4) = .pointer (some ⟨g, 0, none⟩) ∧ ra0.eval (.tmp 5) = .pointer (some ⟨NM, 0, none⟩)) ⟨by kernel_rfl, by kernel_rfl, by kernel_rfl, by kernel_rfl⟩ FrKP (by kernel_rfl) (ICur 10 g a1 w W 4 5 (fun wx => Blk wx (w.heap.size + 1) 51 #[.int .i64 0, .int .i64 0])) (FrKR g w.heap.size (w.heap.size + 1) q A cr K kc I ic) (fun jN vs wx => FrK (g + 1) g w.heap.size (w.heap.size + 1) q A cr K kc I ic vs wx jN) ⟨a1, by omega, (HC1.out).ext (ext_drew (ext_refl _)), (HG1.out).trans (Gr.of_ext (ext_drew (ext_refl _))), Nat.le_refl _, fun _ => Gr.of_ext (ext_drew (ext_refl _)), fun _ => BS1.out⟩ (fun _ _ _ _ _ _ h0 hd h1 h2 h3 => FrK_keep (Nat.lt_succ_self g) h0 hd h1 h2 h3) ?_ ?_
 · intro ra0 hE ri ro ho Qx vs wx rb KX kk rL hI hkk hnl hLt hcl hdep rb0 rbk HK
   repeat (rename_i hz9; clear hz9)
   obtain ⟨rq2, rq3, rq4, rq5⟩ := hE
   have hi : ri < 6 := by
    rcases Nat.lt_or_ge ri 6 with h | h
    · exact h
    · rw [Array.getElem?_eq_none (by simpa using h)] at ho; cases ho
   have hkk : kk < 6 := by simpa using hkk
   obtain ⟨ax, hax, hcx, hGw, hsz, hpre, hBx⟩ := hI
   have HQ : ∀ w' a2, CurAt w' g a2 → a2 ≤ ax + 10 → Gr g wx w' → ICur 10 g a1 w W 4 5 (fun wx => Blk wx (w.heap.size + 1) 51 #[.int .i64 0, .int .i64 0]) (kk + 1) (fun j => j = ri ∨ rL j) w' := fun w' a2 h1 h2 h3 => ⟨a2, by omega, h1, hGw.trans h3, Nat.le_trans hsz h3.size, fun hn => (hpre (fun x => hn (.inr x))).trans h3, fun hn => (fun hB => hB.gr h3 hSg) (hBx (fun x => hn (.inr x)))⟩
   have HQX := Lib.hid HQ
   have HCX := Lib.hid hcx
   have HGW := Lib.hid hGw
   have HPRE := Lib.hid hpre
   have HBX := Lib.hid hBx
   have HCL := Lib.hid hcl
   clear HQ hcx hGw hpre hBx hcl
   rcases (show ri = 0 ∨ ri = 1 ∨ ri = 2 ∨ ri = 3 ∨ ri = 4 ∨ ri = 5 by omega) with rfl | rfl | rfl | rfl | rfl | rfl
   · simp only [List.getElem?_toArray, List.getElem?_cons_succ, List.getElem?_cons_zero, Option.some.injEq] at ho
     subst ho
     have HKX := Lib.hid HK
     clear HK
     have p5 := (rb0 5 (by decide)).trans rq5
     have hNL : ¬ rL 4 := fun h => hnl (HCL.out 4 _ 0 rfl h (by kernel_rfl))
     have HGP := Lib.hid (HPRE.out hNL)
     obtain ⟨x0, x1, x2, x3, x4, x5, x6⟩ := (BN1.out.gr HGP.out hNg).q7
     have lnx := (BN1.out.gr HGP.out hNg).lt
     clear rb0 rbk hdep
     go_simp
     exact HKX.out _ _ (HQX.out _ ax HCX.out (by omega) (Gr.refl _ _)) (by unfold FrKR; rw [if_neg (by decide)]; rw [if_neg (by decide)]; exact Gr.refl _ _) (upd_same _ _ _)
   · simp only [List.getElem?_toArray, List.getElem?_cons_succ, List.getElem?_cons_zero, Option.some.injEq] at ho
     subst ho
     have HKX := Lib.hid HK
     clear HK
     have p4 := (rb0 4 (by decide)).trans rq4
     clear rb0 rbk hdep
     go_simp
     exact HKX.out _ _ (HQX.out _ ax HCX.out (by omega) (Gr.refl _ _)) (by unfold FrKR; rw [if_neg (by decide)]; rw [if_neg (by decide)]; exact Gr.refl _ _) (upd_same _ _ _)
   · simp only [List.getElem?_toArray, List.getElem?_cons_succ, List.getElem?_cons_zero, Option.some.injEq] at ho
     subst ho
     have HKX := Lib.hid HK
     clear HK
     have p5 := (rb0 5 (by decide)).trans rq5
     have hNL : ¬ rL 4 := fun h => hnl (HCL.out 3 _ 2 rfl (HCL.out 4 _ 3 rfl h (by kernel_rfl)) (by kernel_rfl))
     have HGP := Lib.hid (HPRE.out hNL)
     obtain ⟨x0, x1, x2, x3, x4, x5, x6⟩ := (BN1.out.gr HGP.out hNg).q7
     have lnx := (BN1.out.gr HGP.out hNg).lt
     clear rb0 rbk hdep
     go_simp
     exact HKX.out _ _ (HQX.out _ ax HCX.out (by omega) (Gr.refl _ _)) (by unfold FrKR; rw [if_neg (by decide)]; rw [if_neg (by decide)]; exact Gr.refl _ _) (upd_same _ _ _)
   · simp only [List.getElem?_toArray, List.getElem?_cons_succ, List.getElem?_cons_zero, Option.some.injEq] at ho
     subst ho
     have HKX := Lib.hid HK
     clear HK
     have e1 : vs 12 = .pointer (some ⟨g, 0, none⟩) := (hdep 1 (by kernel_rfl)).2
     have rr1 := (rbk 12 (by decide)).trans e1
     have E1 := Lib.hid e1
     clear e1
     have e2 : vs 13 = mdV q.u q.lo A q.l.length cr K q.cl.length kc I q.im.length ic q.be q.gu := (hdep 2 (by kernel_rfl)).2
     have rr2 := (rbk 13 (by decide)).trans e2
     have E2 := Lib.hid e2
     clear e2
     clear rb0 rbk hdep
     go_simp
     refine (mindStep_any g ax q.u q.lo A q.l.length cr K q.cl.length kc I q.im.length ic q.be q.gu _ HCX.out (by omega) (by omega)).mono ?_
     rintro e w' ⟨kd, v, a2, rfl, _, _, _, _, ha2, hc2, hg2⟩
     go_simp
     exact HKX.out _ _ (HQX.out _ a2 hc2 (by omega) hg2) (by unfold FrKR; rw [if_neg (by decide)]; rw [if_neg (by decide)]; exact hg2) (⟨kd, v, upd_same _ _ _⟩)
   · simp only [List.getElem?_toArray, List.getElem?_cons_succ, List.getElem?_cons_zero, Option.some.injEq] at ho
     subst ho
     have HKX := Lib.hid HK
     clear HK
     have e0 : vs 11 = mdV q.u q.lo A q.l.length cr K q.cl.length kc I q.im.length ic q.be q.gu := (hdep 0 (by kernel_rfl)).2
     have rr0 := (rbk 11 (by decide)).trans e0
     have E0 := Lib.hid e0
     clear e0
     obtain ⟨kd, v, e3⟩ := (hdep 3 (by kernel_rfl)).2
     have rr3 := (rbk 14 (by decide)).trans e3
     have E3 := Lib.hid e3
     clear e3
     have p2 := (rb0 2 (by decide)).trans rq2
     have hNL : ¬ rL 4 := hnl
     have HGP := Lib.hid (HPRE.out hNL)
     obtain ⟨x0, x1, x2, x3, x4, x5, x6⟩ := (BN1.out.gr HGP.out hNg).q7
     have lnx := (BN1.out.gr HGP.out hNg).lt
     have HBF := Lib.hid (HBX.out (fun h5 => hnl (HCL.out 5 _ 4 rfl h5 (by kernel_rfl))))
     have HZ := Lib.hid (BR1.out.gr HGP.out hRg)
     have HRo := Lib.hid (own_gr HR1.out HGP.out (Nat.lt_succ_self g))
     have HKo := Lib.hid (own_gr HK1.out HGP.out (Nat.lt_succ_self g))
     have HIo := Lib.hid (own_gr HI1.out HGP.out (Nat.lt_succ_self g))
     clear x0 x1 x2 x3 x4 x5 x6 lnx
     obtain ⟨yB0, yB1, yB2, yB3, yB4, yB5, yB6⟩ := HZ.out.q7
     obtain ⟨zB0, zB1, zB2, zB3, zB4, zB5, zB6⟩ := HZ.out.z7
     have hlr := HZ.out.lt
     clear rb0 rbk hdep
     go_simp
     have HKW := Lib.hid (keep7 (a0 := .int .i64 q.u) (a1 := .int .i64 q.lo) (a2 := .slice A q.l.length cr) (a3 := .slice K q.cl.length kc) (a4 := .slice I q.im.length ic) (a5 := .int .i64 q.be) (a6 := .int .i64 q.gu) HZ.out)
     exact HKX.out undef _ ⟨ax, by omega, side7 HCX.out HZ.out hRg (by simp [noU8]) rfl rfl rfl rfl rfl rfl, gr7 HGW.out (Nat.le_refl _), by simpa using hsz, fun hn => (hn (.inl rfl)).elim, fun hn => (m7_far HBF.out (by omega))⟩ (by unfold FrKR; rw [if_pos rfl]; exact HKW.out) ⟨HKW.out.own HRo.out (by decide), HKW.out.own HKo.out (by decide), HKW.out.own HIo.out (by decide), put7 HZ.out, by omega⟩
   · simp only [List.getElem?_toArray, List.getElem?_cons_succ, List.getElem?_cons_zero, Option.some.injEq] at ho
     subst ho
     have HKX := Lib.hid HK
     clear HK
     obtain ⟨kd, v, e3⟩ := (hdep 3 (by kernel_rfl)).2
     have rr3 := (rbk 14 (by decide)).trans e3
     have E3 := Lib.hid e3
     clear e3
     have p3 := (rb0 3 (by decide)).trans rq3
     have h4 := (hdep 4 (by kernel_rfl)).1
     have HBF := Lib.hid (HBX.out hnl)
     obtain ⟨yB0, yB1⟩ := HBF.out.q2
     obtain ⟨zB0, zB1⟩ := HBF.out.z2
     have hlr := HBF.out.lt
     clear rb0 rbk hdep
     go_simp
     exact HKX.out undef _ ⟨ax, by omega, side2 HCX.out HBF.out hSg (by simp [noU8]) rfl, (HGW.out.setNew (p := ⟨w.heap.size + 1, 0, none⟩) (by show w.heap.size ≤ w.heap.size + 1; omega) _).setNew (p := ⟨w.heap.size + 1, 1, none⟩) (by show w.heap.size ≤ w.heap.size + 1; omega) _, by simpa using hsz, fun hn => (hn (.inr h4)).elim, fun hn => (hn (.inl rfl)).elim⟩ (by unfold FrKR; rw [if_neg (by decide), if_pos rfl]; exact ((KeepW.refl _ _).set HBF.out 0 _).set (HBF.out.set_ 0 _) 1 _) ⟨kd, v, (HBF.out.set_ 0 _).set_ 1 _, by omega⟩
 intro vs wx kk rL hI hkk hLt hall
 obtain ⟨_, hr2, hk2, hi2, hB2, _⟩ := hall 4 (by decide)
 obtain ⟨_, kd, v, hS2, _⟩ := hall 5 (by decide)
 obtain ⟨_, _, _, hg2, _, _, _⟩ := hI
 have BR2 := Lib.hid hB2
 have BS2 := Lib.hid hS2
 have HB2 := Lib.hid (hg2)
 have HR2 := Lib.hid (own_base (base' := w.heap.size) hr2 (by omega))
 have HK2 := Lib.hid (own_base (base' := w.heap.size) hk2 (by omega))
 have HI2 := Lib.hid (own_base (base' := w.heap.size) hi2 (by omega))
 clear hLt hall hr2 hk2 hi2 hB2 hS2 hg2 m0 m1 m2 m3 m4 m5 m6 lm
 obtain ⟨r0, r1, r2, r3, r4, r5, r6⟩ := BR2.out.q7
 obtain ⟨s0, s1⟩ := BS2.out.q2
 have lr := BR2.out.lt
 have ls := BS2.out.lt
 simp only [sl]
 simp only [Act.put, List.setIfInBounds_toArray, List.set_cons_succ, List.set_cons_zero]
 go_wp2
 refine bodyPost_ret (v := .tuple #[mdV q.u q.lo A q.l.length cr K q.cl.length kc I q.im.length ic q.be q.gu, .agg #[.int .i64 kd, .int .i64 v]]) (by simp [results, Try.results63, go_sem, *]) rfl ?_
 exact ⟨q, A, cr, K, kc, I, ic, ⟨kd, v, rfl⟩, hl9, hc9, hi9, HR2.out, HK2.out, HI2.out, Gr.below (ext_refl w) HB2.out (by omega)⟩

end Go.Proofs.Ytlkfffohjeoooaa
