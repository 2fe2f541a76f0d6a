/- What FnMoves draws: two frames. -/
import Derived.Test.YtkpfelfgpjodiaaVMvI
import Derived.Test.YtkpfelfgpjodiaaVM11
import Derived.Test.YtkpfelfgpjodiaaVFdD
namespace Go.Proofs.Ytkpfelfgpjodiaa
open Go.RowKit
set_option linter.unusedVariables false
set_option linter.unusedSimpArgs false
theorem plB_in (u lo : Int) (l : List R2) (ms : List R3) : plB u lo l ms = false ∨ FrIn (plF u lo l ms).1 (plF u lo l ms).2.1 (plF u lo l ms).2.2 := by
 cases h : plB u lo l ms with
 | false => exact .inl rfl
 | true =>
   obtain ⟨hf, _, x, hx, e⟩ := pl_to h
   rw [e]
   exact .inr (fr_in (play_fr hf hx))
theorem for_in (z : Int) (h0 : 0 ≤ z) (h1 : z ≤ 999) : FrIn 1 4 (forL 3 z 3) := by
 unfold FrIn
 refine ⟨by omega, by omega, by omega, by omega, by simp [forL], by simp [forL], fun x hx => ?_⟩
 unfold forL at hx
 obtain ⟨k, _, rfl⟩ := List.mem_map.1 hx
 have hd := dg_bounds 3 z k
 unfold rodD
 dsimp only
 omega
def MdT (S g : Nat) (Z0 NM R0 R1 : Nat) (u lo : Int) (A : Option Addr) (c : Nat) (l : List R2) (vs : Nat → Value) (wx : World) : Nat → Prop
 | 0 => vs 15 = frV u lo A l.length c
 | 1 => vs 16 = .pointer (some ⟨g, 0, none⟩)
 | 2 => vs 17 = frV u lo A l.length c
 | 3 => ∃ (ms : List R3) (B : Option Addr) (cb : Nat), vs 18 = .slice B ms.length cb ∧ (ms.length ≤ 61) ∧ (wx.ownsRow S 41 3 (.slice B ms.length cb) ms.length (rowsV3 ms))
 | 4 => ∃ (ok : Bool) (U : Int) (LO : Int) (L : List R2) (A2 : Option Addr) (c2 : Nat), vs 19 = .tuple #[frV U LO A2 L.length c2, .bool ok] ∧ (ok = false ∨ FrIn U LO L) ∧ (wx.ownsRow S 115 2 (.slice A2 L.length c2) L.length (rowsV2 L))
 | 5 => ∃ (ok : Bool) (U : Int) (LO : Int) (L : List R2) (A2 : Option Addr) (c2 : Nat), vs 14 = .tuple #[frV U LO A2 L.length c2, .bool ok] ∧ (ok = false ∨ FrIn U LO L) ∧ (wx.ownsRow S 115 2 (.slice A2 L.length c2) L.length (rowsV2 L))
 | 6 => ∃ (ok : Bool) (U : Int) (LO : Int) (L : List R2) (A2 : Option Addr) (c2 : Nat), vs 20 = frV U LO A2 L.length c2 ∧ (ok = false ∨ FrIn U LO L) ∧ (wx.ownsRow S 115 2 (.slice A2 L.length c2) L.length (rowsV2 L)) ∧ (vs 14 = .tuple #[frV U LO A2 L.length c2, .bool ok])
 | 7 => ∃ (ok : Bool) (U : Int) (LO : Int) (L : List R2) (A2 : Option Addr) (c2 : Nat), vs 21 = .bool ok ∧ (ok = false ∨ FrIn U LO L) ∧ (vs 14 = .tuple #[frV U LO A2 L.length c2, .bool ok])
 | 8 => ∃ gB, vs 6 = .pointer (some ⟨gB, 0, none⟩) ∧ (S ≤ Z0 ∧ Z0 ≤ gB) ∧ ∃ cB0 cB1 cB2, Blk wx gB 26 #[cB0, cB1, cB2]
 | 9 => ∃ (gB : Nat) (ok : Bool) (U : Int) (LO : Int) (L : List R2) (A2 : Option Addr) (c2 : Nat), vs 6 = .pointer (some ⟨gB, 0, none⟩) ∧ (ok = false ∨ FrIn U LO L) ∧ (wx.ownsRow S 115 2 (.slice A2 L.length c2) L.length (rowsV2 L)) ∧ (vs 14 = .tuple #[frV U LO A2 L.length c2, .bool ok]) ∧ (wx.ownsRow S 115 2 (.slice A l.length c) l.length (rowsV2 l)) ∧ (Z0 ≤ gB) ∧ (S ≤ Z0) ∧ (Blk wx gB 26 #[.int .i64 U, .int .i64 LO, .slice A2 L.length c2]) ∧ (Blk wx NM 26 #[.int .i64 u, .int .i64 lo, .slice A l.length c]) ∧ (Blk wx R0 26 #[.int .i64 0, .int .i64 0, .slice none 0 0]) ∧ (Blk wx R1 26 #[.int .i64 0, .int .i64 0, .slice none 0 0]) ∧ (R0 < g) ∧ (R1 < g) ∧ (S ≤ NM)
 | 10 => ∃ (ok : Bool) (U : Int) (LO : Int) (L : List R2) (A2 : Option Addr) (c2 : Nat), vs 7 = .bool ok ∧ (ok = false ∨ FrIn U LO L) ∧ (vs 14 = .tuple #[frV U LO A2 L.length c2, .bool ok])
 | _ => True
def MdTU : Nat → List Nat
 | 0 => [15]
 | 1 => [16]
 | 2 => [17]
 | 3 => [18]
 | 4 => [19]
 | 5 => [14]
 | 6 => [20, 14]
 | 7 => [21, 14]
 | 8 => [6]
 | 9 => [6, 14]
 | 10 => [7, 14]
 | _ => []
def MdTR (g : Nat) (Z0 NM R0 R1 : Nat) (u lo : Int) (A : Option Addr) (c : Nat) (l : List R2) (i : Nat) (wx wy : World) : Prop := if i = 9 then KeepW 26 wx wy else Gr g wx wy
theorem MdT_gr {S g : Nat} {Z0 NM R0 R1 : Nat} {u lo : Int} {A : Option Addr} {c : Nat} {l : List R2} (hgS : g < S) {vs us : Nat → Value} {wx wy : World} {jN : Nat} (hGG : MdT S g Z0 NM R0 R1 u lo A c l vs wx jN) (haG : ∀ d ∈ MdTU jN, us d = vs d) (hbG : Gr g wx wy) : MdT S g Z0 NM R0 R1 u lo A c l us wy jN := by
 match jN, hGG, haG with
 | 0, hGG, haG =>
   exact (haG 15 (by simp [MdTU])).trans hGG
 | 1, hGG, haG =>
   exact (haG 16 (by simp [MdTU])).trans hGG
 | 2, hGG, haG =>
   exact (haG 17 (by simp [MdTU])).trans hGG
 | 3, hGG, haG =>
   obtain ⟨xG0, xG1, xG2, eG, fG0, fG1⟩ := hGG
   exact ⟨xG0, xG1, xG2, (haG 18 (by simp [MdTU])).trans eG, fG0, own_gr fG1 hbG hgS⟩
 | 4, hGG, haG =>
   obtain ⟨xG0, xG1, xG2, xG3, xG4, xG5, eG, fG0, fG1⟩ := hGG
   exact ⟨xG0, xG1, xG2, xG3, xG4, xG5, (haG 19 (by simp [MdTU])).trans eG, fG0, own_gr fG1 hbG hgS⟩
 | 5, hGG, haG =>
   obtain ⟨xG0, xG1, xG2, xG3, xG4, xG5, eG, fG0, fG1⟩ := hGG
   exact ⟨xG0, xG1, xG2, xG3, xG4, xG5, (haG 14 (by simp [MdTU])).trans eG, fG0, own_gr fG1 hbG hgS⟩
 | 6, hGG, haG =>
   obtain ⟨xG0, xG1, xG2, xG3, xG4, xG5, eG, fG0, fG1, fG2⟩ := hGG
   exact ⟨xG0, xG1, xG2, xG3, xG4, xG5, (haG 20 (by simp [MdTU])).trans eG, fG0, own_gr fG1 hbG hgS, (haG 14 (by simp [MdTU])).trans fG2⟩
 | 7, hGG, haG =>
   obtain ⟨xG0, xG1, xG2, xG3, xG4, xG5, eG, fG0, fG1⟩ := hGG
   exact ⟨xG0, xG1, xG2, xG3, xG4, xG5, (haG 21 (by simp [MdTU])).trans eG, fG0, (haG 14 (by simp [MdTU])).trans fG1⟩
 | 8, hGG, haG =>
   obtain ⟨gB, eG, hsG, cB0, cB1, cB2, hBG⟩ := hGG
   exact ⟨gB, (haG 6 (by simp [MdTU])).trans eG, hsG, cB0, cB1, cB2, hBG.gr hbG (by omega)⟩
 | 9, hGG, haG =>
   obtain ⟨xG0, xG1, xG2, xG3, xG4, xG5, xG6, eG, fG0, fG1, fG2, fG3, fG4, fG5, fG6, fG7, fG8, fG9, fG10, fG11, fG12⟩ := hGG
   exact ⟨xG0, xG1, xG2, xG3, xG4, xG5, xG6, (haG 6 (by simp [MdTU])).trans eG, fG0, own_gr fG1 hbG hgS, (haG 14 (by simp [MdTU])).trans fG2, own_gr fG3 hbG hgS, fG4, fG5, fG6.gr hbG (by omega), fG7.gr hbG (by omega), fG8.gr hbG (by omega), fG9.gr hbG (by omega), fG10, fG11, fG12⟩
 | 10, hGG, haG =>
   obtain ⟨xG0, xG1, xG2, xG3, xG4, xG5, eG, fG0, fG1⟩ := hGG
   exact ⟨xG0, xG1, xG2, xG3, xG4, xG5, (haG 7 (by simp [MdTU])).trans eG, fG0, (haG 14 (by simp [MdTU])).trans fG1⟩
 | jN + 11, _, _ => trivial
theorem MdT_9 {S g : Nat} {Z0 NM R0 R1 : Nat} {u lo : Int} {A : Option Addr} {c : Nat} {l : List R2} (hgS : g < S) {vs us : Nat → Value} {wx wy : World} {jN : Nat} (hneG : jN ≠ 9) (hGG : MdT S g Z0 NM R0 R1 u lo A c l vs wx jN) (haG : ∀ d ∈ MdTU jN, us d = vs d) (hbG : KeepW 26 wx wy) : MdT S g Z0 NM R0 R1 u lo A c l us wy jN := by
 match jN, hGG, haG, hneG with
 | 0, hGG, haG, hneG =>
   exact (haG 15 (by simp [MdTU])).trans hGG
 | 1, hGG, haG, hneG =>
   exact (haG 16 (by simp [MdTU])).trans hGG
 | 2, hGG, haG, hneG =>
   exact (haG 17 (by simp [MdTU])).trans hGG
 | 3, hGG, haG, hneG =>
   obtain ⟨xG0, xG1, xG2, eG, fG0, fG1⟩ := hGG
   exact ⟨xG0, xG1, xG2, (haG 18 (by simp [MdTU])).trans eG, fG0, hbG.own fG1 (by decide)⟩
 | 4, hGG, haG, hneG =>
   obtain ⟨xG0, xG1, xG2, xG3, xG4, xG5, eG, fG0, fG1⟩ := hGG
   exact ⟨xG0, xG1, xG2, xG3, xG4, xG5, (haG 19 (by simp [MdTU])).trans eG, fG0, hbG.own fG1 (by decide)⟩
 | 5, hGG, haG, hneG =>
   obtain ⟨xG0, xG1, xG2, xG3, xG4, xG5, eG, fG0, fG1⟩ := hGG
   exact ⟨xG0, xG1, xG2, xG3, xG4, xG5, (haG 14 (by simp [MdTU])).trans eG, fG0, hbG.own fG1 (by decide)⟩
 | 6, hGG, haG, hneG =>
   obtain ⟨xG0, xG1, xG2, xG3, xG4, xG5, eG, fG0, fG1, fG2⟩ := hGG
   exact ⟨xG0, xG1, xG2, xG3, xG4, xG5, (haG 20 (by simp [MdTU])).trans eG, fG0, hbG.own fG1 (by decide), (haG 14 (by simp [MdTU])).trans fG2⟩
 | 7, hGG, haG, hneG =>
   obtain ⟨xG0, xG1, xG2, xG3, xG4, xG5, eG, fG0, fG1⟩ := hGG
   exact ⟨xG0, xG1, xG2, xG3, xG4, xG5, (haG 21 (by simp [MdTU])).trans eG, fG0, (haG 14 (by simp [MdTU])).trans fG1⟩
 | 8, hGG, haG, hneG =>
   obtain ⟨gB, eG, hsG, cB0, cB1, cB2, hBG⟩ := hGG
   obtain ⟨cs', hB', hz⟩ := hbG.2.2 gB _ hBG
   obtain ⟨dB0, dB1, dB2, rfl⟩ := arr3 (cs := cs') (by rw [hz]; rfl)
   exact ⟨gB, (haG 6 (by simp [MdTU])).trans eG, hsG, dB0, dB1, dB2, hB'⟩
 | 9, hGG, haG, hneG =>
   exact absurd rfl hneG
 | 10, hGG, haG, hneG =>
   obtain ⟨xG0, xG1, xG2, xG3, xG4, xG5, eG, fG0, fG1⟩ := hGG
   exact ⟨xG0, xG1, xG2, xG3, xG4, xG5, (haG 7 (by simp [MdTU])).trans eG, fG0, (haG 14 (by simp [MdTU])).trans fG1⟩
 | jN + 11, _, _, _ => trivial
def MdTP (j i : Nat) : Bool := false
theorem MdT_keep {S g : Nat} {Z0 NM R0 R1 : Nat} {u lo : Int} {A : Option Addr} {c : Nat} {l : List R2} (hgS : g < S) {vs us : Nat → Value} {wx wy : World} {iN jN : Nat} (hneG : iN ≠ jN) (hdpG : MdTP jN iN = false) (hGG : MdT S g Z0 NM R0 R1 u lo A c l vs wx jN) (haG : ∀ d ∈ MdTU jN, us d = vs d) (hbG : MdTR g Z0 NM R0 R1 u lo A c l iN wx wy) : MdT S g Z0 NM R0 R1 u lo A c l us wy jN := by
 unfold MdTR at hbG
 by_cases h9 : iN = 9
 · rw [if_pos h9] at hbG
   exact MdT_9 hgS (by omega) hGG haG hbG
 rw [if_neg h9] at hbG
 exact MdT_gr hgS hGG haG hbG
def DrawTwo (w : World) (e : Ending) (w' : World) : Prop := ∃ (u lo : Int) (l : List R2) (A : Option Addr) (c : Nat) (u' lo' : Int) (l' : List R2) (A' : Option Addr) (c' : Nat), e = .returned (.tuple #[frV u lo A l.length c, frV u' lo' A' l'.length c']) ∧ FrIn u lo l ∧ FrIn u' lo' l' ∧ w'.ownsRow w.heap.size 115 2 (.slice A l.length c) l.length (rowsV2 l) ∧ w'.ownsRow w.heap.size 115 2 (.slice A' l'.length c') l'.length (rowsV2 l') ∧ Below w.heap.size w w'
set_option maxRecDepth 100000 in
set_option maxHeartbeats 8000000 in
theorem drawMovesBetween_any (Ac : Option Addr) (nc cc : Nat) (w : World) (h : Code w w.heap.size Ac nc) (hn : nc ≤ 65536) :
 Calls Try.prog 25 #[.slice Ac nc cc] w (DrawTwo w) := by
 obtain ⟨W0, hW0⟩ : ∃ y9 : World, y9 = ((w.alloc (.cells #[.int .i64 0, .int .i64 0, .slice none 0 0] 26)).alloc (.cells #[.int .i64 0, .int .i64 0, .slice none 0 0] 26)).alloc (.cells #[.slice Ac nc cc, .int .i64 0, .int .u64 0] 77) := ⟨_, rfl⟩
 have hbx := Lib.hid (show Below w.heap.size w W0 by rw [hW0]; exact ext_alloc (ext_alloc (ext_alloc (ext_refl w) (.cells #[.int .i64 0, .int .i64 0, .slice none 0 0] 26)) (.cells #[.int .i64 0, .int .i64 0, .slice none 0 0] 26)) (.cells #[.slice Ac nc cc, .int .i64 0, .int .u64 0] 77))
 obtain ⟨g, hg⟩ : ∃ g, g = w.heap.size + 1 + 1 := ⟨_, rfl⟩
 have HC := Lib.hid (show CurAt W0 g 0 by rw [hW0, hg]; exact h.curB (by omega) cc (.cells #[.int .i64 0, .int .i64 0, .slice none 0 0] 26) (.cells #[.int .i64 0, .int .i64 0, .slice none 0 0] 26))
 have BR0 := Lib.hid (show Blk W0 w.heap.size 26 #[.int .i64 0, .int .i64 0, .slice none 0 0] by rw [hW0]; exact ((Blk.born w #[.int .i64 0, .int .i64 0, .slice none 0 0] 26 (H := w.heap.size) rfl).al _).al _)
 have BM0 := Lib.hid (show Blk W0 (w.heap.size + 1) 26 #[.int .i64 0, .int .i64 0, .slice none 0 0] by rw [hW0]; exact (Blk.born _ #[.int .i64 0, .int .i64 0, .slice none 0 0] 26 (H := w.heap.size + 1) (by simp)).al _)
 clear h
 go_enter Try.func25, Try.ntmps25
 go_wp2_with fail
 rw [← hW0]
 rw [← hg]
 have HGE := Lib.hid hg
 have hRg : w.heap.size ≠ g := by omega
 have hRh : w.heap.size + 1 ≠ g := by omega
 have hRl : w.heap.size + 1 < g := by omega
 clear hg hW0
 refine (frame_any g 0 _ HC.out (by omega)).mono ?_
 rintro e w1 ⟨u, lo, l, A, c, a1, rfl, hIN, ha1, hr1, hc1, hg1⟩
 have HIN := Lib.hid hIN
 have hl9 : l.length ≤ 9 := hIN.2.2.2.2.2.1
 clear hIN
 obtain ⟨NM, hNM⟩ : ∃ N, N = w1.heap.size := ⟨_, rfl⟩
 obtain ⟨W, hW⟩ : ∃ y : World, y = w1.alloc (.cells #[.int .i64 u, .int .i64 lo, .slice A l.length c] 26) := ⟨_, rfl⟩
 have hgl : g < NM := by have := hc1.lt; omega
 have hNg : NM ≠ g := by omega
 have BN1 := Lib.hid (show Blk W NM 26 #[.int .i64 u, .int .i64 lo, .slice A l.length c] by rw [hW]; exact Blk.born w1 _ 26 (H := NM) hNM)
 have BR1 := Lib.hid (show Blk W w.heap.size 26 #[.int .i64 0, .int .i64 0, .slice none 0 0] by rw [hW]; exact (BR0.out.gr hg1 hRg).al _)
 have BM1 := Lib.hid (show Blk W (w.heap.size + 1) 26 #[.int .i64 0, .int .i64 0, .slice none 0 0] by rw [hW]; exact (BM0.out.gr hg1 hRh).al _)
 have HR1 := Lib.hid (show W.ownsRow (g + 1) 115 2 (.slice A l.length c) l.length (rowsV2 l) by rw [hW]; exact (own_base hr1 HC.out.lt).alloc _)
 have HC1 := Lib.hid (show CurAt W g a1 by rw [hW]; exact hc1.ext (ext_alloc (ext_refl _) _))
 have HG1 := Lib.hid (show Gr g w W by rw [hW]; exact ((Gr.of_ext hbx.out).trans hg1).trans (Gr.alloc _ _ _))
 have hW0 : g + 1 ≤ W.heap.size := HC1.out.lt
 go_upto_region 3 with fail
 rw [← hNM, ← hW]
 clear hNM hW hr1 hc1 hg1 HC BR0 BM0 hbx
 have HPL := Lib.hid (fun (w : World) (ms : List R3) (B : Option Addr) (cb : Nat) (hk : ms.length ≤ 61) h hm => show Calls Try.prog 10 #[frV u lo A l.length c, .slice B ms.length cb] w (RetFrB w (plF u lo l ms) (plB u lo l ms)) from specPlayMoves_any u lo A l.length c l B ms.length cb ms w (by omega) (by omega) h hm)
 obtain ⟨m0, m1, m2⟩ := BN1.out.q3
 have lm := BN1.out.lt
 refine wp_region_m (by kernel_rfl) (by kernel_rfl) [6, 7, 14, 15, 16, 17, 18, 19, 20, 21] MdTU (by kernel_rfl) (by decide) 22 (by kernel_rfl) (by simp) (fun ra0 => ra0.eval (.tmp 4) = .pointer (some ⟨g, 0, none⟩) ∧ ra0.eval (.tmp 5) = .pointer (some ⟨NM, 0, none⟩)) ⟨by kernel_rfl, by kernel_rfl⟩ MdTP (by kernel_rfl) (ICur 700 g a1 w W 9 9 (fun wx => Blk wx NM 26 #[.int .i64 u, .int .i64 lo, .slice A l.length c] ∧ Blk wx w.heap.size 26 #[.int .i64 0, .int .i64 0, .slice none 0 0] ∧ Blk wx (w.heap.size + 1) 26 #[.int .i64 0, .int .i64 0, .slice none 0 0])) (MdTR g W.heap.size NM w.heap.size (w.heap.size + 1) u lo A c l) (fun jN vs wx => MdT (g + 1) g W.heap.size NM w.heap.size (w.heap.size + 1) u lo A c l vs wx jN) ⟨a1, by omega, (HC1.out).ext (ext_drew (ext_refl _)), (HG1.out).trans (Gr.of_ext (ext_drew (ext_refl _))), Nat.le_refl _, fun _ => Gr.of_ext (ext_drew (ext_refl _)), fun _ => ⟨BN1.out, BR1.out, BM1.out⟩⟩ (fun _ _ _ _ _ _ h0 hd h1 h2 h3 => MdT_keep (Nat.lt_succ_self g) h0 hd h1 h2 h3) ?_ ?_
 · intro ra0 hE ri ro ho Qx vs wx rb KX kk rL hI hkk hnl hLt hcl hdep rb0 rbk HK
   repeat (rename_i hz9; clear hz9)
   obtain ⟨rq4, rq5⟩ := hE
   have hi : ri < 11 := by
    rcases Nat.lt_or_ge ri 11 with h | h
    · exact h
    · rw [Array.getElem?_eq_none (by simpa using h)] at ho; cases ho
   have hkk : kk < 11 := by simpa using hkk
   obtain ⟨ax, hax, hcx, hGw, hsz, hpre, hBx⟩ := hI
   have HQ : ∀ w' a2, CurAt w' g a2 → a2 ≤ ax + 700 → Gr g wx w' → ICur 700 g a1 w W 9 9 (fun wx => Blk wx NM 26 #[.int .i64 u, .int .i64 lo, .slice A l.length c] ∧ Blk wx w.heap.size 26 #[.int .i64 0, .int .i64 0, .slice none 0 0] ∧ Blk wx (w.heap.size + 1) 26 #[.int .i64 0, .int .i64 0, .slice none 0 0]) (kk + 1) (fun j => j = ri ∨ rL j) w' := fun w' a2 h1 h2 h3 => ⟨a2, by omega, h1, hGw.trans h3, Nat.le_trans hsz h3.size, fun hn => (hpre (fun x => hn (.inr x))).trans h3, fun hn => (fun hB => ⟨hB.1.gr h3 hNg, hB.2.1.gr h3 hRg, hB.2.2.gr h3 hRh⟩) (hBx (fun x => hn (.inr x)))⟩
   have HQX := Lib.hid HQ
   have HCX := Lib.hid hcx
   have HGW := Lib.hid hGw
   have HPRE := Lib.hid hpre
   have HBX := Lib.hid hBx
   have HCL := Lib.hid hcl
   clear HQ hcx hGw hpre hBx hcl
   rcases (show ri = 0 ∨ ri = 1 ∨ ri = 2 ∨ ri = 3 ∨ ri = 4 ∨ ri = 5 ∨ ri = 6 ∨ ri = 7 ∨ ri = 8 ∨ ri = 9 ∨ ri = 10 by omega) with rfl | rfl | rfl | rfl | rfl | rfl | rfl | rfl | rfl | rfl | rfl
   · simp only [List.getElem?_toArray, List.getElem?_cons_succ, List.getElem?_cons_zero, Option.some.injEq] at ho
     subst ho
     have HKX := Lib.hid HK
     clear HK
     have p5 := (rb0 5 (by decide)).trans rq5
     have hNL : ¬ rL 9 := fun h => hnl (HCL.out 4 _ 0 rfl (HCL.out 5 _ 4 rfl (HCL.out 6 _ 5 rfl (HCL.out 9 _ 6 rfl h (by kernel_rfl)) (by kernel_rfl)) (by kernel_rfl)) (by kernel_rfl))
     have HGP := Lib.hid (HPRE.out hNL)
     obtain ⟨x0, x1, x2⟩ := (BN1.out.gr HGP.out hNg).q3
     have lnx := (BN1.out.gr HGP.out hNg).lt
     clear rb0 rbk hdep
     go_simp
     exact HKX.out _ _ (HQX.out _ ax HCX.out (by omega) (Gr.refl _ _)) (by unfold MdTR; rw [if_neg (by decide)]; exact Gr.refl _ _) (upd_same _ _ _)
   · simp only [List.getElem?_toArray, List.getElem?_cons_succ, List.getElem?_cons_zero, Option.some.injEq] at ho
     subst ho
     have HKX := Lib.hid HK
     clear HK
     have p4 := (rb0 4 (by decide)).trans rq4
     clear rb0 rbk hdep
     go_simp
     exact HKX.out _ _ (HQX.out _ ax HCX.out (by omega) (Gr.refl _ _)) (by unfold MdTR; rw [if_neg (by decide)]; exact Gr.refl _ _) (upd_same _ _ _)
   · simp only [List.getElem?_toArray, List.getElem?_cons_succ, List.getElem?_cons_zero, Option.some.injEq] at ho
     subst ho
     have HKX := Lib.hid HK
     clear HK
     have p5 := (rb0 5 (by decide)).trans rq5
     have hNL : ¬ rL 9 := fun h => hnl (HCL.out 3 _ 2 rfl (HCL.out 4 _ 3 rfl (HCL.out 5 _ 4 rfl (HCL.out 6 _ 5 rfl (HCL.out 9 _ 6 rfl h (by kernel_rfl)) (by kernel_rfl)) (by kernel_rfl)) (by kernel_rfl)) (by kernel_rfl))
     have HGP := Lib.hid (HPRE.out hNL)
     obtain ⟨x0, x1, x2⟩ := (BN1.out.gr HGP.out hNg).q3
     have lnx := (BN1.out.gr HGP.out hNg).lt
     clear rb0 rbk hdep
     go_simp
     exact HKX.out _ _ (HQX.out _ ax HCX.out (by omega) (Gr.refl _ _)) (by unfold MdTR; rw [if_neg (by decide)]; exact Gr.refl _ _) (upd_same _ _ _)
   · simp only [List.getElem?_toArray, List.getElem?_cons_succ, List.getElem?_cons_zero, Option.some.injEq] at ho
     subst ho
     have HKX := Lib.hid HK
     clear HK
     have e1 : vs 16 = .pointer (some ⟨g, 0, none⟩) := (hdep 1 (by kernel_rfl)).2
     have rr1 := (rbk 16 (by decide)).trans e1
     have E1 := Lib.hid e1
     clear e1
     have e2 : vs 17 = frV u lo A l.length c := (hdep 2 (by kernel_rfl)).2
     have rr2 := (rbk 17 (by decide)).trans e2
     have E2 := Lib.hid e2
     clear e2
     have hNL : ¬ rL 9 := fun h => hnl (HCL.out 4 _ 3 rfl (HCL.out 5 _ 4 rfl (HCL.out 6 _ 5 rfl (HCL.out 9 _ 6 rfl h (by kernel_rfl)) (by kernel_rfl)) (by kernel_rfl)) (by kernel_rfl))
     have HGP := Lib.hid (HPRE.out hNL)
     obtain ⟨x0, x1, x2⟩ := (BN1.out.gr HGP.out hNg).q3
     have lnx := (BN1.out.gr HGP.out hNg).lt
     clear rb0 rbk hdep
     go_simp
     refine (beads_any g ax (g + 1) u lo A c l _ HCX.out (by omega) (Nat.lt_succ_self g) (own_gr HR1.out HGP.out (Nat.lt_succ_self g)) HIN.out).mono ?_
     rintro e w' ⟨ms, B, cb, a2, rfl, nF0, hon, ha2, hc2, hg2⟩
     have nF1 := own_base (base' := g + 1) hon HCX.out.lt
     clear hon
     go_simp
     exact HKX.out _ _ (HQX.out _ a2 hc2 (by omega) hg2) (by unfold MdTR; rw [if_neg (by decide)]; exact hg2) (⟨ms, B, cb, upd_same _ _ _, nF0, nF1⟩)
   · simp only [List.getElem?_toArray, List.getElem?_cons_succ, List.getElem?_cons_zero, Option.some.injEq] at ho
     subst ho
     have HKX := Lib.hid HK
     clear HK
     have e0 : vs 15 = frV u lo A l.length c := (hdep 0 (by kernel_rfl)).2
     have rr0 := (rbk 15 (by decide)).trans e0
     have E0 := Lib.hid e0
     clear e0
     obtain ⟨ms, B, cb, e3, k3_0, k3_1⟩ := (hdep 3 (by kernel_rfl)).2
     have rr3 := (rbk 18 (by decide)).trans e3
     have E3 := Lib.hid e3
     clear e3
     have K3_1 := Lib.hid k3_1
     clear k3_1
     have hNL : ¬ rL 9 := fun h => hnl (HCL.out 5 _ 4 rfl (HCL.out 6 _ 5 rfl (HCL.out 9 _ 6 rfl h (by kernel_rfl)) (by kernel_rfl)) (by kernel_rfl))
     have HGP := Lib.hid (HPRE.out hNL)
     obtain ⟨x0, x1, x2⟩ := (BN1.out.gr HGP.out hNg).q3
     have lnx := (BN1.out.gr HGP.out hNg).lt
     clear rb0 rbk hdep
     go_simp
     have HRx := own_gr HR1.out HGP.out (Nat.lt_succ_self g)
     have HP := HPL.out wx ms B cb k3_0
     have hst := plB_in u lo l ms
     obtain ⟨F, hF⟩ : ∃ o9, plF u lo l ms = o9 := ⟨_, rfl⟩
     obtain ⟨ok, hok⟩ : ∃ o9, plB u lo l ms = o9 := ⟨_, rfl⟩
     rw [hF, hok] at HP hst
     obtain ⟨U, LO, L⟩ := F
     unfold RetFrB at HP
     dsimp only at HP hst
     clear hF hok
     refine (HP (Reads.of_own HRx) (Reads.of_own K3_1.out)).mono ?_
     rintro e w' ⟨A2, c2, rfl, hr4, hb⟩
     have hsx := HCX.out.lt
     go_simp
     exact HKX.out _ _ (HQX.out _ ax (HCX.out.ext hb) (by omega) (Gr.of_ext hb)) (by unfold MdTR; rw [if_neg (by decide)]; exact Gr.of_ext hb) (⟨ok, U, LO, L, A2, c2, upd_same _ _ _, hst, own_base hr4 hsx⟩)
   · simp only [List.getElem?_toArray, List.getElem?_cons_succ, List.getElem?_cons_zero, Option.some.injEq] at ho
     subst ho
     have HKX := Lib.hid HK
     clear HK
     obtain ⟨ok, U, LO, L, A2, c2, e4, k4_0, k4_1⟩ := (hdep 4 (by kernel_rfl)).2
     have rr4 := (rbk 19 (by decide)).trans e4
     have E4 := Lib.hid e4
     clear e4
     have K4_0 := Lib.hid k4_0
     clear k4_0
     have K4_1 := Lib.hid k4_1
     clear k4_1
     clear rb0 rbk hdep
     go_simp
     exact HKX.out _ _ (HQX.out _ ax HCX.out (by omega) (Gr.refl _ _)) (by unfold MdTR; rw [if_neg (by decide)]; exact Gr.refl _ _) (⟨ok, U, LO, L, A2, c2, upd_same _ _ _, K4_0.out, K4_1.out⟩)
   · simp only [List.getElem?_toArray, List.getElem?_cons_succ, List.getElem?_cons_zero, Option.some.injEq] at ho
     subst ho
     have HKX := Lib.hid HK
     clear HK
     obtain ⟨ok, U, LO, L, A2, c2, e5, k5_0, k5_1⟩ := (hdep 5 (by kernel_rfl)).2
     have rr5 := (rbk 14 (by decide)).trans e5
     have E5 := Lib.hid e5
     clear e5
     have K5_0 := Lib.hid k5_0
     clear k5_0
     have K5_1 := Lib.hid k5_1
     clear k5_1
     clear rb0 rbk hdep
     go_simp
     exact HKX.out _ _ (HQX.out _ ax HCX.out (by omega) (Gr.refl _ _)) (by unfold MdTR; rw [if_neg (by decide)]; exact Gr.refl _ _) (⟨ok, U, LO, L, A2, c2, upd_same _ _ _, K5_0.out, K5_1.out, (upd_ne _ _ (by decide)).trans E5.out⟩)
   · simp only [List.getElem?_toArray, List.getElem?_cons_succ, List.getElem?_cons_zero, Option.some.injEq] at ho
     subst ho
     have HKX := Lib.hid HK
     clear HK
     obtain ⟨ok, U, LO, L, A2, c2, e5, k5_0, k5_1⟩ := (hdep 5 (by kernel_rfl)).2
     have rr5 := (rbk 14 (by decide)).trans e5
     have E5 := Lib.hid e5
     clear e5
     have K5_0 := Lib.hid k5_0
     clear k5_0
     have K5_1 := Lib.hid k5_1
     clear k5_1
     clear rb0 rbk hdep
     go_simp
     exact HKX.out _ _ (HQX.out _ ax HCX.out (by omega) (Gr.refl _ _)) (by unfold MdTR; rw [if_neg (by decide)]; exact Gr.refl _ _) (⟨ok, U, LO, L, A2, c2, upd_same _ _ _, K5_0.out, (upd_ne _ _ (by decide)).trans E5.out⟩)
   · simp only [List.getElem?_toArray, List.getElem?_cons_succ, List.getElem?_cons_zero, Option.some.injEq] at ho
     subst ho
     have HKX := Lib.hid HK
     clear HK
     clear rb0 rbk hdep
     go_simp
     exact HKX.out _ _ (HQX.out _ ax (HCX.out.ext (ext_alloc (ext_refl _) _)) (by omega) (Gr.alloc _ _ _)) (by unfold MdTR; rw [if_neg (by decide)]; exact Gr.alloc _ _ _) ⟨wx.heap.size, upd_same _ _ _, ⟨hW0, hsz⟩, _, _, _, Blk.born _ _ _ rfl⟩
   · simp only [List.getElem?_toArray, List.getElem?_cons_succ, List.getElem?_cons_zero, Option.some.injEq] at ho
     subst ho
     have HKX := Lib.hid HK
     clear HK
     obtain ⟨gB, e8, hs8, cB0, cB1, cB2, hB8⟩ := (hdep 8 (by kernel_rfl)).2
     have rr8 := (rbk 6 (by decide)).trans e8
     have E8 := Lib.hid e8
     clear e8
     obtain ⟨ok, U, LO, L, A2, c2, e6, k6_0, k6_1, k6_2⟩ := (hdep 6 (by kernel_rfl)).2
     have rr6 := (rbk 20 (by decide)).trans e6
     have E6 := Lib.hid e6
     clear e6
     have K6_0 := Lib.hid k6_0
     clear k6_0
     have K6_1 := Lib.hid k6_1
     clear k6_1
     have K6_2 := Lib.hid k6_2
     clear k6_2
     have hNL : ¬ rL 9 := hnl
     have HGP := Lib.hid (HPRE.out hNL)
     obtain ⟨x0, x1, x2⟩ := (BN1.out.gr HGP.out hNg).q3
     have lnx := (BN1.out.gr HGP.out hNg).lt
     have HBF := Lib.hid (HBX.out hnl)
     have HRo := Lib.hid (own_gr HR1.out HGP.out (Nat.lt_succ_self g))
     clear x0 x1 x2 lnx
     have hlt := hB8.lt
     obtain ⟨yB0, yB1, yB2⟩ := hB8.q3
     obtain ⟨zB0, zB1, zB2⟩ := hB8.z3
     have HBB := Lib.hid hB8
     clear hB8 rb0 rbk hdep
     go_simp
     have HKW := Lib.hid (keep3 (a0 := .int .i64 U) (a1 := .int .i64 LO) (a2 := .slice A2 L.length c2) HBB.out)
     exact HKX.out undef _ ⟨ax, by omega, ((HCX.out.far (p := ⟨gB, 0, none⟩) (by show g < gB; omega) _).far (p := ⟨gB, 1, none⟩) (by show g < gB; omega) _).far (p := ⟨gB, 2, none⟩) (by show g < gB; omega) _, fill_gr HGW.out (by omega), by simpa using hsz, fun hn => (hn (.inl rfl)).elim, fun hn => (hn (.inl rfl)).elim⟩ (by unfold MdTR; rw [if_pos rfl]; exact HKW.out) ⟨gB, ok, U, LO, L, A2, c2, E8.out, K6_0.out, HKW.out.own K6_1.out (by decide), K6_2.out, HKW.out.own HRo.out (by decide), hs8.2, hW0, fr_put HBB.out, fill_far HBF.out.1 (by omega), fill_far HBF.out.2.1 (by omega), fill_far HBF.out.2.2 (by omega), by omega, by omega, by omega⟩
   · simp only [List.getElem?_toArray, List.getElem?_cons_succ, List.getElem?_cons_zero, Option.some.injEq] at ho
     subst ho
     have HKX := Lib.hid HK
     clear HK
     obtain ⟨ok, U, LO, L, A2, c2, e7, k7_0, k7_1⟩ := (hdep 7 (by kernel_rfl)).2
     have rr7 := (rbk 21 (by decide)).trans e7
     have E7 := Lib.hid e7
     clear e7
     have K7_0 := Lib.hid k7_0
     clear k7_0
     have K7_1 := Lib.hid k7_1
     clear k7_1
     clear rb0 rbk hdep
     go_simp
     exact HKX.out _ _ (HQX.out _ ax HCX.out (by omega) (Gr.refl _ _)) (by unfold MdTR; rw [if_neg (by decide)]; exact Gr.refl _ _) (⟨ok, U, LO, L, A2, c2, upd_same _ _ _, K7_0.out, (upd_ne _ _ (by decide)).trans K7_1.out⟩)
 intro vs wx kk rL hI hkk hLt hall
 obtain ⟨_, gB, ok, U, LO, L, A2, c2, e6, hst, hr2, es, hro, hgB, _, hB2, hN2, hR2, hM2, _, _, _⟩ := hall 9 (by decide)
 obtain ⟨_, ok', U', LO', L', A2', c2', e7, _, es'⟩ := hall 10 (by decide)
 have hok : ok' = ok := by
  rw [es] at es'
  injection es' with es'
  injection es' with es'
  injection es' with _ es'
  injection es' with es'
  injection es' with es'
  exact es'.symm
 rw [hok] at e7
 obtain ⟨a2, ha2, hc2, hg2, _, _, _⟩ := hI
 have hkk : kk ≤ 11 := by simpa using hkk
 have ha9 : a2 ≤ 10000 := by omega
 have BB2 := Lib.hid hB2
 have BN2 := Lib.hid hN2
 have BR2 := Lib.hid hR2
 have BM2 := Lib.hid hM2
 have HX2 := Lib.hid hr2
 have HR2 := Lib.hid hro
 have HC2 := Lib.hid hc2
 have HG2 := Lib.hid hg2
 have HST := Lib.hid hst
 have hBg : g < gB := by omega
 have hBN : gB ≠ NM := by omega
 clear hLt hall hB2 hN2 hR2 hM2 hr2 hro hc2 hg2 hst es es' hok m0 m1 m2 lm ha2 hkk HC1 HG1 BN1 BR1 BM1 HR1 HPL
 simp only [sl]
 rw [e6, e7]
 simp only [Act.put, List.setIfInBounds_toArray, List.set_cons_succ, List.set_cons_zero]
 clear e6 e7
 obtain ⟨b0, b1, b2⟩ := BB2.out.q3
 obtain ⟨n0, n1, n2⟩ := BN2.out.q3
 have lb := BB2.out.lt
 have lnm := BN2.out.lt
 obtain ⟨w3, hw3⟩ : ∃ y : World, y = wx := ⟨_, rfl⟩
 subst hw3
 go_upto_region 4 with fail
 go_cut [27] (fun s27 wx => ∃ (b : Bool) (a3 : Nat), s27 = .bool b ∧ (b = true → ok = true) ∧ a3 ≤ 10010 ∧ Hid (CurAt wx g a3) ∧ Hid (Gr g w wx) ∧ Hid (Blk wx gB 26 #[.int .i64 U, .int .i64 LO, .slice A2 L.length c2]) ∧ Hid (Blk wx NM 26 #[.int .i64 u, .int .i64 lo, .slice A l.length c]) ∧ Hid (Blk wx w.heap.size 26 #[.int .i64 0, .int .i64 0, .slice none 0 0]) ∧ Hid (Blk wx (w.heap.size + 1) 26 #[.int .i64 0, .int .i64 0, .slice none 0 0]) ∧ Hid (wx.ownsRow (g + 1) 115 2 (.slice A2 L.length c2) L.length (rowsV2 L)) ∧ Hid (wx.ownsRow (g + 1) 115 2 (.slice A l.length c) l.length (rowsV2 l)))
 case first =>
  cases ok
  · go_wp2_with fail
    go_meet
    exact ⟨false, a2, rfl, fun h => h, by omega, HC2, HG2, BB2, BN2, BR2, BM2, HX2, HR2⟩
  · go_wp2_with fail
    refine (one_any g a2 4 _ HC2.out (by omega) (by omega) (by omega)).mono ?_
    rintro e w4 ⟨b, a3, rfl, ha3, hc3, hg3⟩
    go_wp2_with fail
    go_meet
    exact ⟨!b, a3, rfl, fun _ => by simp, by omega, Lib.hid hc3, Lib.hid (HG2.out.trans hg3), Lib.hid (BB2.out.gr hg3 (by omega)), Lib.hid (BN2.out.gr hg3 hNg), Lib.hid (BR2.out.gr hg3 hRg), Lib.hid (BM2.out.gr hg3 hRh), Lib.hid (own_gr HX2.out hg3 (Nat.lt_succ_self g)), Lib.hid (own_gr HR2.out hg3 (Nat.lt_succ_self g))⟩
 case rest =>
  clear HC2 HG2 BB2 BN2 BR2 BM2 HX2 HR2 b0 b1 b2 n0 n1 n2 lb lnm
  obtain ⟨b, a3, rfl, hbo, ha3, HC3, HG3, BB3, BN3, BR3, BM3, HX3, HR3⟩ := hcut
  obtain ⟨w4, hw4⟩ : ∃ y : World, y = wc := ⟨_, rfl⟩
  subst hw4
  cases b
  · go_wp2_with fail
    refine (frame_any g a3 _ HC3.out (by omega)).mono ?_
    rintro e w4' ⟨u5, lo5, l5, A5, c5, a5, rfl, hI5, ha5, hr5, hc5, hg5⟩
    have HI5 := Lib.hid hI5
    have hl59 : l5.length ≤ 9 := hI5.2.2.2.2.2.1
    clear hI5
    obtain ⟨NX, hNX⟩ : ∃ N, N = w4'.heap.size := ⟨_, rfl⟩
    obtain ⟨w5, hw5⟩ : ∃ y9 : World, y9 = w4'.alloc (.cells #[.int .i64 u5, .int .i64 lo5, .slice A5 l5.length c5] 26) := ⟨_, rfl⟩
    have hgX : g < NX := by have := hc5.lt; omega
    have hXN : NM < NX := by have := (BN3.out.gr hg5 hNg).lt; omega
    have BX5 := Lib.hid (show Blk w5 NX 26 #[.int .i64 u5, .int .i64 lo5, .slice A5 l5.length c5] by rw [hw5]; exact Blk.born w4' _ 26 (H := NX) hNX)
    have BN5 := Lib.hid (show Blk w5 NM 26 #[.int .i64 u, .int .i64 lo, .slice A l.length c] by rw [hw5]; exact (BN3.out.gr hg5 hNg).al _)
    have BR5 := Lib.hid (show Blk w5 w.heap.size 26 #[.int .i64 0, .int .i64 0, .slice none 0 0] by rw [hw5]; exact (BR3.out.gr hg5 hRg).al _)
    have BM5 := Lib.hid (show Blk w5 (w.heap.size + 1) 26 #[.int .i64 0, .int .i64 0, .slice none 0 0] by rw [hw5]; exact (BM3.out.gr hg5 hRh).al _)
    have HR5 := Lib.hid (show w5.ownsRow (g + 1) 115 2 (.slice A l.length c) l.length (rowsV2 l) by rw [hw5]; exact (own_gr HR3.out hg5 (Nat.lt_succ_self g)).alloc _)
    have HX5 := Lib.hid (show w5.ownsRow (g + 1) 115 2 (.slice A5 l5.length c5) l5.length (rowsV2 l5) by rw [hw5]; exact (own_base hr5 HC3.out.lt).alloc _)
    have HC5 := Lib.hid (show CurAt w5 g a5 by rw [hw5]; exact hc5.ext (ext_alloc (ext_refl _) _))
    have HG5 := Lib.hid (show Gr g w w5 by rw [hw5]; exact (HG3.out.trans hg5).trans (Gr.alloc _ _ _))
    go_upto_region 7 with fail
    rw [← hNX, ← hw5]
    clear hNX hw5 hr5 hc5 hg5 HC3 HG3 BB3 BN3 BR3 BM3 HX3 HR3
    go_wp2_with fail
    refine (one_any g a5 2 _ HC5.out (by omega) (by omega) (by omega)).mono ?_
    rintro e w6 ⟨b2, a6, rfl, ha6, hc, hg⟩
    have HC6 := Lib.hid hc
    have HG6 := Lib.hid (HG5.out.trans hg)
    have BN6 := Lib.hid (BN5.out.gr hg hNg)
    have BX6 := Lib.hid (BX5.out.gr hg (by omega))
    have BR6 := Lib.hid (BR5.out.gr hg hRg)
    have BM6 := Lib.hid (BM5.out.gr hg hRh)
    have HR6 := Lib.hid (own_gr HR5.out hg (Nat.lt_succ_self g))
    have HX6 := Lib.hid (own_gr HX5.out hg (Nat.lt_succ_self g))
    clear hc hg HC5 HG5 BN5 BX5 BR5 BM5 HR5 HX5
    cases b2
    · obtain ⟨fa0, fa1, fa2⟩ := BN6.out.q3
      obtain ⟨fb0, fb1, fb2⟩ := BX6.out.q3
      obtain ⟨r0, r1, r2⟩ := BR6.out.q3
      obtain ⟨y0, y1, y2⟩ := BR6.out.z3
      obtain ⟨s0, s1, s2⟩ := BM6.out.q3
      obtain ⟨x0, x1, x2⟩ := BM6.out.z3
      have lfa := BN6.out.lt
      have lfb := BX6.out.lt
      have lr := BR6.out.lt
      have ls := BM6.out.lt
      go_upto_region 10 with fail
      go_region
      go_wp2
      refine bodyPost_ret (v := .tuple #[frV u lo A l.length c, frV u5 lo5 A5 l5.length c5]) (by simp [results, Try.results25, go_sem, *]) rfl ?_
      exact ⟨u, lo, l, A, c, u5, lo5, l5, A5, c5, rfl, HIN.out, HI5.out, (fill_own' (fill_own' (own_base HR6.out (by omega)) (own_nbT HR6.out BR6.out (by decide))) (own_nbT HR6.out BM6.out (by decide))).drew, (fill_own' (fill_own' (own_base HX6.out (by omega)) (own_nbT HX6.out BR6.out (by decide))) (own_nbT HX6.out BM6.out (by decide))).drew, (fill_below (fill_below (Gr.below (ext_refl w) HG6.out (by omega)) (Nat.le_refl _)) (Nat.le_succ _)).drew⟩
    · obtain ⟨b0, b1, b2⟩ := BX6.out.q3
      have lb := BX6.out.lt
      go_upto_region 8 with fail
      clear b0 b1 b2 lb
      go_wp2_with fail
      refine (among_lit g a6 0 999 [0, 384, 999] 3 _ HC6.out (by omega) (by decide) (by decide) (by decide) _ rfl (by simp)).mono ?_
      rintro e w7 ⟨z7, a7, rfl, nz0, nz1, ha7, hc, hg⟩
      have HC7 := Lib.hid hc
      have HG7 := Lib.hid (HG6.out.trans hg)
      have BX7 := Lib.hid (BX6.out.gr hg (by omega))
      have BN7 := Lib.hid (BN6.out.gr hg hNg)
      have BR7 := Lib.hid (BR6.out.gr hg hRg)
      have BM7 := Lib.hid (BM6.out.gr hg hRh)
      have HX7 := Lib.hid (own_gr HX6.out hg (Nat.lt_succ_self g))
      have HR7 := Lib.hid (own_gr HR6.out hg (Nat.lt_succ_self g))
      clear hc hg HC6 HG6 BX6 BN6 BR6 BM6 HX6 HR6
      have HZ7 := Lib.hid (for_in z7 (by omega) (by omega))
      obtain ⟨f0, f1, f2⟩ := BX7.out.q3
      obtain ⟨g0, g1, g2⟩ := BX7.out.z3
      have lf := BX7.out.lt
      go_wp2_with fail
      refine (l2For_any 1 4 3 z7 _ (by omega) (by omega) (by omega) (by omega)).mono ?_
      rintro e v7 ⟨A7, c7, rfl, ho, hb⟩
      clear f0 f1 f2 g0 g1 g2 lf
      have hs := HC7.out.lt
      have BTmp := Lib.hid (BX7.out.ext hb)
      obtain ⟨w8, hw8⟩ : ∃ y9 : World, y9 = ((v7.setCell ⟨NX, 0, none⟩ (.int .i64 1)).setCell ⟨NX, 1, none⟩ (.int .i64 4)).setCell ⟨NX, 2, none⟩ (.slice A7 (forL 3 z7 3).length c7) := ⟨_, rfl⟩
      have BX8 := Lib.hid (show Blk w8 NX 26 #[.int .i64 1, .int .i64 4, .slice A7 (forL 3 z7 3).length c7] by rw [hw8]; exact fr_put BTmp.out)
      have HX8 := Lib.hid (show w8.ownsRow (g + 1) 115 2 (.slice A7 (forL 3 z7 3).length c7) (forL 3 z7 3).length (rowsV2 (forL 3 z7 3)) by rw [hw8]; exact fill_own' (own_base ho hs) (own_nbT ho BTmp.out (by decide)))
      have HC8 := Lib.hid (show CurAt w8 g a7 by rw [hw8]; exact (((HC7.out.ext hb).far (p := ⟨NX, 0, none⟩) (by show g < NX; omega) _).far (p := ⟨NX, 1, none⟩) (by show g < NX; omega) _).far (p := ⟨NX, 2, none⟩) (by show g < NX; omega) _)
      have HG8 := Lib.hid (show Gr g w w8 by rw [hw8]; exact fill_gr (HG7.out.trans (Gr.of_ext hb)) (by omega))
      have BN8 := Lib.hid (show Blk w8 NM 26 #[.int .i64 u, .int .i64 lo, .slice A l.length c] by rw [hw8]; exact fill_far (BN7.out.ext hb) (by omega))
      have BR8 := Lib.hid (show Blk w8 w.heap.size 26 #[.int .i64 0, .int .i64 0, .slice none 0 0] by rw [hw8]; exact fill_far (BR7.out.ext hb) (by omega))
      have BM8 := Lib.hid (show Blk w8 (w.heap.size + 1) 26 #[.int .i64 0, .int .i64 0, .slice none 0 0] by rw [hw8]; exact fill_far (BM7.out.ext hb) (by omega))
      have HR8 := Lib.hid (show w8.ownsRow (g + 1) 115 2 (.slice A l.length c) l.length (rowsV2 l) by rw [hw8]; exact fill_own' (own_ext HR7.out hb) (own_nbT (own_ext HR7.out hb) BTmp.out (by decide)))
      obtain ⟨f0, f1, f2⟩ := BTmp.out.q3
      obtain ⟨g0, g1, g2⟩ := BTmp.out.z3
      have lf := BTmp.out.lt
      go_upto_region 9 with fail
      rw [← hw8]
      clear hw8 ho hb hs f0 f1 f2 g0 g1 g2 lf BTmp HC7 HG7 BX7 HX7 BN7 BR7 BM7 HR7
      obtain ⟨a8, ha8⟩ : ∃ o9, o9 = a7 := ⟨_, rfl⟩
      rw [← ha8] at HC8
      have ha8 : a8 ≤ 10450 := by omega
      go_wp2_with fail
      refine (among_lit g a8 5 700 [5, 19, 700] 3 _ HC8.out (by omega) (by decide) (by decide) (by decide) _ rfl (by simp)).mono ?_
      rintro e w9 ⟨z9, a9, rfl, nz0, nz1, ha9, hc, hg⟩
      have HC9 := Lib.hid hc
      have HG9 := Lib.hid (HG8.out.trans hg)
      have BN9 := Lib.hid (BN8.out.gr hg (by omega))
      have BX9 := Lib.hid (BX8.out.gr hg (by omega))
      have BR9 := Lib.hid (BR8.out.gr hg hRg)
      have BM9 := Lib.hid (BM8.out.gr hg hRh)
      have HR9 := Lib.hid (own_gr HR8.out hg (Nat.lt_succ_self g))
      have HX9 := Lib.hid (own_gr HX8.out hg (Nat.lt_succ_self g))
      clear hc hg HC8 HG8 BN8 BX8 BR8 BM8 HR8 HX8
      have HZ9 := Lib.hid (for_in z9 (by omega) (by omega))
      obtain ⟨f0, f1, f2⟩ := BN9.out.q3
      obtain ⟨g0, g1, g2⟩ := BN9.out.z3
      have lf := BN9.out.lt
      go_wp2_with fail
      refine (l2For_any 1 4 3 z9 _ (by omega) (by omega) (by omega) (by omega)).mono ?_
      rintro e v9 ⟨A9, c9, rfl, ho, hb⟩
      clear f0 f1 f2 g0 g1 g2 lf
      have hs := HC9.out.lt
      have BTmp := Lib.hid (BN9.out.ext hb)
      obtain ⟨w10, hw10⟩ : ∃ y9 : World, y9 = ((v9.setCell ⟨NM, 0, none⟩ (.int .i64 1)).setCell ⟨NM, 1, none⟩ (.int .i64 4)).setCell ⟨NM, 2, none⟩ (.slice A9 (forL 3 z9 3).length c9) := ⟨_, rfl⟩
      have BN10 := Lib.hid (show Blk w10 NM 26 #[.int .i64 1, .int .i64 4, .slice A9 (forL 3 z9 3).length c9] by rw [hw10]; exact fr_put BTmp.out)
      have HR10 := Lib.hid (show w10.ownsRow (g + 1) 115 2 (.slice A9 (forL 3 z9 3).length c9) (forL 3 z9 3).length (rowsV2 (forL 3 z9 3)) by rw [hw10]; exact fill_own' (own_base ho hs) (own_nbT ho BTmp.out (by decide)))
      have HC10 := Lib.hid (show CurAt w10 g a9 by rw [hw10]; exact (((HC9.out.ext hb).far (p := ⟨NM, 0, none⟩) (by show g < NM; omega) _).far (p := ⟨NM, 1, none⟩) (by show g < NM; omega) _).far (p := ⟨NM, 2, none⟩) (by show g < NM; omega) _)
      have HG10 := Lib.hid (show Gr g w w10 by rw [hw10]; exact fill_gr (HG9.out.trans (Gr.of_ext hb)) (by omega))
      have BX10 := Lib.hid (show Blk w10 NX 26 #[.int .i64 1, .int .i64 4, .slice A7 (forL 3 z7 3).length c7] by rw [hw10]; exact fill_far (BX9.out.ext hb) (by omega))
      have BR10 := Lib.hid (show Blk w10 w.heap.size 26 #[.int .i64 0, .int .i64 0, .slice none 0 0] by rw [hw10]; exact fill_far (BR9.out.ext hb) (by omega))
      have BM10 := Lib.hid (show Blk w10 (w.heap.size + 1) 26 #[.int .i64 0, .int .i64 0, .slice none 0 0] by rw [hw10]; exact fill_far (BM9.out.ext hb) (by omega))
      have HX10 := Lib.hid (show w10.ownsRow (g + 1) 115 2 (.slice A7 (forL 3 z7 3).length c7) (forL 3 z7 3).length (rowsV2 (forL 3 z7 3)) by rw [hw10]; exact fill_own' (own_ext HX9.out hb) (own_nbT (own_ext HX9.out hb) BTmp.out (by decide)))
      obtain ⟨f0, f1, f2⟩ := BTmp.out.q3
      obtain ⟨g0, g1, g2⟩ := BTmp.out.z3
      have lf := BTmp.out.lt
      go_upto_region 10 with fail
      rw [← hw10]
      clear hw10 ho hb hs f0 f1 f2 g0 g1 g2 lf BTmp HC9 HG9 BN9 HR9 BX9 BR9 BM9 HX9
      obtain ⟨fa0, fa1, fa2⟩ := BN10.out.q3
      obtain ⟨fb0, fb1, fb2⟩ := BX10.out.q3
      obtain ⟨r0, r1, r2⟩ := BR10.out.q3
      obtain ⟨y0, y1, y2⟩ := BR10.out.z3
      obtain ⟨s0, s1, s2⟩ := BM10.out.q3
      obtain ⟨x0, x1, x2⟩ := BM10.out.z3
      have lfa := BN10.out.lt
      have lfb := BX10.out.lt
      have lr := BR10.out.lt
      have ls := BM10.out.lt
      go_upto_region 10 with fail
      go_region
      go_wp2
      refine bodyPost_ret (v := .tuple #[frV 1 4 A9 (forL 3 z9 3).length c9, frV 1 4 A7 (forL 3 z7 3).length c7]) (by simp [results, Try.results25, go_sem, *]) rfl ?_
      exact ⟨1, 4, forL 3 z9 3, A9, c9, 1, 4, forL 3 z7 3, A7, c7, rfl, HZ9.out, HZ7.out, (fill_own' (fill_own' (own_base HR10.out (by omega)) (own_nbT HR10.out BR10.out (by decide))) (own_nbT HR10.out BM10.out (by decide))).drew, (fill_own' (fill_own' (own_base HX10.out (by omega)) (own_nbT HX10.out BR10.out (by decide))) (own_nbT HX10.out BM10.out (by decide))).drew, (fill_below (fill_below (Gr.below (ext_refl w) HG10.out (by omega)) (Nat.le_refl _)) (Nat.le_succ _)).drew⟩
  · obtain rfl := hbo rfl
    have HFI : FrIn U LO L := by
     rcases HST.out with h | h
     · cases h
     · exact h
    obtain ⟨fa0, fa1, fa2⟩ := BN3.out.q3
    obtain ⟨fb0, fb1, fb2⟩ := BB3.out.q3
    obtain ⟨r0, r1, r2⟩ := BR3.out.q3
    obtain ⟨y0, y1, y2⟩ := BR3.out.z3
    obtain ⟨s0, s1, s2⟩ := BM3.out.q3
    obtain ⟨x0, x1, x2⟩ := BM3.out.z3
    have lfa := BN3.out.lt
    have lfb := BB3.out.lt
    have lr := BR3.out.lt
    have ls := BM3.out.lt
    go_upto_region 5 with fail
    go_region
    go_wp2
    refine bodyPost_ret (v := .tuple #[frV u lo A l.length c, frV U LO A2 L.length c2]) (by simp [results, Try.results25, go_sem, *]) rfl ?_
    exact ⟨u, lo, l, A, c, U, LO, L, A2, c2, rfl, HIN.out, HFI, (fill_own' (fill_own' (own_base HR3.out (by omega)) (own_nbT HR3.out BR3.out (by decide))) (own_nbT HR3.out BM3.out (by decide))).drew, (fill_own' (fill_own' (own_base HX3.out (by omega)) (own_nbT HX3.out BR3.out (by decide))) (own_nbT HX3.out BM3.out (by decide))).drew, (fill_below (fill_below (Gr.below (ext_refl w) HG3.out (by omega)) (Nat.le_refl _)) (Nat.le_succ _)).drew⟩

end Go.Proofs.Ytkpfelfgpjodiaa
