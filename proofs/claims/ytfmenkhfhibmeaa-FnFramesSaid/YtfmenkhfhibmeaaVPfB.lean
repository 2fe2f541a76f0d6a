/- ParseFrame: the reference's. -/
import Derived.Test.YtfmenkhfhibmeaaVPfA
import Derived.Test.YtfmenkhfhibmeaaVM2
import Derived.Test.YtfmenkhfhibmeaaVFrN
import Derived.Test.YtfmenkhfhibmeaaVM1
namespace Go.Proofs.Ytfmenkhfhibmeaa
open Go.RowKit
set_option linter.unusedVariables false
set_option linter.unusedSimpArgs false
def FrY (S g : Nat) (N RB : Nat) (u lo x1 x2 : Int) (X : ByteArray) (j bW oW n1 cW y1 y2 k : Nat) (A : Option Addr) (c : Nat) (l : List R2) (P : Wds) (vs : Nat → Value) (wx : World) : Nat → Prop
 | 0 => vs 47 = .pointer (some ⟨N, 2, none⟩)
 | 1 => vs 48 = .slice A k c
 | 2 => vs 49 = .slice (some ⟨bW, oW, none⟩) n1 cW ∧ (Value.ownBlock (.slice A k c) ≠ Value.ownBlock (.slice (some ⟨bW, oW, none⟩) n1 cW)) ∧ (wx.ownsRow S 9 1 (.slice (some ⟨bW, oW, none⟩) n1 cW) n1 (strsV P))
 | 3 => vs 50 = .int .i64 (j : Int)
 | 4 => vs 51 = .pointer (some ⟨bW, oW + j, none⟩)
 | 5 => vs 52 = .string X
 | 6 => vs 53 = .int .u8 (y1 : Int)
 | 7 => vs 54 = .int .i64 (y1 : Int)
 | 8 => vs 55 = .int .i64 x1
 | 9 => vs 56 = .slice (some ⟨bW, oW, none⟩) n1 cW
 | 10 => vs 57 = .int .i64 (j : Int)
 | 11 => vs 58 = .pointer (some ⟨bW, oW + j, none⟩)
 | 12 => vs 59 = .string X
 | 13 => vs 60 = .int .u8 (y2 : Int)
 | 14 => vs 61 = .int .i64 (y2 : Int)
 | 15 => vs 62 = .int .i64 x2
 | 16 => vs 63 = .agg #[.int .i64 x1, .int .i64 x2]
 | 17 => ∃ (z9 : Nat), vs 64 = .slice (some ⟨z9, 0, none⟩) 1 1 ∧ (S ≤ z9) ∧ (Value.ownBlock (.slice A k c) ≠ some z9) ∧ (Blk wx z9 55 #[.int .i64 x1, .int .i64 x2])
 | 18 => ∃ (A2 : Option Addr) (c2 : Nat), vs 65 = .slice A2 (k + 1) c2 ∧ (wx.ownsRow S 55 2 (.slice A2 (k + 1) c2) (k + 1) (rowsV2 (l ++ [⟨x1, x2⟩])))
 | 19 => vs 66 = .pointer (some ⟨N, 2, none⟩)
 | 20 => ∃ (A2 : Option Addr) (c2 : Nat), (wx.ownsRow S 55 2 (.slice A2 (k + 1) c2) (k + 1) (rowsV2 (l ++ [⟨x1, x2⟩]))) ∧ (Blk wx N 26 #[.int .i64 u, .int .i64 lo, .slice A2 (k + 1) c2]) ∧ (Blk wx RB 26 #[.int .i64 0, .int .i64 0, .slice none 0 0]) ∧ (S ≤ N) ∧ (S ≤ RB)
 | _ => True
def FrYU : Nat → List Nat
 | 0 => [47]
 | 1 => [48]
 | 2 => [49]
 | 3 => [50]
 | 4 => [51]
 | 5 => [52]
 | 6 => [53]
 | 7 => [54]
 | 8 => [55]
 | 9 => [56]
 | 10 => [57]
 | 11 => [58]
 | 12 => [59]
 | 13 => [60]
 | 14 => [61]
 | 15 => [62]
 | 16 => [63]
 | 17 => [64]
 | 18 => [65]
 | 19 => [66]
 | 20 => []
 | _ => []
def FrYR (g : Nat) (N RB : Nat) (u lo x1 x2 : Int) (X : ByteArray) (j bW oW n1 cW y1 y2 k : Nat) (A : Option Addr) (c : Nat) (l : List R2) (P : Wds) (i : Nat) (wx wy : World) : Prop := if i = 18 then wx.grownBy wy (Value.ownBlock (.slice A k c)) else if i = 20 then KeepW 26 wx wy else Below wx.heap.size wx wy
theorem FrY_gr {S g : Nat} {N RB : Nat} {u lo x1 x2 : Int} {X : ByteArray} {j bW oW n1 cW y1 y2 k : Nat} {A : Option Addr} {c : Nat} {l : List R2} {P : Wds} (hgS : True) {vs us : Nat → Value} {wx wy : World} {jN : Nat} (hGG : FrY S g N RB u lo x1 x2 X j bW oW n1 cW y1 y2 k A c l P vs wx jN) (haG : ∀ d ∈ FrYU jN, us d = vs d) (hbG : Below wx.heap.size wx wy) : FrY S g N RB u lo x1 x2 X j bW oW n1 cW y1 y2 k A c l P us wy jN := by
 match jN, hGG, haG with
 | 0, hGG, haG =>
   exact (haG 47 (by simp [FrYU])).trans hGG
 | 1, hGG, haG =>
   exact (haG 48 (by simp [FrYU])).trans hGG
 | 2, hGG, haG =>
   obtain ⟨eG, fG0, fG1⟩ := hGG
   exact ⟨(haG 49 (by simp [FrYU])).trans eG, fG0, own_ext fG1 hbG⟩
 | 3, hGG, haG =>
   exact (haG 50 (by simp [FrYU])).trans hGG
 | 4, hGG, haG =>
   exact (haG 51 (by simp [FrYU])).trans hGG
 | 5, hGG, haG =>
   exact (haG 52 (by simp [FrYU])).trans hGG
 | 6, hGG, haG =>
   exact (haG 53 (by simp [FrYU])).trans hGG
 | 7, hGG, haG =>
   exact (haG 54 (by simp [FrYU])).trans hGG
 | 8, hGG, haG =>
   exact (haG 55 (by simp [FrYU])).trans hGG
 | 9, hGG, haG =>
   exact (haG 56 (by simp [FrYU])).trans hGG
 | 10, hGG, haG =>
   exact (haG 57 (by simp [FrYU])).trans hGG
 | 11, hGG, haG =>
   exact (haG 58 (by simp [FrYU])).trans hGG
 | 12, hGG, haG =>
   exact (haG 59 (by simp [FrYU])).trans hGG
 | 13, hGG, haG =>
   exact (haG 60 (by simp [FrYU])).trans hGG
 | 14, hGG, haG =>
   exact (haG 61 (by simp [FrYU])).trans hGG
 | 15, hGG, haG =>
   exact (haG 62 (by simp [FrYU])).trans hGG
 | 16, hGG, haG =>
   exact (haG 63 (by simp [FrYU])).trans hGG
 | 17, hGG, haG =>
   obtain ⟨xG0, eG, fG0, fG1, fG2⟩ := hGG
   exact ⟨xG0, (haG 64 (by simp [FrYU])).trans eG, fG0, fG1, fG2.ext hbG⟩
 | 18, hGG, haG =>
   obtain ⟨xG0, xG1, eG, fG0⟩ := hGG
   exact ⟨xG0, xG1, (haG 65 (by simp [FrYU])).trans eG, own_ext fG0 hbG⟩
 | 19, hGG, haG =>
   exact (haG 66 (by simp [FrYU])).trans hGG
 | 20, hGG, haG =>
   obtain ⟨xG0, xG1, fG0, fG1, fG2, fG3, fG4⟩ := hGG
   exact ⟨xG0, xG1, own_ext fG0 hbG, fG1.ext hbG, fG2.ext hbG, fG3, fG4⟩
 | jN + 21, _, _ => trivial
theorem FrY_18 {S g : Nat} {N RB : Nat} {u lo x1 x2 : Int} {X : ByteArray} {j bW oW n1 cW y1 y2 k : Nat} {A : Option Addr} {c : Nat} {l : List R2} {P : Wds} (hgS : True) {vs us : Nat → Value} {wx wy : World} {jN : Nat} (hneG : jN ≠ 18 ∧ jN ≠ 20) (hGG : FrY S g N RB u lo x1 x2 X j bW oW n1 cW y1 y2 k A c l P vs wx jN) (haG : ∀ d ∈ FrYU jN, us d = vs d) (hbG : wx.grownBy wy (Value.ownBlock (.slice A k c))) : FrY S g N RB u lo x1 x2 X j bW oW n1 cW y1 y2 k A c l P us wy jN := by
 match jN, hGG, haG, hneG with
 | 0, hGG, haG, hneG =>
   exact (haG 47 (by simp [FrYU])).trans hGG
 | 1, hGG, haG, hneG =>
   exact (haG 48 (by simp [FrYU])).trans hGG
 | 2, hGG, haG, hneG =>
   obtain ⟨eG, fG0, fG1⟩ := hGG
   exact ⟨(haG 49 (by simp [FrYU])).trans eG, fG0, fG1.kept hbG (.inr (Ne.symm fG0))⟩
 | 3, hGG, haG, hneG =>
   exact (haG 50 (by simp [FrYU])).trans hGG
 | 4, hGG, haG, hneG =>
   exact (haG 51 (by simp [FrYU])).trans hGG
 | 5, hGG, haG, hneG =>
   exact (haG 52 (by simp [FrYU])).trans hGG
 | 6, hGG, haG, hneG =>
   exact (haG 53 (by simp [FrYU])).trans hGG
 | 7, hGG, haG, hneG =>
   exact (haG 54 (by simp [FrYU])).trans hGG
 | 8, hGG, haG, hneG =>
   exact (haG 55 (by simp [FrYU])).trans hGG
 | 9, hGG, haG, hneG =>
   exact (haG 56 (by simp [FrYU])).trans hGG
 | 10, hGG, haG, hneG =>
   exact (haG 57 (by simp [FrYU])).trans hGG
 | 11, hGG, haG, hneG =>
   exact (haG 58 (by simp [FrYU])).trans hGG
 | 12, hGG, haG, hneG =>
   exact (haG 59 (by simp [FrYU])).trans hGG
 | 13, hGG, haG, hneG =>
   exact (haG 60 (by simp [FrYU])).trans hGG
 | 14, hGG, haG, hneG =>
   exact (haG 61 (by simp [FrYU])).trans hGG
 | 15, hGG, haG, hneG =>
   exact (haG 62 (by simp [FrYU])).trans hGG
 | 16, hGG, haG, hneG =>
   exact (haG 63 (by simp [FrYU])).trans hGG
 | 17, hGG, haG, hneG =>
   obtain ⟨xG0, eG, fG0, fG1, fG2⟩ := hGG
   exact ⟨xG0, (haG 64 (by simp [FrYU])).trans eG, fG0, fG1, fG2.grownF hbG fG1⟩
 | 18, hGG, haG, hneG =>
   exact absurd rfl hneG.1
 | 19, hGG, haG, hneG =>
   exact (haG 66 (by simp [FrYU])).trans hGG
 | 20, hGG, haG, hneG =>
   exact absurd rfl hneG.2
 | jN + 21, _, _, _ => trivial
theorem FrY_20 {S g : Nat} {N RB : Nat} {u lo x1 x2 : Int} {X : ByteArray} {j bW oW n1 cW y1 y2 k : Nat} {A : Option Addr} {c : Nat} {l : List R2} {P : Wds} (hgS : True) {vs us : Nat → Value} {wx wy : World} {jN : Nat} (hneG : jN ≠ 20) (hGG : FrY S g N RB u lo x1 x2 X j bW oW n1 cW y1 y2 k A c l P vs wx jN) (haG : ∀ d ∈ FrYU jN, us d = vs d) (hbG : KeepW 26 wx wy) : FrY S g N RB u lo x1 x2 X j bW oW n1 cW y1 y2 k A c l P us wy jN := by
 match jN, hGG, haG, hneG with
 | 0, hGG, haG, hneG =>
   exact (haG 47 (by simp [FrYU])).trans hGG
 | 1, hGG, haG, hneG =>
   exact (haG 48 (by simp [FrYU])).trans hGG
 | 2, hGG, haG, hneG =>
   obtain ⟨eG, fG0, fG1⟩ := hGG
   exact ⟨(haG 49 (by simp [FrYU])).trans eG, fG0, hbG.own fG1 (by decide)⟩
 | 3, hGG, haG, hneG =>
   exact (haG 50 (by simp [FrYU])).trans hGG
 | 4, hGG, haG, hneG =>
   exact (haG 51 (by simp [FrYU])).trans hGG
 | 5, hGG, haG, hneG =>
   exact (haG 52 (by simp [FrYU])).trans hGG
 | 6, hGG, haG, hneG =>
   exact (haG 53 (by simp [FrYU])).trans hGG
 | 7, hGG, haG, hneG =>
   exact (haG 54 (by simp [FrYU])).trans hGG
 | 8, hGG, haG, hneG =>
   exact (haG 55 (by simp [FrYU])).trans hGG
 | 9, hGG, haG, hneG =>
   exact (haG 56 (by simp [FrYU])).trans hGG
 | 10, hGG, haG, hneG =>
   exact (haG 57 (by simp [FrYU])).trans hGG
 | 11, hGG, haG, hneG =>
   exact (haG 58 (by simp [FrYU])).trans hGG
 | 12, hGG, haG, hneG =>
   exact (haG 59 (by simp [FrYU])).trans hGG
 | 13, hGG, haG, hneG =>
   exact (haG 60 (by simp [FrYU])).trans hGG
 | 14, hGG, haG, hneG =>
   exact (haG 61 (by simp [FrYU])).trans hGG
 | 15, hGG, haG, hneG =>
   exact (haG 62 (by simp [FrYU])).trans hGG
 | 16, hGG, haG, hneG =>
   exact (haG 63 (by simp [FrYU])).trans hGG
 | 17, hGG, haG, hneG =>
   obtain ⟨xG0, eG, fG0, fG1, fG2⟩ := hGG
   exact ⟨xG0, (haG 64 (by simp [FrYU])).trans eG, fG0, fG1, hbG.2.1 _ _ _ fG2 (by decide)⟩
 | 18, hGG, haG, hneG =>
   obtain ⟨xG0, xG1, eG, fG0⟩ := hGG
   exact ⟨xG0, xG1, (haG 65 (by simp [FrYU])).trans eG, hbG.own fG0 (by decide)⟩
 | 19, hGG, haG, hneG =>
   exact (haG 66 (by simp [FrYU])).trans hGG
 | 20, hGG, haG, hneG =>
   exact absurd rfl hneG
 | jN + 21, _, _, _ => trivial
def FrYP (j i : Nat) : Bool := (j == 20 && i == 18)
theorem FrY_keep {S g : Nat} {N RB : Nat} {u lo x1 x2 : Int} {X : ByteArray} {j bW oW n1 cW y1 y2 k : Nat} {A : Option Addr} {c : Nat} {l : List R2} {P : Wds} (hgS : True) {vs us : Nat → Value} {wx wy : World} {iN jN : Nat} (hneG : iN ≠ jN) (hdpG : FrYP jN iN = false) (hGG : FrY S g N RB u lo x1 x2 X j bW oW n1 cW y1 y2 k A c l P vs wx jN) (haG : ∀ d ∈ FrYU jN, us d = vs d) (hbG : FrYR g N RB u lo x1 x2 X j bW oW n1 cW y1 y2 k A c l P iN wx wy) : FrY S g N RB u lo x1 x2 X j bW oW n1 cW y1 y2 k A c l P us wy jN := by
 unfold FrYR at hbG
 by_cases h18 : iN = 18
 · rw [if_pos h18] at hbG
   exact FrY_18 hgS ⟨by omega, fun e => by subst e; subst h18; cases hdpG⟩ hGG haG hbG
 rw [if_neg h18] at hbG
 by_cases h20 : iN = 20
 · rw [if_pos h20] at hbG
   exact FrY_20 hgS (by omega) hGG haG hbG
 rw [if_neg h20] at hbG
 exact FrY_gr hgS hGG haG hbG
set_option maxRecDepth 100000 in
set_option maxHeartbeats 16000000 in
theorem specParseFrame_any (s : ByteArray) (w : World) (hs : s.size ≤ 16777216) : Calls Try.prog 14 #[.string s] w (RetFrB w ((pfO s).getD (0, 0, [])) (pfO s).isSome) := by
 obtain ⟨i0, hi0, hz0, hz1, hz2⟩ := info_parts info_rod
 have BR0 := Lib.hid (Blk.born w #[.int .i64 0, .int .i64 0, .slice none 0 0] 26 (H := w.heap.size) rfl)
 have HB0 := Lib.hid (ext_alloc (ext_refl w) (.cells #[.int .i64 0, .int .i64 0, .slice none 0 0] 26))
 unfold RetFrB
 obtain ⟨w0, ws, hW⟩ : ∃ w0 ws, splitL 32 (bl s) = w0 :: ws := by
  cases h : splitL 32 (bl s) with
  | nil => exact absurd h (splitL_ne _ _)
  | cons a b => exact ⟨a, b, rfl⟩
 have hsz := splitL_size s 32
 have HWS := Lib.hid hW
 have HSP := Lib.hid (fun w => l1Split_any s 32 w hs)
 obtain ⟨P, hP⟩ : ∃ P, splitL 32 (bl s) = P := ⟨_, rfl⟩
 rw [hP] at HSP hsz
 have HPW := Lib.hid (show P = w0 :: ws from hP.symm.trans hW)
 obtain ⟨n1, hn1⟩ : ∃ n1, P.length = n1 := ⟨_, rfl⟩
 rw [hn1] at HSP hsz
 have hnw : n1 = ws.length + 1 := by rw [← hn1, HPW.out]; rfl
 have HN1 := Lib.hid hn1
 clear hP hW hn1
 obtain ⟨S0, hS0⟩ : ∃ S0, str w0 = S0 := ⟨_, rfl⟩
 have hbS : bl S0 = w0 := by rw [← hS0, bl_str]
 have hz0' : S0.size = w0.length := by rw [← hS0, str_sz]
 have HS0 := Lib.hid (And.intro hS0 hbS)
 clear hS0 hbS
 go_enter Try.func14, Try.ntmps14
 go_wp2_with fail
 refine (HSP.out _).mono ?_
 rintro e w1 ⟨A1, cW, rfl, ho1, hb1⟩
 obtain ⟨bW, oW, rfl⟩ := words_some (Reads.of_own ho1) (by rw [HPW.out]; exact Nat.succ_pos _)
 have HWD1 := Lib.hid (own_base ho1 HB0.out.size)
 have BR1 := Lib.hid (BR0.out.ext hb1)
 have HB1 := Lib.hid (ext_trans HB0.out hb1)
 have HPX0 := Lib.hid (show P[0]? = some w0 by rw [HPW.out]; rfl)
 clear ho1 hb1 BR0 HB0
 obtain ⟨c0, lW⟩ := wcell_at (Reads.of_own HWD1.out) HPX0.out
 rw [HS0.out.1, Nat.add_zero] at c0
 have k0 : (0 : Int) < (n1 : Int) := by omega
 have k0n : 0 < n1 := by omega
 have HNW := Lib.hid hnw
 clear hnw
 rcases (show ¬ w0.length = 3 ∨ w0.length = 3 by omega) with h3 | h3
 · have HP := Lib.hid (pf_no3 HWS.out h3)
   have hb3 : ((S0.size : Int) != 3) = true := by rw [bne_iff_ne]; omega
   have hb3' : ¬ (S0.size : Int) = 3 := by omega
   obtain ⟨r0, r1, r2⟩ := BR1.out.q3
   obtain ⟨z0, z1, z2⟩ := BR1.out.z3
   have lr := BR1.out.lt
   go_wp2
   refine bodyPost_ret (v := .tuple #[frV 0 0 none 0 0, .bool false]) (by simp [results, Try.results14, go_sem, *]) rfl ?_
   rw [HP.out]
   exact ⟨none, 0, rfl, World.ownsRow_nil _ _ _ _, fill_below HB1.out (Nat.le_refl _)⟩
 have hb3 : ((S0.size : Int) != 3) = false := by rw [bne_eq_false_iff_eq]; omega
 have hb3' : (S0.size : Int) = 3 := by omega
 by_cases h9 : 8 < ws.length
 · have HP := Lib.hid (pf_no9 HWS.out h9)
   have hb9 : decide ((9 : Int) < (n1 : Int)) = true := decide_eq_true (by have := HNW.out; omega)
   have hb9' : (9 : Int) < (n1 : Int) := by have := HNW.out; omega
   obtain ⟨r0, r1, r2⟩ := BR1.out.q3
   obtain ⟨z0, z1, z2⟩ := BR1.out.z3
   have lr := BR1.out.lt
   go_wp2
   refine bodyPost_ret (v := .tuple #[frV 0 0 none 0 0, .bool false]) (by simp [results, Try.results14, go_sem, *]) rfl ?_
   rw [HP.out]
   exact ⟨none, 0, rfl, World.ownsRow_nil _ _ _ _, fill_below HB1.out (Nat.le_refl _)⟩
 have hb9 : decide ((9 : Int) < (n1 : Int)) = false := decide_eq_false (by have := HNW.out; omega)
 have hb9' : ¬ (9 : Int) < (n1 : Int) := by have := HNW.out; omega
 have hp0 : 0 < S0.size := by omega
 have hp2 : 2 < S0.size := by omega
 have hl0 := UInt8.toNat_lt (S0[0]'hp0)
 have hl2 := UInt8.toNat_lt (S0[2]'hp2)
 have hu : ((S0[0]'hp0).toNat : Int) - 48 = rd w0 0 := by rw [← HS0.out.2]; unfold rd; rw [bl_getDx hp0]
 have hlo : ((S0[2]'hp2).toNat : Int) - 48 = rd w0 2 := by rw [← HS0.out.2]; unfold rd; rw [bl_getDx hp2]
 have HPO := Lib.hid (pf_end HWS.out)
 have HU := Lib.hid hu
 have HLO := Lib.hid hlo
 have ho0 : rd w0 0 ≤ 1000 ∧ -1000 ≤ rd w0 0 := by rw [← hu]; omega
 have ho2 : rd w0 2 ≤ 1000 ∧ -1000 ≤ rd w0 2 := by rw [← hlo]; omega
 obtain ⟨u, hue⟩ : ∃ u, rd w0 0 = u := ⟨_, rfl⟩
 obtain ⟨lo, hloe⟩ : ∃ lo, rd w0 2 = lo := ⟨_, rfl⟩
 rw [hue] at HU HPO ho0
 rw [hloe] at HLO HPO ho2
 have hwa : IntKind.i64.wrap ((S0[0]'hp0).toNat : Int) = ((S0[0]'hp0).toNat : Int) := by rw [IntKind.wrap_i64]; omega
 have hwb : IntKind.i64.wrap ((S0[2]'hp2).toNat : Int) = ((S0[2]'hp2).toNat : Int) := by rw [IntKind.wrap_i64]; omega
 have hwa' : IntKind.i64.wrap (((S0[0]'hp0).toNat : Int) - 48) = ((S0[0]'hp0).toNat : Int) - 48 := by rw [IntKind.wrap_i64]; omega
 have hwb' : IntKind.i64.wrap (((S0[2]'hp2).toNat : Int) - 48) = ((S0[2]'hp2).toNat : Int) - 48 := by rw [IntKind.wrap_i64]; omega
 clear hu hlo hue hloe
 go_upto_region 4 with fail
 go_cut [5] (fun s5 wx => ∃ N h, s5 = .pointer (some ⟨N, 0, none⟩) ∧ Hid (Blk wx N 26 #[.int .i64 u, .int .i64 lo, .slice (some ⟨h, 0, none⟩) 0 0]) ∧ Hid (wx.ownsRow w.heap.size 55 2 (.slice (some ⟨h, 0, none⟩) 0 0) 0 (rowsV2 [])) ∧ Hid (Below w1.heap.size w1 wx) ∧ w.heap.size < N)
 case first =>
  have hs1 := HB1.out.size
  have hs2 := BR1.out.lt
  go_region_held3 (fun wx => wx.cell? ⟨bW, oW, none⟩ = some (.string S0)) (repeat (first | (with_reducible assumption) | (with_reducible refine cell_drew ?_) | (with_reducible refine cell_old ?_ _) | (with_reducible refine cell_set_far (by simp <;> omega) ?_))) (fail)
  all_goals
   go_wp2_with fail
   go_meet
   rw [← HU.out, ← HLO.out]
   first
    | (refine ⟨_, w1.heap.size, rfl, ?_, ?_, ?_, ?_⟩
       · refine Lib.hid ?_
         repeat (first | (with_reducible exact Blk.born _ _ _ rfl) | (with_reducible exact Blk.born _ _ _ (by simp)) | (with_reducible refine Blk.drv ?_) | (with_reducible refine fr_fill ?_) | (with_reducible refine Blk.al ?_ _))
       · refine Lib.hid ?_
         show World.ownsRow _ _ _ _ _ _ []
         repeat (first | (with_reducible exact own_lit_at _ _ _ rfl (by omega)) | (with_reducible exact own_lit_at _ _ _ (by simp) (by omega)) | (with_reducible refine World.ownsRow.drew ?_) | (with_reducible refine World.ownsRow.alloc ?_ _) | (with_reducible refine fill_own' ?_ (by simp [Value.ownBlock])))
       · refine Lib.hid ?_
         repeat (first | (with_reducible exact ext_refl _) | (with_reducible refine ext_drew ?_) | (with_reducible refine ext_alloc ?_ _) | (with_reducible refine fill_below ?_ (by first | omega | (simp <;> omega))))
       · first | omega | (simp <;> omega))
    | (refine ⟨_, w1.heap.size + 1, rfl, ?_, ?_, ?_, ?_⟩
       · refine Lib.hid ?_
         repeat (first | (with_reducible exact Blk.born _ _ _ rfl) | (with_reducible exact Blk.born _ _ _ (by simp)) | (with_reducible refine Blk.drv ?_) | (with_reducible refine fr_fill ?_) | (with_reducible refine Blk.al ?_ _))
       · refine Lib.hid ?_
         show World.ownsRow _ _ _ _ _ _ []
         repeat (first | (with_reducible exact own_lit_at _ _ _ rfl (by omega)) | (with_reducible exact own_lit_at _ _ _ (by simp) (by omega)) | (with_reducible refine World.ownsRow.drew ?_) | (with_reducible refine World.ownsRow.alloc ?_ _) | (with_reducible refine fill_own' ?_ (by simp [Value.ownBlock])))
       · refine Lib.hid ?_
         repeat (first | (with_reducible exact ext_refl _) | (with_reducible refine ext_drew ?_) | (with_reducible refine ext_alloc ?_ _) | (with_reducible refine fill_below ?_ (by first | omega | (simp <;> omega))))
       · first | omega | (simp <;> omega))
 case rest =>
  obtain ⟨N, hh, rfl, BN1, HR1, hb2, hNw⟩ := hcut
  obtain ⟨w2, hw2⟩ : ∃ x : World, x = wc := ⟨_, rfl⟩
  subst hw2
  have BR2 := Lib.hid (BR1.out.ext hb2.out)
  have HB2 := Lib.hid (ext_trans HB1.out hb2.out)
  have HWD2 := Lib.hid (own_ext HWD1.out hb2.out)
  clear BR1 HB1 HWD1 hb2 hl0 hl2 HU HLO c0 lW hwa hwb hwa' hwb' hb3 hb3' hb9 hb9' h3 hp0 hp2
  have hwN : w.heap.size ≤ N := by omega
  have hNR : N ≠ w.heap.size := by omega
  have hwR : w.heap.size ≤ w.heap.size := Nat.le_refl _
  go_wp2_with fail
  go_loopw [6] (fun iv wr => ∃ (k c : Nat) (A : Option Addr), k ≤ ws.length ∧ iv = .int .i64 ((k + 1 : Nat) : Int) ∧ Hid (Blk wr N 26 #[.int .i64 u, .int .i64 lo, .slice A k c]) ∧ Hid (wr.ownsRow w.heap.size 55 2 (.slice A k c) k (rowsV2 ((ws.take k).map rdW))) ∧ Hid (Blk wr w.heap.size 26 #[.int .i64 0, .int .i64 0, .slice none 0 0]) ∧ Hid (wr.ownsRow w.heap.size 9 1 (.slice (some ⟨bW, oW, none⟩) n1 cW) n1 (strsV P)) ∧ Hid (Below w.heap.size w wr)) (fun iv _ => (100 - intOf iv).toNat)
  case atStart => exact ⟨0, 0, _, Nat.zero_le _, rfl, BN1, HR1, BR2, HWD2, HB2⟩
  case round =>
   clear BN1 HR1 BR2 HWD2 HB2
   obtain ⟨k, c, A, hk, rfl, BN, HR, BR, HWD, HB⟩ := hrel
   obtain ⟨W0, hW0e⟩ : ∃ y : World, y = wr := ⟨_, rfl⟩
   subst hW0e
   have hW0 := HB.out.size
   obtain ⟨d0, d1, d2⟩ := BN.out.q3
   obtain ⟨z0, z1, z2⟩ := BN.out.z3
   obtain ⟨r0, r1, r2⟩ := BR.out.q3
   obtain ⟨y0', y1', y2'⟩ := BR.out.z3
   have ln := BN.out.lt
   have lr := BR.out.lt
   by_cases hlt : k < ws.length
   · obtain ⟨x, hx⟩ := list_split (l := ws) (k := k) hlt
     obtain ⟨j, hj⟩ : ∃ j, j = k + 1 := ⟨_, rfl⟩
     rw [← hj]
     have HPX := Lib.hid (show P[j]? = some x by rw [HPW.out, hj]; exact hx)
     obtain ⟨cX, lX⟩ := wcell_at (Reads.of_own HWD.out) HPX.out
     obtain ⟨X, hX⟩ : ∃ X, str x = X := ⟨_, rfl⟩
     have hbX : bl X = x := by rw [← hX, bl_str]
     have hsX : X.size = x.length := by rw [← hX, str_sz]
     rw [hX] at cX
     have j0 : (0 : Int) ≤ (j : Int) := by omega
     have j1 : (j : Int) < (n1 : Int) := by have := HNW.out; omega
     have j8 : j ≤ 9 := by omega
     rcases (show ¬ x.length = 2 ∨ x.length = 2 by omega) with h2 | h2
     · have HP := Lib.hid (pf_no2 HWS.out hx h2)
       have hb2 : ((X.size : Int) != 2) = true := by rw [bne_iff_ne]; omega
       have hb2' : ¬ (X.size : Int) = 2 := by omega
       clear hx HPX hX hbX hj
       go_wp2
       refine bodyPost_ret (v := .tuple #[frV 0 0 none 0 0, .bool false]) (by simp [results, Try.results14, go_sem, *]) rfl ?_
       rw [HP.out]
       exact ⟨none, 0, rfl, World.ownsRow_nil _ _ _ _, fill_below HB.out (Nat.le_refl _)⟩
     · have hb2 : ((X.size : Int) != 2) = false := by rw [bne_eq_false_iff_eq]; omega
       have hb2' : (X.size : Int) = 2 := by omega
       have hi1 : 0 < X.size := by omega
       have hi2 : 1 < X.size := by omega
       have hrx : rdW x = ⟨((X[0]'hi1).toNat : Int) - 48, ((X[1]'hi2).toNat : Int) - 48⟩ := by
        unfold rdW rd
        rw [← hbX, bl_getDx hi1, bl_getDx hi2]
       have hl1 := UInt8.toNat_lt (X[0]'hi1)
       have hl2 := UInt8.toNat_lt (X[1]'hi2)
       obtain ⟨c1, hc1⟩ : ∃ c1, (X[0]'hi1) = c1 := ⟨_, rfl⟩
       obtain ⟨c2, hc2⟩ : ∃ c2, (X[1]'hi2) = c2 := ⟨_, rfl⟩
       rw [hc1] at hrx hl1
       rw [hc2] at hrx hl2
       obtain ⟨y1, hy1⟩ : ∃ y1, c1.toNat = y1 := ⟨_, rfl⟩
       obtain ⟨y2, hy2⟩ : ∃ y2, c2.toNat = y2 := ⟨_, rfl⟩
       rw [hy1] at hrx hl1
       rw [hy2] at hrx hl2
       obtain ⟨x1, hx1⟩ : ∃ x1, ((y1 : Int) - 48) = x1 := ⟨_, rfl⟩
       obtain ⟨x2, hx2⟩ : ∃ x2, ((y2 : Int) - 48) = x2 := ⟨_, rfl⟩
       rw [hx1, hx2] at hrx
       have HC1 := Lib.hid (And.intro hc1 hy1)
       have HC2 := Lib.hid (And.intro hc2 hy2)
       have HX1 := Lib.hid hx1
       have HX2 := Lib.hid hx2
       have HSX := Lib.hid hX
       have HNX := Lib.hid (show (ws.take (k + 1)).map rdW = (ws.take k).map rdW ++ [⟨x1, x2⟩] by rw [List.take_add_one, hx, List.map_append]; show _ ++ [rdW x] = _; rw [hrx])
       obtain ⟨l, hl⟩ : ∃ l, (ws.take k).map rdW = l := ⟨_, rfl⟩
       rw [hl] at HR HNX
       have HI := Lib.hid hj
       have hk8 : k ≤ 8 := by omega
       clear hj hrx hc1 hc2 hy1 hy2 hx1 hx2 hl hx hX hbX
       have hNEW : Value.ownBlock (.slice A k c) ≠ Value.ownBlock (.slice (some ⟨bW, oW, none⟩) n1 cW) := by
        rcases own_neT HR.out HWD.out (by decide) with h | h
        · rw [h]; intro e; cases e
        · exact h
       go_upto_region 10 with fail
       clear hb2 hb2'
       refine wp_region_m (by kernel_rfl) (by kernel_rfl) [47, 48, 49, 50, 51, 52, 53, 54, 55, 56, 57, 58, 59, 60, 61, 62, 63, 64, 65, 66] FrYU (by kernel_rfl) (by decide) 78 (by kernel_rfl) (by simp) (fun ra0 => ra0.eval (.tmp 4) = .slice (some ⟨bW, oW, none⟩) n1 cW ∧ ra0.eval (.tmp 5) = .pointer (some ⟨N, 0, none⟩) ∧ ra0.eval (.tmp 6) = .int .i64 (j : Int)) ⟨by kernel_rfl, by kernel_rfl, by kernel_rfl⟩ FrYP (by kernel_rfl) (IExt w W0 18 20 (fun wx => Blk wx N 26 #[.int .i64 u, .int .i64 lo, .slice A k c] ∧ Blk wx w.heap.size 26 #[.int .i64 0, .int .i64 0, .slice none 0 0])) (FrYR 0 N w.heap.size u lo x1 x2 X j bW oW n1 cW y1 y2 k A c l P) (fun jN vs wx => FrY w.heap.size 0 N w.heap.size u lo x1 x2 X j bW oW n1 cW y1 y2 k A c l P vs wx jN) ⟨(HB.out).drew, Nat.le_refl _, fun _ => (ext_refl _).drew, fun _ => ⟨BN.out, BR.out⟩⟩ (fun _ _ _ _ _ _ h0 hd h1 h2 h3 => FrY_keep trivial h0 hd h1 h2 h3) ?_ ?_
       · intro ra0 hE ri ro ho Qx vs wx rb KX kk rL hI hkk hnl hLt hcl hdep rb0 rbk HK
         repeat (rename_i hz9; clear hz9)
         obtain ⟨rq4, rq5, rq6⟩ := hE
         have hi : ri < 21 := by
          rcases Nat.lt_or_ge ri 21 with h | h
          · exact h
          · rw [Array.getElem?_eq_none (by simpa using h)] at ho; cases ho
         have hkk : kk < 21 := by simpa using hkk
         obtain ⟨hGw, hsz, hpre, hBx⟩ := hI
         have HQ : ∀ w', Below wx.heap.size wx w' → IExt w W0 18 20 (fun wx => Blk wx N 26 #[.int .i64 u, .int .i64 lo, .slice A k c] ∧ Blk wx w.heap.size 26 #[.int .i64 0, .int .i64 0, .slice none 0 0]) (kk + 1) (fun j => j = ri ∨ rL j) w' := fun w' h3 => ⟨ext_trans hGw h3, Nat.le_trans hsz h3.size, fun hn => ext_trans (hpre (fun x => hn (.inr x))) h3, fun hn => (fun hB => ⟨hB.1.ext h3, hB.2.ext h3⟩) (hBx (fun x => hn (.inr x)))⟩
         have HQX := Lib.hid HQ
         have HGW := Lib.hid hGw
         have HPRE := Lib.hid hpre
         have HBX := Lib.hid hBx
         have HCL := Lib.hid hcl
         clear HQ hGw hpre hBx hcl
         rcases (show ri = 0 ∨ ri = 1 ∨ ri = 2 ∨ ri = 3 ∨ ri = 4 ∨ ri = 5 ∨ ri = 6 ∨ ri = 7 ∨ ri = 8 ∨ ri = 9 ∨ ri = 10 ∨ ri = 11 ∨ ri = 12 ∨ ri = 13 ∨ ri = 14 ∨ ri = 15 ∨ ri = 16 ∨ ri = 17 ∨ ri = 18 ∨ ri = 19 ∨ ri = 20 by omega) with rfl | rfl | rfl | rfl | rfl | rfl | rfl | rfl | rfl | rfl | rfl | rfl | rfl | rfl | rfl | rfl | rfl | rfl | rfl | rfl | rfl
         · simp only [List.getElem?_toArray, List.getElem?_cons_succ, List.getElem?_cons_zero, Option.some.injEq] at ho
           subst ho
           have HKX := Lib.hid HK
           clear HK
           have p5 := (rb0 5 (by decide)).trans rq5
           clear rb0 rbk hdep
           go_simp
           exact HKX.out _ _ (HQX.out _ (ext_refl _)) (by unfold FrYR; rw [if_neg (by decide)]; rw [if_neg (by decide)]; exact ext_refl _) (upd_same _ _ _)
         · simp only [List.getElem?_toArray, List.getElem?_cons_succ, List.getElem?_cons_zero, Option.some.injEq] at ho
           subst ho
           have HKX := Lib.hid HK
           clear HK
           have e0 : vs 47 = .pointer (some ⟨N, 2, none⟩) := (hdep 0 (by kernel_rfl)).2
           have rr0 := (rbk 47 (by decide)).trans e0
           have E0 := Lib.hid e0
           clear e0
           have hNL : ¬ rL 18 := fun h => hnl (HCL.out 18 _ 1 rfl h (by kernel_rfl))
           have HGP := Lib.hid (HPRE.out hNL)
           obtain ⟨dx0, dx1, dx2⟩ := (BN.out.ext HGP.out).q3
           have lnx := (BN.out.ext HGP.out).lt
           obtain ⟨cX, lX⟩ := wcell_at (Reads.of_own (own_ext HWD.out HGP.out)) HPX.out
           rw [HSX.out] at cX
           have hSx : w.heap.size ≤ wx.heap.size := Nat.le_trans hW0 hsz
           have hNx : Value.ownBlock (.slice A k c) ≠ some wx.heap.size := fun e => absurd ((HR.out.lt _ e).2) (by omega)
           clear rb0 rbk hdep
           go_simp
           exact HKX.out _ _ (HQX.out _ (ext_refl _)) (by unfold FrYR; rw [if_neg (by decide)]; rw [if_neg (by decide)]; exact ext_refl _) (upd_same _ _ _)
         · simp only [List.getElem?_toArray, List.getElem?_cons_succ, List.getElem?_cons_zero, Option.some.injEq] at ho
           subst ho
           have HKX := Lib.hid HK
           clear HK
           have p4 := (rb0 4 (by decide)).trans rq4
           have hNL : ¬ rL 18 := fun h => hnl (HCL.out 4 _ 2 rfl (HCL.out 5 _ 4 rfl (HCL.out 6 _ 5 rfl (HCL.out 7 _ 6 rfl (HCL.out 8 _ 7 rfl (HCL.out 16 _ 8 rfl (HCL.out 17 _ 16 rfl (HCL.out 18 _ 17 rfl h (by kernel_rfl)) (by kernel_rfl)) (by kernel_rfl)) (by kernel_rfl)) (by kernel_rfl)) (by kernel_rfl)) (by kernel_rfl)) (by kernel_rfl))
           have HGP := Lib.hid (HPRE.out hNL)
           obtain ⟨dx0, dx1, dx2⟩ := (BN.out.ext HGP.out).q3
           have lnx := (BN.out.ext HGP.out).lt
           obtain ⟨cX, lX⟩ := wcell_at (Reads.of_own (own_ext HWD.out HGP.out)) HPX.out
           rw [HSX.out] at cX
           have hSx : w.heap.size ≤ wx.heap.size := Nat.le_trans hW0 hsz
           have hNx : Value.ownBlock (.slice A k c) ≠ some wx.heap.size := fun e => absurd ((HR.out.lt _ e).2) (by omega)
           clear rb0 rbk hdep
           go_simp
           exact HKX.out _ _ (HQX.out _ (ext_refl _)) (by unfold FrYR; rw [if_neg (by decide)]; rw [if_neg (by decide)]; exact ext_refl _) (⟨upd_same _ _ _, hNEW, own_ext HWD.out HGP.out⟩)
         · simp only [List.getElem?_toArray, List.getElem?_cons_succ, List.getElem?_cons_zero, Option.some.injEq] at ho
           subst ho
           have HKX := Lib.hid HK
           clear HK
           have p6 := (rb0 6 (by decide)).trans rq6
           clear rb0 rbk hdep
           go_simp
           exact HKX.out _ _ (HQX.out _ (ext_refl _)) (by unfold FrYR; rw [if_neg (by decide)]; rw [if_neg (by decide)]; exact ext_refl _) (upd_same _ _ _)
         · simp only [List.getElem?_toArray, List.getElem?_cons_succ, List.getElem?_cons_zero, Option.some.injEq] at ho
           subst ho
           have HKX := Lib.hid HK
           clear HK
           obtain ⟨e2, k2_0, k2_1⟩ := (hdep 2 (by kernel_rfl)).2
           have rr2 := (rbk 49 (by decide)).trans e2
           have E2 := Lib.hid e2
           clear e2
           have K2_0 := Lib.hid k2_0
           clear k2_0
           have K2_1 := Lib.hid k2_1
           clear k2_1
           have e3 : vs 50 = .int .i64 (j : Int) := (hdep 3 (by kernel_rfl)).2
           have rr3 := (rbk 50 (by decide)).trans e3
           have E3 := Lib.hid e3
           clear e3
           clear rb0 rbk hdep
           go_simp
           skip
           exact HKX.out _ _ (HQX.out _ (ext_refl _)) (by unfold FrYR; rw [if_neg (by decide)]; rw [if_neg (by decide)]; exact ext_refl _) (upd_same _ _ _)
         · simp only [List.getElem?_toArray, List.getElem?_cons_succ, List.getElem?_cons_zero, Option.some.injEq] at ho
           subst ho
           have HKX := Lib.hid HK
           clear HK
           have e4 : vs 51 = .pointer (some ⟨bW, oW + j, none⟩) := (hdep 4 (by kernel_rfl)).2
           have rr4 := (rbk 51 (by decide)).trans e4
           have E4 := Lib.hid e4
           clear e4
           have hNL : ¬ rL 18 := fun h => hnl (HCL.out 6 _ 5 rfl (HCL.out 7 _ 6 rfl (HCL.out 8 _ 7 rfl (HCL.out 16 _ 8 rfl (HCL.out 17 _ 16 rfl (HCL.out 18 _ 17 rfl h (by kernel_rfl)) (by kernel_rfl)) (by kernel_rfl)) (by kernel_rfl)) (by kernel_rfl)) (by kernel_rfl))
           have HGP := Lib.hid (HPRE.out hNL)
           obtain ⟨dx0, dx1, dx2⟩ := (BN.out.ext HGP.out).q3
           have lnx := (BN.out.ext HGP.out).lt
           obtain ⟨cX, lX⟩ := wcell_at (Reads.of_own (own_ext HWD.out HGP.out)) HPX.out
           rw [HSX.out] at cX
           have hSx : w.heap.size ≤ wx.heap.size := Nat.le_trans hW0 hsz
           have hNx : Value.ownBlock (.slice A k c) ≠ some wx.heap.size := fun e => absurd ((HR.out.lt _ e).2) (by omega)
           clear rb0 rbk hdep
           go_simp
           exact HKX.out _ _ (HQX.out _ (ext_refl _)) (by unfold FrYR; rw [if_neg (by decide)]; rw [if_neg (by decide)]; exact ext_refl _) (upd_same _ _ _)
         · simp only [List.getElem?_toArray, List.getElem?_cons_succ, List.getElem?_cons_zero, Option.some.injEq] at ho
           subst ho
           have HKX := Lib.hid HK
           clear HK
           have e5 : vs 52 = .string X := (hdep 5 (by kernel_rfl)).2
           have rr5 := (rbk 52 (by decide)).trans e5
           have E5 := Lib.hid e5
           clear e5
           clear rb0 rbk hdep
           go_simp
           rw [show (X[0]'hi1).toNat = y1 from by rw [HC1.out.1]; exact HC1.out.2]
           exact HKX.out _ _ (HQX.out _ (ext_refl _)) (by unfold FrYR; rw [if_neg (by decide)]; rw [if_neg (by decide)]; exact ext_refl _) (upd_same _ _ _)
         · simp only [List.getElem?_toArray, List.getElem?_cons_succ, List.getElem?_cons_zero, Option.some.injEq] at ho
           subst ho
           have HKX := Lib.hid HK
           clear HK
           have e6 : vs 53 = .int .u8 (y1 : Int) := (hdep 6 (by kernel_rfl)).2
           have rr6 := (rbk 53 (by decide)).trans e6
           have E6 := Lib.hid e6
           clear e6
           clear rb0 rbk hdep
           go_simp
           rw [show IntKind.i64.wrap (y1 : Int) = y1 from by rw [IntKind.wrap_i64]; omega]
           exact HKX.out _ _ (HQX.out _ (ext_refl _)) (by unfold FrYR; rw [if_neg (by decide)]; rw [if_neg (by decide)]; exact ext_refl _) (upd_same _ _ _)
         · simp only [List.getElem?_toArray, List.getElem?_cons_succ, List.getElem?_cons_zero, Option.some.injEq] at ho
           subst ho
           have HKX := Lib.hid HK
           clear HK
           have e7 : vs 54 = .int .i64 (y1 : Int) := (hdep 7 (by kernel_rfl)).2
           have rr7 := (rbk 54 (by decide)).trans e7
           have E7 := Lib.hid e7
           clear e7
           clear rb0 rbk hdep
           go_simp
           rw [show IntKind.i64.wrap ((y1 : Int) - 48) = x1 from by rw [IntKind.wrap_i64]; have := HX1.out; omega]
           exact HKX.out _ _ (HQX.out _ (ext_refl _)) (by unfold FrYR; rw [if_neg (by decide)]; rw [if_neg (by decide)]; exact ext_refl _) (upd_same _ _ _)
         · simp only [List.getElem?_toArray, List.getElem?_cons_succ, List.getElem?_cons_zero, Option.some.injEq] at ho
           subst ho
           have HKX := Lib.hid HK
           clear HK
           have p4 := (rb0 4 (by decide)).trans rq4
           clear rb0 rbk hdep
           go_simp
           exact HKX.out _ _ (HQX.out _ (ext_refl _)) (by unfold FrYR; rw [if_neg (by decide)]; rw [if_neg (by decide)]; exact ext_refl _) (upd_same _ _ _)
         · simp only [List.getElem?_toArray, List.getElem?_cons_succ, List.getElem?_cons_zero, Option.some.injEq] at ho
           subst ho
           have HKX := Lib.hid HK
           clear HK
           have p6 := (rb0 6 (by decide)).trans rq6
           clear rb0 rbk hdep
           go_simp
           exact HKX.out _ _ (HQX.out _ (ext_refl _)) (by unfold FrYR; rw [if_neg (by decide)]; rw [if_neg (by decide)]; exact ext_refl _) (upd_same _ _ _)
         · simp only [List.getElem?_toArray, List.getElem?_cons_succ, List.getElem?_cons_zero, Option.some.injEq] at ho
           subst ho
           have HKX := Lib.hid HK
           clear HK
           have e9 : vs 56 = .slice (some ⟨bW, oW, none⟩) n1 cW := (hdep 9 (by kernel_rfl)).2
           have rr9 := (rbk 56 (by decide)).trans e9
           have E9 := Lib.hid e9
           clear e9
           have e10 : vs 57 = .int .i64 (j : Int) := (hdep 10 (by kernel_rfl)).2
           have rr10 := (rbk 57 (by decide)).trans e10
           have E10 := Lib.hid e10
           clear e10
           clear rb0 rbk hdep
           go_simp
           skip
           exact HKX.out _ _ (HQX.out _ (ext_refl _)) (by unfold FrYR; rw [if_neg (by decide)]; rw [if_neg (by decide)]; exact ext_refl _) (upd_same _ _ _)
         · simp only [List.getElem?_toArray, List.getElem?_cons_succ, List.getElem?_cons_zero, Option.some.injEq] at ho
           subst ho
           have HKX := Lib.hid HK
           clear HK
           have e11 : vs 58 = .pointer (some ⟨bW, oW + j, none⟩) := (hdep 11 (by kernel_rfl)).2
           have rr11 := (rbk 58 (by decide)).trans e11
           have E11 := Lib.hid e11
           clear e11
           have hNL : ¬ rL 18 := fun h => hnl (HCL.out 13 _ 12 rfl (HCL.out 14 _ 13 rfl (HCL.out 15 _ 14 rfl (HCL.out 16 _ 15 rfl (HCL.out 17 _ 16 rfl (HCL.out 18 _ 17 rfl h (by kernel_rfl)) (by kernel_rfl)) (by kernel_rfl)) (by kernel_rfl)) (by kernel_rfl)) (by kernel_rfl))
           have HGP := Lib.hid (HPRE.out hNL)
           obtain ⟨dx0, dx1, dx2⟩ := (BN.out.ext HGP.out).q3
           have lnx := (BN.out.ext HGP.out).lt
           obtain ⟨cX, lX⟩ := wcell_at (Reads.of_own (own_ext HWD.out HGP.out)) HPX.out
           rw [HSX.out] at cX
           have hSx : w.heap.size ≤ wx.heap.size := Nat.le_trans hW0 hsz
           have hNx : Value.ownBlock (.slice A k c) ≠ some wx.heap.size := fun e => absurd ((HR.out.lt _ e).2) (by omega)
           clear rb0 rbk hdep
           go_simp
           exact HKX.out _ _ (HQX.out _ (ext_refl _)) (by unfold FrYR; rw [if_neg (by decide)]; rw [if_neg (by decide)]; exact ext_refl _) (upd_same _ _ _)
         · simp only [List.getElem?_toArray, List.getElem?_cons_succ, List.getElem?_cons_zero, Option.some.injEq] at ho
           subst ho
           have HKX := Lib.hid HK
           clear HK
           have e12 : vs 59 = .string X := (hdep 12 (by kernel_rfl)).2
           have rr12 := (rbk 59 (by decide)).trans e12
           have E12 := Lib.hid e12
           clear e12
           clear rb0 rbk hdep
           go_simp
           rw [show (X[1]'hi2).toNat = y2 from by rw [HC2.out.1]; exact HC2.out.2]
           exact HKX.out _ _ (HQX.out _ (ext_refl _)) (by unfold FrYR; rw [if_neg (by decide)]; rw [if_neg (by decide)]; exact ext_refl _) (upd_same _ _ _)
         · simp only [List.getElem?_toArray, List.getElem?_cons_succ, List.getElem?_cons_zero, Option.some.injEq] at ho
           subst ho
           have HKX := Lib.hid HK
           clear HK
           have e13 : vs 60 = .int .u8 (y2 : Int) := (hdep 13 (by kernel_rfl)).2
           have rr13 := (rbk 60 (by decide)).trans e13
           have E13 := Lib.hid e13
           clear e13
           clear rb0 rbk hdep
           go_simp
           rw [show IntKind.i64.wrap (y2 : Int) = y2 from by rw [IntKind.wrap_i64]; omega]
           exact HKX.out _ _ (HQX.out _ (ext_refl _)) (by unfold FrYR; rw [if_neg (by decide)]; rw [if_neg (by decide)]; exact ext_refl _) (upd_same _ _ _)
         · simp only [List.getElem?_toArray, List.getElem?_cons_succ, List.getElem?_cons_zero, Option.some.injEq] at ho
           subst ho
           have HKX := Lib.hid HK
           clear HK
           have e14 : vs 61 = .int .i64 (y2 : Int) := (hdep 14 (by kernel_rfl)).2
           have rr14 := (rbk 61 (by decide)).trans e14
           have E14 := Lib.hid e14
           clear e14
           clear rb0 rbk hdep
           go_simp
           rw [show IntKind.i64.wrap ((y2 : Int) - 48) = x2 from by rw [IntKind.wrap_i64]; have := HX2.out; omega]
           exact HKX.out _ _ (HQX.out _ (ext_refl _)) (by unfold FrYR; rw [if_neg (by decide)]; rw [if_neg (by decide)]; exact ext_refl _) (upd_same _ _ _)
         · simp only [List.getElem?_toArray, List.getElem?_cons_succ, List.getElem?_cons_zero, Option.some.injEq] at ho
           subst ho
           have HKX := Lib.hid HK
           clear HK
           have e8 : vs 55 = .int .i64 x1 := (hdep 8 (by kernel_rfl)).2
           have rr8 := (rbk 55 (by decide)).trans e8
           have E8 := Lib.hid e8
           clear e8
           have e15 : vs 62 = .int .i64 x2 := (hdep 15 (by kernel_rfl)).2
           have rr15 := (rbk 62 (by decide)).trans e15
           have E15 := Lib.hid e15
           clear e15
           clear rb0 rbk hdep
           go_simp
           exact HKX.out _ _ (HQX.out _ (ext_refl _)) (by unfold FrYR; rw [if_neg (by decide)]; rw [if_neg (by decide)]; exact ext_refl _) (upd_same _ _ _)
         · simp only [List.getElem?_toArray, List.getElem?_cons_succ, List.getElem?_cons_zero, Option.some.injEq] at ho
           subst ho
           have HKX := Lib.hid HK
           clear HK
           have e16 : vs 63 = .agg #[.int .i64 x1, .int .i64 x2] := (hdep 16 (by kernel_rfl)).2
           have rr16 := (rbk 63 (by decide)).trans e16
           have E16 := Lib.hid e16
           clear e16
           have hNL : ¬ rL 18 := fun h => hnl (HCL.out 18 _ 17 rfl h (by kernel_rfl))
           have HGP := Lib.hid (HPRE.out hNL)
           obtain ⟨dx0, dx1, dx2⟩ := (BN.out.ext HGP.out).q3
           have lnx := (BN.out.ext HGP.out).lt
           obtain ⟨cX, lX⟩ := wcell_at (Reads.of_own (own_ext HWD.out HGP.out)) HPX.out
           rw [HSX.out] at cX
           have hSx : w.heap.size ≤ wx.heap.size := Nat.le_trans hW0 hsz
           have hNx : Value.ownBlock (.slice A k c) ≠ some wx.heap.size := fun e => absurd ((HR.out.lt _ e).2) (by omega)
           clear rb0 rbk hdep
           go_simp
           exact HKX.out _ _ (HQX.out _ (ext_alloc (ext_refl _) _)) (by unfold FrYR; rw [if_neg (by decide)]; rw [if_neg (by decide)]; exact ext_alloc (ext_refl _) _) ⟨wx.heap.size, upd_same _ _ _, hSx, hNx, Blk.born _ _ _ rfl⟩
         · simp only [List.getElem?_toArray, List.getElem?_cons_succ, List.getElem?_cons_zero, Option.some.injEq] at ho
           subst ho
           have HKX := Lib.hid HK
           clear HK
           have e1 : vs 48 = .slice A k c := (hdep 1 (by kernel_rfl)).2
           have rr1 := (rbk 48 (by decide)).trans e1
           have E1 := Lib.hid e1
           clear e1
           obtain ⟨z9, e17, k17_0, k17_1, k17_2⟩ := (hdep 17 (by kernel_rfl)).2
           have rr17 := (rbk 64 (by decide)).trans e17
           have E17 := Lib.hid e17
           clear e17
           have K17_1 := Lib.hid k17_1
           clear k17_1
           have K17_2 := Lib.hid k17_2
           clear k17_2
           have hNL : ¬ rL 18 := hnl
           have HGP := Lib.hid (HPRE.out hNL)
           obtain ⟨dx0, dx1, dx2⟩ := (BN.out.ext HGP.out).q3
           have lnx := (BN.out.ext HGP.out).lt
           obtain ⟨cX, lX⟩ := wcell_at (Reads.of_own (own_ext HWD.out HGP.out)) HPX.out
           rw [HSX.out] at cX
           have hSx : w.heap.size ≤ wx.heap.size := Nat.le_trans hW0 hsz
           have hNx : Value.ownBlock (.slice A k c) ≠ some wx.heap.size := fun e => absurd ((HR.out.lt _ e).2) (by omega)
           clear rb0 rbk hdep
           have HO := Lib.hid (own_ext HR.out HGP.out)
           have HS13 := Lib.hid (own_blk2 K17_2.out k17_0)
           refine step_appO rfl (.tmp 48) (.tmp 64) 24 rfl w.heap.size 55 i0 _ 2 16 Try.underlying24 hi0 hz0 hz1 hz2 rfl (by decide) (.slice A k c) k (rowsV2 l) ((Array.getD_eq_getD_getElem? ..).trans rr1) HO.out (some ⟨z9, 0, none⟩) 1 1 [.int .i64 x1, .int .i64 x2] ((Array.getD_eq_getD_getElem? ..).trans rr17) w.heap.size HS13.out (by intro u hu; rcases List.mem_cons.1 hu with rfl | hu; rfl; rcases List.mem_cons.1 hu with rfl | hu; rfl; cases hu) (by unfold maxLen; omega) (by omega) (Nat.le_trans hW0 hsz) ?_
           intro A2 c2 w' hown hgr
           have hblk : ∀ q, Value.ownBlock (.slice A k c) = some q → w.heap.size ≤ q := fun q hq => (HO.out.lt q hq).1
           exact HKX.out _ _ ⟨below_grown' HO.out (Nat.le_refl _) HGW.out hgr, Nat.le_trans hsz hgr.size, fun hn => absurd (.inl rfl) hn, fun hn => ⟨(HBX.out (fun x => hn (.inr x))).1.grownF hgr (own_nbT HO.out (HBX.out (fun x => hn (.inr x))).1 (by decide)), (HBX.out (fun x => hn (.inr x))).2.grownF hgr (own_nbT HO.out (HBX.out (fun x => hn (.inr x))).2 (by decide))⟩⟩ (by unfold FrYR; rw [if_pos rfl]; exact hgr) ⟨A2, c2, upd_same _ _ _, by have h9 := hown; rwa [show rowsV2 l ++ [Value.int .i64 x1, Value.int .i64 x2] = rowsV2 (l ++ [⟨x1, x2⟩]) by simp [rowsV2, R2.cells]] at h9⟩
         · simp only [List.getElem?_toArray, List.getElem?_cons_succ, List.getElem?_cons_zero, Option.some.injEq] at ho
           subst ho
           have HKX := Lib.hid HK
           clear HK
           have p5 := (rb0 5 (by decide)).trans rq5
           clear rb0 rbk hdep
           go_simp
           exact HKX.out _ _ (HQX.out _ (ext_refl _)) (by unfold FrYR; rw [if_neg (by decide)]; rw [if_neg (by decide)]; exact ext_refl _) (upd_same _ _ _)
         · simp only [List.getElem?_toArray, List.getElem?_cons_succ, List.getElem?_cons_zero, Option.some.injEq] at ho
           subst ho
           have HKX := Lib.hid HK
           clear HK
           obtain ⟨A2, c2, e18, k18_0⟩ := (hdep 18 (by kernel_rfl)).2
           have rr18 := (rbk 65 (by decide)).trans e18
           have E18 := Lib.hid e18
           clear e18
           have K18_0 := Lib.hid k18_0
           clear k18_0
           have e19 : vs 66 = .pointer (some ⟨N, 2, none⟩) := (hdep 19 (by kernel_rfl)).2
           have rr19 := (rbk 66 (by decide)).trans e19
           have E19 := Lib.hid e19
           clear e19
           have h14 := (hdep 18 (by kernel_rfl)).1
           have HBF := Lib.hid (HBX.out hnl)
           clear rb0 rbk hdep
           obtain ⟨yB0, yB1, yB2⟩ := HBF.out.1.q3
           obtain ⟨zB0, zB1, zB2⟩ := HBF.out.1.z3
           have hlN := HBF.out.1.lt
           go_simp
           exact HKX.out undef _ ⟨ext_set (p := ⟨N, 2, none⟩) HGW.out hwN _, by simpa using hsz, fun hn => (hn (.inr h14)).elim, fun hn => (hn (.inl rfl)).elim⟩ (by unfold FrYR; rw [if_neg (by decide), if_pos rfl]; exact (KeepW.refl _ _).set HBF.out.1 2 _) ⟨A2, c2, own_setF (p := ⟨N, 2, none⟩) K18_0.out (own_nbT K18_0.out HBF.out.1 (by decide)) _, HBF.out.1.set_ 2 _, HBF.out.2.setF (p := ⟨N, 2, none⟩) hNR _, hwN, hwR⟩
       intro vs wx kk rL hI hkk hLt hall
       obtain ⟨_, A2, c2', hr2, hB2, hBR2, _, _⟩ := hall 20 (by decide)
       obtain ⟨_, _, _, hw2⟩ := hall 2 (by decide)
       have HWD5 := Lib.hid hw2
       obtain ⟨hb2, _, _, _⟩ := hI
       have HR5 := Lib.hid hr2
       have BN5 := Lib.hid hB2
       have BR5 := Lib.hid hBR2
       have HB5 := Lib.hid hb2
       clear hLt hall hr2 hB2 hBR2 hb2 hw2 d0 d1 d2 z0 z1 z2 r0 r1 r2 y0' y1' y2' ln lr
       simp only [sl]
       simp only [Act.put, List.setIfInBounds_toArray, List.set_cons_succ, List.set_cons_zero]
       go_wp2
       go_roundw
       case rel => exact ⟨k + 1, c2', A2, by omega, by have h9 := HI.out; exact congrArg (Value.int .i64) (by omega), BN5, by rw [HNX.out]; exact HR5, BR5, HWD5, HB5⟩
       case measure =>
        have h9 := HI.out
        show (100 - ((j : Int) + 1)).toNat < (100 - ((j : Nat) : Int)).toNat
        omega
   · obtain rfl : k = ws.length := by omega
     have e1 : ¬ ((ws.length + 1 : Nat) : Int) < (n1 : Int) := by have := HNW.out; omega
     rw [List.take_of_length_le (Nat.le_refl _)] at HR
     obtain ⟨l, hl⟩ : ∃ l, ws.map rdW = l := ⟨_, rfl⟩
     obtain ⟨nk, hnk⟩ : ∃ nk, ws.length = nk := ⟨_, rfl⟩
     have hll : l.length = nk := by rw [← hl, List.length_map, hnk]
     rw [hl] at HR HPO
     rw [hnk] at HR e1 ⊢
     rw [hnk] at d2 h9 BN
     clear hl hnk hk hlt
     have HG := Lib.hid (fun (W : World) (h : Below W0.heap.size W0 W) => l2Good_any u lo A nk c l W (by omega) (Reads.of_own (own_ext HR.out h)))
     unfold RetV at HG
     cases hf : frB u lo l
     · have HP := Lib.hid (show pfO s = none by rw [HPO.out, if_neg (fun h => by rw [hf] at h; cases h.1)])
       rw [hf] at HG
       clear HPO hf
       go_wp2_with fail
       refine (HG.out _ (ext_refl _)).mono ?_
       rintro e w4 ⟨rfl, hb4⟩
       have BR4 := Lib.hid (BR.out.ext hb4)
       have HB4 := Lib.hid (ext_trans HB.out hb4)
       clear hb4 d0 d1 d2 z0 z1 z2 r0 r1 r2 y0' y1' y2' ln lr
       obtain ⟨r0, r1, r2⟩ := BR4.out.q3
       obtain ⟨z0, z1, z2⟩ := BR4.out.z3
       have lr := BR4.out.lt
       go_wp2
       refine bodyPost_ret (v := .tuple #[frV 0 0 none 0 0, .bool false]) (by simp [results, Try.results14, go_sem, *]) rfl ?_
       rw [HP.out]
       exact ⟨none, 0, rfl, World.ownsRow_nil _ _ _ _, fill_below HB4.out (Nat.le_refl _)⟩
     · have HT := Lib.hid (fun (W : World) (h : Below W0.heap.size W0 W) => l2Text_any u lo A nk c l W hf (Reads.of_own (own_ext HR.out h)))
       rw [hf] at HG
       go_wp2_with fail
       refine (HG.out _ (ext_refl _)).mono ?_
       rintro e w4 ⟨rfl, hb4⟩
       have BN4 := Lib.hid (BN.out.ext hb4)
       have BR4 := Lib.hid (BR.out.ext hb4)
       have HB4 := Lib.hid (ext_trans HB.out hb4)
       have HX4 := Lib.hid hb4
       clear hb4 d0 d1 d2 z0 z1 z2 r0 r1 r2 y0' y1' y2' ln lr
       obtain ⟨d0, d1, d2⟩ := BN4.out.q3
       have ln := BN4.out.lt
       by_cases hq : tF u lo l = bl s
       · have hqs : str (tF u lo l) = s := bl_inj (by rw [bl_str]; exact hq)
         have HP := Lib.hid (show pfO s = some (u, lo, l) by rw [HPO.out, if_pos ⟨hf, hq⟩])
         rw [hqs] at HT
         clear HPO hf hq hqs
         go_wp2_with fail
         refine (HT.out _ HX4.out).mono ?_
         rintro e w5 ⟨rfl, hb5⟩
         have BN5 := Lib.hid (BN4.out.ext hb5)
         have BR5 := Lib.hid (BR4.out.ext hb5)
         have HB5 := Lib.hid (ext_trans HB4.out hb5)
         have HX5 := Lib.hid (ext_trans HX4.out hb5)
         clear hb5 d0 d1 d2 ln
         obtain ⟨d0, d1, d2⟩ := BN5.out.q3
         have ln := BN5.out.lt
         obtain ⟨r0, r1, r2⟩ := BR5.out.q3
         obtain ⟨z0, z1, z2⟩ := BR5.out.z3
         have lr := BR5.out.lt
         go_wp2
         refine bodyPost_ret (v := .tuple #[frV u lo A nk c, .bool true]) (by simp [results, Try.results14, go_sem, *]) rfl ?_
         rw [HP.out]
         have h9 := fill_own' (g := w.heap.size) (a := .int .i64 u) (b := .int .i64 lo) (c := .slice A nk c) (own_ext HR.out HX5.out) (own_nbT (own_ext HR.out HX5.out) BR5.out (by decide))
         simp only [Option.getD_some, Option.isSome_some]
         exact ⟨A, c, by rw [hll], by rw [hll]; exact h9, fill_below HB5.out (Nat.le_refl _)⟩
       · have hqs : str (tF u lo l) ≠ s := fun h => hq (by rw [← h, bl_str])
         have HP := Lib.hid (show pfO s = none by rw [HPO.out, if_neg (fun h => hq h.2)])
         have hqd : ((str (tF u lo l)).toList == s.toList) = false := by rw [beq_eq_false_iff_ne, ne_eq, toList_eq_iff]; exact hqs
         clear HPO hf hq
         go_wp2_with fail
         refine (HT.out _ HX4.out).mono ?_
         rintro e w5 ⟨rfl, hb5⟩
         have BR5 := Lib.hid (BR4.out.ext hb5)
         have HB5 := Lib.hid (ext_trans HB4.out hb5)
         clear hb5 d0 d1 d2 ln
         obtain ⟨r0, r1, r2⟩ := BR5.out.q3
         obtain ⟨z0, z1, z2⟩ := BR5.out.z3
         have lr := BR5.out.lt
         go_wp2
         refine bodyPost_ret (v := .tuple #[frV 0 0 none 0 0, .bool false]) (by simp [results, Try.results14, go_sem, *]) rfl ?_
         rw [HP.out]
         exact ⟨none, 0, rfl, World.ownsRow_nil _ _ _ _, fill_below HB5.out (Nat.le_refl _)⟩
end Go.Proofs.Ytfmenkhfhibmeaa
