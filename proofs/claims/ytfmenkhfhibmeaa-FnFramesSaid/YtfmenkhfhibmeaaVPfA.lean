/- ParseFrame: the program's. -/
import Derived.Test.YtfmenkhfhibmeaaVFxA
import Derived.Test.YtfmenkhfhibmeaaVFdB
import Derived.Test.YtfmenkhfhibmeaaVFrN
import Derived.Test.YtfmenkhfhibmeaaVM1
namespace Go.Proofs.Ytfmenkhfhibmeaa
open Go.RowKit
set_option linter.unusedVariables false
set_option linter.unusedSimpArgs false
theorem Blk.drv {w : World} {g : Nat} {t : TypeId} {cs : Array Value} (h : Blk w g t cs) : Blk w.drew g t cs := h
def FrX (S g : Nat) (N RB : Nat) (u lo x1 x2 : Int) (s : ByteArray) (i k y1 y2 : Nat) (A : Option Addr) (c : Nat) (l : List R2) (vs : Nat → Value) (wx : World) : Nat → Prop
 | 0 => vs 36 = .pointer (some ⟨N, 2, none⟩)
 | 1 => vs 37 = .slice A k c
 | 2 => vs 38 = .string s
 | 3 => vs 39 = .int .i64 (i : Int)
 | 4 => vs 40 = .int .i64 ((i + 1 : Nat) : Int)
 | 5 => vs 41 = .int .u8 (y1 : Int)
 | 6 => vs 42 = .int .i64 (y1 : Int)
 | 7 => vs 43 = .int .i64 x1
 | 8 => vs 44 = .string s
 | 9 => vs 45 = .int .i64 (i : Int)
 | 10 => vs 46 = .int .i64 ((i + 2 : Nat) : Int)
 | 11 => vs 47 = .int .u8 (y2 : Int)
 | 12 => vs 48 = .int .i64 (y2 : Int)
 | 13 => vs 49 = .int .i64 x2
 | 14 => vs 50 = .agg #[.int .i64 x1, .int .i64 x2]
 | 15 => ∃ (z9 : Nat), vs 51 = .slice (some ⟨z9, 0, none⟩) 1 1 ∧ (S ≤ z9) ∧ (Value.ownBlock (.slice A k c) ≠ some z9) ∧ (Blk wx z9 55 #[.int .i64 x1, .int .i64 x2])
 | 16 => ∃ (A2 : Option Addr) (c2 : Nat), vs 52 = .slice A2 (k + 1) c2 ∧ (wx.ownsRow S 55 2 (.slice A2 (k + 1) c2) (k + 1) (rowsV2 (l ++ [⟨x1, x2⟩])))
 | 17 => vs 53 = .pointer (some ⟨N, 2, none⟩)
 | 18 => ∃ (A2 : Option Addr) (c2 : Nat), (wx.ownsRow S 55 2 (.slice A2 (k + 1) c2) (k + 1) (rowsV2 (l ++ [⟨x1, x2⟩]))) ∧ (Blk wx N 26 #[.int .i64 u, .int .i64 lo, .slice A2 (k + 1) c2]) ∧ (Blk wx RB 26 #[.int .i64 0, .int .i64 0, .slice none 0 0]) ∧ (S ≤ N) ∧ (S ≤ RB)
 | _ => True
def FrXU : Nat → List Nat
 | 0 => [36]
 | 1 => [37]
 | 2 => [38]
 | 3 => [39]
 | 4 => [40]
 | 5 => [41]
 | 6 => [42]
 | 7 => [43]
 | 8 => [44]
 | 9 => [45]
 | 10 => [46]
 | 11 => [47]
 | 12 => [48]
 | 13 => [49]
 | 14 => [50]
 | 15 => [51]
 | 16 => [52]
 | 17 => [53]
 | 18 => []
 | _ => []
def FrXR (g : Nat) (N RB : Nat) (u lo x1 x2 : Int) (s : ByteArray) (i k y1 y2 : Nat) (A : Option Addr) (c : Nat) (l : List R2) (i : Nat) (wx wy : World) : Prop := if i = 16 then wx.grownBy wy (Value.ownBlock (.slice A k c)) else if i = 18 then KeepW 26 wx wy else Below wx.heap.size wx wy
theorem FrX_gr {S g : Nat} {N RB : Nat} {u lo x1 x2 : Int} {s : ByteArray} {i k y1 y2 : Nat} {A : Option Addr} {c : Nat} {l : List R2} (hgS : True) {vs us : Nat → Value} {wx wy : World} {jN : Nat} (hGG : FrX S g N RB u lo x1 x2 s i k y1 y2 A c l vs wx jN) (haG : ∀ d ∈ FrXU jN, us d = vs d) (hbG : Below wx.heap.size wx wy) : FrX S g N RB u lo x1 x2 s i k y1 y2 A c l us wy jN := by
 match jN, hGG, haG with
 | 0, hGG, haG =>
   exact (haG 36 (by simp [FrXU])).trans hGG
 | 1, hGG, haG =>
   exact (haG 37 (by simp [FrXU])).trans hGG
 | 2, hGG, haG =>
   exact (haG 38 (by simp [FrXU])).trans hGG
 | 3, hGG, haG =>
   exact (haG 39 (by simp [FrXU])).trans hGG
 | 4, hGG, haG =>
   exact (haG 40 (by simp [FrXU])).trans hGG
 | 5, hGG, haG =>
   exact (haG 41 (by simp [FrXU])).trans hGG
 | 6, hGG, haG =>
   exact (haG 42 (by simp [FrXU])).trans hGG
 | 7, hGG, haG =>
   exact (haG 43 (by simp [FrXU])).trans hGG
 | 8, hGG, haG =>
   exact (haG 44 (by simp [FrXU])).trans hGG
 | 9, hGG, haG =>
   exact (haG 45 (by simp [FrXU])).trans hGG
 | 10, hGG, haG =>
   exact (haG 46 (by simp [FrXU])).trans hGG
 | 11, hGG, haG =>
   exact (haG 47 (by simp [FrXU])).trans hGG
 | 12, hGG, haG =>
   exact (haG 48 (by simp [FrXU])).trans hGG
 | 13, hGG, haG =>
   exact (haG 49 (by simp [FrXU])).trans hGG
 | 14, hGG, haG =>
   exact (haG 50 (by simp [FrXU])).trans hGG
 | 15, hGG, haG =>
   obtain ⟨xG0, eG, fG0, fG1, fG2⟩ := hGG
   exact ⟨xG0, (haG 51 (by simp [FrXU])).trans eG, fG0, fG1, fG2.ext hbG⟩
 | 16, hGG, haG =>
   obtain ⟨xG0, xG1, eG, fG0⟩ := hGG
   exact ⟨xG0, xG1, (haG 52 (by simp [FrXU])).trans eG, own_ext fG0 hbG⟩
 | 17, hGG, haG =>
   exact (haG 53 (by simp [FrXU])).trans hGG
 | 18, hGG, haG =>
   obtain ⟨xG0, xG1, fG0, fG1, fG2, fG3, fG4⟩ := hGG
   exact ⟨xG0, xG1, own_ext fG0 hbG, fG1.ext hbG, fG2.ext hbG, fG3, fG4⟩
 | jN + 19, _, _ => trivial
theorem FrX_16 {S g : Nat} {N RB : Nat} {u lo x1 x2 : Int} {s : ByteArray} {i k y1 y2 : Nat} {A : Option Addr} {c : Nat} {l : List R2} (hgS : True) {vs us : Nat → Value} {wx wy : World} {jN : Nat} (hneG : jN ≠ 16 ∧ jN ≠ 18) (hGG : FrX S g N RB u lo x1 x2 s i k y1 y2 A c l vs wx jN) (haG : ∀ d ∈ FrXU jN, us d = vs d) (hbG : wx.grownBy wy (Value.ownBlock (.slice A k c))) : FrX S g N RB u lo x1 x2 s i k y1 y2 A c l us wy jN := by
 match jN, hGG, haG, hneG with
 | 0, hGG, haG, hneG =>
   exact (haG 36 (by simp [FrXU])).trans hGG
 | 1, hGG, haG, hneG =>
   exact (haG 37 (by simp [FrXU])).trans hGG
 | 2, hGG, haG, hneG =>
   exact (haG 38 (by simp [FrXU])).trans hGG
 | 3, hGG, haG, hneG =>
   exact (haG 39 (by simp [FrXU])).trans hGG
 | 4, hGG, haG, hneG =>
   exact (haG 40 (by simp [FrXU])).trans hGG
 | 5, hGG, haG, hneG =>
   exact (haG 41 (by simp [FrXU])).trans hGG
 | 6, hGG, haG, hneG =>
   exact (haG 42 (by simp [FrXU])).trans hGG
 | 7, hGG, haG, hneG =>
   exact (haG 43 (by simp [FrXU])).trans hGG
 | 8, hGG, haG, hneG =>
   exact (haG 44 (by simp [FrXU])).trans hGG
 | 9, hGG, haG, hneG =>
   exact (haG 45 (by simp [FrXU])).trans hGG
 | 10, hGG, haG, hneG =>
   exact (haG 46 (by simp [FrXU])).trans hGG
 | 11, hGG, haG, hneG =>
   exact (haG 47 (by simp [FrXU])).trans hGG
 | 12, hGG, haG, hneG =>
   exact (haG 48 (by simp [FrXU])).trans hGG
 | 13, hGG, haG, hneG =>
   exact (haG 49 (by simp [FrXU])).trans hGG
 | 14, hGG, haG, hneG =>
   exact (haG 50 (by simp [FrXU])).trans hGG
 | 15, hGG, haG, hneG =>
   obtain ⟨xG0, eG, fG0, fG1, fG2⟩ := hGG
   exact ⟨xG0, (haG 51 (by simp [FrXU])).trans eG, fG0, fG1, fG2.grownF hbG fG1⟩
 | 16, hGG, haG, hneG =>
   exact absurd rfl hneG.1
 | 17, hGG, haG, hneG =>
   exact (haG 53 (by simp [FrXU])).trans hGG
 | 18, hGG, haG, hneG =>
   exact absurd rfl hneG.2
 | jN + 19, _, _, _ => trivial
theorem FrX_18 {S g : Nat} {N RB : Nat} {u lo x1 x2 : Int} {s : ByteArray} {i k y1 y2 : Nat} {A : Option Addr} {c : Nat} {l : List R2} (hgS : True) {vs us : Nat → Value} {wx wy : World} {jN : Nat} (hneG : jN ≠ 18) (hGG : FrX S g N RB u lo x1 x2 s i k y1 y2 A c l vs wx jN) (haG : ∀ d ∈ FrXU jN, us d = vs d) (hbG : KeepW 26 wx wy) : FrX S g N RB u lo x1 x2 s i k y1 y2 A c l us wy jN := by
 match jN, hGG, haG, hneG with
 | 0, hGG, haG, hneG =>
   exact (haG 36 (by simp [FrXU])).trans hGG
 | 1, hGG, haG, hneG =>
   exact (haG 37 (by simp [FrXU])).trans hGG
 | 2, hGG, haG, hneG =>
   exact (haG 38 (by simp [FrXU])).trans hGG
 | 3, hGG, haG, hneG =>
   exact (haG 39 (by simp [FrXU])).trans hGG
 | 4, hGG, haG, hneG =>
   exact (haG 40 (by simp [FrXU])).trans hGG
 | 5, hGG, haG, hneG =>
   exact (haG 41 (by simp [FrXU])).trans hGG
 | 6, hGG, haG, hneG =>
   exact (haG 42 (by simp [FrXU])).trans hGG
 | 7, hGG, haG, hneG =>
   exact (haG 43 (by simp [FrXU])).trans hGG
 | 8, hGG, haG, hneG =>
   exact (haG 44 (by simp [FrXU])).trans hGG
 | 9, hGG, haG, hneG =>
   exact (haG 45 (by simp [FrXU])).trans hGG
 | 10, hGG, haG, hneG =>
   exact (haG 46 (by simp [FrXU])).trans hGG
 | 11, hGG, haG, hneG =>
   exact (haG 47 (by simp [FrXU])).trans hGG
 | 12, hGG, haG, hneG =>
   exact (haG 48 (by simp [FrXU])).trans hGG
 | 13, hGG, haG, hneG =>
   exact (haG 49 (by simp [FrXU])).trans hGG
 | 14, hGG, haG, hneG =>
   exact (haG 50 (by simp [FrXU])).trans hGG
 | 15, hGG, haG, hneG =>
   obtain ⟨xG0, eG, fG0, fG1, fG2⟩ := hGG
   exact ⟨xG0, (haG 51 (by simp [FrXU])).trans eG, fG0, fG1, hbG.2.1 _ _ _ fG2 (by decide)⟩
 | 16, hGG, haG, hneG =>
   obtain ⟨xG0, xG1, eG, fG0⟩ := hGG
   exact ⟨xG0, xG1, (haG 52 (by simp [FrXU])).trans eG, hbG.own fG0 (by decide)⟩
 | 17, hGG, haG, hneG =>
   exact (haG 53 (by simp [FrXU])).trans hGG
 | 18, hGG, haG, hneG =>
   exact absurd rfl hneG
 | jN + 19, _, _, _ => trivial
def FrXP (j i : Nat) : Bool := (j == 18 && i == 16)
theorem FrX_keep {S g : Nat} {N RB : Nat} {u lo x1 x2 : Int} {s : ByteArray} {i k y1 y2 : Nat} {A : Option Addr} {c : Nat} {l : List R2} (hgS : True) {vs us : Nat → Value} {wx wy : World} {iN jN : Nat} (hneG : iN ≠ jN) (hdpG : FrXP jN iN = false) (hGG : FrX S g N RB u lo x1 x2 s i k y1 y2 A c l vs wx jN) (haG : ∀ d ∈ FrXU jN, us d = vs d) (hbG : FrXR g N RB u lo x1 x2 s i k y1 y2 A c l iN wx wy) : FrX S g N RB u lo x1 x2 s i k y1 y2 A c l us wy jN := by
 unfold FrXR at hbG
 by_cases h16 : iN = 16
 · rw [if_pos h16] at hbG
   exact FrX_16 hgS ⟨by omega, fun e => by subst e; subst h16; cases hdpG⟩ hGG haG hbG
 rw [if_neg h16] at hbG
 by_cases h18 : iN = 18
 · rw [if_pos h18] at hbG
   exact FrX_18 hgS (by omega) hGG haG hbG
 rw [if_neg h18] at hbG
 exact FrX_gr hgS hGG haG hbG
set_option maxRecDepth 100000 in
set_option maxHeartbeats 16000000 in
theorem implParseFrame_any (s : ByteArray) (w : World) (hs : s.size ≤ 16777216) : Calls Try.prog 9 #[.string s] w (RetFrB w ((pfO s).getD (0, 0, [])) (pfO s).isSome) := by
 obtain ⟨i0, hi0, hz0, hz1, hz2⟩ := info_parts info_rod
 have BR0 := Lib.hid (Blk.born w #[.int .i64 0, .int .i64 0, .slice none 0 0] 26 (H := w.heap.size) rfl)
 have HB0 := Lib.hid (ext_alloc (ext_refl w) (.cells #[.int .i64 0, .int .i64 0, .slice none 0 0] 26))
 unfold RetFrB
 by_cases hc : 6 ≤ s.size ∧ s.size ≤ 27 ∧ s.size % 3 = 0
 · obtain ⟨m, hm⟩ : ∃ m, s.size = 3 + 3 * (m + 1) := ⟨s.size / 3 - 2, by omega⟩
   have hm7 : m + 1 ≤ 8 := by omega
   have HMN := Lib.hid (show s.size / 3 - 1 = m + 1 by omega)
   have HM := Lib.hid hm
   have HC := Lib.hid hc
   have h6 : ¬ (s.size : Int) < 6 := by omega
   have h27 : ¬ (27 : Int) < (s.size : Int) := by omega
   have h6d : decide ((s.size : Int) < 6) = false := decide_eq_false h6
   have h27d : decide ((27 : Int) < (s.size : Int)) = false := decide_eq_false h27
   have h3 : (s.size : Int).tmod 3 = 0 := by rw [Int.tmod_eq_emod_of_nonneg (by omega)]; omega
   have hp0 : 0 < s.size := by omega
   have hp2 : 2 < s.size := by omega
   have hl0 := UInt8.toNat_lt (s[0]'hp0)
   have hl2 := UInt8.toNat_lt (s[2]'hp2)
   have hu : ((s[0]'hp0).toNat : Int) - 48 = rd (bl s) 0 := by unfold rd; rw [bl_getDx hp0]
   have hlo : ((s[2]'hp2).toNat : Int) - 48 = rd (bl s) 2 := by unfold rd; rw [bl_getDx hp2]
   have HPO := Lib.hid (show pfO s = if frB (rd (bl s) 0) (rd (bl s) 2) (rdL (bl s) (m + 1)) = true ∧ tF (rd (bl s) 0) (rd (bl s) 2) (rdL (bl s) (m + 1)) = bl s then some (rd (bl s) 0, rd (bl s) 2, rdL (bl s) (m + 1)) else none by
    unfold pfO
    rw [HMN.out]
    by_cases h9 : frB (rd (bl s) 0) (rd (bl s) 2) (rdL (bl s) (m + 1)) = true ∧ tF (rd (bl s) 0) (rd (bl s) 2) (rdL (bl s) (m + 1)) = bl s
    · rw [if_pos h9, if_pos ⟨hc.1, hc.2.1, hc.2.2, h9.1, h9.2⟩]
    · rw [if_neg h9, if_neg (fun h => h9 h.2.2.2)])
   have HU := Lib.hid hu
   have HLO := Lib.hid hlo
   have ho0 : rd (bl s) 0 ≤ 1000 ∧ -1000 ≤ rd (bl s) 0 := by rw [← hu]; omega
   have ho2 : rd (bl s) 2 ≤ 1000 ∧ -1000 ≤ rd (bl s) 2 := by rw [← hlo]; omega
   obtain ⟨u, hue⟩ : ∃ u, rd (bl s) 0 = u := ⟨_, rfl⟩
   obtain ⟨lo, hloe⟩ : ∃ lo, rd (bl s) 2 = lo := ⟨_, rfl⟩
   rw [hue] at HU HPO ho0
   rw [hloe] at HLO HPO ho2
   have hwa : IntKind.i64.wrap ((s[0]'hp0).toNat : Int) = ((s[0]'hp0).toNat : Int) := by rw [IntKind.wrap_i64]; omega
   have hwb : IntKind.i64.wrap ((s[2]'hp2).toNat : Int) = ((s[2]'hp2).toNat : Int) := by rw [IntKind.wrap_i64]; omega
   have hwa' : IntKind.i64.wrap (((s[0]'hp0).toNat : Int) - 48) = ((s[0]'hp0).toNat : Int) - 48 := by rw [IntKind.wrap_i64]; omega
   have hwb' : IntKind.i64.wrap (((s[2]'hp2).toNat : Int) - 48) = ((s[2]'hp2).toNat : Int) - 48 := by rw [IntKind.wrap_i64]; omega
   clear hm hc hu hlo hue hloe
   go_enter Try.func9, Try.ntmps9
   go_upto_region 3 with fail
   go_cut [4] (fun s4 wx => ∃ N, s4 = .pointer (some ⟨N, 0, none⟩) ∧ Hid (Blk wx N 26 #[.int .i64 u, .int .i64 lo, .slice none 0 0]) ∧ Hid (Blk wx w.heap.size 26 #[.int .i64 0, .int .i64 0, .slice none 0 0]) ∧ Hid (Below w.heap.size w wx) ∧ w.heap.size < N)
   case first =>
    go_region_held3 (fun _ => True) (trivial) (fail)
    all_goals
     go_wp2_with fail
     go_meet
     rw [← HU.out, ← HLO.out]
     refine ⟨_, rfl, ?_, ?_, ?_, ?_⟩
     · refine Lib.hid ?_
       repeat (first | (with_reducible exact Blk.born _ _ _ rfl) | (with_reducible exact Blk.born _ _ _ (by simp)) | (with_reducible refine Blk.al ?_ _) | (with_reducible refine Blk.drv ?_) | (with_reducible refine fr_fill ?_))
     · refine Lib.hid ?_
       repeat (first | (with_reducible exact BR0.out) | (with_reducible refine Blk.al ?_ _) | (with_reducible refine Blk.drv ?_) | (with_reducible refine fill_far ?_ (by first | omega | (simp <;> omega))))
     · refine Lib.hid ?_
       repeat (first | (with_reducible exact HB0.out) | (with_reducible refine ext_drew ?_) | (with_reducible refine ext_alloc ?_ _) | (with_reducible refine fill_below ?_ (by first | omega | (simp <;> omega))))
     · first | omega | (simp <;> omega)
   case rest =>
    obtain ⟨N, rfl, BN1, BR1, HB1, hNw⟩ := hcut
    obtain ⟨w1, hw1⟩ : ∃ x : World, x = wc := ⟨_, rfl⟩
    subst hw1
    clear BR0 HB0 hwa hwb hwa' hwb' hl0 hl2 HU HLO h3 h6d h27d h6 h27
    have hwN : w.heap.size ≤ N := by omega
    have hNR : N ≠ w.heap.size := by omega
    have hwR : w.heap.size ≤ w.heap.size := Nat.le_refl _
    go_wp2_with fail
    go_loopw [5] (fun iv wr => ∃ (k c : Nat) (A : Option Addr), k ≤ m + 1 ∧ iv = .int .i64 ((3 + 3 * k : Nat) : Int) ∧ Hid (Blk wr N 26 #[.int .i64 u, .int .i64 lo, .slice A k c]) ∧ Hid (wr.ownsRow w.heap.size 55 2 (.slice A k c) k (rowsV2 (rdL (bl s) k))) ∧ Hid (Blk wr w.heap.size 26 #[.int .i64 0, .int .i64 0, .slice none 0 0]) ∧ Hid (Below w.heap.size w wr)) (fun iv _ => (100 - intOf iv).toNat)
    case atStart => exact ⟨0, 0, none, Nat.zero_le _, rfl, BN1, Lib.hid (World.ownsRow_nil _ _ _ _), BR1, HB1⟩
    case round =>
     clear BN1 BR1 HB1
     obtain ⟨k, c, A, hk, rfl, BN, HR, BR, HB⟩ := hrel
     obtain ⟨W0, hW0e⟩ : ∃ y : World, y = wr := ⟨_, rfl⟩
     subst hW0e
     have hW0 := HB.out.size
     obtain ⟨d0, d1, d2⟩ := BN.out.q3
     obtain ⟨z0, z1, z2⟩ := BN.out.z3
     obtain ⟨r0, r1, r2⟩ := BR.out.q3
     obtain ⟨y0', y1', y2'⟩ := BR.out.z3
     have ln := BN.out.lt
     have lr := BR.out.lt
     by_cases hlt : k < m + 1
     · have hsz9 := HM.out
       obtain ⟨i, hi⟩ : ∃ i, i = 3 + 3 * k := ⟨_, rfl⟩
       rw [← hi]
       have hi1 : i + 1 < s.size := by omega
       have hi2 : i + 2 < s.size := by omega
       have hi27 : i ≤ 100 := by omega
       have e1 : (i : Int) < (s.size : Int) := by omega
       have hrx : rdR (bl s) k = ⟨((s[i + 1]'hi1).toNat : Int) - 48, ((s[i + 2]'hi2).toNat : Int) - 48⟩ := by
        unfold rdR rd
        rw [show 3 + k * 3 + 1 = i + 1 by omega, show 3 + k * 3 + 2 = i + 2 by omega, bl_getDx hi1, bl_getDx hi2]
       have hl1 := UInt8.toNat_lt (s[i + 1]'hi1)
       have hl2 := UInt8.toNat_lt (s[i + 2]'hi2)
       obtain ⟨c1, hc1⟩ : ∃ c1, (s[i + 1]'hi1) = c1 := ⟨_, rfl⟩
       obtain ⟨c2, hc2⟩ : ∃ c2, (s[i + 2]'hi2) = c2 := ⟨_, rfl⟩
       rw [hc1] at hrx hl1
       rw [hc2] at hrx hl2
       obtain ⟨y1, hy1⟩ : ∃ y1, c1.toNat = y1 := ⟨_, rfl⟩
       obtain ⟨y2, hy2⟩ : ∃ y2, c2.toNat = y2 := ⟨_, rfl⟩
       rw [hy1] at hrx hl1
       rw [hy2] at hrx hl2
       obtain ⟨x1, hx1⟩ : ∃ x1, ((y1 : Int) - 48) = x1 := ⟨_, rfl⟩
       obtain ⟨x2, hx2⟩ : ∃ x2, ((y2 : Int) - 48) = x2 := ⟨_, rfl⟩
       rw [hx1, hx2] at hrx
       have HC1 := Lib.hid (And.intro hc1 hy1)
       have HC2 := Lib.hid (And.intro hc2 hy2)
       have HX1 := Lib.hid hx1
       have HX2 := Lib.hid hx2
       have HNX := Lib.hid (show rdL (bl s) (k + 1) = rdL (bl s) k ++ [⟨x1, x2⟩] by rw [rdL_succ, hrx])
       obtain ⟨l, hl⟩ : ∃ l, rdL (bl s) k = l := ⟨_, rfl⟩
       rw [hl] at HR HNX
       have HI := Lib.hid hi
       clear hi hrx hc1 hc2 hy1 hy2 hx1 hx2 hl hsz9
       go_upto_region 7 with fail
       refine wp_region_m (by kernel_rfl) (by kernel_rfl) [36, 37, 38, 39, 40, 41, 42, 43, 44, 45, 46, 47, 48, 49, 50, 51, 52, 53] FrXU (by kernel_rfl) (by decide) 54 (by kernel_rfl) (by simp) (fun ra0 => ra0.eval (.tmp 0) = .string s ∧ ra0.eval (.tmp 4) = .pointer (some ⟨N, 0, none⟩) ∧ ra0.eval (.tmp 5) = .int .i64 (i : Int)) ⟨by kernel_rfl, by kernel_rfl, by kernel_rfl⟩ FrXP (by kernel_rfl) (IExt w W0 16 18 (fun wx => Blk wx N 26 #[.int .i64 u, .int .i64 lo, .slice A k c] ∧ Blk wx w.heap.size 26 #[.int .i64 0, .int .i64 0, .slice none 0 0])) (FrXR 0 N w.heap.size u lo x1 x2 s i k y1 y2 A c l) (fun jN vs wx => FrX w.heap.size 0 N w.heap.size u lo x1 x2 s i k y1 y2 A c l vs wx jN) ⟨(HB.out).drew, Nat.le_refl _, fun _ => (ext_refl _).drew, fun _ => ⟨BN.out, BR.out⟩⟩ (fun _ _ _ _ _ _ h0 hd h1 h2 h3 => FrX_keep trivial h0 hd h1 h2 h3) ?_ ?_
       · intro ra0 hE ri ro ho Qx vs wx rb KX kk rL hI hkk hnl hLt hcl hdep rb0 rbk HK
         repeat (rename_i hz9; clear hz9)
         obtain ⟨rq0, rq4, rq5⟩ := hE
         have hi : ri < 19 := by
          rcases Nat.lt_or_ge ri 19 with h | h
          · exact h
          · rw [Array.getElem?_eq_none (by simpa using h)] at ho; cases ho
         have hkk : kk < 19 := by simpa using hkk
         obtain ⟨hGw, hsz, hpre, hBx⟩ := hI
         have HQ : ∀ w', Below wx.heap.size wx w' → IExt w W0 16 18 (fun wx => Blk wx N 26 #[.int .i64 u, .int .i64 lo, .slice A k c] ∧ Blk wx w.heap.size 26 #[.int .i64 0, .int .i64 0, .slice none 0 0]) (kk + 1) (fun j => j = ri ∨ rL j) w' := fun w' h3 => ⟨ext_trans hGw h3, Nat.le_trans hsz h3.size, fun hn => ext_trans (hpre (fun x => hn (.inr x))) h3, fun hn => (fun hB => ⟨hB.1.ext h3, hB.2.ext h3⟩) (hBx (fun x => hn (.inr x)))⟩
         have HQX := Lib.hid HQ
         have HGW := Lib.hid hGw
         have HPRE := Lib.hid hpre
         have HBX := Lib.hid hBx
         have HCL := Lib.hid hcl
         clear HQ hGw hpre hBx hcl
         rcases (show ri = 0 ∨ ri = 1 ∨ ri = 2 ∨ ri = 3 ∨ ri = 4 ∨ ri = 5 ∨ ri = 6 ∨ ri = 7 ∨ ri = 8 ∨ ri = 9 ∨ ri = 10 ∨ ri = 11 ∨ ri = 12 ∨ ri = 13 ∨ ri = 14 ∨ ri = 15 ∨ ri = 16 ∨ ri = 17 ∨ ri = 18 by omega) with rfl | rfl | rfl | rfl | rfl | rfl | rfl | rfl | rfl | rfl | rfl | rfl | rfl | rfl | rfl | rfl | rfl | rfl | rfl
         · simp only [List.getElem?_toArray, List.getElem?_cons_succ, List.getElem?_cons_zero, Option.some.injEq] at ho
           subst ho
           have HKX := Lib.hid HK
           clear HK
           have p4 := (rb0 4 (by decide)).trans rq4
           clear rb0 rbk hdep
           go_simp
           exact HKX.out _ _ (HQX.out _ (ext_refl _)) (by unfold FrXR; rw [if_neg (by decide)]; rw [if_neg (by decide)]; exact ext_refl _) (upd_same _ _ _)
         · simp only [List.getElem?_toArray, List.getElem?_cons_succ, List.getElem?_cons_zero, Option.some.injEq] at ho
           subst ho
           have HKX := Lib.hid HK
           clear HK
           have e0 : vs 36 = .pointer (some ⟨N, 2, none⟩) := (hdep 0 (by kernel_rfl)).2
           have rr0 := (rbk 36 (by decide)).trans e0
           have E0 := Lib.hid e0
           clear e0
           have hNL : ¬ rL 16 := fun h => hnl (HCL.out 16 _ 1 rfl h (by kernel_rfl))
           have HGP := Lib.hid (HPRE.out hNL)
           obtain ⟨dx0, dx1, dx2⟩ := (BN.out.ext HGP.out).q3
           have lnx := (BN.out.ext HGP.out).lt
           have hSx : w.heap.size ≤ wx.heap.size := Nat.le_trans hW0 hsz
           have hNx : Value.ownBlock (.slice A k c) ≠ some wx.heap.size := fun e => absurd ((HR.out.lt _ e).2) (by omega)
           clear rb0 rbk hdep
           go_simp
           exact HKX.out _ _ (HQX.out _ (ext_refl _)) (by unfold FrXR; rw [if_neg (by decide)]; rw [if_neg (by decide)]; exact ext_refl _) (upd_same _ _ _)
         · simp only [List.getElem?_toArray, List.getElem?_cons_succ, List.getElem?_cons_zero, Option.some.injEq] at ho
           subst ho
           have HKX := Lib.hid HK
           clear HK
           have p0 := (rb0 0 (by decide)).trans rq0
           clear rb0 rbk hdep
           go_simp
           exact HKX.out _ _ (HQX.out _ (ext_refl _)) (by unfold FrXR; rw [if_neg (by decide)]; rw [if_neg (by decide)]; exact ext_refl _) (upd_same _ _ _)
         · simp only [List.getElem?_toArray, List.getElem?_cons_succ, List.getElem?_cons_zero, Option.some.injEq] at ho
           subst ho
           have HKX := Lib.hid HK
           clear HK
           have p5 := (rb0 5 (by decide)).trans rq5
           clear rb0 rbk hdep
           go_simp
           exact HKX.out _ _ (HQX.out _ (ext_refl _)) (by unfold FrXR; rw [if_neg (by decide)]; rw [if_neg (by decide)]; exact ext_refl _) (upd_same _ _ _)
         · simp only [List.getElem?_toArray, List.getElem?_cons_succ, List.getElem?_cons_zero, Option.some.injEq] at ho
           subst ho
           have HKX := Lib.hid HK
           clear HK
           have e3 : vs 39 = .int .i64 (i : Int) := (hdep 3 (by kernel_rfl)).2
           have rr3 := (rbk 39 (by decide)).trans e3
           have E3 := Lib.hid e3
           clear e3
           clear rb0 rbk hdep
           go_simp
           rw [show IntKind.i64.wrap ((i : Int) + 1) = ((i + 1 : Nat) : Int) from by rw [IntKind.wrap_i64]; omega]
           exact HKX.out _ _ (HQX.out _ (ext_refl _)) (by unfold FrXR; rw [if_neg (by decide)]; rw [if_neg (by decide)]; exact ext_refl _) (upd_same _ _ _)
         · simp only [List.getElem?_toArray, List.getElem?_cons_succ, List.getElem?_cons_zero, Option.some.injEq] at ho
           subst ho
           have HKX := Lib.hid HK
           clear HK
           have e2 : vs 38 = .string s := (hdep 2 (by kernel_rfl)).2
           have rr2 := (rbk 38 (by decide)).trans e2
           have E2 := Lib.hid e2
           clear e2
           have e4 : vs 40 = .int .i64 ((i + 1 : Nat) : Int) := (hdep 4 (by kernel_rfl)).2
           have rr4 := (rbk 40 (by decide)).trans e4
           have E4 := Lib.hid e4
           clear e4
           clear rb0 rbk hdep
           go_simp
           rw [dif_pos (show 0 ≤ (i : Int) + 1 ∧ (i : Int) + 1 < (s.size : Int) from ⟨by omega, by omega⟩)]
           try simp only [show ((i : Int) + 1).toNat = i + 1 from by omega]
           rw [show (s[i + 1]'hi1).toNat = y1 from by rw [HC1.out.1]; exact HC1.out.2]
           exact HKX.out _ _ (HQX.out _ (ext_refl _)) (by unfold FrXR; rw [if_neg (by decide)]; rw [if_neg (by decide)]; exact ext_refl _) (upd_same _ _ _)
         · simp only [List.getElem?_toArray, List.getElem?_cons_succ, List.getElem?_cons_zero, Option.some.injEq] at ho
           subst ho
           have HKX := Lib.hid HK
           clear HK
           have e5 : vs 41 = .int .u8 (y1 : Int) := (hdep 5 (by kernel_rfl)).2
           have rr5 := (rbk 41 (by decide)).trans e5
           have E5 := Lib.hid e5
           clear e5
           clear rb0 rbk hdep
           go_simp
           rw [show IntKind.i64.wrap (y1 : Int) = y1 from by rw [IntKind.wrap_i64]; omega]
           exact HKX.out _ _ (HQX.out _ (ext_refl _)) (by unfold FrXR; rw [if_neg (by decide)]; rw [if_neg (by decide)]; exact ext_refl _) (upd_same _ _ _)
         · simp only [List.getElem?_toArray, List.getElem?_cons_succ, List.getElem?_cons_zero, Option.some.injEq] at ho
           subst ho
           have HKX := Lib.hid HK
           clear HK
           have e6 : vs 42 = .int .i64 (y1 : Int) := (hdep 6 (by kernel_rfl)).2
           have rr6 := (rbk 42 (by decide)).trans e6
           have E6 := Lib.hid e6
           clear e6
           clear rb0 rbk hdep
           go_simp
           rw [show IntKind.i64.wrap ((y1 : Int) - 48) = x1 from by rw [IntKind.wrap_i64]; have := HX1.out; omega]
           exact HKX.out _ _ (HQX.out _ (ext_refl _)) (by unfold FrXR; rw [if_neg (by decide)]; rw [if_neg (by decide)]; exact ext_refl _) (upd_same _ _ _)
         · simp only [List.getElem?_toArray, List.getElem?_cons_succ, List.getElem?_cons_zero, Option.some.injEq] at ho
           subst ho
           have HKX := Lib.hid HK
           clear HK
           have p0 := (rb0 0 (by decide)).trans rq0
           clear rb0 rbk hdep
           go_simp
           exact HKX.out _ _ (HQX.out _ (ext_refl _)) (by unfold FrXR; rw [if_neg (by decide)]; rw [if_neg (by decide)]; exact ext_refl _) (upd_same _ _ _)
         · simp only [List.getElem?_toArray, List.getElem?_cons_succ, List.getElem?_cons_zero, Option.some.injEq] at ho
           subst ho
           have HKX := Lib.hid HK
           clear HK
           have p5 := (rb0 5 (by decide)).trans rq5
           clear rb0 rbk hdep
           go_simp
           exact HKX.out _ _ (HQX.out _ (ext_refl _)) (by unfold FrXR; rw [if_neg (by decide)]; rw [if_neg (by decide)]; exact ext_refl _) (upd_same _ _ _)
         · simp only [List.getElem?_toArray, List.getElem?_cons_succ, List.getElem?_cons_zero, Option.some.injEq] at ho
           subst ho
           have HKX := Lib.hid HK
           clear HK
           have e9 : vs 45 = .int .i64 (i : Int) := (hdep 9 (by kernel_rfl)).2
           have rr9 := (rbk 45 (by decide)).trans e9
           have E9 := Lib.hid e9
           clear e9
           clear rb0 rbk hdep
           go_simp
           rw [show IntKind.i64.wrap ((i : Int) + 2) = ((i + 2 : Nat) : Int) from by rw [IntKind.wrap_i64]; omega]
           exact HKX.out _ _ (HQX.out _ (ext_refl _)) (by unfold FrXR; rw [if_neg (by decide)]; rw [if_neg (by decide)]; exact ext_refl _) (upd_same _ _ _)
         · simp only [List.getElem?_toArray, List.getElem?_cons_succ, List.getElem?_cons_zero, Option.some.injEq] at ho
           subst ho
           have HKX := Lib.hid HK
           clear HK
           have e8 : vs 44 = .string s := (hdep 8 (by kernel_rfl)).2
           have rr8 := (rbk 44 (by decide)).trans e8
           have E8 := Lib.hid e8
           clear e8
           have e10 : vs 46 = .int .i64 ((i + 2 : Nat) : Int) := (hdep 10 (by kernel_rfl)).2
           have rr10 := (rbk 46 (by decide)).trans e10
           have E10 := Lib.hid e10
           clear e10
           clear rb0 rbk hdep
           go_simp
           rw [dif_pos (show 0 ≤ (i : Int) + 2 ∧ (i : Int) + 2 < (s.size : Int) from ⟨by omega, by omega⟩)]
           try simp only [show ((i : Int) + 2).toNat = i + 2 from by omega]
           rw [show (s[i + 2]'hi2).toNat = y2 from by rw [HC2.out.1]; exact HC2.out.2]
           exact HKX.out _ _ (HQX.out _ (ext_refl _)) (by unfold FrXR; rw [if_neg (by decide)]; rw [if_neg (by decide)]; exact ext_refl _) (upd_same _ _ _)
         · simp only [List.getElem?_toArray, List.getElem?_cons_succ, List.getElem?_cons_zero, Option.some.injEq] at ho
           subst ho
           have HKX := Lib.hid HK
           clear HK
           have e11 : vs 47 = .int .u8 (y2 : Int) := (hdep 11 (by kernel_rfl)).2
           have rr11 := (rbk 47 (by decide)).trans e11
           have E11 := Lib.hid e11
           clear e11
           clear rb0 rbk hdep
           go_simp
           rw [show IntKind.i64.wrap (y2 : Int) = y2 from by rw [IntKind.wrap_i64]; omega]
           exact HKX.out _ _ (HQX.out _ (ext_refl _)) (by unfold FrXR; rw [if_neg (by decide)]; rw [if_neg (by decide)]; exact ext_refl _) (upd_same _ _ _)
         · simp only [List.getElem?_toArray, List.getElem?_cons_succ, List.getElem?_cons_zero, Option.some.injEq] at ho
           subst ho
           have HKX := Lib.hid HK
           clear HK
           have e12 : vs 48 = .int .i64 (y2 : Int) := (hdep 12 (by kernel_rfl)).2
           have rr12 := (rbk 48 (by decide)).trans e12
           have E12 := Lib.hid e12
           clear e12
           clear rb0 rbk hdep
           go_simp
           rw [show IntKind.i64.wrap ((y2 : Int) - 48) = x2 from by rw [IntKind.wrap_i64]; have := HX2.out; omega]
           exact HKX.out _ _ (HQX.out _ (ext_refl _)) (by unfold FrXR; rw [if_neg (by decide)]; rw [if_neg (by decide)]; exact ext_refl _) (upd_same _ _ _)
         · simp only [List.getElem?_toArray, List.getElem?_cons_succ, List.getElem?_cons_zero, Option.some.injEq] at ho
           subst ho
           have HKX := Lib.hid HK
           clear HK
           have e7 : vs 43 = .int .i64 x1 := (hdep 7 (by kernel_rfl)).2
           have rr7 := (rbk 43 (by decide)).trans e7
           have E7 := Lib.hid e7
           clear e7
           have e13 : vs 49 = .int .i64 x2 := (hdep 13 (by kernel_rfl)).2
           have rr13 := (rbk 49 (by decide)).trans e13
           have E13 := Lib.hid e13
           clear e13
           clear rb0 rbk hdep
           go_simp
           exact HKX.out _ _ (HQX.out _ (ext_refl _)) (by unfold FrXR; rw [if_neg (by decide)]; rw [if_neg (by decide)]; exact ext_refl _) (upd_same _ _ _)
         · simp only [List.getElem?_toArray, List.getElem?_cons_succ, List.getElem?_cons_zero, Option.some.injEq] at ho
           subst ho
           have HKX := Lib.hid HK
           clear HK
           have e14 : vs 50 = .agg #[.int .i64 x1, .int .i64 x2] := (hdep 14 (by kernel_rfl)).2
           have rr14 := (rbk 50 (by decide)).trans e14
           have E14 := Lib.hid e14
           clear e14
           have hNL : ¬ rL 16 := fun h => hnl (HCL.out 16 _ 15 rfl h (by kernel_rfl))
           have HGP := Lib.hid (HPRE.out hNL)
           obtain ⟨dx0, dx1, dx2⟩ := (BN.out.ext HGP.out).q3
           have lnx := (BN.out.ext HGP.out).lt
           have hSx : w.heap.size ≤ wx.heap.size := Nat.le_trans hW0 hsz
           have hNx : Value.ownBlock (.slice A k c) ≠ some wx.heap.size := fun e => absurd ((HR.out.lt _ e).2) (by omega)
           clear rb0 rbk hdep
           go_simp
           exact HKX.out _ _ (HQX.out _ (ext_alloc (ext_refl _) _)) (by unfold FrXR; rw [if_neg (by decide)]; rw [if_neg (by decide)]; exact ext_alloc (ext_refl _) _) ⟨wx.heap.size, upd_same _ _ _, hSx, hNx, Blk.born _ _ _ rfl⟩
         · simp only [List.getElem?_toArray, List.getElem?_cons_succ, List.getElem?_cons_zero, Option.some.injEq] at ho
           subst ho
           have HKX := Lib.hid HK
           clear HK
           have e1 : vs 37 = .slice A k c := (hdep 1 (by kernel_rfl)).2
           have rr1 := (rbk 37 (by decide)).trans e1
           have E1 := Lib.hid e1
           clear e1
           obtain ⟨z9, e15, k15_0, k15_1, k15_2⟩ := (hdep 15 (by kernel_rfl)).2
           have rr15 := (rbk 51 (by decide)).trans e15
           have E15 := Lib.hid e15
           clear e15
           have K15_1 := Lib.hid k15_1
           clear k15_1
           have K15_2 := Lib.hid k15_2
           clear k15_2
           have hNL : ¬ rL 16 := hnl
           have HGP := Lib.hid (HPRE.out hNL)
           obtain ⟨dx0, dx1, dx2⟩ := (BN.out.ext HGP.out).q3
           have lnx := (BN.out.ext HGP.out).lt
           have hSx : w.heap.size ≤ wx.heap.size := Nat.le_trans hW0 hsz
           have hNx : Value.ownBlock (.slice A k c) ≠ some wx.heap.size := fun e => absurd ((HR.out.lt _ e).2) (by omega)
           clear rb0 rbk hdep
           have HO := Lib.hid (own_ext HR.out HGP.out)
           have HS13 := Lib.hid (own_blk2 K15_2.out k15_0)
           refine step_appO rfl (.tmp 37) (.tmp 51) 24 rfl w.heap.size 55 i0 _ 2 16 Try.underlying24 hi0 hz0 hz1 hz2 rfl (by decide) (.slice A k c) k (rowsV2 l) ((Array.getD_eq_getD_getElem? ..).trans rr1) HO.out (some ⟨z9, 0, none⟩) 1 1 [.int .i64 x1, .int .i64 x2] ((Array.getD_eq_getD_getElem? ..).trans rr15) w.heap.size HS13.out (by intro u hu; rcases List.mem_cons.1 hu with rfl | hu; rfl; rcases List.mem_cons.1 hu with rfl | hu; rfl; cases hu) (by unfold maxLen; omega) (by omega) (Nat.le_trans hW0 hsz) ?_
           intro A2 c2 w' hown hgr
           have hblk : ∀ q, Value.ownBlock (.slice A k c) = some q → w.heap.size ≤ q := fun q hq => (HO.out.lt q hq).1
           exact HKX.out _ _ ⟨below_grown' HO.out (Nat.le_refl _) HGW.out hgr, Nat.le_trans hsz hgr.size, fun hn => absurd (.inl rfl) hn, fun hn => ⟨(HBX.out (fun x => hn (.inr x))).1.grownF hgr (own_nbT HO.out (HBX.out (fun x => hn (.inr x))).1 (by decide)), (HBX.out (fun x => hn (.inr x))).2.grownF hgr (own_nbT HO.out (HBX.out (fun x => hn (.inr x))).2 (by decide))⟩⟩ (by unfold FrXR; rw [if_pos rfl]; exact hgr) ⟨A2, c2, upd_same _ _ _, by have h9 := hown; rwa [show rowsV2 l ++ [Value.int .i64 x1, Value.int .i64 x2] = rowsV2 (l ++ [⟨x1, x2⟩]) by simp [rowsV2, R2.cells]] at h9⟩
         · simp only [List.getElem?_toArray, List.getElem?_cons_succ, List.getElem?_cons_zero, Option.some.injEq] at ho
           subst ho
           have HKX := Lib.hid HK
           clear HK
           have p4 := (rb0 4 (by decide)).trans rq4
           clear rb0 rbk hdep
           go_simp
           exact HKX.out _ _ (HQX.out _ (ext_refl _)) (by unfold FrXR; rw [if_neg (by decide)]; rw [if_neg (by decide)]; exact ext_refl _) (upd_same _ _ _)
         · simp only [List.getElem?_toArray, List.getElem?_cons_succ, List.getElem?_cons_zero, Option.some.injEq] at ho
           subst ho
           have HKX := Lib.hid HK
           clear HK
           obtain ⟨A2, c2, e16, k16_0⟩ := (hdep 16 (by kernel_rfl)).2
           have rr16 := (rbk 52 (by decide)).trans e16
           have E16 := Lib.hid e16
           clear e16
           have K16_0 := Lib.hid k16_0
           clear k16_0
           have e17 : vs 53 = .pointer (some ⟨N, 2, none⟩) := (hdep 17 (by kernel_rfl)).2
           have rr17 := (rbk 53 (by decide)).trans e17
           have E17 := Lib.hid e17
           clear e17
           have h14 := (hdep 16 (by kernel_rfl)).1
           have HBF := Lib.hid (HBX.out hnl)
           clear rb0 rbk hdep
           obtain ⟨yB0, yB1, yB2⟩ := HBF.out.1.q3
           obtain ⟨zB0, zB1, zB2⟩ := HBF.out.1.z3
           have hlN := HBF.out.1.lt
           go_simp
           exact HKX.out undef _ ⟨ext_set (p := ⟨N, 2, none⟩) HGW.out hwN _, by simpa using hsz, fun hn => (hn (.inr h14)).elim, fun hn => (hn (.inl rfl)).elim⟩ (by unfold FrXR; rw [if_neg (by decide), if_pos rfl]; exact (KeepW.refl _ _).set HBF.out.1 2 _) ⟨A2, c2, own_setF (p := ⟨N, 2, none⟩) K16_0.out (own_nbT K16_0.out HBF.out.1 (by decide)) _, HBF.out.1.set_ 2 _, HBF.out.2.setF (p := ⟨N, 2, none⟩) hNR _, hwN, hwR⟩
       intro vs wx kk rL hI hkk hLt hall
       obtain ⟨_, A2, c2', hr2, hB2, hBR2, _, _⟩ := hall 18 (by decide)
       obtain ⟨hb2, _, _, _⟩ := hI
       have HR5 := Lib.hid hr2
       have BN5 := Lib.hid hB2
       have BR5 := Lib.hid hBR2
       have HB5 := Lib.hid hb2
       clear hLt hall hr2 hB2 hBR2 hb2 d0 d1 d2 z0 z1 z2 r0 r1 r2 y0' y1' y2' ln lr
       simp only [sl]
       simp only [Act.put, List.setIfInBounds_toArray, List.set_cons_succ, List.set_cons_zero]
       go_wp2
       go_roundw
       case rel => exact ⟨k + 1, c2', A2, by omega, by have h9 := HI.out; exact congrArg (Value.int .i64) (by omega), BN5, by rw [HNX.out]; exact HR5, BR5, HB5⟩
       case measure =>
        have h9 := HI.out
        show (100 - ((i : Int) + 3)).toNat < (100 - ((i : Nat) : Int)).toNat
        omega
     · obtain rfl : k = m + 1 := by omega
       have e1 : ¬ ((3 + 3 * (m + 1) : Nat) : Int) < (s.size : Int) := by have := HM.out; omega
       obtain ⟨l, hl⟩ : ∃ l, rdL (bl s) (m + 1) = l := ⟨_, rfl⟩
       have hll : l.length = m + 1 := by rw [← hl]; exact rdL_len _ _
       rw [hl] at HR HPO
       clear hl
       have HG := Lib.hid (fun (W : World) (h : Below W0.heap.size W0 W) => isFrame_any u lo A (m + 1) c l W (by omega) (Reads.of_own (own_ext HR.out h)))
       cases hf : frB u lo l
       · have HP := Lib.hid (show pfO s = none by rw [HPO.out, if_neg (fun h => by rw [hf] at h; cases h.1)])
         rw [hf] at HG
         clear HPO hf
         go_wp2_with fail
         refine (HG.out _ (ext_refl _)).mono ?_
         rintro e w1 ⟨rfl, hb1⟩
         have BR1 := Lib.hid (BR.out.ext hb1)
         have HB1 := Lib.hid (ext_trans HB.out hb1)
         clear hb1 d0 d1 d2 z0 z1 z2 r0 r1 r2 y0' y1' y2' ln lr
         obtain ⟨r0, r1, r2⟩ := BR1.out.q3
         obtain ⟨z0, z1, z2⟩ := BR1.out.z3
         have lr := BR1.out.lt
         go_wp2
         refine bodyPost_ret (v := .tuple #[frV 0 0 none 0 0, .bool false]) (by simp [results, Try.results9, go_sem, *]) rfl ?_
         rw [HP.out]
         exact ⟨none, 0, rfl, World.ownsRow_nil _ _ _ _, fill_below HB1.out (Nat.le_refl _)⟩
       · have HT := Lib.hid (fun (W : World) (h : Below W0.heap.size W0 W) => frameText_any u lo A (m + 1) c l W hf (Reads.of_own (own_ext HR.out h)))
         rw [hf] at HG
         go_wp2_with fail
         refine (HG.out _ (ext_refl _)).mono ?_
         rintro e w1 ⟨rfl, hb1⟩
         have BN1 := Lib.hid (BN.out.ext hb1)
         have BR1 := Lib.hid (BR.out.ext hb1)
         have HB1 := Lib.hid (ext_trans HB.out hb1)
         have HX1 := Lib.hid hb1
         clear hb1 d0 d1 d2 z0 z1 z2 r0 r1 r2 y0' y1' y2' ln lr
         obtain ⟨d0, d1, d2⟩ := BN1.out.q3
         have ln := BN1.out.lt
         by_cases hq : tF u lo l = bl s
         · have hqs : str (tF u lo l) = s := bl_inj (by rw [bl_str]; exact hq)
           have HP := Lib.hid (show pfO s = some (u, lo, l) by rw [HPO.out, if_pos ⟨hf, hq⟩])
           rw [hqs] at HT
           clear HPO hf hq hqs
           go_wp2_with fail
           refine (HT.out _ HX1.out).mono ?_
           rintro e w2 ⟨rfl, hb2⟩
           have BN2 := Lib.hid (BN1.out.ext hb2)
           have BR2 := Lib.hid (BR1.out.ext hb2)
           have HB2 := Lib.hid (ext_trans HB1.out hb2)
           have HX2 := Lib.hid (ext_trans HX1.out hb2)
           clear hb2 d0 d1 d2 ln
           obtain ⟨d0, d1, d2⟩ := BN2.out.q3
           have ln := BN2.out.lt
           obtain ⟨r0, r1, r2⟩ := BR2.out.q3
           obtain ⟨z0, z1, z2⟩ := BR2.out.z3
           have lr := BR2.out.lt
           go_wp2
           refine bodyPost_ret (v := .tuple #[frV u lo A (m + 1) c, .bool true]) (by simp [results, Try.results9, go_sem, *]) rfl ?_
           rw [HP.out]
           have h9 := fill_own' (g := w.heap.size) (a := .int .i64 u) (b := .int .i64 lo) (c := .slice A (m + 1) c) (own_ext HR.out HX2.out) (own_nbT (own_ext HR.out HX2.out) BR2.out (by decide))
           simp only [Option.getD_some, Option.isSome_some]
           exact ⟨A, c, by rw [hll], by rw [hll]; exact h9, fill_below HB2.out (Nat.le_refl _)⟩
         · have hqs : str (tF u lo l) ≠ s := fun h => hq (by rw [← h, bl_str])
           have HP := Lib.hid (show pfO s = none by rw [HPO.out, if_neg (fun h => hq h.2)])
           have hqd : ((str (tF u lo l)).toList == s.toList) = false := by rw [beq_eq_false_iff_ne, ne_eq, toList_eq_iff]; exact hqs
           clear HPO hf hq
           go_wp2_with fail
           refine (HT.out _ HX1.out).mono ?_
           rintro e w2 ⟨rfl, hb2⟩
           have BR2 := Lib.hid (BR1.out.ext hb2)
           have HB2 := Lib.hid (ext_trans HB1.out hb2)
           clear hb2 d0 d1 d2 ln
           obtain ⟨r0, r1, r2⟩ := BR2.out.q3
           obtain ⟨z0, z1, z2⟩ := BR2.out.z3
           have lr := BR2.out.lt
           go_wp2
           refine bodyPost_ret (v := .tuple #[frV 0 0 none 0 0, .bool false]) (by simp [results, Try.results9, go_sem, *]) rfl ?_
           rw [HP.out]
           exact ⟨none, 0, rfl, World.ownsRow_nil _ _ _ _, fill_below HB2.out (Nat.le_refl _)⟩
 · skip
   have HP := Lib.hid (show pfO s = none by unfold pfO; rw [if_neg (fun h => hc ⟨h.1, h.2.1, h.2.2.1⟩)])
   obtain ⟨W0, hW0⟩ : ∃ y : World, y = w.alloc (.cells #[.int .i64 0, .int .i64 0, .slice none 0 0] 26) := ⟨_, rfl⟩
   by_cases h6 : (s.size : Int) < 6
   · have h6d : decide ((s.size : Int) < 6) = true := decide_eq_true h6
     clear hc
     go_enter Try.func9, Try.ntmps9
     go_wp2_with fail
     rw [← hW0] at BR0 HB0
     go_upto_region 1 with fail
     rw [← hW0]
     obtain ⟨r0, r1, r2⟩ := BR0.out.q3
     obtain ⟨z0, z1, z2⟩ := BR0.out.z3
     have lr := BR0.out.lt
     go_wp2
     refine bodyPost_ret (v := .tuple #[frV 0 0 none 0 0, .bool false]) (by simp [results, Try.results9, go_sem, *]) rfl ?_
     rw [HP.out]
     exact ⟨none, 0, rfl, World.ownsRow_nil _ _ _ _, HB0.out⟩
   by_cases h27 : (27 : Int) < (s.size : Int)
   · have h6d : decide ((s.size : Int) < 6) = false := decide_eq_false h6
     have h27d : decide ((27 : Int) < (s.size : Int)) = true := decide_eq_true h27
     clear hc
     go_enter Try.func9, Try.ntmps9
     go_wp2_with fail
     rw [← hW0] at BR0 HB0
     go_upto_region 1 with fail
     rw [← hW0]
     obtain ⟨r0, r1, r2⟩ := BR0.out.q3
     obtain ⟨z0, z1, z2⟩ := BR0.out.z3
     have lr := BR0.out.lt
     go_wp2
     refine bodyPost_ret (v := .tuple #[frV 0 0 none 0 0, .bool false]) (by simp [results, Try.results9, go_sem, *]) rfl ?_
     rw [HP.out]
     exact ⟨none, 0, rfl, World.ownsRow_nil _ _ _ _, HB0.out⟩
   · have h6d : decide ((s.size : Int) < 6) = false := decide_eq_false h6
     have h27d : decide ((27 : Int) < (s.size : Int)) = false := decide_eq_false h27
     have h3 : ¬ (s.size : Int).tmod 3 = 0 := by rw [Int.tmod_eq_emod_of_nonneg (by omega)]; omega
     have h3b : ((s.size : Int) % 3 != 0) = true := by rw [bne_iff_ne]; omega
     clear hc
     go_enter Try.func9, Try.ntmps9
     go_wp2_with fail
     rw [← hW0] at BR0 HB0
     go_upto_region 1 with fail
     rw [← hW0]
     obtain ⟨r0, r1, r2⟩ := BR0.out.q3
     obtain ⟨z0, z1, z2⟩ := BR0.out.z3
     have lr := BR0.out.lt
     go_wp2
     refine bodyPost_ret (v := .tuple #[frV 0 0 none 0 0, .bool false]) (by simp [results, Try.results9, go_sem, *]) rfl ?_
     rw [HP.out]
     exact ⟨none, 0, rfl, World.ownsRow_nil _ _ _ _, HB0.out⟩
end Go.Proofs.Ytfmenkhfhibmeaa
