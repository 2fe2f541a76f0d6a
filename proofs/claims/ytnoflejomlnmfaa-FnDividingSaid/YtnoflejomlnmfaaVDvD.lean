/- QuotientOn: both. -/
import Derived.Test.YtnoflejomlnmfaaVM9
namespace Go.Proofs.Ytnoflejomlnmfaa
open Go.RowKit
set_option linter.unusedVariables false
set_option linter.unusedSimpArgs false
def qoB (u lo : Int) (l : List R2) (d : Int) : Bool := goodB u lo l && inB d 1 9999
def qoF (u lo : Int) (l : List R2) (d : Int) : Int × Int × List R2 := if qoB u lo l d = true then (u, lo, rodsD (digs l.length (numR l / d))) else (0, 0, [])
def qoR (u lo : Int) (l : List R2) (d : Int) : Int := if qoB u lo l d = true then numR l % d else 0
def RetQo (w : World) (F : Int × Int × List R2) (r : Int) (ok : Bool) (e : Ending) (w' : World) : Prop :=
 ∃ A c, e = .returned (.tuple #[frV F.1 F.2.1 A F.2.2.length c, .int .i64 r, .bool ok]) ∧ w'.ownsRow w.heap.size 99 2 (.slice A F.2.2.length c) F.2.2.length (rowsV2 F.2.2) ∧ Below w.heap.size w w'
def FrQ (S g : Nat) (R0 BFn : Nat) (u lo N d Q R : Int) (A : Option Addr) (n c : Nat) (m : List R2) (vs : Nat → Value) (wx : World) : Nat → Prop
 | 0 => vs 24 = frV u lo A n c
 | 1 => vs 25 = frV u lo A n c
 | 2 => vs 26 = .int .i64 N
 | 3 => vs 27 = .int .i64 d
 | 4 => vs 28 = .int .i64 Q
 | 5 => ∃ (A2 : Option Addr) (c2 : Nat), vs 29 = frV u lo A2 n c2 ∧ (wx.ownsRow S 99 2 (.slice A2 n c2) n (rowsV2 m))
 | 6 => vs 30 = frV u lo A n c
 | 7 => vs 31 = .int .i64 N
 | 8 => vs 32 = .int .i64 d
 | 9 => vs 33 = .int .i64 R
 | 10 => ∃ (A2 : Option Addr) (c2 : Nat), (wx.ownsRow S 99 2 (.slice A2 n c2) n (rowsV2 m)) ∧ (Blk wx R0 26 #[.int .i64 u, .int .i64 lo, .slice A2 n c2]) ∧ (S ≤ R0)
 | 11 => vs 5 = .int .i64 R
 | 12 => vs 6 = .bool true
 | _ => True
def FrQU : Nat → List Nat
 | 0 => [24]
 | 1 => [25]
 | 2 => [26]
 | 3 => [27]
 | 4 => [28]
 | 5 => [29]
 | 6 => [30]
 | 7 => [31]
 | 8 => [32]
 | 9 => [33]
 | 10 => []
 | 11 => [5]
 | 12 => [6]
 | _ => []
def FrQR (g : Nat) (R0 BFn : Nat) (u lo N d Q R : Int) (A : Option Addr) (n c : Nat) (m : List R2) (i : Nat) (wx wy : World) : Prop := if i = 10 then KeepW 26 wx wy else Below wx.heap.size wx wy
theorem FrQ_gr {S g : Nat} {R0 BFn : Nat} {u lo N d Q R : Int} {A : Option Addr} {n c : Nat} {m : List R2} (hgS : True) {vs us : Nat → Value} {wx wy : World} {jN : Nat} (hGG : FrQ S g R0 BFn u lo N d Q R A n c m vs wx jN) (haG : ∀ d ∈ FrQU jN, us d = vs d) (hbG : Below wx.heap.size wx wy) : FrQ S g R0 BFn u lo N d Q R A n c m us wy jN := by
 match jN, hGG, haG with
 | 0, hGG, haG =>
   exact (haG 24 (by simp [FrQU])).trans hGG
 | 1, hGG, haG =>
   exact (haG 25 (by simp [FrQU])).trans hGG
 | 2, hGG, haG =>
   exact (haG 26 (by simp [FrQU])).trans hGG
 | 3, hGG, haG =>
   exact (haG 27 (by simp [FrQU])).trans hGG
 | 4, hGG, haG =>
   exact (haG 28 (by simp [FrQU])).trans hGG
 | 5, hGG, haG =>
   obtain ⟨xG0, xG1, eG, fG0⟩ := hGG
   exact ⟨xG0, xG1, (haG 29 (by simp [FrQU])).trans eG, own_ext fG0 hbG⟩
 | 6, hGG, haG =>
   exact (haG 30 (by simp [FrQU])).trans hGG
 | 7, hGG, haG =>
   exact (haG 31 (by simp [FrQU])).trans hGG
 | 8, hGG, haG =>
   exact (haG 32 (by simp [FrQU])).trans hGG
 | 9, hGG, haG =>
   exact (haG 33 (by simp [FrQU])).trans hGG
 | 10, hGG, haG =>
   obtain ⟨xG0, xG1, fG0, fG1, fG2⟩ := hGG
   exact ⟨xG0, xG1, own_ext fG0 hbG, fG1.ext hbG, fG2⟩
 | 11, hGG, haG =>
   exact (haG 5 (by simp [FrQU])).trans hGG
 | 12, hGG, haG =>
   exact (haG 6 (by simp [FrQU])).trans hGG
 | jN + 13, _, _ => trivial
theorem FrQ_10 {S g : Nat} {R0 BFn : Nat} {u lo N d Q R : Int} {A : Option Addr} {n c : Nat} {m : List R2} (hgS : True) {vs us : Nat → Value} {wx wy : World} {jN : Nat} (hneG : jN ≠ 10) (hGG : FrQ S g R0 BFn u lo N d Q R A n c m vs wx jN) (haG : ∀ d ∈ FrQU jN, us d = vs d) (hbG : KeepW 26 wx wy) : FrQ S g R0 BFn u lo N d Q R A n c m us wy jN := by
 match jN, hGG, haG, hneG with
 | 0, hGG, haG, hneG =>
   exact (haG 24 (by simp [FrQU])).trans hGG
 | 1, hGG, haG, hneG =>
   exact (haG 25 (by simp [FrQU])).trans hGG
 | 2, hGG, haG, hneG =>
   exact (haG 26 (by simp [FrQU])).trans hGG
 | 3, hGG, haG, hneG =>
   exact (haG 27 (by simp [FrQU])).trans hGG
 | 4, hGG, haG, hneG =>
   exact (haG 28 (by simp [FrQU])).trans hGG
 | 5, hGG, haG, hneG =>
   obtain ⟨xG0, xG1, eG, fG0⟩ := hGG
   exact ⟨xG0, xG1, (haG 29 (by simp [FrQU])).trans eG, hbG.own fG0 (by decide)⟩
 | 6, hGG, haG, hneG =>
   exact (haG 30 (by simp [FrQU])).trans hGG
 | 7, hGG, haG, hneG =>
   exact (haG 31 (by simp [FrQU])).trans hGG
 | 8, hGG, haG, hneG =>
   exact (haG 32 (by simp [FrQU])).trans hGG
 | 9, hGG, haG, hneG =>
   exact (haG 33 (by simp [FrQU])).trans hGG
 | 10, hGG, haG, hneG =>
   exact absurd rfl hneG
 | 11, hGG, haG, hneG =>
   exact (haG 5 (by simp [FrQU])).trans hGG
 | 12, hGG, haG, hneG =>
   exact (haG 6 (by simp [FrQU])).trans hGG
 | jN + 13, _, _, _ => trivial
def FrQP (j i : Nat) : Bool := false
theorem FrQ_keep {S g : Nat} {R0 BFn : Nat} {u lo N d Q R : Int} {A : Option Addr} {n c : Nat} {m : List R2} (hgS : True) {vs us : Nat → Value} {wx wy : World} {iN jN : Nat} (hneG : iN ≠ jN) (hdpG : FrQP jN iN = false) (hGG : FrQ S g R0 BFn u lo N d Q R A n c m vs wx jN) (haG : ∀ d ∈ FrQU jN, us d = vs d) (hbG : FrQR g R0 BFn u lo N d Q R A n c m iN wx wy) : FrQ S g R0 BFn u lo N d Q R A n c m us wy jN := by
 unfold FrQR at hbG
 by_cases h10 : iN = 10
 · rw [if_pos h10] at hbG
   exact FrQ_10 hgS (by omega) hGG haG hbG
 rw [if_neg h10] at hbG
 exact FrQ_gr hgS hGG haG hbG
def FrW (S g : Nat) (R0 BFn : Nat) (u lo N d Q R : Int) (A : Option Addr) (n c : Nat) (m : List R2) (vs : Nat → Value) (wx : World) : Nat → Prop
 | 0 => vs 19 = .pointer (some ⟨BFn, 0, none⟩)
 | 1 => vs 20 = .int .i64 u
 | 2 => vs 21 = .pointer (some ⟨BFn, 1, none⟩)
 | 3 => vs 22 = .int .i64 lo
 | 4 => vs 23 = .pointer (some ⟨BFn, 2, none⟩)
 | 5 => vs 24 = .slice A n c
 | 6 => vs 25 = .int .i64 (n : Int)
 | 7 => vs 26 = .int .i64 N
 | 8 => vs 27 = .int .i64 d
 | 9 => vs 28 = .int .i64 Q
 | 10 => ∃ (A2 : Option Addr) (c2 : Nat), vs 29 = frV u lo A2 n c2 ∧ (wx.ownsRow S 99 2 (.slice A2 n c2) n (rowsV2 m))
 | 11 => vs 30 = .int .i64 N
 | 12 => vs 31 = .int .i64 d
 | 13 => vs 32 = .int .i64 R
 | 14 => ∃ (A2 : Option Addr) (c2 : Nat), (wx.ownsRow S 99 2 (.slice A2 n c2) n (rowsV2 m)) ∧ (Blk wx R0 26 #[.int .i64 u, .int .i64 lo, .slice A2 n c2]) ∧ (S ≤ R0)
 | 15 => vs 5 = .int .i64 R
 | 16 => vs 6 = .bool true
 | _ => True
def FrWU : Nat → List Nat
 | 0 => [19]
 | 1 => [20]
 | 2 => [21]
 | 3 => [22]
 | 4 => [23]
 | 5 => [24]
 | 6 => [25]
 | 7 => [26]
 | 8 => [27]
 | 9 => [28]
 | 10 => [29]
 | 11 => [30]
 | 12 => [31]
 | 13 => [32]
 | 14 => []
 | 15 => [5]
 | 16 => [6]
 | _ => []
def FrWR (g : Nat) (R0 BFn : Nat) (u lo N d Q R : Int) (A : Option Addr) (n c : Nat) (m : List R2) (i : Nat) (wx wy : World) : Prop := if i = 14 then KeepW 26 wx wy else Below wx.heap.size wx wy
theorem FrW_gr {S g : Nat} {R0 BFn : Nat} {u lo N d Q R : Int} {A : Option Addr} {n c : Nat} {m : List R2} (hgS : True) {vs us : Nat → Value} {wx wy : World} {jN : Nat} (hGG : FrW S g R0 BFn u lo N d Q R A n c m vs wx jN) (haG : ∀ d ∈ FrWU jN, us d = vs d) (hbG : Below wx.heap.size wx wy) : FrW S g R0 BFn u lo N d Q R A n c m us wy jN := by
 match jN, hGG, haG with
 | 0, hGG, haG =>
   exact (haG 19 (by simp [FrWU])).trans hGG
 | 1, hGG, haG =>
   exact (haG 20 (by simp [FrWU])).trans hGG
 | 2, hGG, haG =>
   exact (haG 21 (by simp [FrWU])).trans hGG
 | 3, hGG, haG =>
   exact (haG 22 (by simp [FrWU])).trans hGG
 | 4, hGG, haG =>
   exact (haG 23 (by simp [FrWU])).trans hGG
 | 5, hGG, haG =>
   exact (haG 24 (by simp [FrWU])).trans hGG
 | 6, hGG, haG =>
   exact (haG 25 (by simp [FrWU])).trans hGG
 | 7, hGG, haG =>
   exact (haG 26 (by simp [FrWU])).trans hGG
 | 8, hGG, haG =>
   exact (haG 27 (by simp [FrWU])).trans hGG
 | 9, hGG, haG =>
   exact (haG 28 (by simp [FrWU])).trans hGG
 | 10, hGG, haG =>
   obtain ⟨xG0, xG1, eG, fG0⟩ := hGG
   exact ⟨xG0, xG1, (haG 29 (by simp [FrWU])).trans eG, own_ext fG0 hbG⟩
 | 11, hGG, haG =>
   exact (haG 30 (by simp [FrWU])).trans hGG
 | 12, hGG, haG =>
   exact (haG 31 (by simp [FrWU])).trans hGG
 | 13, hGG, haG =>
   exact (haG 32 (by simp [FrWU])).trans hGG
 | 14, hGG, haG =>
   obtain ⟨xG0, xG1, fG0, fG1, fG2⟩ := hGG
   exact ⟨xG0, xG1, own_ext fG0 hbG, fG1.ext hbG, fG2⟩
 | 15, hGG, haG =>
   exact (haG 5 (by simp [FrWU])).trans hGG
 | 16, hGG, haG =>
   exact (haG 6 (by simp [FrWU])).trans hGG
 | jN + 17, _, _ => trivial
theorem FrW_14 {S g : Nat} {R0 BFn : Nat} {u lo N d Q R : Int} {A : Option Addr} {n c : Nat} {m : List R2} (hgS : True) {vs us : Nat → Value} {wx wy : World} {jN : Nat} (hneG : jN ≠ 14) (hGG : FrW S g R0 BFn u lo N d Q R A n c m vs wx jN) (haG : ∀ d ∈ FrWU jN, us d = vs d) (hbG : KeepW 26 wx wy) : FrW S g R0 BFn u lo N d Q R A n c m us wy jN := by
 match jN, hGG, haG, hneG with
 | 0, hGG, haG, hneG =>
   exact (haG 19 (by simp [FrWU])).trans hGG
 | 1, hGG, haG, hneG =>
   exact (haG 20 (by simp [FrWU])).trans hGG
 | 2, hGG, haG, hneG =>
   exact (haG 21 (by simp [FrWU])).trans hGG
 | 3, hGG, haG, hneG =>
   exact (haG 22 (by simp [FrWU])).trans hGG
 | 4, hGG, haG, hneG =>
   exact (haG 23 (by simp [FrWU])).trans hGG
 | 5, hGG, haG, hneG =>
   exact (haG 24 (by simp [FrWU])).trans hGG
 | 6, hGG, haG, hneG =>
   exact (haG 25 (by simp [FrWU])).trans hGG
 | 7, hGG, haG, hneG =>
   exact (haG 26 (by simp [FrWU])).trans hGG
 | 8, hGG, haG, hneG =>
   exact (haG 27 (by simp [FrWU])).trans hGG
 | 9, hGG, haG, hneG =>
   exact (haG 28 (by simp [FrWU])).trans hGG
 | 10, hGG, haG, hneG =>
   obtain ⟨xG0, xG1, eG, fG0⟩ := hGG
   exact ⟨xG0, xG1, (haG 29 (by simp [FrWU])).trans eG, hbG.own fG0 (by decide)⟩
 | 11, hGG, haG, hneG =>
   exact (haG 30 (by simp [FrWU])).trans hGG
 | 12, hGG, haG, hneG =>
   exact (haG 31 (by simp [FrWU])).trans hGG
 | 13, hGG, haG, hneG =>
   exact (haG 32 (by simp [FrWU])).trans hGG
 | 14, hGG, haG, hneG =>
   exact absurd rfl hneG
 | 15, hGG, haG, hneG =>
   exact (haG 5 (by simp [FrWU])).trans hGG
 | 16, hGG, haG, hneG =>
   exact (haG 6 (by simp [FrWU])).trans hGG
 | jN + 17, _, _, _ => trivial
def FrWP (j i : Nat) : Bool := false
theorem FrW_keep {S g : Nat} {R0 BFn : Nat} {u lo N d Q R : Int} {A : Option Addr} {n c : Nat} {m : List R2} (hgS : True) {vs us : Nat → Value} {wx wy : World} {iN jN : Nat} (hneG : iN ≠ jN) (hdpG : FrWP jN iN = false) (hGG : FrW S g R0 BFn u lo N d Q R A n c m vs wx jN) (haG : ∀ d ∈ FrWU jN, us d = vs d) (hbG : FrWR g R0 BFn u lo N d Q R A n c m iN wx wy) : FrW S g R0 BFn u lo N d Q R A n c m us wy jN := by
 unfold FrWR at hbG
 by_cases h14 : iN = 14
 · rw [if_pos h14] at hbG
   exact FrW_14 hgS (by omega) hGG haG hbG
 rw [if_neg h14] at hbG
 exact FrW_gr hgS hGG haG hbG
set_option maxRecDepth 100000 in
set_option maxHeartbeats 8000000 in
theorem implQuotientOn_any (u lo : Int) (A : Option Addr) (n c : Nat) (l : List R2) (d : Int) (w : World) (hn : n ≤ 1048576) (h : Reads w w.heap.size 2 A n (rowsV2 l)) :
 Calls Try.prog 33 #[frV u lo A n c, .int .i64 d] w (RetQo w (qoF u lo l d) (qoR u lo l d) (qoB u lo l d)) := by
 have hl := rows_len2 h
 have H := Lib.hid h
 have BF0 := Lib.hid ((Blk.born w #[.int .i64 u, .int .i64 lo, .slice A n c] 26 (H := w.heap.size) rfl).al (.cells #[.int .i64 0, .int .i64 0, .slice none 0 0] 26))
 have BR0 := Lib.hid (Blk.born (w.alloc (.cells #[.int .i64 u, .int .i64 lo, .slice A n c] 26)) #[.int .i64 0, .int .i64 0, .slice none 0 0] 26 (H := w.heap.size + 1) (by simp))
 have HB0 := Lib.hid (ext_alloc (ext_alloc (ext_refl w) (.cells #[.int .i64 u, .int .i64 lo, .slice A n c] 26)) (.cells #[.int .i64 0, .int .i64 0, .slice none 0 0] 26))
 unfold RetQo
 cases hgd : goodB u lo l
 · have hB : qoB u lo l d = false := by unfold qoB; rw [hgd]; rfl
   rw [show qoF u lo l d = (0, 0, []) by unfold qoF; rw [if_neg (by rw [hB]; simp)], show qoR u lo l d = 0 by unfold qoR; rw [if_neg (by rw [hB]; simp)], hB]
   have HGD := Lib.hid hgd
   clear h hl hgd hB
   go_enter Try.func33, Try.ntmps33
   go_wp2_with fail
   refine (begin_no u lo A n c l _ hn (rdx H.out HB0.out) HGD.out).mono ?_
   rintro e w1 ⟨rfl, hb⟩
   have BR1 := Lib.hid (BR0.out.ext hb)
   have BF1 := Lib.hid (BF0.out.ext hb)
   have HB1 := Lib.hid (ext_trans HB0.out hb)
   clear hb BR0 BF0 HB0
   obtain ⟨a0, a1, a2⟩ := BF1.out.q3
   have la := BF1.out.lt
   obtain ⟨r0, r1, r2⟩ := BR1.out.q3
   obtain ⟨z0, z1, z2⟩ := BR1.out.z3
   have lr := BR1.out.lt
   go_wp2
   refine bodyPost_ret (v := .tuple #[frV 0 0 none 0 0, .int .i64 0, .bool false]) (by simp [results, Try.results33, go_sem, *]) rfl ?_
   exact ⟨none, 0, rfl, World.ownsRow_nil _ _ _ _, fill_below HB1.out (Nat.le_succ _)⟩
 obtain ⟨db, hdb⟩ : ∃ db, inB d 1 9999 = db := ⟨_, rfl⟩
 have hfr := good_fr hgd
 have hn1 := (frB_head hfr).2.2.1
 have hn8 := (frB_head hfr).2.2.2
 rw [hl] at hn1 hn8
 have hnb := numD_bounds (dsOf_WF hfr (good_std hgd))
 rw [dsOf_len, hl] at hnb
 have hp8 := pw_lt hn8
 have HNU := Lib.hid (fun w h => number_any u lo A n c l w (good_fr hgd) h)
 have hnb : 0 ≤ numR l ∧ numR l < pw n := hnb
 obtain ⟨N, hN⟩ : ∃ N, numR l = N := ⟨_, rfl⟩
 rw [hN] at HNU hnb
 have hN0 := hnb.1
 have HDV := Lib.hid (fun w => isDvn_b N d db w (by unfold dvB; rw [inB_iff.2 ⟨hN0, by omega⟩, hdb]; rfl))
 have HGD := Lib.hid hgd
 cases db
 · have hB : qoB u lo l d = false := by unfold qoB; rw [hgd, hdb]; rfl
   rw [show qoF u lo l d = (0, 0, []) by unfold qoF; rw [if_neg (by rw [hB]; simp)], show qoR u lo l d = 0 by unfold qoR; rw [if_neg (by rw [hB]; simp)], hB]
   clear h hl hgd hB hdb hfr hnb hN
   go_enter Try.func33, Try.ntmps33
   go_wp2_with fail
   refine (begin_yes u lo A n c l _ hn (rdx H.out HB0.out) HGD.out).mono ?_
   rintro e w1 ⟨g9, rfl, _, hb⟩
   have BR1 := Lib.hid (BR0.out.ext hb)
   have BF1 := Lib.hid (BF0.out.ext hb)
   have HB1 := Lib.hid (ext_trans HB0.out hb)
   clear hb BR0 BF0 HB0
   obtain ⟨a0, a1, a2⟩ := BF1.out.q3
   have la := BF1.out.lt
   obtain ⟨r0, r1, r2⟩ := BR1.out.q3
   obtain ⟨z0, z1, z2⟩ := BR1.out.z3
   have lr := BR1.out.lt
   go_wp2_with fail
   refine (HNU.out _ (rdx H.out HB1.out)).mono ?_
   rintro e w2 ⟨rfl, hb⟩
   have BR2 := Lib.hid (BR1.out.ext hb)
   have BF2 := Lib.hid (BF1.out.ext hb)
   have HB2 := Lib.hid (ext_trans HB1.out hb)
   clear hb BR1 BF1 HB1 a0 a1 a2 la r0 r1 r2 z0 z1 z2 lr
   obtain ⟨a0, a1, a2⟩ := BF2.out.q3
   have la := BF2.out.lt
   obtain ⟨r0, r1, r2⟩ := BR2.out.q3
   obtain ⟨z0, z1, z2⟩ := BR2.out.z3
   have lr := BR2.out.lt
   go_wp2_with fail
   refine (HDV.out _).mono ?_
   rintro e w3 ⟨rfl, hb⟩
   have BR3 := Lib.hid (BR2.out.ext hb)
   have BF3 := Lib.hid (BF2.out.ext hb)
   have HB3 := Lib.hid (ext_trans HB2.out hb)
   clear hb BR2 BF2 HB2 a0 a1 a2 la r0 r1 r2 z0 z1 z2 lr
   obtain ⟨a0, a1, a2⟩ := BF3.out.q3
   have la := BF3.out.lt
   obtain ⟨r0, r1, r2⟩ := BR3.out.q3
   obtain ⟨z0, z1, z2⟩ := BR3.out.z3
   have lr := BR3.out.lt
   go_wp2
   refine bodyPost_ret (v := .tuple #[frV 0 0 none 0 0, .int .i64 0, .bool false]) (by simp [results, Try.results33, go_sem, *]) rfl ?_
   exact ⟨none, 0, rfl, World.ownsRow_nil _ _ _ _, fill_below HB3.out (Nat.le_succ _)⟩
 · have hB : qoB u lo l d = true := by unfold qoB; rw [hgd, hdb]; rfl
   have hd := inB_iff.1 hdb
   obtain ⟨Q, hQ⟩ : ∃ Q, N / d = Q := ⟨_, rfl⟩
   obtain ⟨R, hR⟩ : ∃ R, N % d = R := ⟨_, rfl⟩
   have hQ0 : 0 ≤ Q := by rw [← hQ]; exact Int.ediv_nonneg hN0 (by omega)
   have hQ1 : Q ≤ N := by rw [← hQ]; exact Int.ediv_le_self _ hN0
   obtain ⟨m, hm⟩ : ∃ m, rodsD (digs n Q) = m := ⟨_, rfl⟩
   have HML := Lib.hid (show m.length = n by rw [← hm, rodsD_len]; simp [digs])
   have HSH := Lib.hid (fun w h => showing_any u lo A n c l Q w hn1 hn8 hQ0 (by omega) h)
   rw [hm] at HSH
   unfold RetSh at HSH
   rw [show qoF u lo l d = (u, lo, m) by unfold qoF; rw [if_pos hB, hl, hN, hQ, hm], show qoR u lo l d = R by unfold qoR; rw [if_pos hB, hN, hR], hB]
   dsimp only
   have HQ := Lib.hid (show N / d = Q ∧ N % d = R ∧ (0 ≤ Q ∧ Q ≤ 100000000) from ⟨hQ, hR, hQ0, by omega⟩)
   have hd0 : d ≠ 0 := by omega
   clear h hl hgd hB hdb hfr hnb hN hQ hR hm
   go_enter Try.func33, Try.ntmps33
   go_wp2_with fail
   refine (begin_yes u lo A n c l _ hn (rdx H.out HB0.out) HGD.out).mono ?_
   rintro e w1 ⟨g9, rfl, _, hb⟩
   have BR1 := Lib.hid (BR0.out.ext hb)
   have BF1 := Lib.hid (BF0.out.ext hb)
   have HB1 := Lib.hid (ext_trans HB0.out hb)
   clear hb BR0 BF0 HB0
   obtain ⟨a0, a1, a2⟩ := BF1.out.q3
   have la := BF1.out.lt
   obtain ⟨r0, r1, r2⟩ := BR1.out.q3
   obtain ⟨z0, z1, z2⟩ := BR1.out.z3
   have lr := BR1.out.lt
   go_wp2_with fail
   refine (HNU.out _ (rdx H.out HB1.out)).mono ?_
   rintro e w2 ⟨rfl, hb⟩
   have BR2 := Lib.hid (BR1.out.ext hb)
   have BF2 := Lib.hid (BF1.out.ext hb)
   have HB2 := Lib.hid (ext_trans HB1.out hb)
   clear hb BR1 BF1 HB1 a0 a1 a2 la r0 r1 r2 z0 z1 z2 lr
   obtain ⟨a0, a1, a2⟩ := BF2.out.q3
   have la := BF2.out.lt
   obtain ⟨r0, r1, r2⟩ := BR2.out.q3
   obtain ⟨z0, z1, z2⟩ := BR2.out.z3
   have lr := BR2.out.lt
   go_wp2_with fail
   refine (HDV.out _).mono ?_
   rintro e w3 ⟨rfl, hb⟩
   have BR3 := Lib.hid (BR2.out.ext hb)
   have BF3 := Lib.hid (BF2.out.ext hb)
   have HB3 := Lib.hid (ext_trans HB2.out hb)
   clear hb BR2 BF2 HB2 a0 a1 a2 la r0 r1 r2 z0 z1 z2 lr
   obtain ⟨a0, a1, a2⟩ := BF3.out.q3
   have la := BF3.out.lt
   obtain ⟨r0, r1, r2⟩ := BR3.out.q3
   obtain ⟨z0, z1, z2⟩ := BR3.out.z3
   have lr := BR3.out.lt
   obtain ⟨W1, hW1⟩ : ∃ y : World, y = w3 := ⟨_, rfl⟩
   subst hW1
   have HG1 := HB3
   have BR1 := BR3
   have BF1 := BF3
   have hwR : w.heap.size ≤ w.heap.size + 1 := Nat.le_succ _
   clear HB3 BR3 BF3 a0 a1 a2 la r0 r1 r2 z0 z1 z2 lr
   go_upto_region 4 with fail
   refine wp_region_m (by kernel_rfl) (by kernel_rfl) [5, 6, 24, 25, 26, 27, 28, 29, 30, 31, 32, 33] FrQU (by kernel_rfl) (by decide) 34 (by kernel_rfl) (by simp) (fun ra0 => ra0.eval (.tmp 1) = .int .i64 d ∧ ra0.eval (.tmp 2) = .pointer (some ⟨w.heap.size, 0, none⟩) ∧ ra0.eval (.tmp 4) = .pointer (some ⟨(w.heap.size + 1), 0, none⟩)) ⟨by kernel_rfl, by kernel_rfl, by kernel_rfl⟩ FrQP (by kernel_rfl) (IExt w W1 10 10 (fun wx => Blk wx (w.heap.size + 1) 26 #[.int .i64 0, .int .i64 0, .slice none 0 0])) (FrQR 0 (w.heap.size + 1) w.heap.size u lo N d Q R A n c m) (fun jN vs wx => FrQ w.heap.size 0 (w.heap.size + 1) w.heap.size u lo N d Q R A n c m vs wx jN) ⟨(HG1.out).drew, Nat.le_refl _, fun _ => (ext_refl _).drew, fun _ => BR1.out⟩ (fun _ _ _ _ _ _ h0 hd h1 h2 h3 => FrQ_keep trivial h0 hd h1 h2 h3) ?_ ?_
   · intro ra0 hE ri ro ho Qx vs wx rb KX kk rL hI hkk hnl hLt hcl hdep rb0 rbk HK
     repeat (rename_i hz9; clear hz9)
     obtain ⟨rq1, rq2, rq4⟩ := hE
     have hi : ri < 13 := by
      rcases Nat.lt_or_ge ri 13 with h | h
      · exact h
      · rw [Array.getElem?_eq_none (by simpa using h)] at ho; cases ho
     have hkk : kk < 13 := by simpa using hkk
     obtain ⟨hGw, hsz, hpre, hBx⟩ := hI
     have HQ : ∀ w', Below wx.heap.size wx w' → IExt w W1 10 10 (fun wx => Blk wx (w.heap.size + 1) 26 #[.int .i64 0, .int .i64 0, .slice none 0 0]) (kk + 1) (fun j => j = ri ∨ rL j) w' := fun w' h3 => ⟨ext_trans hGw h3, Nat.le_trans hsz h3.size, fun hn => ext_trans (hpre (fun x => hn (.inr x))) h3, fun hn => (fun hB => hB.ext h3) (hBx (fun x => hn (.inr x)))⟩
     have HQX := Lib.hid HQ
     have HGW := Lib.hid hGw
     have HPRE := Lib.hid hpre
     have HBX := Lib.hid hBx
     have HCL := Lib.hid hcl
     clear HQ hGw hpre hBx hcl
     rcases (show ri = 0 ∨ ri = 1 ∨ ri = 2 ∨ ri = 3 ∨ ri = 4 ∨ ri = 5 ∨ ri = 6 ∨ ri = 7 ∨ ri = 8 ∨ ri = 9 ∨ ri = 10 ∨ ri = 11 ∨ ri = 12 by omega) with rfl | rfl | rfl | rfl | rfl | rfl | rfl | rfl | rfl | rfl | rfl | rfl | rfl
     · simp only [List.getElem?_toArray, List.getElem?_cons_succ, List.getElem?_cons_zero, Option.some.injEq] at ho
       subst ho
       have HKX := Lib.hid HK
       clear HK
       have p2 := (rb0 2 (by decide)).trans rq2
       have hNL : ¬ rL 10 := fun h => hnl (HCL.out 5 _ 0 rfl (HCL.out 10 _ 5 rfl h (by kernel_rfl)) (by kernel_rfl))
       have HGP := Lib.hid (HPRE.out hNL)
       obtain ⟨x0, x1, x2⟩ := (BF1.out.ext HGP.out).q3
       have lnx := (BF1.out.ext HGP.out).lt
       clear rb0 rbk hdep
       go_simp
       exact HKX.out _ _ (HQX.out _ (ext_refl _)) (by unfold FrQR; rw [if_neg (by decide)]; exact ext_refl _) (upd_same _ _ _)
     · simp only [List.getElem?_toArray, List.getElem?_cons_succ, List.getElem?_cons_zero, Option.some.injEq] at ho
       subst ho
       have HKX := Lib.hid HK
       clear HK
       have p2 := (rb0 2 (by decide)).trans rq2
       have hNL : ¬ rL 10 := fun h => hnl (HCL.out 2 _ 1 rfl (HCL.out 4 _ 2 rfl (HCL.out 5 _ 4 rfl (HCL.out 10 _ 5 rfl h (by kernel_rfl)) (by kernel_rfl)) (by kernel_rfl)) (by kernel_rfl))
       have HGP := Lib.hid (HPRE.out hNL)
       obtain ⟨x0, x1, x2⟩ := (BF1.out.ext HGP.out).q3
       have lnx := (BF1.out.ext HGP.out).lt
       clear rb0 rbk hdep
       go_simp
       exact HKX.out _ _ (HQX.out _ (ext_refl _)) (by unfold FrQR; rw [if_neg (by decide)]; exact ext_refl _) (upd_same _ _ _)
     · simp only [List.getElem?_toArray, List.getElem?_cons_succ, List.getElem?_cons_zero, Option.some.injEq] at ho
       subst ho
       have HKX := Lib.hid HK
       clear HK
       have e1 : vs 25 = frV u lo A n c := (hdep 1 (by kernel_rfl)).2
       have rr1 := (rbk 25 (by decide)).trans e1
       have E1 := Lib.hid e1
       clear e1
       have hNL : ¬ rL 10 := fun h => hnl (HCL.out 4 _ 2 rfl (HCL.out 5 _ 4 rfl (HCL.out 10 _ 5 rfl h (by kernel_rfl)) (by kernel_rfl)) (by kernel_rfl))
       have HGP := Lib.hid (HPRE.out hNL)
       obtain ⟨x0, x1, x2⟩ := (BF1.out.ext HGP.out).q3
       have lnx := (BF1.out.ext HGP.out).lt
       clear rb0 rbk hdep
       go_simp
       refine (HNU.out _ (rdx H.out (ext_trans HG1.out HGP.out))).mono ?_
       rintro e w' ⟨rfl, hb⟩
       go_simp
       exact HKX.out _ _ (HQX.out _ hb) (by unfold FrQR; rw [if_neg (by decide)]; exact hb) (upd_same _ _ _)
     · simp only [List.getElem?_toArray, List.getElem?_cons_succ, List.getElem?_cons_zero, Option.some.injEq] at ho
       subst ho
       have HKX := Lib.hid HK
       clear HK
       have p1 := (rb0 1 (by decide)).trans rq1
       clear rb0 rbk hdep
       go_simp
       exact HKX.out _ _ (HQX.out _ (ext_refl _)) (by unfold FrQR; rw [if_neg (by decide)]; exact ext_refl _) (upd_same _ _ _)
     · simp only [List.getElem?_toArray, List.getElem?_cons_succ, List.getElem?_cons_zero, Option.some.injEq] at ho
       subst ho
       have HKX := Lib.hid HK
       clear HK
       have e2 : vs 26 = .int .i64 N := (hdep 2 (by kernel_rfl)).2
       have rr2 := (rbk 26 (by decide)).trans e2
       have E2 := Lib.hid e2
       clear e2
       have e3 : vs 27 = .int .i64 d := (hdep 3 (by kernel_rfl)).2
       have rr3 := (rbk 27 (by decide)).trans e3
       have E3 := Lib.hid e3
       clear e3
       clear rb0 rbk hdep
       go_simp
       rw [show IntKind.i64.wrap (N.tdiv d) = Q from by rw [Int.tdiv_eq_ediv_of_nonneg hN0, HQ.out.1, IntKind.wrap_i64]; have h9 := HQ.out.2.2; omega]
       go_simp
       exact HKX.out _ _ (HQX.out _ (ext_refl _)) (by unfold FrQR; rw [if_neg (by decide)]; exact ext_refl _) (upd_same _ _ _)
     · simp only [List.getElem?_toArray, List.getElem?_cons_succ, List.getElem?_cons_zero, Option.some.injEq] at ho
       subst ho
       have HKX := Lib.hid HK
       clear HK
       have e0 : vs 24 = frV u lo A n c := (hdep 0 (by kernel_rfl)).2
       have rr0 := (rbk 24 (by decide)).trans e0
       have E0 := Lib.hid e0
       clear e0
       have e4 : vs 28 = .int .i64 Q := (hdep 4 (by kernel_rfl)).2
       have rr4 := (rbk 28 (by decide)).trans e4
       have E4 := Lib.hid e4
       clear e4
       have hNL : ¬ rL 10 := fun h => hnl (HCL.out 10 _ 5 rfl h (by kernel_rfl))
       have HGP := Lib.hid (HPRE.out hNL)
       obtain ⟨x0, x1, x2⟩ := (BF1.out.ext HGP.out).q3
       have lnx := (BF1.out.ext HGP.out).lt
       clear rb0 rbk hdep
       go_simp
       refine (HSH.out _ (rdx H.out (ext_trans HG1.out HGP.out))).mono ?_
       rintro e w' ⟨A2, c2, rfl, hr5, hb⟩
       have hsx := HGW.out.size
       go_simp
       exact HKX.out _ _ (HQX.out _ hb) (by unfold FrQR; rw [if_neg (by decide)]; exact hb) (⟨A2, c2, upd_same _ _ _, own_base hr5 hsx⟩)
     · simp only [List.getElem?_toArray, List.getElem?_cons_succ, List.getElem?_cons_zero, Option.some.injEq] at ho
       subst ho
       have HKX := Lib.hid HK
       clear HK
       have p2 := (rb0 2 (by decide)).trans rq2
       have hNL : ¬ rL 10 := fun h => hnl (HCL.out 7 _ 6 rfl (HCL.out 10 _ 7 rfl h (by kernel_rfl)) (by kernel_rfl))
       have HGP := Lib.hid (HPRE.out hNL)
       obtain ⟨x0, x1, x2⟩ := (BF1.out.ext HGP.out).q3
       have lnx := (BF1.out.ext HGP.out).lt
       clear rb0 rbk hdep
       go_simp
       exact HKX.out _ _ (HQX.out _ (ext_refl _)) (by unfold FrQR; rw [if_neg (by decide)]; exact ext_refl _) (upd_same _ _ _)
     · simp only [List.getElem?_toArray, List.getElem?_cons_succ, List.getElem?_cons_zero, Option.some.injEq] at ho
       subst ho
       have HKX := Lib.hid HK
       clear HK
       have e6 : vs 30 = frV u lo A n c := (hdep 6 (by kernel_rfl)).2
       have rr6 := (rbk 30 (by decide)).trans e6
       have E6 := Lib.hid e6
       clear e6
       obtain ⟨A2, c2, e5, k5_0⟩ := (hdep 5 (by kernel_rfl)).2
       have rr5 := (rbk 29 (by decide)).trans e5
       have E5 := Lib.hid e5
       clear e5
       have K5_0 := Lib.hid k5_0
       clear k5_0
       have hNL : ¬ rL 10 := fun h => hnl (HCL.out 10 _ 7 rfl h (by kernel_rfl))
       have HGP := Lib.hid (HPRE.out hNL)
       obtain ⟨x0, x1, x2⟩ := (BF1.out.ext HGP.out).q3
       have lnx := (BF1.out.ext HGP.out).lt
       clear rb0 rbk hdep
       go_simp
       refine (HNU.out _ (rdx H.out (ext_trans HG1.out HGP.out))).mono ?_
       rintro e w' ⟨rfl, hb⟩
       go_simp
       exact HKX.out _ _ (HQX.out _ hb) (by unfold FrQR; rw [if_neg (by decide)]; exact hb) (upd_same _ _ _)
     · simp only [List.getElem?_toArray, List.getElem?_cons_succ, List.getElem?_cons_zero, Option.some.injEq] at ho
       subst ho
       have HKX := Lib.hid HK
       clear HK
       have p1 := (rb0 1 (by decide)).trans rq1
       clear rb0 rbk hdep
       go_simp
       exact HKX.out _ _ (HQX.out _ (ext_refl _)) (by unfold FrQR; rw [if_neg (by decide)]; exact ext_refl _) (upd_same _ _ _)
     · simp only [List.getElem?_toArray, List.getElem?_cons_succ, List.getElem?_cons_zero, Option.some.injEq] at ho
       subst ho
       have HKX := Lib.hid HK
       clear HK
       have e7 : vs 31 = .int .i64 N := (hdep 7 (by kernel_rfl)).2
       have rr7 := (rbk 31 (by decide)).trans e7
       have E7 := Lib.hid e7
       clear e7
       have e8 : vs 32 = .int .i64 d := (hdep 8 (by kernel_rfl)).2
       have rr8 := (rbk 32 (by decide)).trans e8
       have E8 := Lib.hid e8
       clear e8
       clear rb0 rbk hdep
       go_simp
       rw [show N.tmod d = R from by rw [Int.tmod_eq_emod_of_nonneg hN0, HQ.out.2.1]]
       go_simp
       exact HKX.out _ _ (HQX.out _ (ext_refl _)) (by unfold FrQR; rw [if_neg (by decide)]; exact ext_refl _) (upd_same _ _ _)
     · simp only [List.getElem?_toArray, List.getElem?_cons_succ, List.getElem?_cons_zero, Option.some.injEq] at ho
       subst ho
       have HKX := Lib.hid HK
       clear HK
       obtain ⟨A2, c2, e5, k5_0⟩ := (hdep 5 (by kernel_rfl)).2
       have rr5 := (rbk 29 (by decide)).trans e5
       have E5 := Lib.hid e5
       clear e5
       have K5_0 := Lib.hid k5_0
       clear k5_0
       have e7 : vs 31 = .int .i64 N := (hdep 7 (by kernel_rfl)).2
       have rr7 := (rbk 31 (by decide)).trans e7
       have E7 := Lib.hid e7
       clear e7
       have p4 := (rb0 4 (by decide)).trans rq4
       have hNL : ¬ rL 10 := hnl
       have HGP := Lib.hid (HPRE.out hNL)
       obtain ⟨x0, x1, x2⟩ := (BF1.out.ext HGP.out).q3
       have lnx := (BF1.out.ext HGP.out).lt
       have HBF := Lib.hid (HBX.out hnl)
       clear x0 x1 x2 lnx
       obtain ⟨yB0, yB1, yB2⟩ := HBF.out.q3
       obtain ⟨zB0, zB1, zB2⟩ := HBF.out.z3
       have hlr := HBF.out.lt
       clear rb0 rbk hdep
       go_simp
       have HKW := Lib.hid (keep3 (a0 := .int .i64 u) (a1 := .int .i64 lo) (a2 := .slice A2 n c2) HBF.out)
       exact HKX.out undef _ ⟨fill_below HGW.out hwR, by simpa using hsz, fun hn => (hn (.inl rfl)).elim, fun hn => (hn (.inl rfl)).elim⟩ (by unfold FrQR; rw [if_pos rfl]; exact HKW.out) ⟨A2, c2, fill_own' K5_0.out (own_nbT K5_0.out HBF.out (by decide)), fr_put HBF.out, hwR⟩
     · simp only [List.getElem?_toArray, List.getElem?_cons_succ, List.getElem?_cons_zero, Option.some.injEq] at ho
       subst ho
       have HKX := Lib.hid HK
       clear HK
       have e9 : vs 33 = .int .i64 R := (hdep 9 (by kernel_rfl)).2
       have rr9 := (rbk 33 (by decide)).trans e9
       have E9 := Lib.hid e9
       clear e9
       clear rb0 rbk hdep
       go_simp
       exact HKX.out _ _ (HQX.out _ (ext_refl _)) (by unfold FrQR; rw [if_neg (by decide)]; exact ext_refl _) (upd_same _ _ _)
     · simp only [List.getElem?_toArray, List.getElem?_cons_succ, List.getElem?_cons_zero, Option.some.injEq] at ho
       subst ho
       have HKX := Lib.hid HK
       clear HK
       clear rb0 rbk hdep
       go_simp
       exact HKX.out _ _ (HQX.out _ (ext_refl _)) (by unfold FrQR; rw [if_neg (by decide)]; exact ext_refl _) (upd_same _ _ _)
   intro vs wx kk rL hI hkk hLt hall
   obtain ⟨_, A2, c2, hr2, hB2, _⟩ := hall 10 (by decide)
   obtain ⟨_, ev1⟩ := hall 11 (by decide)
   obtain ⟨_, ev2⟩ := hall 12 (by decide)
   obtain ⟨hg2, _, _, _⟩ := hI
   have BR2 := Lib.hid hB2
   have HR2 := Lib.hid hr2
   have HB2 := Lib.hid hg2
   clear hLt hall hr2 hB2 hg2
   obtain ⟨r0, r1, r2⟩ := BR2.out.q3
   have lr := BR2.out.lt
   simp only [sl]
   rw [ev1, ev2]
   clear ev1 ev2
   simp only [Act.put, List.setIfInBounds_toArray, List.set_cons_succ, List.set_cons_zero]
   go_wp2
   refine bodyPost_ret (v := .tuple #[frV u lo A2 n c2, .int .i64 R, .bool true]) (by simp [results, Try.results33, go_sem, *]) rfl ?_
   exact ⟨A2, c2, by rw [HML.out], by rw [HML.out]; exact HR2.out, HB2.out⟩
set_option maxRecDepth 100000 in
set_option maxHeartbeats 8000000 in
theorem specQuotientOn_any (u lo : Int) (A : Option Addr) (n c : Nat) (l : List R2) (d : Int) (w : World) (hn : n ≤ 1048576) (h : Reads w w.heap.size 2 A n (rowsV2 l)) :
 Calls Try.prog 34 #[frV u lo A n c, .int .i64 d] w (RetQo w (qoF u lo l d) (qoR u lo l d) (qoB u lo l d)) := by
 have hl := rows_len2 h
 have H := Lib.hid h
 have BF0 := Lib.hid ((Blk.born w #[.int .i64 u, .int .i64 lo, .slice A n c] 26 (H := w.heap.size) rfl).al (.cells #[.int .i64 0, .int .i64 0, .slice none 0 0] 26))
 have BR0 := Lib.hid (Blk.born (w.alloc (.cells #[.int .i64 u, .int .i64 lo, .slice A n c] 26)) #[.int .i64 0, .int .i64 0, .slice none 0 0] 26 (H := w.heap.size + 1) (by simp))
 have HB0 := Lib.hid (ext_alloc (ext_alloc (ext_refl w) (.cells #[.int .i64 u, .int .i64 lo, .slice A n c] 26)) (.cells #[.int .i64 0, .int .i64 0, .slice none 0 0] 26))
 unfold RetQo
 cases hgd : goodB u lo l
 · have hB : qoB u lo l d = false := by unfold qoB; rw [hgd]; rfl
   rw [show qoF u lo l d = (0, 0, []) by unfold qoF; rw [if_neg (by rw [hB]; simp)], show qoR u lo l d = 0 by unfold qoR; rw [if_neg (by rw [hB]; simp)], hB]
   have HGD := Lib.hid (fun w h => l2Standard_b u lo A n c l w false hn h hgd)
   unfold RetV at HGD
   clear h hl hgd hB
   go_enter Try.func34, Try.ntmps34
   go_wp2_with fail
   refine (HGD.out _ (rdx H.out HB0.out)).mono ?_
   rintro e w1 ⟨rfl, hb⟩
   have BR1 := Lib.hid (BR0.out.ext hb)
   have BF1 := Lib.hid (BF0.out.ext hb)
   have HB1 := Lib.hid (ext_trans HB0.out hb)
   clear hb BR0 BF0 HB0
   obtain ⟨a0, a1, a2⟩ := BF1.out.q3
   have la := BF1.out.lt
   obtain ⟨r0, r1, r2⟩ := BR1.out.q3
   obtain ⟨z0, z1, z2⟩ := BR1.out.z3
   have lr := BR1.out.lt
   go_wp2
   refine bodyPost_ret (v := .tuple #[frV 0 0 none 0 0, .int .i64 0, .bool false]) (by simp [results, Try.results34, go_sem, *]) rfl ?_
   exact ⟨none, 0, rfl, World.ownsRow_nil _ _ _ _, fill_below HB1.out (Nat.le_succ _)⟩
 obtain ⟨db, hdb⟩ : ∃ db, inB d 1 9999 = db := ⟨_, rfl⟩
 have hfr := good_fr hgd
 have hn1 := (frB_head hfr).2.2.1
 have hn8 := (frB_head hfr).2.2.2
 rw [hl] at hn1 hn8
 have hnb := numD_bounds (dsOf_WF hfr (good_std hgd))
 rw [dsOf_len, hl] at hnb
 have hp8 := pw_lt hn8
 have HNU := Lib.hid (fun w h => l2Number_any u lo A n c l w (good_fr hgd) h)
 have hnb : 0 ≤ numR l ∧ numR l < pw n := hnb
 obtain ⟨N, hN⟩ : ∃ N, numR l = N := ⟨_, rfl⟩
 rw [hN] at HNU hnb
 have hN0 := hnb.1
 have HDV := Lib.hid (fun w => l1In_b d 1 9999 db w hdb)
 have HGD := Lib.hid (fun w h => l2Standard_b u lo A n c l w true hn h hgd)
 unfold RetV at HGD
 cases db
 · have hB : qoB u lo l d = false := by unfold qoB; rw [hgd, hdb]; rfl
   rw [show qoF u lo l d = (0, 0, []) by unfold qoF; rw [if_neg (by rw [hB]; simp)], show qoR u lo l d = 0 by unfold qoR; rw [if_neg (by rw [hB]; simp)], hB]
   clear h hl hgd hB hdb hfr hnb hN
   go_enter Try.func34, Try.ntmps34
   go_wp2_with fail
   refine (HGD.out _ (rdx H.out HB0.out)).mono ?_
   rintro e w1 ⟨rfl, hb⟩
   have BR1 := Lib.hid (BR0.out.ext hb)
   have BF1 := Lib.hid (BF0.out.ext hb)
   have HB1 := Lib.hid (ext_trans HB0.out hb)
   clear hb BR0 BF0 HB0
   obtain ⟨a0, a1, a2⟩ := BF1.out.q3
   have la := BF1.out.lt
   obtain ⟨r0, r1, r2⟩ := BR1.out.q3
   obtain ⟨z0, z1, z2⟩ := BR1.out.z3
   have lr := BR1.out.lt
   go_wp2_with fail
   refine (HDV.out _).mono ?_
   rintro e w2 ⟨rfl, hb⟩
   have BR2 := Lib.hid (BR1.out.ext hb)
   have BF2 := Lib.hid (BF1.out.ext hb)
   have HB2 := Lib.hid (ext_trans HB1.out hb)
   clear hb BR1 BF1 HB1 a0 a1 a2 la r0 r1 r2 z0 z1 z2 lr
   obtain ⟨a0, a1, a2⟩ := BF2.out.q3
   have la := BF2.out.lt
   obtain ⟨r0, r1, r2⟩ := BR2.out.q3
   obtain ⟨z0, z1, z2⟩ := BR2.out.z3
   have lr := BR2.out.lt
   go_wp2
   refine bodyPost_ret (v := .tuple #[frV 0 0 none 0 0, .int .i64 0, .bool false]) (by simp [results, Try.results34, go_sem, *]) rfl ?_
   exact ⟨none, 0, rfl, World.ownsRow_nil _ _ _ _, fill_below HB2.out (Nat.le_succ _)⟩
 · have hB : qoB u lo l d = true := by unfold qoB; rw [hgd, hdb]; rfl
   have hd := inB_iff.1 hdb
   obtain ⟨Q, hQ⟩ : ∃ Q, N / d = Q := ⟨_, rfl⟩
   obtain ⟨R, hR⟩ : ∃ R, N % d = R := ⟨_, rfl⟩
   have hQ0 : 0 ≤ Q := by rw [← hQ]; exact Int.ediv_nonneg hN0 (by omega)
   have hQ1 : Q ≤ N := by rw [← hQ]; exact Int.ediv_le_self _ hN0
   obtain ⟨m, hm⟩ : ∃ m, rodsD (digs n Q) = m := ⟨_, rfl⟩
   have HML := Lib.hid (show m.length = n by rw [← hm, rodsD_len]; simp [digs])
   have HSH := Lib.hid (fun w => l2For_any u lo n Q w hn8 hn1 hQ0 (by omega))
   rw [show forL n Q n = m by rw [← hm]; unfold forL rodsD digs; rw [List.map_map]; rfl] at HSH
   unfold RetFor at HSH
   rw [HML.out] at HSH
   rw [show qoF u lo l d = (u, lo, m) by unfold qoF; rw [if_pos hB, hl, hN, hQ, hm], show qoR u lo l d = R by unfold qoR; rw [if_pos hB, hN, hR], hB]
   dsimp only
   have HQ := Lib.hid (show N / d = Q ∧ N % d = R ∧ (0 ≤ Q ∧ Q ≤ 100000000) from ⟨hQ, hR, hQ0, by omega⟩)
   have hd0 : d ≠ 0 := by omega
   clear h hl hgd hB hdb hfr hnb hN hQ hR hm
   go_enter Try.func34, Try.ntmps34
   go_wp2_with fail
   refine (HGD.out _ (rdx H.out HB0.out)).mono ?_
   rintro e w1 ⟨rfl, hb⟩
   have BR1 := Lib.hid (BR0.out.ext hb)
   have BF1 := Lib.hid (BF0.out.ext hb)
   have HB1 := Lib.hid (ext_trans HB0.out hb)
   clear hb BR0 BF0 HB0
   obtain ⟨a0, a1, a2⟩ := BF1.out.q3
   have la := BF1.out.lt
   obtain ⟨r0, r1, r2⟩ := BR1.out.q3
   obtain ⟨z0, z1, z2⟩ := BR1.out.z3
   have lr := BR1.out.lt
   go_wp2_with fail
   refine (HDV.out _).mono ?_
   rintro e w2 ⟨rfl, hb⟩
   have BR2 := Lib.hid (BR1.out.ext hb)
   have BF2 := Lib.hid (BF1.out.ext hb)
   have HB2 := Lib.hid (ext_trans HB1.out hb)
   clear hb BR1 BF1 HB1 a0 a1 a2 la r0 r1 r2 z0 z1 z2 lr
   obtain ⟨a0, a1, a2⟩ := BF2.out.q3
   have la := BF2.out.lt
   obtain ⟨r0, r1, r2⟩ := BR2.out.q3
   obtain ⟨z0, z1, z2⟩ := BR2.out.z3
   have lr := BR2.out.lt
   go_wp2_with fail
   refine (HNU.out _ (rdx H.out HB2.out)).mono ?_
   rintro e w3 ⟨rfl, hb⟩
   have BR3 := Lib.hid (BR2.out.ext hb)
   have BF3 := Lib.hid (BF2.out.ext hb)
   have HB3 := Lib.hid (ext_trans HB2.out hb)
   clear hb BR2 BF2 HB2 a0 a1 a2 la r0 r1 r2 z0 z1 z2 lr
   obtain ⟨a0, a1, a2⟩ := BF3.out.q3
   have la := BF3.out.lt
   obtain ⟨r0, r1, r2⟩ := BR3.out.q3
   obtain ⟨z0, z1, z2⟩ := BR3.out.z3
   have lr := BR3.out.lt
   obtain ⟨W1, hW1⟩ : ∃ y : World, y = w3 := ⟨_, rfl⟩
   subst hW1
   have HG1 := HB3
   have BR1 := BR3
   have BF1 := BF3
   have hwR : w.heap.size ≤ w.heap.size + 1 := Nat.le_succ _
   clear HB3 BR3 BF3 a0 a1 a2 la r0 r1 r2 z0 z1 z2 lr
   go_upto_region 4 with fail
   refine wp_region_m (by kernel_rfl) (by kernel_rfl) [5, 6, 19, 20, 21, 22, 23, 24, 25, 26, 27, 28, 29, 30, 31, 32] FrWU (by kernel_rfl) (by decide) 33 (by kernel_rfl) (by simp) (fun ra0 => ra0.eval (.tmp 1) = .int .i64 d ∧ ra0.eval (.tmp 2) = .pointer (some ⟨w.heap.size, 0, none⟩) ∧ ra0.eval (.tmp 4) = .pointer (some ⟨(w.heap.size + 1), 0, none⟩) ∧ ra0.eval (.tmp 7) = .int .i64 N) ⟨by kernel_rfl, by kernel_rfl, by kernel_rfl, by kernel_rfl⟩ FrWP (by kernel_rfl) (IExt w W1 14 14 (fun wx => Blk wx (w.heap.size + 1) 26 #[.int .i64 0, .int .i64 0, .slice none 0 0])) (FrWR 0 (w.heap.size + 1) w.heap.size u lo N d Q R A n c m) (fun jN vs wx => FrW w.heap.size 0 (w.heap.size + 1) w.heap.size u lo N d Q R A n c m vs wx jN) ⟨(HG1.out).drew, Nat.le_refl _, fun _ => (ext_refl _).drew, fun _ => BR1.out⟩ (fun _ _ _ _ _ _ h0 hd h1 h2 h3 => FrW_keep trivial h0 hd h1 h2 h3) ?_ ?_
   · intro ra0 hE ri ro ho Qx vs wx rb KX kk rL hI hkk hnl hLt hcl hdep rb0 rbk HK
     repeat (rename_i hz9; clear hz9)
     obtain ⟨rq1, rq2, rq4, rq7⟩ := hE
     have hi : ri < 17 := by
      rcases Nat.lt_or_ge ri 17 with h | h
      · exact h
      · rw [Array.getElem?_eq_none (by simpa using h)] at ho; cases ho
     have hkk : kk < 17 := by simpa using hkk
     obtain ⟨hGw, hsz, hpre, hBx⟩ := hI
     have HQ : ∀ w', Below wx.heap.size wx w' → IExt w W1 14 14 (fun wx => Blk wx (w.heap.size + 1) 26 #[.int .i64 0, .int .i64 0, .slice none 0 0]) (kk + 1) (fun j => j = ri ∨ rL j) w' := fun w' h3 => ⟨ext_trans hGw h3, Nat.le_trans hsz h3.size, fun hn => ext_trans (hpre (fun x => hn (.inr x))) h3, fun hn => (fun hB => hB.ext h3) (hBx (fun x => hn (.inr x)))⟩
     have HQX := Lib.hid HQ
     have HGW := Lib.hid hGw
     have HPRE := Lib.hid hpre
     have HBX := Lib.hid hBx
     have HCL := Lib.hid hcl
     clear HQ hGw hpre hBx hcl
     rcases (show ri = 0 ∨ ri = 1 ∨ ri = 2 ∨ ri = 3 ∨ ri = 4 ∨ ri = 5 ∨ ri = 6 ∨ ri = 7 ∨ ri = 8 ∨ ri = 9 ∨ ri = 10 ∨ ri = 11 ∨ ri = 12 ∨ ri = 13 ∨ ri = 14 ∨ ri = 15 ∨ ri = 16 by omega) with rfl | rfl | rfl | rfl | rfl | rfl | rfl | rfl | rfl | rfl | rfl | rfl | rfl | rfl | rfl | rfl | rfl
     · simp only [List.getElem?_toArray, List.getElem?_cons_succ, List.getElem?_cons_zero, Option.some.injEq] at ho
       subst ho
       have HKX := Lib.hid HK
       clear HK
       have p2 := (rb0 2 (by decide)).trans rq2
       clear rb0 rbk hdep
       go_simp
       exact HKX.out _ _ (HQX.out _ (ext_refl _)) (by unfold FrWR; rw [if_neg (by decide)]; exact ext_refl _) (upd_same _ _ _)
     · simp only [List.getElem?_toArray, List.getElem?_cons_succ, List.getElem?_cons_zero, Option.some.injEq] at ho
       subst ho
       have HKX := Lib.hid HK
       clear HK
       have e0 : vs 19 = .pointer (some ⟨w.heap.size, 0, none⟩) := (hdep 0 (by kernel_rfl)).2
       have rr0 := (rbk 19 (by decide)).trans e0
       have E0 := Lib.hid e0
       clear e0
       have hNL : ¬ rL 14 := fun h => hnl (HCL.out 10 _ 1 rfl (HCL.out 14 _ 10 rfl h (by kernel_rfl)) (by kernel_rfl))
       have HGP := Lib.hid (HPRE.out hNL)
       obtain ⟨x0, x1, x2⟩ := (BF1.out.ext HGP.out).q3
       have lnx := (BF1.out.ext HGP.out).lt
       clear rb0 rbk hdep
       go_simp
       exact HKX.out _ _ (HQX.out _ (ext_refl _)) (by unfold FrWR; rw [if_neg (by decide)]; exact ext_refl _) (upd_same _ _ _)
     · simp only [List.getElem?_toArray, List.getElem?_cons_succ, List.getElem?_cons_zero, Option.some.injEq] at ho
       subst ho
       have HKX := Lib.hid HK
       clear HK
       have p2 := (rb0 2 (by decide)).trans rq2
       clear rb0 rbk hdep
       go_simp
       exact HKX.out _ _ (HQX.out _ (ext_refl _)) (by unfold FrWR; rw [if_neg (by decide)]; exact ext_refl _) (upd_same _ _ _)
     · simp only [List.getElem?_toArray, List.getElem?_cons_succ, List.getElem?_cons_zero, Option.some.injEq] at ho
       subst ho
       have HKX := Lib.hid HK
       clear HK
       have e2 : vs 21 = .pointer (some ⟨w.heap.size, 1, none⟩) := (hdep 2 (by kernel_rfl)).2
       have rr2 := (rbk 21 (by decide)).trans e2
       have E2 := Lib.hid e2
       clear e2
       have hNL : ¬ rL 14 := fun h => hnl (HCL.out 10 _ 3 rfl (HCL.out 14 _ 10 rfl h (by kernel_rfl)) (by kernel_rfl))
       have HGP := Lib.hid (HPRE.out hNL)
       obtain ⟨x0, x1, x2⟩ := (BF1.out.ext HGP.out).q3
       have lnx := (BF1.out.ext HGP.out).lt
       clear rb0 rbk hdep
       go_simp
       exact HKX.out _ _ (HQX.out _ (ext_refl _)) (by unfold FrWR; rw [if_neg (by decide)]; exact ext_refl _) (upd_same _ _ _)
     · simp only [List.getElem?_toArray, List.getElem?_cons_succ, List.getElem?_cons_zero, Option.some.injEq] at ho
       subst ho
       have HKX := Lib.hid HK
       clear HK
       have p2 := (rb0 2 (by decide)).trans rq2
       clear rb0 rbk hdep
       go_simp
       exact HKX.out _ _ (HQX.out _ (ext_refl _)) (by unfold FrWR; rw [if_neg (by decide)]; exact ext_refl _) (upd_same _ _ _)
     · simp only [List.getElem?_toArray, List.getElem?_cons_succ, List.getElem?_cons_zero, Option.some.injEq] at ho
       subst ho
       have HKX := Lib.hid HK
       clear HK
       have e4 : vs 23 = .pointer (some ⟨w.heap.size, 2, none⟩) := (hdep 4 (by kernel_rfl)).2
       have rr4 := (rbk 23 (by decide)).trans e4
       have E4 := Lib.hid e4
       clear e4
       have hNL : ¬ rL 14 := fun h => hnl (HCL.out 6 _ 5 rfl (HCL.out 10 _ 6 rfl (HCL.out 14 _ 10 rfl h (by kernel_rfl)) (by kernel_rfl)) (by kernel_rfl))
       have HGP := Lib.hid (HPRE.out hNL)
       obtain ⟨x0, x1, x2⟩ := (BF1.out.ext HGP.out).q3
       have lnx := (BF1.out.ext HGP.out).lt
       clear rb0 rbk hdep
       go_simp
       exact HKX.out _ _ (HQX.out _ (ext_refl _)) (by unfold FrWR; rw [if_neg (by decide)]; exact ext_refl _) (upd_same _ _ _)
     · simp only [List.getElem?_toArray, List.getElem?_cons_succ, List.getElem?_cons_zero, Option.some.injEq] at ho
       subst ho
       have HKX := Lib.hid HK
       clear HK
       have e5 : vs 24 = .slice A n c := (hdep 5 (by kernel_rfl)).2
       have rr5 := (rbk 24 (by decide)).trans e5
       have E5 := Lib.hid e5
       clear e5
       clear rb0 rbk hdep
       go_simp
       exact HKX.out _ _ (HQX.out _ (ext_refl _)) (by unfold FrWR; rw [if_neg (by decide)]; exact ext_refl _) (upd_same _ _ _)
     · simp only [List.getElem?_toArray, List.getElem?_cons_succ, List.getElem?_cons_zero, Option.some.injEq] at ho
       subst ho
       have HKX := Lib.hid HK
       clear HK
       have p7 := (rb0 7 (by decide)).trans rq7
       clear rb0 rbk hdep
       go_simp
       exact HKX.out _ _ (HQX.out _ (ext_refl _)) (by unfold FrWR; rw [if_neg (by decide)]; exact ext_refl _) (upd_same _ _ _)
     · simp only [List.getElem?_toArray, List.getElem?_cons_succ, List.getElem?_cons_zero, Option.some.injEq] at ho
       subst ho
       have HKX := Lib.hid HK
       clear HK
       have p1 := (rb0 1 (by decide)).trans rq1
       clear rb0 rbk hdep
       go_simp
       exact HKX.out _ _ (HQX.out _ (ext_refl _)) (by unfold FrWR; rw [if_neg (by decide)]; exact ext_refl _) (upd_same _ _ _)
     · simp only [List.getElem?_toArray, List.getElem?_cons_succ, List.getElem?_cons_zero, Option.some.injEq] at ho
       subst ho
       have HKX := Lib.hid HK
       clear HK
       have e7 : vs 26 = .int .i64 N := (hdep 7 (by kernel_rfl)).2
       have rr7 := (rbk 26 (by decide)).trans e7
       have E7 := Lib.hid e7
       clear e7
       have e8 : vs 27 = .int .i64 d := (hdep 8 (by kernel_rfl)).2
       have rr8 := (rbk 27 (by decide)).trans e8
       have E8 := Lib.hid e8
       clear e8
       clear rb0 rbk hdep
       go_simp
       rw [show IntKind.i64.wrap (N.tdiv d) = Q from by rw [Int.tdiv_eq_ediv_of_nonneg hN0, HQ.out.1, IntKind.wrap_i64]; have h9 := HQ.out.2.2; omega]
       go_simp
       exact HKX.out _ _ (HQX.out _ (ext_refl _)) (by unfold FrWR; rw [if_neg (by decide)]; exact ext_refl _) (upd_same _ _ _)
     · simp only [List.getElem?_toArray, List.getElem?_cons_succ, List.getElem?_cons_zero, Option.some.injEq] at ho
       subst ho
       have HKX := Lib.hid HK
       clear HK
       have e1 : vs 20 = .int .i64 u := (hdep 1 (by kernel_rfl)).2
       have rr1 := (rbk 20 (by decide)).trans e1
       have E1 := Lib.hid e1
       clear e1
       have e3 : vs 22 = .int .i64 lo := (hdep 3 (by kernel_rfl)).2
       have rr3 := (rbk 22 (by decide)).trans e3
       have E3 := Lib.hid e3
       clear e3
       have e6 : vs 25 = .int .i64 (n : Int) := (hdep 6 (by kernel_rfl)).2
       have rr6 := (rbk 25 (by decide)).trans e6
       have E6 := Lib.hid e6
       clear e6
       have e9 : vs 28 = .int .i64 Q := (hdep 9 (by kernel_rfl)).2
       have rr9 := (rbk 28 (by decide)).trans e9
       have E9 := Lib.hid e9
       clear e9
       have hNL : ¬ rL 14 := fun h => hnl (HCL.out 14 _ 10 rfl h (by kernel_rfl))
       have HGP := Lib.hid (HPRE.out hNL)
       obtain ⟨x0, x1, x2⟩ := (BF1.out.ext HGP.out).q3
       have lnx := (BF1.out.ext HGP.out).lt
       clear rb0 rbk hdep
       go_simp
       refine (HSH.out _).mono ?_
       rintro e w' ⟨A2, c2, rfl, hr5, hb⟩
       have hsx := HGW.out.size
       go_simp
       exact HKX.out _ _ (HQX.out _ hb) (by unfold FrWR; rw [if_neg (by decide)]; exact hb) (⟨A2, c2, upd_same _ _ _, own_base hr5 hsx⟩)
     · simp only [List.getElem?_toArray, List.getElem?_cons_succ, List.getElem?_cons_zero, Option.some.injEq] at ho
       subst ho
       have HKX := Lib.hid HK
       clear HK
       have p7 := (rb0 7 (by decide)).trans rq7
       clear rb0 rbk hdep
       go_simp
       exact HKX.out _ _ (HQX.out _ (ext_refl _)) (by unfold FrWR; rw [if_neg (by decide)]; exact ext_refl _) (upd_same _ _ _)
     · simp only [List.getElem?_toArray, List.getElem?_cons_succ, List.getElem?_cons_zero, Option.some.injEq] at ho
       subst ho
       have HKX := Lib.hid HK
       clear HK
       have p1 := (rb0 1 (by decide)).trans rq1
       clear rb0 rbk hdep
       go_simp
       exact HKX.out _ _ (HQX.out _ (ext_refl _)) (by unfold FrWR; rw [if_neg (by decide)]; exact ext_refl _) (upd_same _ _ _)
     · simp only [List.getElem?_toArray, List.getElem?_cons_succ, List.getElem?_cons_zero, Option.some.injEq] at ho
       subst ho
       have HKX := Lib.hid HK
       clear HK
       have e11 : vs 30 = .int .i64 N := (hdep 11 (by kernel_rfl)).2
       have rr11 := (rbk 30 (by decide)).trans e11
       have E11 := Lib.hid e11
       clear e11
       have e12 : vs 31 = .int .i64 d := (hdep 12 (by kernel_rfl)).2
       have rr12 := (rbk 31 (by decide)).trans e12
       have E12 := Lib.hid e12
       clear e12
       clear rb0 rbk hdep
       go_simp
       rw [show N.tmod d = R from by rw [Int.tmod_eq_emod_of_nonneg hN0, HQ.out.2.1]]
       go_simp
       exact HKX.out _ _ (HQX.out _ (ext_refl _)) (by unfold FrWR; rw [if_neg (by decide)]; exact ext_refl _) (upd_same _ _ _)
     · simp only [List.getElem?_toArray, List.getElem?_cons_succ, List.getElem?_cons_zero, Option.some.injEq] at ho
       subst ho
       have HKX := Lib.hid HK
       clear HK
       obtain ⟨A2, c2, e10, k10_0⟩ := (hdep 10 (by kernel_rfl)).2
       have rr10 := (rbk 29 (by decide)).trans e10
       have E10 := Lib.hid e10
       clear e10
       have K10_0 := Lib.hid k10_0
       clear k10_0
       have p4 := (rb0 4 (by decide)).trans rq4
       have hNL : ¬ rL 14 := hnl
       have HGP := Lib.hid (HPRE.out hNL)
       obtain ⟨x0, x1, x2⟩ := (BF1.out.ext HGP.out).q3
       have lnx := (BF1.out.ext HGP.out).lt
       have HBF := Lib.hid (HBX.out hnl)
       clear x0 x1 x2 lnx
       obtain ⟨yB0, yB1, yB2⟩ := HBF.out.q3
       obtain ⟨zB0, zB1, zB2⟩ := HBF.out.z3
       have hlr := HBF.out.lt
       clear rb0 rbk hdep
       go_simp
       have HKW := Lib.hid (keep3 (a0 := .int .i64 u) (a1 := .int .i64 lo) (a2 := .slice A2 n c2) HBF.out)
       exact HKX.out undef _ ⟨fill_below HGW.out hwR, by simpa using hsz, fun hn => (hn (.inl rfl)).elim, fun hn => (hn (.inl rfl)).elim⟩ (by unfold FrWR; rw [if_pos rfl]; exact HKW.out) ⟨A2, c2, fill_own' K10_0.out (own_nbT K10_0.out HBF.out (by decide)), fr_put HBF.out, hwR⟩
     · simp only [List.getElem?_toArray, List.getElem?_cons_succ, List.getElem?_cons_zero, Option.some.injEq] at ho
       subst ho
       have HKX := Lib.hid HK
       clear HK
       have e13 : vs 32 = .int .i64 R := (hdep 13 (by kernel_rfl)).2
       have rr13 := (rbk 32 (by decide)).trans e13
       have E13 := Lib.hid e13
       clear e13
       clear rb0 rbk hdep
       go_simp
       exact HKX.out _ _ (HQX.out _ (ext_refl _)) (by unfold FrWR; rw [if_neg (by decide)]; exact ext_refl _) (upd_same _ _ _)
     · simp only [List.getElem?_toArray, List.getElem?_cons_succ, List.getElem?_cons_zero, Option.some.injEq] at ho
       subst ho
       have HKX := Lib.hid HK
       clear HK
       clear rb0 rbk hdep
       go_simp
       exact HKX.out _ _ (HQX.out _ (ext_refl _)) (by unfold FrWR; rw [if_neg (by decide)]; exact ext_refl _) (upd_same _ _ _)
   intro vs wx kk rL hI hkk hLt hall
   obtain ⟨_, A2, c2, hr2, hB2, _⟩ := hall 14 (by decide)
   obtain ⟨_, ev1⟩ := hall 15 (by decide)
   obtain ⟨_, ev2⟩ := hall 16 (by decide)
   obtain ⟨hg2, _, _, _⟩ := hI
   have BR2 := Lib.hid hB2
   have HR2 := Lib.hid hr2
   have HB2 := Lib.hid hg2
   clear hLt hall hr2 hB2 hg2
   obtain ⟨r0, r1, r2⟩ := BR2.out.q3
   have lr := BR2.out.lt
   simp only [sl]
   rw [ev1, ev2]
   clear ev1 ev2
   simp only [Act.put, List.setIfInBounds_toArray, List.set_cons_succ, List.set_cons_zero]
   go_wp2
   refine bodyPost_ret (v := .tuple #[frV u lo A2 n c2, .int .i64 R, .bool true]) (by simp [results, Try.results34, go_sem, *]) rfl ?_
   exact ⟨A2, c2, by rw [HML.out], by rw [HML.out]; exact HR2.out, HB2.out⟩
end Go.Proofs.Ytnoflejomlnmfaa
