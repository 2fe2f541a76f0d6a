/- MadeStandard: both. -/
import Derived.Test.YtfmenkhfhibmeaaVM4
import Derived.Test.YtfmenkhfhibmeaaVFdD
import Derived.Test.YtfmenkhfhibmeaaVM3
namespace Go.Proofs.Ytfmenkhfhibmeaa
open Go.RowKit
set_option linter.unusedVariables false
set_option linter.unusedSimpArgs false
def msB (u lo : Int) (l : List R2) : Bool := frB u lo l && inB (numR l) 0 (pw l.length - 1)
def msF (u lo : Int) (l : List R2) : Int × Int × List R2 := if msB u lo l = true then (u, lo, rodsD (digs l.length (numR l))) else (0, 0, [])
def FrS (S g : Nat) (R0 BFn : Nat) (u lo N : Int) (A : Option Addr) (n c : Nat) (m : List R2) (vs : Nat → Value) (wx : World) : Nat → Prop
 | 0 => vs 15 = frV u lo A n c
 | 1 => vs 16 = frV u lo A n c
 | 2 => vs 17 = .int .i64 N
 | 3 => ∃ (A2 : Option Addr) (c2 : Nat), vs 18 = frV u lo A2 n c2 ∧ (wx.ownsRow S 55 2 (.slice A2 n c2) n (rowsV2 m))
 | 4 => ∃ (A2 : Option Addr) (c2 : Nat), (wx.ownsRow S 55 2 (.slice A2 n c2) n (rowsV2 m)) ∧ (Blk wx R0 26 #[.int .i64 u, .int .i64 lo, .slice A2 n c2]) ∧ (S ≤ R0)
 | 5 => vs 3 = .bool true
 | _ => True
def FrSU : Nat → List Nat
 | 0 => [15]
 | 1 => [16]
 | 2 => [17]
 | 3 => [18]
 | 4 => []
 | 5 => [3]
 | _ => []
def FrSR (g : Nat) (R0 BFn : Nat) (u lo N : Int) (A : Option Addr) (n c : Nat) (m : List R2) (i : Nat) (wx wy : World) : Prop := if i = 4 then KeepW 26 wx wy else Below wx.heap.size wx wy
theorem FrS_gr {S g : Nat} {R0 BFn : Nat} {u lo N : Int} {A : Option Addr} {n c : Nat} {m : List R2} (hgS : True) {vs us : Nat → Value} {wx wy : World} {jN : Nat} (hGG : FrS S g R0 BFn u lo N A n c m vs wx jN) (haG : ∀ d ∈ FrSU jN, us d = vs d) (hbG : Below wx.heap.size wx wy) : FrS S g R0 BFn u lo N A n c m us wy jN := by
 match jN, hGG, haG with
 | 0, hGG, haG =>
   exact (haG 15 (by simp [FrSU])).trans hGG
 | 1, hGG, haG =>
   exact (haG 16 (by simp [FrSU])).trans hGG
 | 2, hGG, haG =>
   exact (haG 17 (by simp [FrSU])).trans hGG
 | 3, hGG, haG =>
   obtain ⟨xG0, xG1, eG, fG0⟩ := hGG
   exact ⟨xG0, xG1, (haG 18 (by simp [FrSU])).trans eG, own_ext fG0 hbG⟩
 | 4, hGG, haG =>
   obtain ⟨xG0, xG1, fG0, fG1, fG2⟩ := hGG
   exact ⟨xG0, xG1, own_ext fG0 hbG, fG1.ext hbG, fG2⟩
 | 5, hGG, haG =>
   exact (haG 3 (by simp [FrSU])).trans hGG
 | jN + 6, _, _ => trivial
theorem FrS_4 {S g : Nat} {R0 BFn : Nat} {u lo N : Int} {A : Option Addr} {n c : Nat} {m : List R2} (hgS : True) {vs us : Nat → Value} {wx wy : World} {jN : Nat} (hneG : jN ≠ 4) (hGG : FrS S g R0 BFn u lo N A n c m vs wx jN) (haG : ∀ d ∈ FrSU jN, us d = vs d) (hbG : KeepW 26 wx wy) : FrS S g R0 BFn u lo N A n c m us wy jN := by
 match jN, hGG, haG, hneG with
 | 0, hGG, haG, hneG =>
   exact (haG 15 (by simp [FrSU])).trans hGG
 | 1, hGG, haG, hneG =>
   exact (haG 16 (by simp [FrSU])).trans hGG
 | 2, hGG, haG, hneG =>
   exact (haG 17 (by simp [FrSU])).trans hGG
 | 3, hGG, haG, hneG =>
   obtain ⟨xG0, xG1, eG, fG0⟩ := hGG
   exact ⟨xG0, xG1, (haG 18 (by simp [FrSU])).trans eG, hbG.own fG0 (by decide)⟩
 | 4, hGG, haG, hneG =>
   exact absurd rfl hneG
 | 5, hGG, haG, hneG =>
   exact (haG 3 (by simp [FrSU])).trans hGG
 | jN + 6, _, _, _ => trivial
def FrSP (j i : Nat) : Bool := false
theorem FrS_keep {S g : Nat} {R0 BFn : Nat} {u lo N : Int} {A : Option Addr} {n c : Nat} {m : List R2} (hgS : True) {vs us : Nat → Value} {wx wy : World} {iN jN : Nat} (hneG : iN ≠ jN) (hdpG : FrSP jN iN = false) (hGG : FrS S g R0 BFn u lo N A n c m vs wx jN) (haG : ∀ d ∈ FrSU jN, us d = vs d) (hbG : FrSR g R0 BFn u lo N A n c m iN wx wy) : FrS S g R0 BFn u lo N A n c m us wy jN := by
 unfold FrSR at hbG
 by_cases h4 : iN = 4
 · rw [if_pos h4] at hbG
   exact FrS_4 hgS (by omega) hGG haG hbG
 rw [if_neg h4] at hbG
 exact FrS_gr hgS hGG haG hbG
def FrT (S g : Nat) (R0 BFn : Nat) (u lo N : Int) (A : Option Addr) (n c : Nat) (m : List R2) (vs : Nat → Value) (wx : World) : Nat → Prop
 | 0 => vs 17 = .pointer (some ⟨BFn, 0, none⟩)
 | 1 => vs 18 = .int .i64 u
 | 2 => vs 19 = .pointer (some ⟨BFn, 1, none⟩)
 | 3 => vs 20 = .int .i64 lo
 | 4 => vs 21 = .pointer (some ⟨BFn, 2, none⟩)
 | 5 => vs 22 = .slice A n c
 | 6 => vs 23 = .int .i64 (n : Int)
 | 7 => vs 24 = frV u lo A n c
 | 8 => vs 25 = .int .i64 N
 | 9 => ∃ (A2 : Option Addr) (c2 : Nat), vs 26 = frV u lo A2 n c2 ∧ (wx.ownsRow S 55 2 (.slice A2 n c2) n (rowsV2 m))
 | 10 => ∃ (A2 : Option Addr) (c2 : Nat), (wx.ownsRow S 55 2 (.slice A2 n c2) n (rowsV2 m)) ∧ (Blk wx R0 26 #[.int .i64 u, .int .i64 lo, .slice A2 n c2]) ∧ (S ≤ R0)
 | 11 => vs 3 = .bool true
 | _ => True
def FrTU : Nat → List Nat
 | 0 => [17]
 | 1 => [18]
 | 2 => [19]
 | 3 => [20]
 | 4 => [21]
 | 5 => [22]
 | 6 => [23]
 | 7 => [24]
 | 8 => [25]
 | 9 => [26]
 | 10 => []
 | 11 => [3]
 | _ => []
def FrTR (g : Nat) (R0 BFn : Nat) (u lo N : Int) (A : Option Addr) (n c : Nat) (m : List R2) (i : Nat) (wx wy : World) : Prop := if i = 10 then KeepW 26 wx wy else Below wx.heap.size wx wy
theorem FrT_gr {S g : Nat} {R0 BFn : Nat} {u lo N : Int} {A : Option Addr} {n c : Nat} {m : List R2} (hgS : True) {vs us : Nat → Value} {wx wy : World} {jN : Nat} (hGG : FrT S g R0 BFn u lo N A n c m vs wx jN) (haG : ∀ d ∈ FrTU jN, us d = vs d) (hbG : Below wx.heap.size wx wy) : FrT S g R0 BFn u lo N A n c m us wy jN := by
 match jN, hGG, haG with
 | 0, hGG, haG =>
   exact (haG 17 (by simp [FrTU])).trans hGG
 | 1, hGG, haG =>
   exact (haG 18 (by simp [FrTU])).trans hGG
 | 2, hGG, haG =>
   exact (haG 19 (by simp [FrTU])).trans hGG
 | 3, hGG, haG =>
   exact (haG 20 (by simp [FrTU])).trans hGG
 | 4, hGG, haG =>
   exact (haG 21 (by simp [FrTU])).trans hGG
 | 5, hGG, haG =>
   exact (haG 22 (by simp [FrTU])).trans hGG
 | 6, hGG, haG =>
   exact (haG 23 (by simp [FrTU])).trans hGG
 | 7, hGG, haG =>
   exact (haG 24 (by simp [FrTU])).trans hGG
 | 8, hGG, haG =>
   exact (haG 25 (by simp [FrTU])).trans hGG
 | 9, hGG, haG =>
   obtain ⟨xG0, xG1, eG, fG0⟩ := hGG
   exact ⟨xG0, xG1, (haG 26 (by simp [FrTU])).trans eG, own_ext fG0 hbG⟩
 | 10, hGG, haG =>
   obtain ⟨xG0, xG1, fG0, fG1, fG2⟩ := hGG
   exact ⟨xG0, xG1, own_ext fG0 hbG, fG1.ext hbG, fG2⟩
 | 11, hGG, haG =>
   exact (haG 3 (by simp [FrTU])).trans hGG
 | jN + 12, _, _ => trivial
theorem FrT_10 {S g : Nat} {R0 BFn : Nat} {u lo N : Int} {A : Option Addr} {n c : Nat} {m : List R2} (hgS : True) {vs us : Nat → Value} {wx wy : World} {jN : Nat} (hneG : jN ≠ 10) (hGG : FrT S g R0 BFn u lo N A n c m vs wx jN) (haG : ∀ d ∈ FrTU jN, us d = vs d) (hbG : KeepW 26 wx wy) : FrT S g R0 BFn u lo N A n c m us wy jN := by
 match jN, hGG, haG, hneG with
 | 0, hGG, haG, hneG =>
   exact (haG 17 (by simp [FrTU])).trans hGG
 | 1, hGG, haG, hneG =>
   exact (haG 18 (by simp [FrTU])).trans hGG
 | 2, hGG, haG, hneG =>
   exact (haG 19 (by simp [FrTU])).trans hGG
 | 3, hGG, haG, hneG =>
   exact (haG 20 (by simp [FrTU])).trans hGG
 | 4, hGG, haG, hneG =>
   exact (haG 21 (by simp [FrTU])).trans hGG
 | 5, hGG, haG, hneG =>
   exact (haG 22 (by simp [FrTU])).trans hGG
 | 6, hGG, haG, hneG =>
   exact (haG 23 (by simp [FrTU])).trans hGG
 | 7, hGG, haG, hneG =>
   exact (haG 24 (by simp [FrTU])).trans hGG
 | 8, hGG, haG, hneG =>
   exact (haG 25 (by simp [FrTU])).trans hGG
 | 9, hGG, haG, hneG =>
   obtain ⟨xG0, xG1, eG, fG0⟩ := hGG
   exact ⟨xG0, xG1, (haG 26 (by simp [FrTU])).trans eG, hbG.own fG0 (by decide)⟩
 | 10, hGG, haG, hneG =>
   exact absurd rfl hneG
 | 11, hGG, haG, hneG =>
   exact (haG 3 (by simp [FrTU])).trans hGG
 | jN + 12, _, _, _ => trivial
def FrTP (j i : Nat) : Bool := false
theorem FrT_keep {S g : Nat} {R0 BFn : Nat} {u lo N : Int} {A : Option Addr} {n c : Nat} {m : List R2} (hgS : True) {vs us : Nat → Value} {wx wy : World} {iN jN : Nat} (hneG : iN ≠ jN) (hdpG : FrTP jN iN = false) (hGG : FrT S g R0 BFn u lo N A n c m vs wx jN) (haG : ∀ d ∈ FrTU jN, us d = vs d) (hbG : FrTR g R0 BFn u lo N A n c m iN wx wy) : FrT S g R0 BFn u lo N A n c m us wy jN := by
 unfold FrTR at hbG
 by_cases h10 : iN = 10
 · rw [if_pos h10] at hbG
   exact FrT_10 hgS (by omega) hGG haG hbG
 rw [if_neg h10] at hbG
 exact FrT_gr hgS hGG haG hbG
set_option maxRecDepth 100000 in
set_option maxHeartbeats 8000000 in
theorem implMadeStd_any (u lo : Int) (A : Option Addr) (n c : Nat) (l : List R2) (w : World) (hn : n ≤ 1048576) (h : Reads w w.heap.size 2 A n (rowsV2 l)) :
 Calls Try.prog 16 #[frV u lo A n c] w (RetFrB w (msF u lo l) (msB u lo l)) := by
 have hl := rows_len2 h
 have H := Lib.hid h
 have BF0 := Lib.hid ((Blk.born w #[.int .i64 u, .int .i64 lo, .slice A n c] 26 (H := w.heap.size) rfl).al (.cells #[.int .i64 0, .int .i64 0, .slice none 0 0] 26))
 have BR0 := Lib.hid (Blk.born (w.alloc (.cells #[.int .i64 u, .int .i64 lo, .slice A n c] 26)) #[.int .i64 0, .int .i64 0, .slice none 0 0] 26 (H := w.heap.size + 1) (by simp))
 have HB0 := Lib.hid (ext_alloc (ext_alloc (ext_refl w) (.cells #[.int .i64 u, .int .i64 lo, .slice A n c] 26)) (.cells #[.int .i64 0, .int .i64 0, .slice none 0 0] 26))
 have HG := Lib.hid (fun w h => isFrame_any u lo A n c l w hn h)
 unfold RetFrB
 cases hf : frB u lo l
 · have hB : msB u lo l = false := by unfold msB; rw [hf]; rfl
   rw [show msF u lo l = (0, 0, []) by unfold msF; rw [if_neg (by rw [hB]; simp)], hB]
   rw [hf] at HG
   clear h hl hf hB
   go_enter Try.func16, Try.ntmps16
   go_wp2_with fail
   obtain ⟨W0, hW0⟩ : ∃ y : World, y = (w.alloc (.cells #[.int .i64 u, .int .i64 lo, .slice A n c] 26)).alloc (.cells #[.int .i64 0, .int .i64 0, .slice none 0 0] 26) := ⟨_, rfl⟩
   rw [← hW0] at HB0 BF0 BR0
   go_upto_region 1 with fail
   rw [← hW0]
   clear hW0
   obtain ⟨a0, a1, a2⟩ := BF0.out.q3
   have la := BF0.out.lt
   have HGL := Lib.hid (fun (m : Later W0) => HG.out m.world (rdx H.out (ext_trans HB0.out m.h)))
   (try unfold RetV at HGL)
   (refine wp_region_later (by kernel_rfl) (by kernel_rfl) ?_; (repeat (go_big_quiet_step (first | (go_at_call 11; with_reducible exact Calls.later_of (HGL.out _))))); refine wpQuiet_nil ?_; intro w1 hw1; obtain ⟨⟨wl, hb⟩, hw1'⟩ := hw1; simp only at hw1'; subst hw1')
   have BR := Lib.hid (BR0.out.ext hb)
   have HB := Lib.hid (ext_trans HB0.out hb)
   clear hb a0 a1 a2 la
   obtain ⟨r0, r1, r2⟩ := BR.out.q3
   obtain ⟨z0, z1, z2⟩ := BR.out.z3
   have lr := BR.out.lt
   go_wp2
   refine bodyPost_ret (v := .tuple #[frV 0 0 none 0 0, .bool false]) (by simp [results, Try.results16, go_sem, *]) rfl ?_
   exact ⟨none, 0, rfl, World.ownsRow_nil _ _ _ _, fill_below HB.out (Nat.le_succ _)⟩
 rw [hf] at HG
 have hn1 := (frB_head hf).2.2.1
 have hn8 := (frB_head hf).2.2.2
 rw [hl] at hn1 hn8
 have hnb := numR_bounds hf l.length
 rw [List.take_of_length_le (Nat.le_refl _)] at hnb
 have hp8 := pw_lt hn8
 have hp1 := pw_pos n
 have HNU := Lib.hid (fun w h => number_any u lo A n c l w hf h)
 obtain ⟨N, hN⟩ : ∃ N, numR l = N := ⟨_, rfl⟩
 rw [hN] at HNU hnb
 have hN0 := hnb.1
 obtain ⟨fb, hfb⟩ : ∃ fb, inB N 0 (pw n - 1) = fb := ⟨_, rfl⟩
 have HFT := Lib.hid (fun w => fitsOn_b u lo A n c N fb w hn8 hfb)
 have eB : msB u lo l = fb := by unfold msB; rw [hf, hl, hN, hfb]; rfl
 obtain ⟨P, hP⟩ : ∃ P, pw n = P := ⟨_, rfl⟩
 rw [hP] at hp8 hp1 hfb
 (try rw [hP] at HFT)
 rw [eB]
 cases fb
 · rw [show msF u lo l = (0, 0, []) by unfold msF; rw [if_neg (by rw [eB]; simp)]]
   have hge : ¬ N < P := by have h9 := inB_no.1 hfb; omega
   have hgd : decide (P ≤ N) = true := decide_eq_true (by omega)
   clear h hl hf eB hN hfb hP
   go_enter Try.func16, Try.ntmps16
   go_wp2_with fail
   obtain ⟨W0, hW0⟩ : ∃ y : World, y = (w.alloc (.cells #[.int .i64 u, .int .i64 lo, .slice A n c] 26)).alloc (.cells #[.int .i64 0, .int .i64 0, .slice none 0 0] 26) := ⟨_, rfl⟩
   rw [← hW0] at HB0 BF0 BR0
   go_upto_region 1 with fail
   rw [← hW0]
   clear hW0
   obtain ⟨a0, a1, a2⟩ := BF0.out.q3
   have la := BF0.out.lt
   have HGL := Lib.hid (fun (m : Later W0) => HG.out m.world (rdx H.out (ext_trans HB0.out m.h)))
   have HNL := Lib.hid (fun (m : Later W0) => HNU.out m.world (rdx H.out (ext_trans HB0.out m.h)))
   have HFL := Lib.hid (fun (m : Later W0) => HFT.out m.world)
   (try unfold RetV at HGL)
   (refine wp_region_later (by kernel_rfl) (by kernel_rfl) ?_; (repeat (go_big_quiet_step (first | (go_at_call 11; with_reducible exact Calls.later_of (HGL.out _)) | (go_at_call 58; with_reducible exact Calls.later_of (HNL.out _)) | (go_at_call 57; with_reducible exact Calls.later_of (HFL.out _))))); refine wpQuiet_nil ?_; intro w1 hw1; obtain ⟨⟨wl, hb⟩, hw1'⟩ := hw1; simp only at hw1'; subst hw1')
   clear hgd
   have BR := Lib.hid (BR0.out.ext hb)
   have HB := Lib.hid (ext_trans HB0.out hb)
   clear hb a0 a1 a2 la
   obtain ⟨r0, r1, r2⟩ := BR.out.q3
   obtain ⟨z0, z1, z2⟩ := BR.out.z3
   have lr := BR.out.lt
   go_wp2
   refine bodyPost_ret (v := .tuple #[frV 0 0 none 0 0, .bool false]) (by simp [results, Try.results16, go_sem, *]) rfl ?_
   exact ⟨none, 0, rfl, World.ownsRow_nil _ _ _ _, fill_below HB.out (Nat.le_succ _)⟩
 · have hlt := inB_iff.1 hfb
   have hgd : decide (P ≤ N) = false := decide_eq_false (by omega)
   have hge : ¬ P ≤ N := by omega
   obtain ⟨m, hm⟩ : ∃ m, rodsD (digs n N) = m := ⟨_, rfl⟩
   have HML := Lib.hid (show m.length = n by rw [← hm, rodsD_len]; simp [digs])
   have HSH := Lib.hid (fun w h => showing_any u lo A n c l N w hn1 hn8 hN0 (by omega) h)
   rw [hm] at HSH
   unfold RetSh at HSH
   rw [show msF u lo l = (u, lo, m) by unfold msF; rw [if_pos eB, hl, hN, hm]]
   dsimp only
   clear h hl hf eB hN hfb hm hP
   go_enter Try.func16, Try.ntmps16
   go_wp2_with fail
   obtain ⟨W0, hW0⟩ : ∃ y : World, y = (w.alloc (.cells #[.int .i64 u, .int .i64 lo, .slice A n c] 26)).alloc (.cells #[.int .i64 0, .int .i64 0, .slice none 0 0] 26) := ⟨_, rfl⟩
   rw [← hW0] at HB0 BF0 BR0
   go_upto_region 1 with fail
   rw [← hW0]
   clear hW0
   obtain ⟨a0, a1, a2⟩ := BF0.out.q3
   have la := BF0.out.lt
   have HGL := Lib.hid (fun (m : Later W0) => HG.out m.world (rdx H.out (ext_trans HB0.out m.h)))
   have HNL := Lib.hid (fun (m : Later W0) => HNU.out m.world (rdx H.out (ext_trans HB0.out m.h)))
   have HFL := Lib.hid (fun (m : Later W0) => HFT.out m.world)
   (try unfold RetV at HGL)
   (refine wp_region_later (by kernel_rfl) (by kernel_rfl) ?_; (repeat (go_big_quiet_step (first | (go_at_call 11; with_reducible exact Calls.later_of (HGL.out _)) | (go_at_call 58; with_reducible exact Calls.later_of (HNL.out _)) | (go_at_call 57; with_reducible exact Calls.later_of (HFL.out _))))); refine wpQuiet_nil ?_; intro W1 hw1; obtain ⟨⟨wl, hb⟩, hw1'⟩ := hw1; simp only at hw1'; subst hw1')
   have BR1 := Lib.hid (BR0.out.ext hb)
   have BF1 := Lib.hid (BF0.out.ext hb)
   have HG1 := Lib.hid (ext_trans HB0.out hb)
   have hwR : w.heap.size ≤ w.heap.size + 1 := Nat.le_succ _
   clear hb a0 a1 a2 la hgd HGL HNL HFL BR0 BF0 HB0
   go_upto_region 3 with fail
   refine wp_region_m (by kernel_rfl) (by kernel_rfl) [3, 15, 16, 17, 18] FrSU (by kernel_rfl) (by decide) 19 (by kernel_rfl) (by simp) (fun ra0 => ra0.eval (.tmp 1) = .pointer (some ⟨w.heap.size, 0, none⟩) ∧ ra0.eval (.tmp 2) = .pointer (some ⟨w.heap.size + 1, 0, none⟩)) ⟨by kernel_rfl, by kernel_rfl⟩ FrSP (by kernel_rfl) (IExt w W1 4 4 (fun wx => Blk wx (w.heap.size + 1) 26 #[.int .i64 0, .int .i64 0, .slice none 0 0])) (FrSR 0 (w.heap.size + 1) w.heap.size u lo N A n c m) (fun jN vs wx => FrS w.heap.size 0 (w.heap.size + 1) w.heap.size u lo N A n c m vs wx jN) ⟨(HG1.out).drew, Nat.le_refl _, fun _ => (ext_refl _).drew, fun _ => BR1.out⟩ (fun _ _ _ _ _ _ h0 hd h1 h2 h3 => FrS_keep trivial h0 hd h1 h2 h3) ?_ ?_
   · intro ra0 hE ri ro ho Qx vs wx rb KX kk rL hI hkk hnl hLt hcl hdep rb0 rbk HK
     repeat (rename_i hz9; clear hz9)
     obtain ⟨rq1, rq2⟩ := hE
     have hi : ri < 6 := by
      rcases Nat.lt_or_ge ri 6 with h | h
      · exact h
      · rw [Array.getElem?_eq_none (by simpa using h)] at ho; cases ho
     have hkk : kk < 6 := by simpa using hkk
     obtain ⟨hGw, hsz, hpre, hBx⟩ := hI
     have HQ : ∀ w', Below wx.heap.size wx w' → IExt w W1 4 4 (fun wx => Blk wx (w.heap.size + 1) 26 #[.int .i64 0, .int .i64 0, .slice none 0 0]) (kk + 1) (fun j => j = ri ∨ rL j) w' := fun w' h3 => ⟨ext_trans hGw h3, Nat.le_trans hsz h3.size, fun hn => ext_trans (hpre (fun x => hn (.inr x))) h3, fun hn => (fun hB => hB.ext h3) (hBx (fun x => hn (.inr x)))⟩
     have HQX := Lib.hid HQ
     have HGW := Lib.hid hGw
     have HPRE := Lib.hid hpre
     have HBX := Lib.hid hBx
     have HCL := Lib.hid hcl
     clear HQ hGw hpre hBx hcl
     rcases (show ri = 0 ∨ ri = 1 ∨ ri = 2 ∨ ri = 3 ∨ ri = 4 ∨ ri = 5 by omega) with rfl | rfl | rfl | rfl | rfl | rfl
     · simp only [List.getElem?_toArray, List.getElem?_cons_succ, List.getElem?_cons_zero, Option.some.injEq] at ho
       subst ho
       have HKX := Lib.hid HK
       clear HK
       have p1 := (rb0 1 (by decide)).trans rq1
       have hNL : ¬ rL 4 := fun h => hnl (HCL.out 3 _ 0 rfl (HCL.out 4 _ 3 rfl h (by kernel_rfl)) (by kernel_rfl))
       have HGP := Lib.hid (HPRE.out hNL)
       obtain ⟨x0, x1, x2⟩ := (BF1.out.ext HGP.out).q3
       have lnx := (BF1.out.ext HGP.out).lt
       clear rb0 rbk hdep
       go_simp
       exact HKX.out _ _ (HQX.out _ (ext_refl _)) (by unfold FrSR; rw [if_neg (by decide)]; exact ext_refl _) (upd_same _ _ _)
     · simp only [List.getElem?_toArray, List.getElem?_cons_succ, List.getElem?_cons_zero, Option.some.injEq] at ho
       subst ho
       have HKX := Lib.hid HK
       clear HK
       have p1 := (rb0 1 (by decide)).trans rq1
       have hNL : ¬ rL 4 := fun h => hnl (HCL.out 2 _ 1 rfl (HCL.out 3 _ 2 rfl (HCL.out 4 _ 3 rfl h (by kernel_rfl)) (by kernel_rfl)) (by kernel_rfl))
       have HGP := Lib.hid (HPRE.out hNL)
       obtain ⟨x0, x1, x2⟩ := (BF1.out.ext HGP.out).q3
       have lnx := (BF1.out.ext HGP.out).lt
       clear rb0 rbk hdep
       go_simp
       exact HKX.out _ _ (HQX.out _ (ext_refl _)) (by unfold FrSR; rw [if_neg (by decide)]; exact ext_refl _) (upd_same _ _ _)
     · simp only [List.getElem?_toArray, List.getElem?_cons_succ, List.getElem?_cons_zero, Option.some.injEq] at ho
       subst ho
       have HKX := Lib.hid HK
       clear HK
       have e1 : vs 16 = frV u lo A n c := (hdep 1 (by kernel_rfl)).2
       have rr1 := (rbk 16 (by decide)).trans e1
       have E1 := Lib.hid e1
       clear e1
       have hNL : ¬ rL 4 := fun h => hnl (HCL.out 3 _ 2 rfl (HCL.out 4 _ 3 rfl h (by kernel_rfl)) (by kernel_rfl))
       have HGP := Lib.hid (HPRE.out hNL)
       obtain ⟨x0, x1, x2⟩ := (BF1.out.ext HGP.out).q3
       have lnx := (BF1.out.ext HGP.out).lt
       clear rb0 rbk hdep
       go_simp
       refine (HNU.out _ (rdx H.out (ext_trans HG1.out HGP.out))).mono ?_
       rintro e w' ⟨rfl, hb⟩
       go_simp
       exact HKX.out _ _ (HQX.out _ hb) (by unfold FrSR; rw [if_neg (by decide)]; exact hb) (upd_same _ _ _)
     · simp only [List.getElem?_toArray, List.getElem?_cons_succ, List.getElem?_cons_zero, Option.some.injEq] at ho
       subst ho
       have HKX := Lib.hid HK
       clear HK
       have e0 : vs 15 = frV u lo A n c := (hdep 0 (by kernel_rfl)).2
       have rr0 := (rbk 15 (by decide)).trans e0
       have E0 := Lib.hid e0
       clear e0
       have e2 : vs 17 = .int .i64 N := (hdep 2 (by kernel_rfl)).2
       have rr2 := (rbk 17 (by decide)).trans e2
       have E2 := Lib.hid e2
       clear e2
       have hNL : ¬ rL 4 := fun h => hnl (HCL.out 4 _ 3 rfl h (by kernel_rfl))
       have HGP := Lib.hid (HPRE.out hNL)
       obtain ⟨x0, x1, x2⟩ := (BF1.out.ext HGP.out).q3
       have lnx := (BF1.out.ext HGP.out).lt
       clear rb0 rbk hdep
       go_simp
       refine (HSH.out _ (rdx H.out (ext_trans HG1.out HGP.out))).mono ?_
       rintro e w' ⟨A2, c2, rfl, hr5, hb⟩
       have hsx := HGW.out.size
       go_simp
       exact HKX.out _ _ (HQX.out _ hb) (by unfold FrSR; rw [if_neg (by decide)]; exact hb) (⟨A2, c2, upd_same _ _ _, own_base hr5 hsx⟩)
     · simp only [List.getElem?_toArray, List.getElem?_cons_succ, List.getElem?_cons_zero, Option.some.injEq] at ho
       subst ho
       have HKX := Lib.hid HK
       clear HK
       obtain ⟨A2, c2, e3, k3_0⟩ := (hdep 3 (by kernel_rfl)).2
       have rr3 := (rbk 18 (by decide)).trans e3
       have E3 := Lib.hid e3
       clear e3
       have K3_0 := Lib.hid k3_0
       clear k3_0
       have p2 := (rb0 2 (by decide)).trans rq2
       have hNL : ¬ rL 4 := hnl
       have HGP := Lib.hid (HPRE.out hNL)
       obtain ⟨x0, x1, x2⟩ := (BF1.out.ext HGP.out).q3
       have lnx := (BF1.out.ext HGP.out).lt
       have HBF := Lib.hid (HBX.out hnl)
       clear x0 x1 x2 lnx
       obtain ⟨yB0, yB1, yB2⟩ := HBF.out.q3
       obtain ⟨zB0, zB1, zB2⟩ := HBF.out.z3
       have hlr := HBF.out.lt
       clear rb0 rbk hdep
       go_simp
       have HKW := Lib.hid (keep3 (a0 := .int .i64 u) (a1 := .int .i64 lo) (a2 := .slice A2 n c2) HBF.out)
       exact HKX.out undef _ ⟨fill_below HGW.out hwR, by simpa using hsz, fun hn => (hn (.inl rfl)).elim, fun hn => (hn (.inl rfl)).elim⟩ (by unfold FrSR; rw [if_pos rfl]; exact HKW.out) ⟨A2, c2, fill_own' K3_0.out (own_nbT K3_0.out HBF.out (by decide)), fr_put HBF.out, hwR⟩
     · simp only [List.getElem?_toArray, List.getElem?_cons_succ, List.getElem?_cons_zero, Option.some.injEq] at ho
       subst ho
       have HKX := Lib.hid HK
       clear HK
       clear rb0 rbk hdep
       go_simp
       exact HKX.out _ _ (HQX.out _ (ext_refl _)) (by unfold FrSR; rw [if_neg (by decide)]; exact ext_refl _) (upd_same _ _ _)
   intro vs wx kk rL hI hkk hLt hall
   obtain ⟨_, A2, c2, hr2, hB2, _⟩ := hall 4 (by decide)
   obtain ⟨_, ev1⟩ := hall 5 (by decide)
   obtain ⟨hg2, _, _, _⟩ := hI
   have BR2 := Lib.hid hB2
   have HR2 := Lib.hid hr2
   have HB2 := Lib.hid hg2
   clear hLt hall hr2 hB2 hg2
   obtain ⟨r0, r1, r2⟩ := BR2.out.q3
   have lr := BR2.out.lt
   simp only [sl]
   (try rw [ev1])
   clear ev1
   simp only [Act.put, List.setIfInBounds_toArray, List.set_cons_succ, List.set_cons_zero]
   go_wp2
   refine bodyPost_ret (v := .tuple #[frV u lo A2 n c2, .bool true]) (by simp [results, Try.results16, go_sem, *]) rfl ?_
   exact ⟨A2, c2, by rw [HML.out], by rw [HML.out]; exact HR2.out, HB2.out⟩
set_option maxRecDepth 100000 in
set_option maxHeartbeats 8000000 in
theorem specMadeStd_any (u lo : Int) (A : Option Addr) (n c : Nat) (l : List R2) (w : World) (hn : n ≤ 1048576) (h : Reads w w.heap.size 2 A n (rowsV2 l)) :
 Calls Try.prog 17 #[frV u lo A n c] w (RetFrB w (msF u lo l) (msB u lo l)) := by
 have hl := rows_len2 h
 have H := Lib.hid h
 have BF0 := Lib.hid ((Blk.born w #[.int .i64 u, .int .i64 lo, .slice A n c] 26 (H := w.heap.size) rfl).al (.cells #[.int .i64 0, .int .i64 0, .slice none 0 0] 26))
 have BR0 := Lib.hid (Blk.born (w.alloc (.cells #[.int .i64 u, .int .i64 lo, .slice A n c] 26)) #[.int .i64 0, .int .i64 0, .slice none 0 0] 26 (H := w.heap.size + 1) (by simp))
 have HB0 := Lib.hid (ext_alloc (ext_alloc (ext_refl w) (.cells #[.int .i64 u, .int .i64 lo, .slice A n c] 26)) (.cells #[.int .i64 0, .int .i64 0, .slice none 0 0] 26))
 have HG := Lib.hid (fun w h => l2Good_any u lo A n c l w hn h)
 unfold RetFrB
 cases hf : frB u lo l
 · have hB : msB u lo l = false := by unfold msB; rw [hf]; rfl
   rw [show msF u lo l = (0, 0, []) by unfold msF; rw [if_neg (by rw [hB]; simp)], hB]
   rw [hf] at HG
   clear h hl hf hB
   go_enter Try.func17, Try.ntmps17
   go_wp2_with fail
   obtain ⟨W0, hW0⟩ : ∃ y : World, y = (w.alloc (.cells #[.int .i64 u, .int .i64 lo, .slice A n c] 26)).alloc (.cells #[.int .i64 0, .int .i64 0, .slice none 0 0] 26) := ⟨_, rfl⟩
   rw [← hW0] at HB0 BF0 BR0
   go_upto_region 1 with fail
   rw [← hW0]
   clear hW0
   obtain ⟨a0, a1, a2⟩ := BF0.out.q3
   have la := BF0.out.lt
   have HGL := Lib.hid (fun (m : Later W0) => HG.out m.world (rdx H.out (ext_trans HB0.out m.h)))
   (try unfold RetV at HGL)
   (refine wp_region_later (by kernel_rfl) (by kernel_rfl) ?_; (repeat (go_big_quiet_step (first | (go_at_call 49; with_reducible exact Calls.later_of (HGL.out _))))); refine wpQuiet_nil ?_; intro w1 hw1; obtain ⟨⟨wl, hb⟩, hw1'⟩ := hw1; simp only at hw1'; subst hw1')
   have BR := Lib.hid (BR0.out.ext hb)
   have HB := Lib.hid (ext_trans HB0.out hb)
   clear hb a0 a1 a2 la
   obtain ⟨r0, r1, r2⟩ := BR.out.q3
   obtain ⟨z0, z1, z2⟩ := BR.out.z3
   have lr := BR.out.lt
   go_wp2
   refine bodyPost_ret (v := .tuple #[frV 0 0 none 0 0, .bool false]) (by simp [results, Try.results17, go_sem, *]) rfl ?_
   exact ⟨none, 0, rfl, World.ownsRow_nil _ _ _ _, fill_below HB.out (Nat.le_succ _)⟩
 rw [hf] at HG
 have hn1 := (frB_head hf).2.2.1
 have hn8 := (frB_head hf).2.2.2
 rw [hl] at hn1 hn8
 have hnb := numR_bounds hf l.length
 rw [List.take_of_length_le (Nat.le_refl _)] at hnb
 have hp8 := pw_lt hn8
 have hp1 := pw_pos n
 have HNU := Lib.hid (fun w h => l2Number_any u lo A n c l w hf h)
 obtain ⟨N, hN⟩ : ∃ N, numR l = N := ⟨_, rfl⟩
 rw [hN] at HNU hnb
 have hN0 := hnb.1
 obtain ⟨fb, hfb⟩ : ∃ fb, inB N 0 (pw n - 1) = fb := ⟨_, rfl⟩
 have HFT := Lib.hid (fun w => l2Power_any (n : Int) n w rfl hn8)
 have eB : msB u lo l = fb := by unfold msB; rw [hf, hl, hN, hfb]; rfl
 obtain ⟨P, hP⟩ : ∃ P, pw n = P := ⟨_, rfl⟩
 rw [hP] at hp8 hp1 hfb
 (try rw [hP] at HFT)
 rw [eB]
 cases fb
 · rw [show msF u lo l = (0, 0, []) by unfold msF; rw [if_neg (by rw [eB]; simp)]]
   have hge : ¬ N < P := by have h9 := inB_no.1 hfb; omega
   have hgd : decide (P ≤ N) = true := decide_eq_true (by omega)
   clear h hl hf eB hN hfb hP
   go_enter Try.func17, Try.ntmps17
   go_wp2_with fail
   obtain ⟨W0, hW0⟩ : ∃ y : World, y = (w.alloc (.cells #[.int .i64 u, .int .i64 lo, .slice A n c] 26)).alloc (.cells #[.int .i64 0, .int .i64 0, .slice none 0 0] 26) := ⟨_, rfl⟩
   rw [← hW0] at HB0 BF0 BR0
   go_upto_region 1 with fail
   rw [← hW0]
   clear hW0
   obtain ⟨a0, a1, a2⟩ := BF0.out.q3
   have la := BF0.out.lt
   have HGL := Lib.hid (fun (m : Later W0) => HG.out m.world (rdx H.out (ext_trans HB0.out m.h)))
   have HNL := Lib.hid (fun (m : Later W0) => HNU.out m.world (rdx H.out (ext_trans HB0.out m.h)))
   have HFL := Lib.hid (fun (m : Later W0) => HFT.out m.world)
   (try unfold RetV at HGL)
   (refine wp_region_later (by kernel_rfl) (by kernel_rfl) ?_; (repeat (go_big_quiet_step (first | (go_at_call 49; with_reducible exact Calls.later_of (HGL.out _)) | (go_at_call 60; with_reducible exact Calls.later_of (HNL.out _)) | (go_at_call 61; with_reducible exact Calls.later_same (HFL.out _))))); refine wpQuiet_nil ?_; intro w1 hw1; obtain ⟨⟨wl, hb⟩, hw1'⟩ := hw1; simp only at hw1'; subst hw1')
   clear hgd
   have BR := Lib.hid (BR0.out.ext hb)
   have HB := Lib.hid (ext_trans HB0.out hb)
   clear hb a0 a1 a2 la
   obtain ⟨r0, r1, r2⟩ := BR.out.q3
   obtain ⟨z0, z1, z2⟩ := BR.out.z3
   have lr := BR.out.lt
   go_wp2
   refine bodyPost_ret (v := .tuple #[frV 0 0 none 0 0, .bool false]) (by simp [results, Try.results17, go_sem, *]) rfl ?_
   exact ⟨none, 0, rfl, World.ownsRow_nil _ _ _ _, fill_below HB.out (Nat.le_succ _)⟩
 · have hlt := inB_iff.1 hfb
   have hgd : decide (P ≤ N) = false := decide_eq_false (by omega)
   have hge : ¬ P ≤ N := by omega
   obtain ⟨m, hm⟩ : ∃ m, rodsD (digs n N) = m := ⟨_, rfl⟩
   have HML := Lib.hid (show m.length = n by rw [← hm, rodsD_len]; simp [digs])
   have HSH := Lib.hid (fun w => l2For_any u lo n N w hn8 hn1 hN0 (by omega))
   rw [show forL n N n = m by rw [← hm]; unfold forL rodsD digs; rw [List.map_map]; rfl] at HSH
   unfold RetFor at HSH
   rw [HML.out] at HSH
   rw [show msF u lo l = (u, lo, m) by unfold msF; rw [if_pos eB, hl, hN, hm]]
   dsimp only
   clear h hl hf eB hN hfb hm hP
   go_enter Try.func17, Try.ntmps17
   go_wp2_with fail
   obtain ⟨W0, hW0⟩ : ∃ y : World, y = (w.alloc (.cells #[.int .i64 u, .int .i64 lo, .slice A n c] 26)).alloc (.cells #[.int .i64 0, .int .i64 0, .slice none 0 0] 26) := ⟨_, rfl⟩
   rw [← hW0] at HB0 BF0 BR0
   go_upto_region 1 with fail
   rw [← hW0]
   clear hW0
   obtain ⟨a0, a1, a2⟩ := BF0.out.q3
   have la := BF0.out.lt
   have HGL := Lib.hid (fun (m : Later W0) => HG.out m.world (rdx H.out (ext_trans HB0.out m.h)))
   have HNL := Lib.hid (fun (m : Later W0) => HNU.out m.world (rdx H.out (ext_trans HB0.out m.h)))
   have HFL := Lib.hid (fun (m : Later W0) => HFT.out m.world)
   (try unfold RetV at HGL)
   (refine wp_region_later (by kernel_rfl) (by kernel_rfl) ?_; (repeat (go_big_quiet_step (first | (go_at_call 49; with_reducible exact Calls.later_of (HGL.out _)) | (go_at_call 60; with_reducible exact Calls.later_of (HNL.out _)) | (go_at_call 61; with_reducible exact Calls.later_same (HFL.out _))))); refine wpQuiet_nil ?_; intro W1 hw1; obtain ⟨⟨wl, hb⟩, hw1'⟩ := hw1; simp only at hw1'; subst hw1')
   have BR1 := Lib.hid (BR0.out.ext hb)
   have BF1 := Lib.hid (BF0.out.ext hb)
   have HG1 := Lib.hid (ext_trans HB0.out hb)
   have hwR : w.heap.size ≤ w.heap.size + 1 := Nat.le_succ _
   clear hb a0 a1 a2 la hgd HGL HNL HFL BR0 BF0 HB0
   go_upto_region 3 with fail
   refine wp_region_m (by kernel_rfl) (by kernel_rfl) [3, 17, 18, 19, 20, 21, 22, 23, 24, 25, 26] FrTU (by kernel_rfl) (by decide) 27 (by kernel_rfl) (by simp) (fun ra0 => ra0.eval (.tmp 1) = .pointer (some ⟨w.heap.size, 0, none⟩) ∧ ra0.eval (.tmp 2) = .pointer (some ⟨w.heap.size + 1, 0, none⟩)) ⟨by kernel_rfl, by kernel_rfl⟩ FrTP (by kernel_rfl) (IExt w W1 10 10 (fun wx => Blk wx (w.heap.size + 1) 26 #[.int .i64 0, .int .i64 0, .slice none 0 0])) (FrTR 0 (w.heap.size + 1) w.heap.size u lo N A n c m) (fun jN vs wx => FrT w.heap.size 0 (w.heap.size + 1) w.heap.size u lo N A n c m vs wx jN) ⟨(HG1.out).drew, Nat.le_refl _, fun _ => (ext_refl _).drew, fun _ => BR1.out⟩ (fun _ _ _ _ _ _ h0 hd h1 h2 h3 => FrT_keep trivial h0 hd h1 h2 h3) ?_ ?_
   · intro ra0 hE ri ro ho Qx vs wx rb KX kk rL hI hkk hnl hLt hcl hdep rb0 rbk HK
     repeat (rename_i hz9; clear hz9)
     obtain ⟨rq1, rq2⟩ := hE
     have hi : ri < 12 := by
      rcases Nat.lt_or_ge ri 12 with h | h
      · exact h
      · rw [Array.getElem?_eq_none (by simpa using h)] at ho; cases ho
     have hkk : kk < 12 := by simpa using hkk
     obtain ⟨hGw, hsz, hpre, hBx⟩ := hI
     have HQ : ∀ w', Below wx.heap.size wx w' → IExt w W1 10 10 (fun wx => Blk wx (w.heap.size + 1) 26 #[.int .i64 0, .int .i64 0, .slice none 0 0]) (kk + 1) (fun j => j = ri ∨ rL j) w' := fun w' h3 => ⟨ext_trans hGw h3, Nat.le_trans hsz h3.size, fun hn => ext_trans (hpre (fun x => hn (.inr x))) h3, fun hn => (fun hB => hB.ext h3) (hBx (fun x => hn (.inr x)))⟩
     have HQX := Lib.hid HQ
     have HGW := Lib.hid hGw
     have HPRE := Lib.hid hpre
     have HBX := Lib.hid hBx
     have HCL := Lib.hid hcl
     clear HQ hGw hpre hBx hcl
     rcases (show ri = 0 ∨ ri = 1 ∨ ri = 2 ∨ ri = 3 ∨ ri = 4 ∨ ri = 5 ∨ ri = 6 ∨ ri = 7 ∨ ri = 8 ∨ ri = 9 ∨ ri = 10 ∨ ri = 11 by omega) with rfl | rfl | rfl | rfl | rfl | rfl | rfl | rfl | rfl | rfl | rfl | rfl
     · simp only [List.getElem?_toArray, List.getElem?_cons_succ, List.getElem?_cons_zero, Option.some.injEq] at ho
       subst ho
       have HKX := Lib.hid HK
       clear HK
       have p1 := (rb0 1 (by decide)).trans rq1
       clear rb0 rbk hdep
       go_simp
       exact HKX.out _ _ (HQX.out _ (ext_refl _)) (by unfold FrTR; rw [if_neg (by decide)]; exact ext_refl _) (upd_same _ _ _)
     · simp only [List.getElem?_toArray, List.getElem?_cons_succ, List.getElem?_cons_zero, Option.some.injEq] at ho
       subst ho
       have HKX := Lib.hid HK
       clear HK
       have e0 : vs 17 = .pointer (some ⟨w.heap.size, 0, none⟩) := (hdep 0 (by kernel_rfl)).2
       have rr0 := (rbk 17 (by decide)).trans e0
       have E0 := Lib.hid e0
       clear e0
       have hNL : ¬ rL 10 := fun h => hnl (HCL.out 9 _ 1 rfl (HCL.out 10 _ 9 rfl h (by kernel_rfl)) (by kernel_rfl))
       have HGP := Lib.hid (HPRE.out hNL)
       obtain ⟨x0, x1, x2⟩ := (BF1.out.ext HGP.out).q3
       have lnx := (BF1.out.ext HGP.out).lt
       clear rb0 rbk hdep
       go_simp
       exact HKX.out _ _ (HQX.out _ (ext_refl _)) (by unfold FrTR; rw [if_neg (by decide)]; exact ext_refl _) (upd_same _ _ _)
     · simp only [List.getElem?_toArray, List.getElem?_cons_succ, List.getElem?_cons_zero, Option.some.injEq] at ho
       subst ho
       have HKX := Lib.hid HK
       clear HK
       have p1 := (rb0 1 (by decide)).trans rq1
       clear rb0 rbk hdep
       go_simp
       exact HKX.out _ _ (HQX.out _ (ext_refl _)) (by unfold FrTR; rw [if_neg (by decide)]; exact ext_refl _) (upd_same _ _ _)
     · simp only [List.getElem?_toArray, List.getElem?_cons_succ, List.getElem?_cons_zero, Option.some.injEq] at ho
       subst ho
       have HKX := Lib.hid HK
       clear HK
       have e2 : vs 19 = .pointer (some ⟨w.heap.size, 1, none⟩) := (hdep 2 (by kernel_rfl)).2
       have rr2 := (rbk 19 (by decide)).trans e2
       have E2 := Lib.hid e2
       clear e2
       have hNL : ¬ rL 10 := fun h => hnl (HCL.out 9 _ 3 rfl (HCL.out 10 _ 9 rfl h (by kernel_rfl)) (by kernel_rfl))
       have HGP := Lib.hid (HPRE.out hNL)
       obtain ⟨x0, x1, x2⟩ := (BF1.out.ext HGP.out).q3
       have lnx := (BF1.out.ext HGP.out).lt
       clear rb0 rbk hdep
       go_simp
       exact HKX.out _ _ (HQX.out _ (ext_refl _)) (by unfold FrTR; rw [if_neg (by decide)]; exact ext_refl _) (upd_same _ _ _)
     · simp only [List.getElem?_toArray, List.getElem?_cons_succ, List.getElem?_cons_zero, Option.some.injEq] at ho
       subst ho
       have HKX := Lib.hid HK
       clear HK
       have p1 := (rb0 1 (by decide)).trans rq1
       clear rb0 rbk hdep
       go_simp
       exact HKX.out _ _ (HQX.out _ (ext_refl _)) (by unfold FrTR; rw [if_neg (by decide)]; exact ext_refl _) (upd_same _ _ _)
     · simp only [List.getElem?_toArray, List.getElem?_cons_succ, List.getElem?_cons_zero, Option.some.injEq] at ho
       subst ho
       have HKX := Lib.hid HK
       clear HK
       have e4 : vs 21 = .pointer (some ⟨w.heap.size, 2, none⟩) := (hdep 4 (by kernel_rfl)).2
       have rr4 := (rbk 21 (by decide)).trans e4
       have E4 := Lib.hid e4
       clear e4
       have hNL : ¬ rL 10 := fun h => hnl (HCL.out 6 _ 5 rfl (HCL.out 9 _ 6 rfl (HCL.out 10 _ 9 rfl h (by kernel_rfl)) (by kernel_rfl)) (by kernel_rfl))
       have HGP := Lib.hid (HPRE.out hNL)
       obtain ⟨x0, x1, x2⟩ := (BF1.out.ext HGP.out).q3
       have lnx := (BF1.out.ext HGP.out).lt
       clear rb0 rbk hdep
       go_simp
       exact HKX.out _ _ (HQX.out _ (ext_refl _)) (by unfold FrTR; rw [if_neg (by decide)]; exact ext_refl _) (upd_same _ _ _)
     · simp only [List.getElem?_toArray, List.getElem?_cons_succ, List.getElem?_cons_zero, Option.some.injEq] at ho
       subst ho
       have HKX := Lib.hid HK
       clear HK
       have e5 : vs 22 = .slice A n c := (hdep 5 (by kernel_rfl)).2
       have rr5 := (rbk 22 (by decide)).trans e5
       have E5 := Lib.hid e5
       clear e5
       clear rb0 rbk hdep
       go_simp
       exact HKX.out _ _ (HQX.out _ (ext_refl _)) (by unfold FrTR; rw [if_neg (by decide)]; exact ext_refl _) (upd_same _ _ _)
     · simp only [List.getElem?_toArray, List.getElem?_cons_succ, List.getElem?_cons_zero, Option.some.injEq] at ho
       subst ho
       have HKX := Lib.hid HK
       clear HK
       have p1 := (rb0 1 (by decide)).trans rq1
       have hNL : ¬ rL 10 := fun h => hnl (HCL.out 8 _ 7 rfl (HCL.out 9 _ 8 rfl (HCL.out 10 _ 9 rfl h (by kernel_rfl)) (by kernel_rfl)) (by kernel_rfl))
       have HGP := Lib.hid (HPRE.out hNL)
       obtain ⟨x0, x1, x2⟩ := (BF1.out.ext HGP.out).q3
       have lnx := (BF1.out.ext HGP.out).lt
       clear rb0 rbk hdep
       go_simp
       exact HKX.out _ _ (HQX.out _ (ext_refl _)) (by unfold FrTR; rw [if_neg (by decide)]; exact ext_refl _) (upd_same _ _ _)
     · simp only [List.getElem?_toArray, List.getElem?_cons_succ, List.getElem?_cons_zero, Option.some.injEq] at ho
       subst ho
       have HKX := Lib.hid HK
       clear HK
       have e7 : vs 24 = frV u lo A n c := (hdep 7 (by kernel_rfl)).2
       have rr7 := (rbk 24 (by decide)).trans e7
       have E7 := Lib.hid e7
       clear e7
       have hNL : ¬ rL 10 := fun h => hnl (HCL.out 9 _ 8 rfl (HCL.out 10 _ 9 rfl h (by kernel_rfl)) (by kernel_rfl))
       have HGP := Lib.hid (HPRE.out hNL)
       obtain ⟨x0, x1, x2⟩ := (BF1.out.ext HGP.out).q3
       have lnx := (BF1.out.ext HGP.out).lt
       clear rb0 rbk hdep
       go_simp
       refine (HNU.out _ (rdx H.out (ext_trans HG1.out HGP.out))).mono ?_
       rintro e w' ⟨rfl, hb⟩
       go_simp
       exact HKX.out _ _ (HQX.out _ hb) (by unfold FrTR; rw [if_neg (by decide)]; exact hb) (upd_same _ _ _)
     · simp only [List.getElem?_toArray, List.getElem?_cons_succ, List.getElem?_cons_zero, Option.some.injEq] at ho
       subst ho
       have HKX := Lib.hid HK
       clear HK
       have e1 : vs 18 = .int .i64 u := (hdep 1 (by kernel_rfl)).2
       have rr1 := (rbk 18 (by decide)).trans e1
       have E1 := Lib.hid e1
       clear e1
       have e3 : vs 20 = .int .i64 lo := (hdep 3 (by kernel_rfl)).2
       have rr3 := (rbk 20 (by decide)).trans e3
       have E3 := Lib.hid e3
       clear e3
       have e6 : vs 23 = .int .i64 (n : Int) := (hdep 6 (by kernel_rfl)).2
       have rr6 := (rbk 23 (by decide)).trans e6
       have E6 := Lib.hid e6
       clear e6
       have e8 : vs 25 = .int .i64 N := (hdep 8 (by kernel_rfl)).2
       have rr8 := (rbk 25 (by decide)).trans e8
       have E8 := Lib.hid e8
       clear e8
       have hNL : ¬ rL 10 := fun h => hnl (HCL.out 10 _ 9 rfl h (by kernel_rfl))
       have HGP := Lib.hid (HPRE.out hNL)
       obtain ⟨x0, x1, x2⟩ := (BF1.out.ext HGP.out).q3
       have lnx := (BF1.out.ext HGP.out).lt
       clear rb0 rbk hdep
       go_simp
       refine (HSH.out _).mono ?_
       rintro e w' ⟨A2, c2, rfl, hr5, hb⟩
       have hsx := HGW.out.size
       go_simp
       exact HKX.out _ _ (HQX.out _ hb) (by unfold FrTR; rw [if_neg (by decide)]; exact hb) (⟨A2, c2, upd_same _ _ _, own_base hr5 hsx⟩)
     · simp only [List.getElem?_toArray, List.getElem?_cons_succ, List.getElem?_cons_zero, Option.some.injEq] at ho
       subst ho
       have HKX := Lib.hid HK
       clear HK
       obtain ⟨A2, c2, e9, k9_0⟩ := (hdep 9 (by kernel_rfl)).2
       have rr9 := (rbk 26 (by decide)).trans e9
       have E9 := Lib.hid e9
       clear e9
       have K9_0 := Lib.hid k9_0
       clear k9_0
       have p2 := (rb0 2 (by decide)).trans rq2
       have hNL : ¬ rL 10 := hnl
       have HGP := Lib.hid (HPRE.out hNL)
       obtain ⟨x0, x1, x2⟩ := (BF1.out.ext HGP.out).q3
       have lnx := (BF1.out.ext HGP.out).lt
       have HBF := Lib.hid (HBX.out hnl)
       clear x0 x1 x2 lnx
       obtain ⟨yB0, yB1, yB2⟩ := HBF.out.q3
       obtain ⟨zB0, zB1, zB2⟩ := HBF.out.z3
       have hlr := HBF.out.lt
       clear rb0 rbk hdep
       go_simp
       have HKW := Lib.hid (keep3 (a0 := .int .i64 u) (a1 := .int .i64 lo) (a2 := .slice A2 n c2) HBF.out)
       exact HKX.out undef _ ⟨fill_below HGW.out hwR, by simpa using hsz, fun hn => (hn (.inl rfl)).elim, fun hn => (hn (.inl rfl)).elim⟩ (by unfold FrTR; rw [if_pos rfl]; exact HKW.out) ⟨A2, c2, fill_own' K9_0.out (own_nbT K9_0.out HBF.out (by decide)), fr_put HBF.out, hwR⟩
     · simp only [List.getElem?_toArray, List.getElem?_cons_succ, List.getElem?_cons_zero, Option.some.injEq] at ho
       subst ho
       have HKX := Lib.hid HK
       clear HK
       clear rb0 rbk hdep
       go_simp
       exact HKX.out _ _ (HQX.out _ (ext_refl _)) (by unfold FrTR; rw [if_neg (by decide)]; exact ext_refl _) (upd_same _ _ _)
   intro vs wx kk rL hI hkk hLt hall
   obtain ⟨_, A2, c2, hr2, hB2, _⟩ := hall 10 (by decide)
   obtain ⟨_, ev1⟩ := hall 11 (by decide)
   obtain ⟨hg2, _, _, _⟩ := hI
   have BR2 := Lib.hid hB2
   have HR2 := Lib.hid hr2
   have HB2 := Lib.hid hg2
   clear hLt hall hr2 hB2 hg2
   obtain ⟨r0, r1, r2⟩ := BR2.out.q3
   have lr := BR2.out.lt
   simp only [sl]
   (try rw [ev1])
   clear ev1
   simp only [Act.put, List.setIfInBounds_toArray, List.set_cons_succ, List.set_cons_zero]
   go_wp2
   refine bodyPost_ret (v := .tuple #[frV u lo A2 n c2, .bool true]) (by simp [results, Try.results17, go_sem, *]) rfl ?_
   exact ⟨A2, c2, by rw [HML.out], by rw [HML.out]; exact HR2.out, HB2.out⟩
end Go.Proofs.Ytfmenkhfhibmeaa
