/- The drawings of the laws of scripts. -/
import Derived.Test.YtihljhikhplegaaVM1
import Derived.Test.YtihljhikhplegaaVFdC
import Derived.Test.YtihljhikhplegaaVRuC
import Derived.Test.YtihljhikhplegaaVRuE
import Derived.Test.YtihljhikhplegaaVM6
import Derived.Test.YtihljhikhplegaaVM4
namespace Go.Proofs.Ytihljhikhplegaa
open Go.RowKit
set_option linter.unusedVariables false
set_option linter.unusedSimpArgs false
/-- what lies behind a cursor's box that is new -/
theorem cur0 {w : World} {n : Nat} {A : Option Addr} (h : Code w w.heap.size A n) (hn : n ≤ 65536) (c : Nat) : CurAt (w.alloc (.cells #[.slice A n c, .int .i64 0, .int .u64 0] 54)) w.heap.size 0 := h.cur (by omega) c
set_option maxRecDepth 100000 in
set_option maxHeartbeats 2000000 in
theorem drawIsScript_any (A : Option Addr) (n c : Nat) (w : World) (h : Code w w.heap.size A n) (hn : n ≤ 65536) :
 Calls Try.prog 33 #[.slice A n c] w fun e w' => ∃ s : ByteArray, e = .returned (.string s) ∧ s.size ≤ 100 ∧ Below w.heap.size w w' := by
 have HC := Lib.hid (cur0 h hn c)
 have hbx := Lib.hid (ext_alloc (ext_refl w) (.cells #[.slice A n c, .int .i64 0, .int .u64 0] 54))
 clear h
 go_enter Try.func33, Try.ntmps33
 go_wp2_with fail
 refine (one_any _ 0 5 _ HC.out (by omega) (by omega) (by omega)).mono ?_
 rintro e w1 ⟨B, a1, rfl, ha1, hc1, hg1⟩
 have HC1 := Lib.hid hc1
 have HB1 := Lib.hid (Gr.below hbx.out hg1 (Nat.le_refl _))
 clear hc1 hg1
 cases B
 · go_wp2_with fail
   refine (script_any _ a1 _ HC1.out (by omega)).mono ?_
   rintro e w2 ⟨s, a2, rfl, hs, ha2, hc2, hg2⟩
   have HB2 := Lib.hid (Gr.below HB1.out hg2 (Nat.le_refl _))
   clear hc2 hg2
   go_wp2
   go_ret
   exact ⟨s, rfl, hs, HB2.out⟩
 · go_wp2_with fail
   refine (of_lit _ a1 100 [⟨#[]⟩, ⟨#[32]⟩, ⟨#[43, 48]⟩, ⟨#[43, 49, 48]⟩, ⟨#[49, 43, 51]⟩, ⟨#[50, 50, 60]⟩, ⟨#[60, 60]⟩, ⟨#[99, 32]⟩, ⟨#[57, 99]⟩, ⟨#[43]⟩, ⟨#[50]⟩] 9 _ HC1.out (by omega) (by decide) (by decide) (by decide) _ rfl rfl).mono ?_
   rintro e w2 ⟨s, a2, rfl, hs, ha2, hc2, hg2⟩
   have HB2 := Lib.hid (Gr.below HB1.out hg2 (Nat.le_refl _))
   clear hc2 hg2
   go_wp2
   go_ret
   exact ⟨s, rfl, hs, HB2.out⟩
theorem drawInverseScript_any (A : Option Addr) (n c : Nat) (w : World) (h : Code w w.heap.size A n) (hn : n ≤ 65536) :
 Calls Try.prog 23 #[.slice A n c] w fun e w' => ∃ s : ByteArray, e = .returned (.string s) ∧ s.size ≤ 100 ∧ Below w.heap.size w w' := by
 go_enter Try.func23, Try.ntmps23
 go_wp2_with fail
 refine (drawIsScript_any A n c _ h hn).mono ?_
 rintro e w1 ⟨s, rfl, hs, hb⟩
 go_wp2
 go_ret
 exact ⟨s, rfl, hs, hb⟩
theorem drawWordsOf_any (A : Option Addr) (n c : Nat) (w : World) (h : Code w w.heap.size A n) (hn : n ≤ 65536) :
 Calls Try.prog 30 #[.slice A n c] w fun e w' => ∃ s : ByteArray, e = .returned (.string s) ∧ s.size ≤ 100 ∧ Below w.heap.size w w' := by
 go_enter Try.func30, Try.ntmps30
 go_wp2_with fail
 refine (drawIsScript_any A n c _ h hn).mono ?_
 rintro e w1 ⟨s, rfl, hs, hb⟩
 go_wp2
 go_ret
 exact ⟨s, rfl, hs, hb⟩
set_option maxRecDepth 100000 in
set_option maxHeartbeats 2000000 in
theorem drawEndRod_any (A : Option Addr) (n c : Nat) (w : World) (h : Code w w.heap.size A n) (hn : n ≤ 65536) :
 Calls Try.prog 27 #[.slice A n c] w fun e w' => ∃ (s : ByteArray) (z : Int), e = .returned (.tuple #[.string s, .int .i64 z]) ∧ s.size ≤ 100 ∧ 0 ≤ z ∧ z ≤ 9 ∧ Below w.heap.size w w' := by
 have HC := Lib.hid (cur0 h hn c)
 have hbx := Lib.hid (ext_alloc (ext_refl w) (.cells #[.slice A n c, .int .i64 0, .int .u64 0] 54))
 clear h
 go_enter Try.func27, Try.ntmps27
 go_wp2_with fail
 refine (script_any _ 0 _ HC.out (by omega)).mono ?_
 rintro e w1 ⟨s, a1, rfl, hs, ha1, hc1, hg1⟩
 have HC1 := Lib.hid hc1
 have HB1 := Lib.hid (Gr.below hbx.out hg1 (Nat.le_refl _))
 clear hc1 hg1
 go_wp2_with fail
 refine (among_lit _ a1 0 9 [1, 2, 3, 5, 8, 0, 9] 3 _ HC1.out (by omega) (by decide) (by decide) (by decide) _ rfl (by simp)).mono ?_
 rintro e w2 ⟨z, a2, rfl, z0, z9, ha2, hc2, hg2⟩
 have HB2 := Lib.hid (Gr.below HB1.out hg2 (Nat.le_refl _))
 clear hc2 hg2
 go_wp2
 go_ret2
 exact ⟨s, z, rfl, hs, z0, z9, HB2.out⟩
set_option maxRecDepth 100000 in
set_option maxHeartbeats 2000000 in
theorem drawScriptFor_any (A : Option Addr) (n c : Nat) (w : World) (h : Code w w.heap.size A n) (hn : n ≤ 65536) :
 Calls Try.prog 18 #[.slice A n c] w fun e w' => ∃ (z : Int), e = .returned (.int .i64 z) ∧ -1 ≤ z ∧ z ≤ 100000000 ∧ Below w.heap.size w w' := by
 have HC := Lib.hid (cur0 h hn c)
 have hbx := Lib.hid (ext_alloc (ext_refl w) (.cells #[.slice A n c, .int .i64 0, .int .u64 0] 54))
 clear h
 go_enter Try.func18, Try.ntmps18
 go_wp2_with fail
 refine (among_lit _ 0 (-1) 100000000 [0, 5, 10, 384, 1000, 10203, 99999999, 100000000, -1, 60] 3 _ HC.out (by omega) (by decide) (by decide) (by decide) _ rfl (by simp)).mono ?_
 rintro e w2 ⟨z, a2, rfl, z0, z9, ha2, hc2, hg2⟩
 have HB2 := Lib.hid (Gr.below hbx.out hg2 (Nat.le_refl _))
 clear hc2 hg2
 go_wp2
 go_ret
 exact ⟨z, rfl, z0, z9, HB2.out⟩
def DrawSF (w : World) (e : Ending) (w' : World) : Prop := ∃ (s : ByteArray) (u lo : Int) (l : List R2) (A : Option Addr) (c : Nat), e = .returned (.tuple #[.string s, frV u lo A l.length c]) ∧ s.size ≤ 100 ∧ FrIn u lo l ∧ w'.ownsRow w.heap.size 96 2 (.slice A l.length c) l.length (rowsV2 l) ∧ Below w.heap.size w w'
set_option maxRecDepth 100000 in
set_option maxHeartbeats 4000000 in
theorem drawRunRules_any (Ac : Option Addr) (nc cc : Nat) (w : World) (h : Code w w.heap.size Ac nc) (hn : nc ≤ 65536) :
 Calls Try.prog 6 #[.slice Ac nc cc] w (DrawSF w) := by
 have HC := Lib.hid (h.cur1 (by omega) cc (.cells #[.int .i64 0, .int .i64 0, .slice none 0 0] 26))
 have BR0 := Lib.hid ((Blk.born w #[.int .i64 0, .int .i64 0, .slice none 0 0] 26 (H := w.heap.size) rfl).al (.cells #[.slice Ac nc cc, .int .i64 0, .int .u64 0] 54))
 have hbx := Lib.hid (ext_alloc (ext_alloc (ext_refl w) (.cells #[.int .i64 0, .int .i64 0, .slice none 0 0] 26)) (.cells #[.slice Ac nc cc, .int .i64 0, .int .u64 0] 54))
 clear h
 go_enter Try.func6, Try.ntmps6
 go_wp2_with fail
 refine (script_any _ 0 _ HC.out (by omega)).mono ?_
 rintro e w1 ⟨s, a1, rfl, hs, ha1, hc1, hg1⟩
 have HC1 := Lib.hid hc1
 have BR1 := Lib.hid (BR0.out.gr hg1 (by omega))
 have HB1 := Lib.hid (Gr.below hbx.out hg1 (Nat.le_succ _))
 clear hc1 hg1
 go_wp2_with fail
 refine (stdFrame_any _ a1 _ HC1.out (by omega)).mono ?_
 rintro e w2 ⟨u, lo, l, A, c, a2, rfl, hIN, ha2, ho2, hc2, hg2⟩
 have BR2 := Lib.hid (BR1.out.gr hg2 (by omega))
 have HR2 := Lib.hid (own_base (base' := w.heap.size) ho2 HB1.out.size)
 have HB2 := Lib.hid (Gr.below HB1.out hg2 (Nat.le_succ _))
 have HIN := Lib.hid hIN
 clear ho2 hc2 hg2 hIN
 obtain ⟨r0, r1, r2⟩ := BR2.out.q3
 obtain ⟨y0, y1, y2⟩ := BR2.out.z3
 have lr := BR2.out.lt
 go_wp2
 refine bodyPost_ret (v := .tuple #[.string s, frV u lo A l.length c]) (by simp [results, Try.results6, go_sem, *]) rfl ?_
 exact ⟨s, u, lo, l, A, c, rfl, hs, HIN.out, fill_own' HR2.out (own_nbT HR2.out BR2.out (by decide)), fill_below HB2.out (Nat.le_refl _)⟩
set_option maxRecDepth 100000 in
set_option maxHeartbeats 4000000 in
theorem drawFirstFailure_any (Ac : Option Addr) (nc cc : Nat) (w : World) (h : Code w w.heap.size Ac nc) (hn : nc ≤ 65536) :
 Calls Try.prog 32 #[.slice Ac nc cc] w (DrawSF w) := by
 have hbx := Lib.hid (ext_alloc (ext_refl w) (.cells #[.int .i64 0, .int .i64 0, .slice none 0 0] 26))
 have BR0 := Lib.hid (Blk.born w #[.int .i64 0, .int .i64 0, .slice none 0 0] 26 (H := w.heap.size) rfl)
 have HC := Lib.hid ((h.below hbx.out).more hbx.out.size)
 clear h
 go_enter Try.func32, Try.ntmps32
 go_wp2_with fail
 refine (drawRunRules_any Ac nc cc _ HC.out hn).mono ?_
 rintro e w2 ⟨s, u, lo, l, A, c, rfl, hs, hIN, ho2, hb2⟩
 have BR2 := Lib.hid (BR0.out.ext hb2)
 have HR2 := Lib.hid (own_base (base' := w.heap.size) ho2 hbx.out.size)
 have HB2 := Lib.hid (ext_trans hbx.out hb2)
 have HIN := Lib.hid hIN
 clear ho2 hb2 hIN
 obtain ⟨r0, r1, r2⟩ := BR2.out.q3
 obtain ⟨y0, y1, y2⟩ := BR2.out.z3
 have lr := BR2.out.lt
 go_wp2
 refine bodyPost_ret (v := .tuple #[.string s, frV u lo A l.length c]) (by simp [results, Try.results32, go_sem, *]) rfl ?_
 exact ⟨s, u, lo, l, A, c, rfl, hs, HIN.out, fill_own' HR2.out (own_nbT HR2.out BR2.out (by decide)), fill_below HB2.out (Nat.le_refl _)⟩
end Go.Proofs.Ytihljhikhplegaa
namespace Go.Proofs.Ytihljhikhplegaa
open Go.RowKit
set_option linter.unusedVariables false
set_option linter.unusedSimpArgs false
set_option maxRecDepth 100000 in
set_option maxHeartbeats 2000000 in
theorem l15Times_any (s : ByteArray) (x : RW) (w : World) (hs : s.size ≤ 80) (hx : wordO (bl s) = some x) :
 Calls Try.prog 57 #[.string s] w fun e w' => ∃ p : ByteArray, e = .returned (.tuple #[.int .i64 (x.times : Int), .string p]) ∧ plainO (bl p) = some (x.what, x.digit) ∧ p.size ≤ 80 ∧ Below w.heap.size w w' := by
 rcases (show s.size = 0 ∨ 0 < s.size by omega) with hz | hp0
 · rw [(List.length_eq_zero_iff (l := bl s)).1 (by rw [bl_size]; exact hz)] at hx
   cases hx
 by_cases hrep : (50 ≤ (s[0]'hp0).toNat ∧ (s[0]'hp0).toNat ≤ 57) ∧ 1 < s.size
 · obtain ⟨⟨hr1, hr2⟩, hs1⟩ := hrep
   rw [wordO_rep hs1 hr1 hr2] at hx
   rcases hpl : plainO ((bl s).drop 1) with _ | ⟨a, b⟩
   · rw [hpl] at hx; cases hx
   rw [hpl] at hx
   injection hx with hx
   have HX := Lib.hid hx
   have HPL := Lib.hid (show plainO (bl (s.extract 1 s.size)) = some (a, b) by rw [bl_extract, List.take_of_length_le (by rw [bl_size]; exact Nat.le_refl _)]; exact hpl)
   have hpb := l15Plain_b s false
   have HPB := Lib.hid (fun w => l15Plain_b s false w hs (by rw [rep_not hr1 hr2]; rfl))
   have hsz : (s.extract 1 s.size).size ≤ 80 := by rw [ByteArray.size_extract]; omega
   have hv : (((s[0]'hp0).toNat - 48 : Nat) : Int) = ((s[0]'hp0).toNat : Int) - 48 := by omega
   have HV := Lib.hid hv
   have HSZ := Lib.hid hsz
   clear hx hpl hpb hv hsz
   go_enter Try.func57, Try.ntmps57
   go_wp2_with fail
   refine (HPB.out _).mono ?_
   rintro e w1 ⟨rfl, hb1⟩
   go_wp2
   (refine wp_region_later (by kernel_rfl) (by kernel_rfl) ?_; (repeat (go_big_quiet_step (fail))); refine wpQuiet_nil ?_; intro w1 hw1; obtain ⟨⟨wl, hbL⟩, hw1'⟩ := hw1; simp only at hw1'; subst hw1'; obtain ⟨hcL, hfL⟩ := bcell hbL)
   go_wp2
   go_ret2
   rw [← HX.out]
   exact ⟨s.extract 1 s.size, by dsimp only; rw [HV.out]; rfl, HPL.out, HSZ.out, ext_trans hb1 hbL⟩
 · rw [wordO_one hp0 hrep] at hx
   rcases hpl : plainO (bl s) with _ | ⟨a, b⟩
   · rw [hpl] at hx; cases hx
   rw [hpl] at hx
   injection hx with hx
   have HX := Lib.hid hx
   have HPB := Lib.hid (fun w => l15Plain_b s true w hs (by rw [hpl]; rfl))
   have HPL := Lib.hid hpl
   clear hx hpl
   go_enter Try.func57, Try.ntmps57
   go_wp2_with fail
   refine (HPB.out _).mono ?_
   rintro e w1 ⟨rfl, hb1⟩
   go_wp2
   go_ret2
   rw [← HX.out]
   exact ⟨s, rfl, HPL.out, hs, hb1⟩
theorem stO_fresh (n : Nat) (x : RW) (s : WS) (r : Nat) : stO n x (s, r) = (stO n x (⟨s.ds, [], 0⟩, r)).map fun q => (⟨q.1.ds, s.ms ++ q.1.ms, s.ask + q.1.ask⟩, q.2) := by
 unfold stO
 dsimp only
 split
 · split <;> simp
 split
 · split <;> simp
 split
 · simp
 split
 · split
   · rw [addS_pile0 (r + 1) x.digit s]; rfl
   · rfl
 · split
   · rw [takeS_pile0 (r + 1) x.digit s]; rfl
   · rfl
theorem l2Rod_yes (u lo : Int) (A : Option Addr) (n c r : Nat) (l : List R2) (w : World) (hf : frB u lo l = true) (hr : r < n) (h : Reads w w.heap.size 2 A n (rowsV2 l)) :
 Calls Try.prog 97 #[frV u lo A n c, .int .i64 (r : Int)] w (RetV (.bool true) w) := by
 have hl := rows_len2 h
 obtain ⟨_, _, hn1, hn8⟩ := frB_head hf
 rw [hl] at hn1 hn8
 have H := Lib.hid h
 have HF := Lib.hid hf
 have hin := inB_iff.2 (show (0 : Int) ≤ (r : Int) ∧ (r : Int) ≤ (n : Int) - 1 by omega)
 clear h hf hl
 go_enter Try.func97, Try.ntmps97
 go_wp2_with fail
 refine (l2Good_any u lo A n c l _ (by omega) (rdx H.out (ext_alloc (ext_refl w) _))).mono ?_
 rw [HF.out]
 rintro e w1 ⟨rfl, hb1⟩
 obtain ⟨BF, hb2, hs2⟩ := box_frame (by simpa using hb1)
 have hb2 := Lib.hid hb2
 obtain ⟨d0, d1, d2⟩ := BF.q3
 clear BF hb1
 go_wp2_with fail
 refine (l1In_b _ _ _ _ _ hin).mono ?_
 rintro e w2 ⟨rfl, hb3⟩
 go_wp2
 go_ret
 exact ⟨rfl, ext_trans hb2.out hb3⟩
set_option maxRecDepth 100000 in
set_option maxHeartbeats 2000000 in
theorem setRod_yes (B : Nat) (u lo : Int) (A : Option Addr) (n c r : Nat) (l : List R2) (w : World) (hf : frB u lo l = true) (hr : r < n) (h : Reads w w.heap.size 2 A n (rowsV2 l)) :
 Calls Try.prog 83 #[frV u lo A n c, .int .i64 (r : Int), .int .i64 0] w (RetFrB w (u, lo, l.set r (rodD 0)) true) := by
 have hl := rows_len2 h
 obtain ⟨_, _, hn1, hn8⟩ := frB_head hf
 rw [hl] at hn1 hn8
 have hn : n ≤ 1048576 := by omega
 have H := Lib.hid h
 have HF := Lib.hid hf
 have HL := Lib.hid hl
 obtain ⟨x, hx⟩ := list_split (l := l) (k := r) (by omega)
 have HX := Lib.hid hx
 have hset := Lib.hid (rowsV2_set l r (rodD 0) (by omega))
 have BF0 := Lib.hid ((Blk.born w #[.int .i64 u, .int .i64 lo, .slice A n c] 26 (H := w.heap.size) rfl).al (.cells #[.int .i64 0, .int .i64 0, .slice none 0 0] 26))
 have BR0 := Lib.hid (Blk.born (w.alloc (.cells #[.int .i64 u, .int .i64 lo, .slice A n c] 26)) #[.int .i64 0, .int .i64 0, .slice none 0 0] 26 (H := w.heap.size + 1) (by simp))
 have hbx := Lib.hid (ext_alloc (ext_alloc (ext_refl w) (.cells #[.int .i64 u, .int .i64 lo, .slice A n c] 26)) (.cells #[.int .i64 0, .int .i64 0, .slice none 0 0] 26))
 have hin := inB_iff.2 (show (0 : Int) ≤ (r : Int) ∧ (r : Int) ≤ (n : Int) - 1 by omega)
 clear h hf hl hx
 go_enter Try.func83, Try.ntmps83
 go_wp2_with fail
 refine (l2Rod_yes u lo A n c r l _ HF.out hr (rdx H.out hbx.out)).mono ?_
 rintro e w1 ⟨rfl, hb1⟩
 have BF1 := Lib.hid (BF0.out.ext hb1)
 have BR1 := Lib.hid (BR0.out.ext hb1)
 have hb2 := Lib.hid (ext_trans hbx.out hb1)
 clear hb1
 go_wp2_with fail
 refine (l1In_b _ _ _ true _ (by decide)).mono ?_
 rintro e w1' ⟨rfl, hb1⟩
 have BR2 := Lib.hid (BR1.out.ext hb1)
 obtain ⟨f0, f1, f2⟩ := (BF1.out.ext hb1).q3
 have hb3 := Lib.hid (ext_trans hb2.out hb1)
 clear hb1
 go_wp2_with fail
 refine (l2Own_fr u lo A n c l _ hn1 hn (rdx H.out hb3.out)).mono ?_
 rintro e w2 ⟨h, cr, rfl, hr2, hb4⟩
 have hr2 := Lib.hid (own_base (base' := w.heap.size) hr2 hb3.out.size)
 have BR3 := Lib.hid (BR2.out.ext hb4)
 have hb5 := Lib.hid (ext_trans hb3.out hb4)
 have hRl := BR3.out.lt
 obtain ⟨N, hN⟩ : ∃ N, N = w2.heap.size := ⟨_, rfl⟩
 obtain ⟨W, hW⟩ : ∃ W, W = w2.alloc (.cells #[.int .i64 u, .int .i64 lo, .slice (some ⟨h, 0, none⟩) n cr] 26) := ⟨_, rfl⟩
 have BNW := Lib.hid (show Blk W N 26 #[.int .i64 u, .int .i64 lo, .slice (some ⟨h, 0, none⟩) n cr] by rw [hW]; exact Blk.born _ _ _ hN)
 have BRW := Lib.hid (show Blk W (w.heap.size + 1) 26 #[.int .i64 0, .int .i64 0, .slice none 0 0] by rw [hW]; exact BR3.out.al _)
 have hrW := Lib.hid (show W.ownsRow w.heap.size 96 2 (.slice (some ⟨h, 0, none⟩) n cr) n (rowsV2 l) by rw [hW]; exact hr2.out.alloc _)
 have hbW := Lib.hid (show Below w.heap.size w W by rw [hW]; exact ext_alloc hb5.out _)
 have HWN := Lib.hid (And.intro hW hN)
 clear hb4 hN hW hRl f0 f1 f2
 go_upto_region 4 with fail
 rw [← HWN.out.2, ← HWN.out.1]
 clear HWN
 obtain ⟨p0, p1, p2⟩ := BNW.out.q3
 obtain ⟨c0, c1, hlt, hge⟩ := rows_cells2 hrW.out HX.out
 have fz0 := own_frozen hrW.out (r * 2)
 have fz1 := own_frozen hrW.out (r * 2 + 1)
 have hneN : h ≠ N := fun ee => own_nbT hrW.out BNW.out (by decide) (by rw [ee]; rfl)
 have hneR : h ≠ w.heap.size + 1 := fun ee => own_nbT hrW.out BRW.out (by decide) (by rw [ee]; rfl)
 go_cut [8] (fun s8 wx => s8 = .pointer (some ⟨N, 0, none⟩) ∧ Hid (Blk wx N 26 #[.int .i64 u, .int .i64 lo, .slice (some ⟨h, 0, none⟩) n cr]) ∧ Hid (Blk wx (w.heap.size + 1) 26 #[.int .i64 0, .int .i64 0, .slice none 0 0]) ∧ Hid (wx.ownsRow w.heap.size 96 2 (.slice (some ⟨h, 0, none⟩) n cr) n (rowsV2 (l.set r (rodD 0)))) ∧ Hid (Below w.heap.size w wx))
 case first =>
  go_region_law (first | (go_simp; go_at_call 64; refine (l2Digit_any 0 _ (Int.le_refl 0) (by omega)).mono ?_; rintro e w5 ⟨rfl, hb⟩; have hbA := Lib.hid (show Below W.heap.size W w5 from ext_trans (ext_drew (ext_refl _)) hb); have p2A := ext_cell hbA.out p2; have c0A := ext_cell hbA.out c0; have c1A := ext_cell hbA.out c1; have fz0A := (hbA.out.frozen (p := ⟨h, r * 2, none⟩) hlt).trans fz0; have fz1A := (hbA.out.frozen (p := ⟨h, r * 2 + 1, none⟩) hlt).trans fz1; have hltA := Nat.lt_of_lt_of_le hlt hbA.out.size; clear hb))
  all_goals
   go_wp2_with fail
   go_meet
   exact ⟨rfl, Lib.hid (((BNW.out.ext hbA.out).setF (p := ⟨h, r * 2, none⟩) hneN _).setF (p := ⟨h, r * 2 + 1, none⟩) hneN _), Lib.hid (((BRW.out.ext hbA.out).setF (p := ⟨h, r * 2, none⟩) hneR _).setF (p := ⟨h, r * 2 + 1, none⟩) hneR _), by rw [hset.out]; exact Lib.hid (((own_ext hrW.out hbA.out).stored (r * 2) _).1.stored (r * 2 + 1) _).1, Lib.hid (((ext_trans hbW.out hbA.out).setCell (p := ⟨h, r * 2, none⟩) hge _).setCell (p := ⟨h, r * 2 + 1, none⟩) hge _)⟩
 case rest =>
  obtain ⟨rfl, BN5, BR5, hr5, hb6⟩ := hcut
  obtain ⟨p0, p1, p2⟩ := BN5.out.q3
  obtain ⟨r0, r1, r2⟩ := BR5.out.q3
  obtain ⟨z0, z1, z2⟩ := BR5.out.z3
  have hRl := BR5.out.lt
  go_wp2
  refine bodyPost_ret (v := .tuple #[frV u lo (some ⟨h, 0, none⟩) n cr, .bool true]) (by simp [results, Try.results83, go_sem, *]) rfl ?_
  refine ⟨some ⟨h, 0, none⟩, cr, by dsimp only; rw [List.length_set, HL.out], ?_, fill_below hb6.out (Nat.le_succ _)⟩
  dsimp only
  rw [List.length_set, HL.out]
  exact fill_own' hr5.out (own_nbT hr5.out BR5.out (by decide))
end Go.Proofs.Ytihljhikhplegaa
namespace Go.Proofs.Ytihljhikhplegaa
open Go.RowKit
set_option linter.unusedVariables false
set_option linter.unusedSimpArgs false
theorem word_le {s : ByteArray} {l : List UInt8} (hs : s.size ≤ 80) (h : l ∈ wordsL s) : l.length ≤ 80 := by
 unfold wordsL at h
 split at h
 · cases h
 · have := splitL_part 32 (bl s) l h
   rw [bl_size] at this
   omega
def RetWn (s : ByteArray) (w : World) (e : Ending) (w' : World) : Prop := e = .returned (.tuple #[.int .i64 (wnV s), .bool (scrB s)]) ∧ Below w.heap.size w w'
set_option maxRecDepth 100000 in
set_option maxHeartbeats 4000000 in
theorem implWordsOf_any (s : ByteArray) (w : World) (hs : s.size ≤ 16777216) : Calls Try.prog 26 #[.string s] w (RetWn s w) := by
 have HR := Lib.hid (fun w => rulesOf_any s w hs)
 cases hsc : scrB s
 · rw [hsc] at HR
   have HV := Lib.hid (show wnV s = 0 by unfold wnV; rw [if_neg (by rw [hsc]; simp)])
   have HSC := Lib.hid hsc
   clear hsc
   unfold RetWn
   rw [HV.out, HSC.out]
   go_enter Try.func26, Try.ntmps26
   go_wp2_with fail
   refine (HR.out _).mono ?_
   rintro e w1 ⟨A1, c1, rfl, ho1, hb1⟩
   go_wp2
   go_ret2
   exact ⟨rfl, hb1⟩
 · rw [show scrL s = rulesL s by unfold scrL; rw [if_pos hsc], hsc] at HR
   have hw9 : ∀ x ∈ rulesL s, x.times ≤ 9 := fun x hx => (rules_okW hsc x hx).1.2
   have h81 := rules_81' hsc
   have hle := wnL_le hw9
   unfold RetWn
   rw [hsc, show wnV s = (wnL (rulesL s) (rulesL s).length : Int) by unfold wnV; rw [if_pos hsc]]
   obtain ⟨X, hX⟩ : ∃ X, rulesL s = X := ⟨_, rfl⟩
   rw [hX] at HR hw9 h81 hle ⊢
   obtain ⟨m, hm⟩ : ∃ m, X.length = m := ⟨_, rfl⟩
   rw [hm] at HR h81 hle ⊢
   have HM := Lib.hid hm
   have HLE := Lib.hid hle
   have HW9 := Lib.hid hw9
   clear hsc hX hm hle hw9
   go_enter Try.func26, Try.ntmps26
   go_wp2_with fail
   refine (HR.out _).mono ?_
   rintro e w1 ⟨A1, c1, rfl, ho1, hb1⟩
   have HO := Lib.hid ho1
   have HB := Lib.hid hb1
   clear ho1 hb1
   go_wp2_with fail
   go_loopw [6, 18] (fun v i wr => ∃ k : Nat, k ≤ m ∧ i = .int .i64 k ∧ v = .int .i64 (wnL X k : Int) ∧ Hid (Below w1.heap.size w1 wr)) (fun _ i _ => m - (intOf i).toNat)
   case atStart => exact ⟨0, Nat.zero_le _, rfl, rfl, Lib.hid (ext_refl _)⟩
   case round =>
    obtain ⟨k, hk, rfl, rfl, HX⟩ := hrel
    by_cases hlt : k < m
    · obtain ⟨x, hx⟩ := list_split (l := X) (k := k) (by rw [HM.out]; exact hlt)
      obtain ⟨b, o, rfl, hb, c0, c1, c2⟩ := rw_at (Reads.of_own (own_ext HO.out HX.out)) hx
      have hx9 := HW9.out x (List.mem_of_getElem? hx)
      have hk9 := HLE.out k (by omega)
      have HMORE := Lib.hid (wnL_more hx)
      have e2 : (k : Int) < (m : Int) := by omega
      have k0 : (0 : Int) ≤ (k : Int) := by omega
      obtain ⟨S, hS⟩ : ∃ S, wnL X k = S := ⟨_, rfl⟩
      rw [hS] at hk9 HMORE ⊢
      clear hx hS
      go_wp2
      go_roundw
      case rel => exact ⟨k + 1, by omega, by go_num, by rw [HMORE.out]; go_num, Lib.hid (ext_alloc HX.out _)⟩
      case measure => simp [intOf]; omega
    · obtain rfl : k = m := by omega
      go_wp2
      go_ret2
      exact ⟨rfl, ext_trans HB.out HX.out⟩
set_option maxRecDepth 100000 in
set_option maxHeartbeats 4000000 in
theorem specWordsOf_any (s : ByteArray) (w : World) (hs : s.size ≤ 16777216) : Calls Try.prog 31 #[.string s] w (RetWn s w) := by
 have HR := Lib.hid (fun w => l15Good_any s w hs)
 cases hsc : scrB s
 · rw [hsc] at HR
   have HV := Lib.hid (show wnV s = 0 by unfold wnV; rw [if_neg (by rw [hsc]; simp)])
   have HSC := Lib.hid hsc
   clear hsc
   unfold RetWn
   rw [HV.out, HSC.out]
   go_enter Try.func31, Try.ntmps31
   go_wp2_with fail
   refine (HR.out _).mono ?_
   rintro e w1 ⟨rfl, hb1⟩
   go_wp2
   go_ret2
   exact ⟨rfl, hb1⟩
 · rw [hsc] at HR
   have hs80 : s.size ≤ 80 := by
    have h := hsc
    unfold scrB at h
    simp only [Bool.and_eq_true, decide_eq_true_eq] at h
    exact h.1
   have hw9 : ∀ x ∈ rulesL s, x.times ≤ 9 := fun x hx => (rules_okW hsc x hx).1.2
   have h81 := rules_81' hsc
   have hle := wnL_le hw9
   have hrw := fun k l => @rule_word s hsc k l
   have HW := Lib.hid (fun w => l15Words_any s w hs80)
   have hpl := fun (l : List UInt8) (hl : l ∈ wordsL s) => (show l.length ≤ 80 from word_le hs80 hl)
   unfold RetWn
   rw [hsc, show wnV s = (wnL (rulesL s) (rulesL s).length : Int) by unfold wnV; rw [if_pos hsc]]
   have hlen := rulesL_len s
   obtain ⟨X, hX⟩ : ∃ X, rulesL s = X := ⟨_, rfl⟩
   rw [hX] at hw9 h81 hle hrw hlen ⊢
   obtain ⟨P, hP⟩ : ∃ P, wordsL s = P := ⟨_, rfl⟩
   rw [hP] at HW hrw hpl hlen
   obtain ⟨m, hm⟩ : ∃ m, P.length = m := ⟨_, rfl⟩
   rw [hm] at hlen HW
   rw [hlen] at h81 hle ⊢
   have HM := Lib.hid hm
   have HLE := Lib.hid hle
   have HW9 := Lib.hid hw9
   have HRW := Lib.hid hrw
   have HPL := Lib.hid hpl
   clear hsc hX hm hle hw9 hP hrw hpl hlen
   unfold RetV at HR
   go_enter Try.func31, Try.ntmps31
   go_wp2_with fail
   refine (HR.out _).mono ?_
   rintro e w1 ⟨rfl, hb1⟩
   go_wp2_with fail
   refine (HW.out _).mono ?_
   rintro e w2 ⟨A1, c1, rfl, ho1, hb2⟩
   have HO := Lib.hid ho1
   have HB := Lib.hid (ext_trans hb1 hb2)
   clear ho1 hb1 hb2
   go_wp2_with fail
   go_loopw [5, 6] (fun v i wr => ∃ k : Nat, k ≤ m ∧ i = .int .i64 k ∧ v = .int .i64 (wnL X k : Int) ∧ Hid (Below w2.heap.size w2 wr)) (fun _ i _ => m - (intOf i).toNat)
   case atStart => exact ⟨0, Nat.zero_le _, rfl, rfl, Lib.hid (ext_refl _)⟩
   case round =>
    obtain ⟨k, hk, rfl, rfl, HX⟩ := hrel
    by_cases hlt : k < m
    · obtain ⟨l, hl⟩ := list_split (l := P) (k := k) (by rw [HM.out]; exact hlt)
      obtain ⟨x, hxo, hx⟩ := HRW.out k l hl
      obtain ⟨b, o, rfl, hb, c0⟩ := strs_at (Reads.of_own (own_ext HO.out HX.out)) hl
      have hx9 := HW9.out x (List.mem_of_getElem? hx)
      have hk9 := HLE.out k (by omega)
      have HMORE := Lib.hid (wnL_more hx)
      have HT := Lib.hid (fun w => l15Times_any (str l) x w (by have := HPL.out l (List.mem_of_getElem? hl); rw [str_size]; exact this) (by rw [bl_str]; exact hxo))
      have e2 : (k : Int) < (m : Int) := by omega
      have k0 : (0 : Int) ≤ (k : Int) := by omega
      obtain ⟨S, hS⟩ : ∃ S, wnL X k = S := ⟨_, rfl⟩
      rw [hS] at hk9 HMORE ⊢
      clear hx hS hl hxo
      go_wp2_with fail
      refine (HT.out _).mono ?_
      rintro e w3 ⟨p, rfl, _, _, hb3⟩
      have HX3 := Lib.hid (ext_trans HX.out hb3)
      clear hb3
      go_wp2
      go_roundw
      case rel => exact ⟨k + 1, by omega, by go_num, by rw [HMORE.out]; go_num, HX3⟩
      case measure => simp [intOf]; omega
    · obtain rfl : k = m := by omega
      go_wp2
      go_ret2
      exact ⟨rfl, ext_trans HB.out HX.out⟩
end Go.Proofs.Ytihljhikhplegaa
