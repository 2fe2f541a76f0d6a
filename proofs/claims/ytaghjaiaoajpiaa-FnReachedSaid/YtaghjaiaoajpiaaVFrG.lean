/- Numbers and digits added and taken: the program's. -/
import Derived.Test.YtaghjaiaoajpiaaVM4
namespace Go.Proofs.Ytaghjaiaoajpiaa
open Go.RowKit
set_option linter.unusedVariables false
set_option linter.unusedSimpArgs false
theorem addNumber_no (u lo : Int) (A : Option Addr) (n c : Nat) (l : List R2) (m : Int) (w : World) (hn : n ≤ 1048576) (h : Reads w w.heap.size 2 A n (rowsV2 l)) (hg : (goodB u lo l && canB l m) = false) :
 Calls Try.prog 46 #[frV u lo A n c, .int .i64 m] w (RetV (.tuple #[.pointer none, .bool false]) w) := by
 have H := Lib.hid h
 clear h
 cases hgd : goodB u lo l
 · have hgd := Lib.hid hgd
   have hg := Lib.hid hg
   go_enter Try.func46, Try.ntmps46
   go_wp2_with fail
   refine (begin_no u lo A n c l _ hn (rdx H.out (ext_alloc (ext_refl w) _)) hgd.out).mono ?_
   rintro e w1 ⟨rfl, hb1⟩
   go_wp2
   go_ret2
   exact ⟨rfl, (by repeat (first | exact ext_refl _ | assumption | refine ext_alloc ?_ _ | refine ext_drew ?_ | refine ext_drewN ?_ _ | refine ext_set ?_ (by simp <;> omega) _ | refine ext_trans ?_ (by assumption)))⟩
 · have hcb : canB l m = false := by simpa [hgd] using hg
   have hf : frB u lo l = true := by simp only [goodB, Bool.and_eq_true] at hgd; exact hgd.1
   have hgd := Lib.hid hgd
   have hf := Lib.hid hf
   have hg := Lib.hid hg
   have hcb := Lib.hid hcb
   go_enter Try.func46, Try.ntmps46
   go_wp2_with fail
   refine (begin_yes u lo A n c l _ hn (rdx H.out (ext_alloc (ext_refl w) _)) hgd.out).mono ?_
   rintro e w1 ⟨g, rfl, hW, hb1⟩
   have hb2 := Lib.hid (ext_trans (ext_alloc (ext_refl w) _) hb1)
   have BF1 := (Blk.born w #[.int .i64 u, .int .i64 lo, .slice A n c] 26 rfl).ext hb1
   obtain ⟨a0, a1, a2⟩ := BF1.q3
   clear hb1 BF1 hW
   go_wp2_with fail
   refine (canAdd_b u lo A n c l m _ _ hf.out (rdx H.out hb2.out) hcb.out).mono ?_
   rintro e w3 ⟨rfl, hb3⟩
   go_wp2
   go_ret2
   exact ⟨rfl, ext_trans hb2.out hb3⟩
set_option maxRecDepth 100000 in
set_option maxHeartbeats 1000000 in
theorem addNumber_yes (u lo : Int) (A : Option Addr) (n c : Nat) (l : List R2) (m : Int) (w : World) (hn : n ≤ 1048576) (h : Reads w w.heap.size 2 A n (rowsV2 l)) (hg : (goodB u lo l && canB l m) = true) :
 Calls Try.prog 46 #[frV u lo A n c, .int .i64 m] w (RetWk w u lo (addN n m ⟨dsOf l, [], 0⟩ n)) := by
 have hl := rows_len2 h
 have hg' := hg
 simp only [Bool.and_eq_true] at hg'
 obtain ⟨hgd, hcb⟩ := hg'
 have hgd' := hgd
 simp only [goodB, Bool.and_eq_true] at hgd'
 obtain ⟨hf, hs⟩ := hgd'
 have hn8 := (frB_head hf).2.2.2
 rw [hl] at hn8
 have hwf := dsOf_WF hf hs
 have hdl : (dsOf l).length = n := by rw [dsOf_len, hl]
 have m0 : 0 ≤ m := canAdd_nonneg hcb
 have m1 : m < 200000000 := canAdd_bound hf hcb
 have FIT : ∀ k, k < n → AddFit (k + 1) (dg n m k) (addN n m ⟨dsOf l, [], 0⟩ k).ds := by
  intro k hk
  have := (addN_facts (s := ⟨dsOf l, [], 0⟩) (m := m) hwf m0 (canAdd_fit hcb) k (by show k ≤ (dsOf l).length; omega)).2 (by show k < (dsOf l).length; omega)
  rwa [show (WS.ds ⟨dsOf l, [], 0⟩).length = n from hdl] at this
 have FIT := Lib.hid FIT
 have LEN : ∀ k, (addN n m ⟨dsOf l, [], 0⟩ k).ds.length = n := fun k => by rw [addN_len]; exact hdl
 have LEN := Lib.hid LEN
 have ASK : ∀ k, k ≤ 8 → 0 ≤ (addN n m ⟨dsOf l, [], 0⟩ k).ask ∧ (addN n m ⟨dsOf l, [], 0⟩ k).ask ≤ 8 * k := fun k hk => by have := addN_ask n m ⟨dsOf l, [], 0⟩ k hk; simpa using this
 have ASK := Lib.hid ASK
 have hgd := Lib.hid hgd
 have hcb := Lib.hid hcb
 have hf := Lib.hid hf
 have H := Lib.hid h
 have hl := Lib.hid hl
 clear h hg hs hwf hdl
 go_enter Try.func46, Try.ntmps46
 go_wp2_with fail
 refine (begin_yes u lo A n c l _ hn (rdx H.out (ext_alloc (ext_refl w) _)) hgd.out).mono ?_
 rintro e w1 ⟨g, rfl, hW, hb1⟩
 have hb2 := Lib.hid (ext_trans (ext_alloc (ext_refl w) _) hb1)
 have BF1 := Lib.hid ((Blk.born w #[.int .i64 u, .int .i64 lo, .slice A n c] 26 rfl).ext hb1)
 have hW1 := Lib.hid (hW.mono (B' := w.heap.size) (by simp))
 obtain ⟨a0, a1, a2⟩ := BF1.out.q3
 clear hb1 hW
 go_wp2_with fail
 refine (canAdd_b u lo A n c l m _ _ hf.out (rdx H.out hb2.out) hcb.out).mono ?_
 rintro e w3 ⟨rfl, hb3⟩
 have hb4 := Lib.hid (ext_trans hb2.out hb3)
 have BF3 := Lib.hid (BF1.out.ext hb3)
 have hW3 := Lib.hid (hW1.out.ext hb3)
 obtain ⟨a0', a1', a2'⟩ := BF3.out.q3
 clear hb3 a0 a1 a2
 go_wp2_with fail
 refine (digitsFor_any u lo A n c m _ hn8 m0 m1).mono ?_
 rintro e w5 ⟨Ad, cd, rfl, hod, hb5⟩
 have hW5 := Lib.hid (hW3.out.ext hb5)
 have hb6 := Lib.hid (ext_trans hb4.out hb5)
 have hod := Lib.hid hod
 clear hb5 a0' a1' a2'
 go_wp2
 go_loopw [27] (fun i wr => ∃ k : Nat, k ≤ n ∧ i = .int .i64 k ∧ Hid (Wk wr w.heap.size g u lo (addN n m ⟨dsOf l, [], 0⟩ k)) ∧ Hid (wr.ownsRow w3.heap.size 3 1 (.slice Ad n cd) n (intsV (digs n m))) ∧ Hid (Below w.heap.size w wr)) (fun i _ => n - (intOf i).toNat)
 case atStart => exact ⟨0, Nat.zero_le _, rfl, hW5, hod, hb6⟩
 case round =>
  obtain ⟨k, hk, rfl, hWr, hor, hbr⟩ := hrel
  by_cases hlt : k < n
  · obtain ⟨b, o, hA, hbb, c0⟩ := ints_at (Reads.of_own hor.out) (digs_get m hlt)
    subst hA
    have hfit := Lib.hid (FIT.out k hlt)
    have hlen := LEN.out k
    have hask := ASK.out k (by omega)
    have hmsl := addN_msl n m ⟨dsOf l, [], 0⟩ k (by omega)
    have hms0 : (addN n m ⟨dsOf l, [], 0⟩ k).ms.length ≤ 900000 := by simp at hmsl; omega
    have hln8 : (addN n m ⟨dsOf l, [], 0⟩ k).ds.length ≤ 8 := by omega
    have hdg := dg_bounds n m k
    obtain ⟨h0, h1⟩ := hask
    have h2 : (addN n m ⟨dsOf l, [], 0⟩ k).ask ≤ 1000000 := by omega
    clear hlen hmsl
    go_wp2_with fail
    refine (add_any w.heap.size g u lo (addN n m ⟨dsOf l, [], 0⟩ k) k (dg n m k) _ hWr.out hfit.out hln8 hms0 h0 h2).mono ?_
    rintro e w7 ⟨rfl, hW7, hb7, hk7⟩
    have hW7 := Lib.hid hW7
    have ho7 := Lib.hid (hk7.own hor.out (by decide) (by decide) (by decide))
    have hb8 := Lib.hid (hbr.out.trans hb7)
    clear hb7 hk7
    go_wp2
    go_roundw
    case rel => exact ⟨k + 1, by omega, by go_num, hW7, ho7, hb8⟩
    case measure => simp [intOf]; omega
  · obtain rfl : k = n := by omega
    go_wp2
    go_ret2
    exact ⟨g, rfl, hWr.out, hbr.out⟩
theorem addDigit_no (u lo : Int) (A : Option Addr) (n c : Nat) (l : List R2) (rod d : Int) (w : World) (hn : n ≤ 1048576) (h : Reads w w.heap.size 2 A n (rowsV2 l)) (hg : addDigitB u lo l rod d = false) :
 Calls Try.prog 53 #[frV u lo A n c, .int .i64 rod, .int .i64 d] w (RetV (.tuple #[.pointer none, .bool false]) w) := by
 have hl := rows_len2 h
 have H := Lib.hid h
 clear h
 cases hgd : goodB u lo l
 · have hgd := Lib.hid hgd
   have hg := Lib.hid hg
   have hl := Lib.hid hl
   go_enter Try.func53, Try.ntmps53
   go_wp2_with fail
   refine (begin_no u lo A n c l _ hn (rdx H.out (ext_alloc (ext_refl w) _)) hgd.out).mono ?_
   rintro e w1 ⟨rfl, hb1⟩
   go_wp2
   (refine wp_region_later (by kernel_rfl) (by kernel_rfl) ?_; (repeat (go_big_quiet_step (fail))); refine wpQuiet_nil ?_; intro w1 hw1; obtain ⟨⟨wl, hbL⟩, hw1'⟩ := hw1; simp only at hw1'; subst hw1'; obtain ⟨hcL, hfL⟩ := bcell hbL)
   have hb3 := Lib.hid (ext_trans (ext_alloc (ext_refl w) _) (ext_trans hb1 hbL))
   clear hbL hb1
   go_wp2
   go_ret2
   exact ⟨rfl, hb3.out⟩
 have hf : frB u lo l = true := by simp only [goodB, Bool.and_eq_true] at hgd; exact hgd.1
 have hn8 := (frB_head hf).2.2.2
 rw [hl] at hn8
 have hgd := Lib.hid hgd
 have hf := Lib.hid hf
 cases hr : inB rod 0 ((n : Int) - 1)
 · have hg := Lib.hid hg
   have hl := Lib.hid hl
   go_enter Try.func53, Try.ntmps53
   go_wp2_with fail
   refine (begin_yes u lo A n c l _ hn (rdx H.out (ext_alloc (ext_refl w) _)) hgd.out).mono ?_
   rintro e w1 ⟨g, rfl, hW, hb1⟩
   have hb2 := Lib.hid (ext_trans (ext_alloc (ext_refl w) _) hb1)
   have BF1 := (Blk.born w #[.int .i64 u, .int .i64 lo, .slice A n c] 26 rfl).ext hb1
   obtain ⟨a0, a1, a2⟩ := BF1.q3
   have hgl := hW.lt
   have hz1 : w.heap.size < w1.heap.size := by have := hb1.size; simp at this; omega
   clear hb1 BF1 hW
   go_wp2_with fail
   (refine wp_region_later (by kernel_rfl) (by kernel_rfl) ?_; (repeat (go_big_quiet_step (first | (go_at_call 80; with_reducible exact Calls.later_of (hasRod_b u lo A n c rod _ _ hn hr))))); refine wpQuiet_nil ?_; intro w1 hw1; obtain ⟨⟨wl, hbL⟩, hw1'⟩ := hw1; simp only at hw1'; subst hw1'; obtain ⟨hcL, hfL⟩ := bcell hbL)
   have hb3 := Lib.hid (ext_trans hb2.out hbL)
   clear hbL hcL hfL
   go_wp2
   go_ret2
   exact ⟨rfl, hb3.out⟩
 cases hd : inB d 0 9
 · have hg := Lib.hid hg
   have hl := Lib.hid hl
   go_enter Try.func53, Try.ntmps53
   go_wp2_with fail
   refine (begin_yes u lo A n c l _ hn (rdx H.out (ext_alloc (ext_refl w) _)) hgd.out).mono ?_
   rintro e w1 ⟨g, rfl, hW, hb1⟩
   have hb2 := Lib.hid (ext_trans (ext_alloc (ext_refl w) _) hb1)
   have BF1 := (Blk.born w #[.int .i64 u, .int .i64 lo, .slice A n c] 26 rfl).ext hb1
   obtain ⟨a0, a1, a2⟩ := BF1.q3
   have hgl := hW.lt
   have hz1 : w.heap.size < w1.heap.size := by have := hb1.size; simp at this; omega
   clear hb1 BF1 hW
   go_wp2_with fail
   (refine wp_region_later (by kernel_rfl) (by kernel_rfl) ?_; (repeat (go_big_quiet_step (first | (go_at_call 80; with_reducible exact Calls.later_of (hasRod_b u lo A n c rod _ _ hn hr)) | (go_at_call 34; with_reducible exact Calls.later_of (within_b d 0 9 _ _ hd))))); refine wpQuiet_nil ?_; intro w1 hw1; obtain ⟨⟨wl, hbL⟩, hw1'⟩ := hw1; simp only at hw1'; subst hw1'; obtain ⟨hcL, hfL⟩ := bcell hbL)
   have hb3 := Lib.hid (ext_trans hb2.out hbL)
   clear hbL hcL hfL
   go_wp2
   go_ret2
   exact ⟨rfl, hb3.out⟩
 obtain ⟨r0, r1⟩ := inB_iff.1 hr
 obtain ⟨d0, d9⟩ := inB_iff.1 hd
 obtain ⟨r, rfl⟩ := Int.eq_ofNat_of_zero_le r0
 have hrn : r < n := by omega
 have hcb : canB l (d * pw (n - (r + 1))) = false := by
  have := hg
  unfold addDigitB at this
  rw [hgd.out, hl, hr, hd] at this
  simpa using this
 have hg := Lib.hid hg
 have hl := Lib.hid hl
 have hcb := Lib.hid hcb
 go_enter Try.func53, Try.ntmps53
 go_wp2_with fail
 refine (begin_yes u lo A n c l _ hn (rdx H.out (ext_alloc (ext_refl w) _)) hgd.out).mono ?_
 rintro e w1 ⟨g, rfl, hW, hb1⟩
 have hb2 := Lib.hid (ext_trans (ext_alloc (ext_refl w) _) hb1)
 have BF1 := (Blk.born w #[.int .i64 u, .int .i64 lo, .slice A n c] 26 rfl).ext hb1
 obtain ⟨a0, a1, a2⟩ := BF1.q3
 have hgl := hW.lt
 have hz1 : w.heap.size < w1.heap.size := by have := hb1.size; simp at this; omega
 clear hb1 BF1 hW
 go_wp2_with fail
 (refine wp_region_later (by kernel_rfl) (by kernel_rfl) ?_; (repeat (go_big_quiet_step (first | (go_at_call 80; with_reducible exact Calls.later_of (hasRod_b u lo A n c r _ _ hn hr)) | (go_at_call 34; with_reducible exact Calls.later_of (within_b d 0 9 _ _ hd)) | (go_at_call 81; with_reducible exact Calls.later_of (placeValue_any u lo A n c r d _ hn8 hrn d0 d9)) | (go_at_call 73; with_reducible exact Calls.later_of (canAdd_b u lo A n c l _ _ _ hf.out (rdx (rdx H.out hb2.out) (Later.h _)) hcb.out))))); refine wpQuiet_nil ?_; intro w1 hw1; obtain ⟨⟨wl, hbL⟩, hw1'⟩ := hw1; simp only at hw1'; subst hw1'; obtain ⟨hcL, hfL⟩ := bcell hbL)
 have hb3 := Lib.hid (ext_trans hb2.out hbL)
 clear hbL hcL hfL
 go_wp2
 go_ret2
 exact ⟨rfl, hb3.out⟩
set_option maxRecDepth 100000 in
set_option maxHeartbeats 1000000 in
theorem addDigit_yes (u lo : Int) (A : Option Addr) (n c : Nat) (l : List R2) (rod d : Int) (w : World) (hn : n ≤ 1048576) (h : Reads w w.heap.size 2 A n (rowsV2 l)) (hg : addDigitB u lo l rod d = true) :
 Calls Try.prog 53 #[frV u lo A n c, .int .i64 rod, .int .i64 d] w (RetWk w u lo (addS (rod.toNat + 1) d ⟨dsOf l, [], 0⟩)) := by
 have hl := rows_len2 h
 have hg' := hg
 unfold addDigitB at hg'
 rw [hl] at hg'
 simp only [Bool.and_eq_true] at hg'
 obtain ⟨⟨⟨hgd, hr⟩, hd⟩, hcb⟩ := hg'
 have hgd' := hgd
 simp only [goodB, Bool.and_eq_true] at hgd'
 obtain ⟨hf, hs⟩ := hgd'
 have hn8 := (frB_head hf).2.2.2
 rw [hl] at hn8
 obtain ⟨r0, r1⟩ := inB_iff.1 hr
 obtain ⟨d0, d9⟩ := inB_iff.1 hd
 obtain ⟨r, rfl⟩ := Int.eq_ofNat_of_zero_le r0
 have hrn : r < n := by omega
 have hdl : (dsOf l).length = n := by rw [dsOf_len, hl]
 have HN := Lib.hid (show ((r : Int).toNat + 1 = r + 1) by simp)
 rw [HN.out]
 rw [show (r : Int).toNat = r from rfl] at hcb
 have FIT := Lib.hid (show AddFit (r + 1) d (dsOf l) from ⟨by omega, d0, d9, dsOf_WF hf hs, by have := canAdd_fit hcb; rw [hdl]; (try rw [hdl] at this); exact this⟩)
 have LEN : (dsOf l).length ≤ 8 := by omega
 have hgd := Lib.hid hgd
 have hcb := Lib.hid hcb
 have hf := Lib.hid hf
 have H := Lib.hid h
 have hl := Lib.hid hl
 clear h hg hs hdl
 go_enter Try.func53, Try.ntmps53
 go_wp2_with fail
 refine (begin_yes u lo A n c l _ hn (rdx H.out (ext_alloc (ext_refl w) _)) hgd.out).mono ?_
 rintro e w1 ⟨g, rfl, hW, hb1⟩
 have hb2 := Lib.hid (ext_trans (ext_alloc (ext_refl w) _) hb1)
 have BF1 := Lib.hid ((Blk.born w #[.int .i64 u, .int .i64 lo, .slice A n c] 26 rfl).ext hb1)
 have hW1 := Lib.hid (hW.mono (B' := w.heap.size) (by simp))
 obtain ⟨a0, a1, a2⟩ := BF1.out.q3
 have hgl := hW1.out.lt
 have hz1 : w.heap.size < w1.heap.size := by have := hb1.size; simp at this; omega
 clear hb1 hW
 go_wp2_with fail
 (refine wp_region_later (by kernel_rfl) (by kernel_rfl) ?_; (repeat (go_big_quiet_step (first | (go_at_call 80; with_reducible exact Calls.later_of (hasRod_b u lo A n c r _ _ hn hr)) | (go_at_call 34; with_reducible exact Calls.later_of (within_b d 0 9 _ _ hd)) | (go_at_call 81; with_reducible exact Calls.later_of (placeValue_any u lo A n c r d _ hn8 hrn d0 d9)) | (go_at_call 73; with_reducible exact Calls.later_of (canAdd_b u lo A n c l _ _ _ hf.out (rdx (rdx H.out hb2.out) (Later.h _)) hcb.out))))); refine wpQuiet_nil ?_; intro w1 hw1; obtain ⟨⟨wl, hbL⟩, hw1'⟩ := hw1; simp only at hw1'; subst hw1'; obtain ⟨hcL, hfL⟩ := bcell hbL)
 have hW3 := Lib.hid (hW1.out.ext hbL)
 have hb4 := Lib.hid (ext_trans hb2.out hbL)
 clear hbL a0 a1 a2 hcL hfL
 go_wp2_with fail
 refine (add_any w.heap.size g u lo ⟨dsOf l, [], 0⟩ r d _ hW3.out FIT.out LEN (by simp) (by simp) (by simp)).mono ?_
 rintro e w7 ⟨rfl, hW7, hb7, hk7⟩
 have hW7 := Lib.hid hW7
 have hb8 := Lib.hid (hb4.out.trans hb7)
 clear hb7 hk7
 go_wp2
 go_ret2
 exact ⟨g, rfl, hW7.out, hb8.out⟩
end Go.Proofs.Ytaghjaiaoajpiaa
