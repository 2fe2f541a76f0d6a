/- Moves played: the program's and the reference's. -/
import Derived.Test.YtphhelmcaehclaaVGmC
namespace Go.Proofs.Ytphhelmcaehclaa
open Go.RowKit
set_option linter.unusedVariables false
set_option linter.unusedSimpArgs false
def playS (u lo : Int) (l : List R2) (ms : List R3) : Option (List R2) := ms.foldl (fun o m => o.bind fun x => if mvB u lo x m = true then some (mvL x m) else none) (some l)
def playF (u lo : Int) (l : List R2) (ms : List R3) : Int × Int × List R2 := match playS u lo l ms with | some x => (u, lo, x) | none => (0, 0, [])
theorem play_take {u lo : Int} {l : List R2} {ms : List R3} {k : Nat} {x : List R2} {m : R3} (h : playS u lo l (ms.take k) = some x) (hm : ms[k]? = some m) : playS u lo l (ms.take (k + 1)) = if mvB u lo x m = true then some (mvL x m) else none := by
 unfold playS at h ⊢
 rw [List.take_add_one, hm]
 simp [List.foldl_append, h]
theorem fold_none {u lo : Int} (ms : List R3) : ms.foldl (fun (o : Option (List R2)) m => o.bind fun x => if mvB u lo x m = true then some (mvL x m) else none) none = none := by
 induction ms with
 | nil => rfl
 | cons m ms ih => exact ih
theorem play_none {u lo : Int} {l : List R2} {ms : List R3} {k : Nat} (h : playS u lo l (ms.take k) = none) : playF u lo l ms = (0, 0, []) ∧ (playS u lo l ms).isSome = false := by
 have e : playS u lo l ms = none := by
  unfold playS at h ⊢
  conv => lhs; rw [← List.take_append_drop k ms]
  rw [List.foldl_append, h]
  exact fold_none _
 unfold playF
 rw [e]
 exact ⟨rfl, rfl⟩
theorem mvB_fr {u lo : Int} {x : List R2} {m : R3} (h : mvB u lo x m = true) : frB u lo (mvL x m) = true := by
 unfold mvB at h
 simp only [Bool.and_eq_true] at h
 exact h.2
set_option maxRecDepth 100000 in
set_option maxHeartbeats 4000000 in
theorem played_any (u lo : Int) (A : Option Addr) (n c : Nat) (l : List R2) (B : Option Addr) (k cb : Nat) (ms : List R3) (w : World) (hf : frB u lo l = true) (hok : ms.all okM = true) (hk : k ≤ 1048576) (h : Reads w w.heap.size 2 A n (rowsV2 l)) (hm : Reads w w.heap.size 3 B k (rowsV3 ms)) :
 Calls Try.prog 38 #[frV u lo A n c, .slice B k cb] w (RetFrB w (playF u lo l ms) (playS u lo l ms).isSome) := by
 have hl := rows_len2 h
 have hkl := rows_len3 hm
 have H := Lib.hid h
 have HM := Lib.hid hm
 have BF0 := Lib.hid ((Blk.born w #[.int .i64 u, .int .i64 lo, .slice A n c] 26 (H := w.heap.size) rfl).al (.cells #[.int .i64 0, .int .i64 0, .slice none 0 0] 26))
 have BR0 := Lib.hid (Blk.born (w.alloc (.cells #[.int .i64 u, .int .i64 lo, .slice A n c] 26)) #[.int .i64 0, .int .i64 0, .slice none 0 0] 26 (H := w.heap.size + 1) (by simp))
 have hbx := Lib.hid (ext_alloc (ext_alloc (ext_refl w) (.cells #[.int .i64 u, .int .i64 lo, .slice A n c] 26)) (.cells #[.int .i64 0, .int .i64 0, .slice none 0 0] 26))
 have hle1 := Nat.le_succ w.heap.size
 clear h hm
 obtain ⟨_, _, hn1, hn8⟩ := frB_head hf
 rw [hl] at hn1 hn8
 have hn : n ≤ 1048576 := by omega
 have HKL := Lib.hid hkl
 have HF := Lib.hid hf
 have HOK := Lib.hid hok
 have ISO := Lib.hid (show l.length = n from hl)
 obtain ⟨Y, hY⟩ : ∃ Y, Y = playF u lo l ms := ⟨_, rfl⟩
 obtain ⟨ok, hok2⟩ : ∃ ok, ok = (playS u lo l ms).isSome := ⟨_, rfl⟩
 rw [← hY, ← hok2]
 have HY := Lib.hid hY
 have HO2 := Lib.hid hok2
 clear hkl hl hf hok hY hok2
 go_enter Try.func38, Try.ntmps38
 have BF1 := BF0
 have BR1 := BR0
 have hb2 := hbx
 go_wp2_with fail
 refine (own_fr u lo A n c l _ hn1 hn (rdx H.out hb2.out)).mono ?_
 rintro e w2 ⟨h, cr, rfl, hr2, hb3⟩
 have hr2 := Lib.hid (own_base (base' := w.heap.size) hr2 hb2.out.size)
 have BR2 := Lib.hid (BR1.out.ext hb3)
 have hb4 := Lib.hid (ext_trans hb2.out hb3)
 have hRl := BR2.out.lt
 obtain ⟨N, hN⟩ : ∃ N, N = w2.heap.size := ⟨_, rfl⟩
 obtain ⟨W, hW⟩ : ∃ W, W = w2.alloc (.cells #[.int .i64 u, .int .i64 lo, .slice (some ⟨h, 0, none⟩) n cr] 26) := ⟨_, rfl⟩
 have BNW := Lib.hid (show Blk W N 26 #[.int .i64 u, .int .i64 lo, .slice (some ⟨h, 0, none⟩) n cr] by rw [hW]; exact Blk.born _ _ _ hN)
 have BRW := Lib.hid (show Blk W (w.heap.size + 1) 26 #[.int .i64 0, .int .i64 0, .slice none 0 0] by rw [hW]; exact BR2.out.al _)
 have hrW := Lib.hid (show W.ownsRow w.heap.size 96 2 (.slice (some ⟨h, 0, none⟩) n cr) n (rowsV2 l) by rw [hW]; exact hr2.out.alloc _)
 have hbW := Lib.hid (show Below w.heap.size w W by rw [hW]; exact ext_alloc hb4.out _)
 have HWN := Lib.hid (And.intro hW hN)
 have hneNR : N ≠ w.heap.size + 1 := by omega
 have hNle : w.heap.size ≤ N := by omega
 clear hb3 hN hW hRl
 go_wp2
 rw [← HWN.out.2, ← HWN.out.1]
 clear HWN
 go_loopw [15] (fun i wr => ∃ (j : Nat) (x : List R2) (A' : Option Addr) (c' : Nat), j ≤ k ∧ i = .int .i64 j ∧ x.length = n ∧ Hid (playS u lo l (ms.take j) = some x) ∧ Hid (frB u lo x = true) ∧ Hid (wr.ownsRow w.heap.size 96 2 (.slice A' n c') n (rowsV2 x)) ∧ Hid (Blk wr N 26 #[.int .i64 u, .int .i64 lo, .slice A' n c']) ∧ Hid (Blk wr (w.heap.size + 1) 26 #[.int .i64 0, .int .i64 0, .slice none 0 0]) ∧ Hid (Below w.heap.size w wr)) (fun i _ => k - (intOf i).toNat)
 case atStart => exact ⟨0, l, some ⟨h, 0, none⟩, cr, Nat.zero_le _, rfl, ISO.out, Lib.hid rfl, HF, hrW, BNW, BRW, hbW⟩
 case round =>
  obtain ⟨j, x, A', c', hj, rfl, hxl, hps, hfx, hrr, BNr, BRr, hbr⟩ := hrel
  obtain ⟨p0, p1, p2⟩ := BNr.out.q3
  have hNl := BNr.out.lt
  by_cases hlt : j < k
  · obtain ⟨m, hm⟩ := list_split (l := ms) (k := j) (by rw [HKL.out]; exact hlt)
    obtain ⟨b, o, rfl, hbb, e0, e1, e2⟩ := rows_at3 (rdx HM.out hbr.out) hm
    have hokm : okM m = true := by have := HOK.out; rw [List.all_eq_true] at this; exact this m (List.mem_of_getElem? hm)
    have hstep := play_take hps.out hm
    have HMV := fun (w : World) h => moved_any u lo A' n c' x m w hfx.out hokm h
    have hmvl : (mvL x m).length = n := by rw [mvL_len]; exact hxl
    cases hmb : mvB u lo x m
    · rw [hmb] at HMV
      rw [show mvF u lo x m = (0, 0, []) by unfold mvF; rw [hmb]; rfl] at HMV
      have HMVh := Lib.hid HMV
      have hnone := Lib.hid (play_none (k := j + 1) (by rw [hstep, hmb]; rfl))
      clear HMV hmb hstep hm
      go_wp2_with fail
      refine (HMVh.out _ (Reads.of_own (hrr.out.alloc _))).mono ?_
      rintro e w5 ⟨A1, c1, rfl, hr1, hb⟩
      have BR5 := Lib.hid ((BRr.out.al _).ext hb)
      have hb5 := Lib.hid (ext_trans (ext_alloc hbr.out _) hb)
      obtain ⟨s0, s1, s2⟩ := BR5.out.q3
      obtain ⟨z0, z1, z2⟩ := BR5.out.z3
      have hRl := BR5.out.lt
      clear hb hr1
      have hne1 : ¬ w5.heap.size = w.heap.size + 1 := by omega
      go_wp2
      refine bodyPost_ret (v := .tuple #[frV 0 0 none 0 0, .bool false]) (by simp [results, Try.results38, go_sem, *]) rfl ?_
      rw [HY.out, HO2.out, hnone.out.2, hnone.out.1]
      refine ⟨none, 0, rfl, World.ownsRow_nil _ _ _ _, ?_⟩
      repeat (first | (with_reducible exact hb5.out) | (with_reducible refine ext_alloc ?_ _) | (with_reducible refine fill_below ?_ (Nat.le_succ _)))
    · rw [hmb] at HMV
      rw [show mvF u lo x m = (u, lo, mvL x m) by unfold mvF; rw [if_pos hmb]] at HMV
      unfold RetFrB at HMV
      dsimp only at HMV
      rw [hmvl] at HMV
      have HMVh := Lib.hid HMV
      have hnext := Lib.hid (show playS u lo l (ms.take (j + 1)) = some (mvL x m) by rw [hstep, if_pos hmb])
      have hfn := Lib.hid (mvB_fr hmb)
      clear HMV hmb hstep hm
      go_wp2_with fail
      refine (HMVh.out _ (Reads.of_own (hrr.out.alloc _))).mono ?_
      rintro e w5 ⟨A1, c1, rfl, hr1, hb⟩
      have hr5 := Lib.hid (own_base (base' := w.heap.size) hr1 (ext_alloc hbr.out _).size)
      have BR5 := Lib.hid ((BRr.out.al _).ext hb)
      have BN5 := Lib.hid ((BNr.out.al _).ext hb)
      have hb5 := Lib.hid (ext_trans (ext_alloc hbr.out _) hb)
      obtain ⟨s0, s1, s2⟩ := BN5.out.q3
      obtain ⟨z0, z1, z2⟩ := BN5.out.z3
      have hRl := BN5.out.lt
      have hnn := Lib.hid (own_nbT hr5.out BN5.out (by decide))
      clear hb hr1 p0 p1 p2
      have hne1 : ¬ w5.heap.size = N := by omega
      have hne2 : ¬ N = w5.heap.size := by omega
      go_wp2
      go_roundw
      case rel =>
       refine ⟨j + 1, mvL x m, A1, c1, by omega, by go_num, hmvl, hnext, hfn, Lib.hid ?_, Lib.hid ?_, Lib.hid ?_, Lib.hid ?_⟩
       · repeat (first | (with_reducible exact hr5.out) | (with_reducible refine World.ownsRow.alloc ?_ _) | (with_reducible refine fill_own' ?_ hnn.out))
       · repeat (first | (with_reducible refine Blk.al ?_ _) | (with_reducible exact fr_put BN5.out) | (with_reducible exact fr_put (BN5.out.al _)))
       · repeat (first | (with_reducible exact BR5.out) | (with_reducible refine Blk.al ?_ _) | (with_reducible refine fill_far ?_ hneNR))
       · repeat (first | (with_reducible exact hb5.out) | (with_reducible refine ext_alloc ?_ _) | (with_reducible refine fill_below ?_ hNle))
      case measure => simp [intOf]; omega
  · obtain rfl : j = k := by omega
    have hsome := Lib.hid (show playS u lo l ms = some x by rw [← hps.out, List.take_of_length_le (by rw [HKL.out]; exact Nat.le_refl _)])
    obtain ⟨s0, s1, s2⟩ := BRr.out.q3
    obtain ⟨z0, z1, z2⟩ := BRr.out.z3
    have hRl := BRr.out.lt
    go_wp2
    refine bodyPost_ret (v := .tuple #[frV u lo A' n c', .bool true]) (by simp [results, Try.results38, go_sem, *]) rfl ?_
    rw [HY.out, HO2.out, hsome.out, show playF u lo l ms = (u, lo, x) by unfold playF; rw [hsome.out]]
    refine ⟨A', c', by dsimp only; rw [hxl]; rfl, ?_, fill_below hbr.out (Nat.le_succ _)⟩
    dsimp only
    rw [hxl]
    exact fill_own' hrr.out (own_nbT hrr.out BRr.out (by decide))
set_option maxRecDepth 100000 in
set_option maxHeartbeats 4000000 in
theorem specPlayMoves_any (u lo : Int) (A : Option Addr) (n c : Nat) (l : List R2) (B : Option Addr) (k cb : Nat) (ms : List R3) (w : World) (hn' : n ≤ 1048576) (hk : k ≤ 1048576) (h : Reads w w.heap.size 2 A n (rowsV2 l)) (hm : Reads w w.heap.size 3 B k (rowsV3 ms)) :
 Calls Try.prog 41 #[frV u lo A n c, .slice B k cb] w (RetFrB w (if frB u lo l && mvsB ms then playF u lo l ms else (0, 0, [])) (frB u lo l && mvsB ms && (playS u lo l ms).isSome)) := by
 have hl := rows_len2 h
 have hkl := rows_len3 hm
 have H := Lib.hid h
 have HM := Lib.hid hm
 have BF0 := Lib.hid ((Blk.born w #[.int .i64 u, .int .i64 lo, .slice A n c] 26 (H := w.heap.size) rfl).al (.cells #[.int .i64 0, .int .i64 0, .slice none 0 0] 26))
 have BR0 := Lib.hid (Blk.born (w.alloc (.cells #[.int .i64 u, .int .i64 lo, .slice A n c] 26)) #[.int .i64 0, .int .i64 0, .slice none 0 0] 26 (H := w.heap.size + 1) (by simp))
 have hbx := Lib.hid (ext_alloc (ext_alloc (ext_refl w) (.cells #[.int .i64 u, .int .i64 lo, .slice A n c] 26)) (.cells #[.int .i64 0, .int .i64 0, .slice none 0 0] 26))
 have hle1 := Nat.le_succ w.heap.size
 clear h hm
 cases hfr : frB u lo l
 · rw [show (if (false && mvsB ms) = true then playF u lo l ms else (0, 0, [])) = (0, 0, []) by simp, show (false && mvsB ms && (playS u lo l ms).isSome) = false by simp]
   have HFR := Lib.hid hfr
   clear hfr
   go_enter Try.func41, Try.ntmps41
   go_wp2_with fail
   refine (l2Good_any u lo A n c l _ hn' (rdx H.out hbx.out)).mono ?_
   rw [HFR.out]
   rintro e w1 ⟨rfl, hb1⟩
   have BR1 := Lib.hid (BR0.out.ext hb1)
   have hb2 := Lib.hid (ext_trans hbx.out hb1)
   obtain ⟨s0, s1, s2⟩ := BR1.out.q3
   obtain ⟨z0, z1, z2⟩ := BR1.out.z3
   have hRl := BR1.out.lt
   clear hb1
   go_wp2
   refine bodyPost_ret (v := .tuple #[frV 0 0 none 0 0, .bool false]) (by simp [results, Try.results41, go_sem, *]) rfl ?_
   exact ⟨none, 0, rfl, World.ownsRow_nil _ _ _ _, fill_below hb2.out hle1⟩
 cases hmr : mvsB ms
 · rw [show (if (true && false) = true then playF u lo l ms else (0, 0, [])) = (0, 0, []) by simp, show (true && false && (playS u lo l ms).isSome) = false by simp]
   have HFR := Lib.hid hfr
   have HMR := Lib.hid hmr
   clear hfr hmr
   go_enter Try.func41, Try.ntmps41
   go_wp2_with fail
   refine (l2Good_any u lo A n c l _ hn' (rdx H.out hbx.out)).mono ?_
   rw [HFR.out]
   rintro e w1 ⟨rfl, hb1⟩
   have BR1 := Lib.hid (BR0.out.ext hb1)
   have hb2 := Lib.hid (ext_trans hbx.out hb1)
   clear hb1
   go_wp2_with fail
   refine (l4Good_any B k cb ms _ hk (rdx HM.out hb2.out)).mono ?_
   rw [HMR.out]
   rintro e w2 ⟨rfl, hb1⟩
   have BR1 := Lib.hid (BR1.out.ext hb1)
   have hb2 := Lib.hid (ext_trans hb2.out hb1)
   obtain ⟨s0, s1, s2⟩ := BR1.out.q3
   obtain ⟨z0, z1, z2⟩ := BR1.out.z3
   have hRl := BR1.out.lt
   clear hb1
   go_wp2
   refine bodyPost_ret (v := .tuple #[frV 0 0 none 0 0, .bool false]) (by simp [results, Try.results41, go_sem, *]) rfl ?_
   exact ⟨none, 0, rfl, World.ownsRow_nil _ _ _ _, fill_below hb2.out hle1⟩
 rw [show (if (true && true) = true then playF u lo l ms else (0, 0, [])) = playF u lo l ms by simp, show (true && true && (playS u lo l ms).isSome) = (playS u lo l ms).isSome by simp]
 have hf := hfr
 have hok : ms.all okM = true := by unfold mvsB at hmr; simp only [Bool.and_eq_true] at hmr; exact hmr.2
 have HFR := Lib.hid hfr
 have HMR := Lib.hid hmr
 clear hfr hmr
 obtain ⟨_, _, hn1, hn8⟩ := frB_head hf
 rw [hl] at hn1 hn8
 have hn : n ≤ 1048576 := by omega
 have HKL := Lib.hid hkl
 have HF := Lib.hid hf
 have HOK := Lib.hid hok
 have ISO := Lib.hid (show l.length = n from hl)
 obtain ⟨Y, hY⟩ : ∃ Y, Y = playF u lo l ms := ⟨_, rfl⟩
 obtain ⟨ok, hok2⟩ : ∃ ok, ok = (playS u lo l ms).isSome := ⟨_, rfl⟩
 rw [← hY, ← hok2]
 have HY := Lib.hid hY
 have HO2 := Lib.hid hok2
 clear hkl hl hf hok hY hok2
 go_enter Try.func41, Try.ntmps41
 go_wp2_with fail
 refine (l2Good_any u lo A n c l _ hn' (rdx H.out hbx.out)).mono ?_
 rw [HFR.out]
 rintro e w1 ⟨rfl, hb1⟩
 have BR0' := Lib.hid (BR0.out.ext hb1)
 have BF0' := Lib.hid (BF0.out.ext hb1)
 have hbx' := Lib.hid (ext_trans hbx.out hb1)
 clear hb1
 go_wp2_with fail
 refine (l4Good_any B k cb ms _ hk (rdx HM.out hbx'.out)).mono ?_
 rw [HMR.out]
 rintro e w1' ⟨rfl, hb1⟩
 have BR1 := Lib.hid (BR0'.out.ext hb1)
 have BF1 := Lib.hid (BF0'.out.ext hb1)
 have hb2 := Lib.hid (ext_trans hbx'.out hb1)
 obtain ⟨f0, f1, f2⟩ := BF1.out.q3
 clear hb1
 go_wp2_with fail
 refine (l2Own_fr u lo A n c l _ hn1 hn (rdx H.out hb2.out)).mono ?_
 rintro e w2 ⟨h, cr, rfl, hr2, hb3⟩
 have hr2 := Lib.hid (own_base (base' := w.heap.size) hr2 hb2.out.size)
 have BR2 := Lib.hid (BR1.out.ext hb3)
 have hb4 := Lib.hid (ext_trans hb2.out hb3)
 have hRl := BR2.out.lt
 obtain ⟨N, hN⟩ : ∃ N, N = w2.heap.size := ⟨_, rfl⟩
 obtain ⟨W, hW⟩ : ∃ W, W = w2.alloc (.cells #[.int .i64 u, .int .i64 lo, .slice (some ⟨h, 0, none⟩) n cr] 26) := ⟨_, rfl⟩
 have BNW := Lib.hid (show Blk W N 26 #[.int .i64 u, .int .i64 lo, .slice (some ⟨h, 0, none⟩) n cr] by rw [hW]; exact Blk.born _ _ _ hN)
 have BRW := Lib.hid (show Blk W (w.heap.size + 1) 26 #[.int .i64 0, .int .i64 0, .slice none 0 0] by rw [hW]; exact BR2.out.al _)
 have hrW := Lib.hid (show W.ownsRow w.heap.size 96 2 (.slice (some ⟨h, 0, none⟩) n cr) n (rowsV2 l) by rw [hW]; exact hr2.out.alloc _)
 have hbW := Lib.hid (show Below w.heap.size w W by rw [hW]; exact ext_alloc hb4.out _)
 have HWN := Lib.hid (And.intro hW hN)
 have hneNR : N ≠ w.heap.size + 1 := by omega
 have hNle : w.heap.size ≤ N := by omega
 clear hb3 hN hW hRl
 go_wp2
 rw [← HWN.out.2, ← HWN.out.1]
 clear HWN
 go_loopw [8] (fun i wr => ∃ (j : Nat) (x : List R2) (A' : Option Addr) (c' : Nat), j ≤ k ∧ i = .int .i64 j ∧ x.length = n ∧ Hid (playS u lo l (ms.take j) = some x) ∧ Hid (frB u lo x = true) ∧ Hid (wr.ownsRow w.heap.size 96 2 (.slice A' n c') n (rowsV2 x)) ∧ Hid (Blk wr N 26 #[.int .i64 u, .int .i64 lo, .slice A' n c']) ∧ Hid (Blk wr (w.heap.size + 1) 26 #[.int .i64 0, .int .i64 0, .slice none 0 0]) ∧ Hid (Below w.heap.size w wr)) (fun i _ => k - (intOf i).toNat)
 case atStart => exact ⟨0, l, some ⟨h, 0, none⟩, cr, Nat.zero_le _, rfl, ISO.out, Lib.hid rfl, HF, hrW, BNW, BRW, hbW⟩
 case round =>
  obtain ⟨j, x, A', c', hj, rfl, hxl, hps, hfx, hrr, BNr, BRr, hbr⟩ := hrel
  obtain ⟨p0, p1, p2⟩ := BNr.out.q3
  have hNl := BNr.out.lt
  by_cases hlt : j < k
  · obtain ⟨m, hm⟩ := list_split (l := ms) (k := j) (by rw [HKL.out]; exact hlt)
    obtain ⟨b, o, rfl, hbb, e0, e1, e2⟩ := rows_at3 (rdx HM.out hbr.out) hm
    have hokm : okM m = true := by have := HOK.out; rw [List.all_eq_true] at this; exact this m (List.mem_of_getElem? hm)
    have hstep := play_take hps.out hm
    have HMV := fun (w : World) h => l4Make_any u lo A' n c' x m w hfx.out hokm h
    have hmvl : (mvL x m).length = n := by rw [mvL_len]; exact hxl
    cases hmb : mvB u lo x m
    · rw [hmb] at HMV
      rw [show mvF u lo x m = (0, 0, []) by unfold mvF; rw [hmb]; rfl] at HMV
      have HMVh := Lib.hid HMV
      have hnone := Lib.hid (play_none (k := j + 1) (by rw [hstep, hmb]; rfl))
      clear HMV hmb hstep hm
      go_wp2
      go_region_law (first | (go_simp; go_at_call 79; refine (HMVh.out _ (Reads.of_own (World.ownsRow.drew hrr.out))).mono ?_; rintro e w5 ⟨A1, c1, rfl, hr1, hb⟩; have hbA := Lib.hid (show Below wr.heap.size wr w5 from ext_trans (ext_drew (ext_refl _)) hb); have hr1 := Lib.hid hr1; obtain ⟨p0B, p1B, p2B⟩ := (BNr.out.ext hbA.out).q3; obtain ⟨z0, z1, z2⟩ := (BNr.out.ext hbA.out).z3; have hNl5 := (BNr.out.ext hbA.out).lt))
      all_goals
       have BR5 := Lib.hid (BRr.out.ext hbA.out)
       have hb5 := Lib.hid (ext_trans hbr.out hbA.out)
       have BR6 := Lib.hid (fill_far (a := .int .i64 0) (b := .int .i64 0) (c := .slice none 0 c1) BR5.out hneNR)
       obtain ⟨s0, s1, s2⟩ := BR5.out.q3
       obtain ⟨y0, y1, y2⟩ := BR5.out.z3
       have hRl := BR5.out.lt
       have hne1 : ¬ N = w.heap.size + 1 := hneNR
       go_wp2
       refine bodyPost_ret (v := .tuple #[frV 0 0 none 0 0, .bool false]) (by simp [results, Try.results41, go_sem, *]) rfl ?_
       rw [HY.out, HO2.out, hnone.out.2, hnone.out.1]
       refine ⟨none, 0, rfl, World.ownsRow_nil _ _ _ _, ?_⟩
       repeat (first | (with_reducible exact hb5.out) | (with_reducible refine fill_below ?_ (Nat.le_succ _)) | (with_reducible refine fill_below ?_ hNle))
    · rw [hmb] at HMV
      rw [show mvF u lo x m = (u, lo, mvL x m) by unfold mvF; rw [if_pos hmb]] at HMV
      unfold RetFrB at HMV
      dsimp only at HMV
      rw [hmvl] at HMV
      have HMVh := Lib.hid HMV
      have hnext := Lib.hid (show playS u lo l (ms.take (j + 1)) = some (mvL x m) by rw [hstep, if_pos hmb])
      have hfn := Lib.hid (mvB_fr hmb)
      clear HMV hmb hstep hm
      go_wp2
      go_region_law (first | (go_simp; go_at_call 79; refine (HMVh.out _ (Reads.of_own (World.ownsRow.drew hrr.out))).mono ?_; rintro e w5 ⟨A1, c1, rfl, hr1, hb⟩; have hbA := Lib.hid (show Below wr.heap.size wr w5 from ext_trans (ext_drew (ext_refl _)) hb); have hr1 := Lib.hid hr1; obtain ⟨p0B, p1B, p2B⟩ := (BNr.out.ext hbA.out).q3; obtain ⟨z0, z1, z2⟩ := (BNr.out.ext hbA.out).z3; have hNl5 := (BNr.out.ext hbA.out).lt))
      all_goals
       have BR5 := Lib.hid (BRr.out.ext hbA.out)
       have BN5 := Lib.hid (BNr.out.ext hbA.out)
       have hb5 := Lib.hid (ext_trans hbr.out hbA.out)
       have hr5 := Lib.hid (own_base (base' := w.heap.size) hr1.out hbr.out.size)
       have hnn := Lib.hid (own_nbT hr5.out BN5.out (by decide))
       go_wp2
       go_roundw
       case rel =>
        exact ⟨j + 1, mvL x m, A1, c1, by omega, by go_num, hmvl, hnext, hfn, Lib.hid (fill_own' hr5.out hnn.out), Lib.hid (fr_put BN5.out), Lib.hid (fill_far BR5.out hneNR), Lib.hid (fill_below hb5.out hNle)⟩
       case measure => simp [intOf]; omega
  · obtain rfl : j = k := by omega
    have hsome := Lib.hid (show playS u lo l ms = some x by rw [← hps.out, List.take_of_length_le (by rw [HKL.out]; exact Nat.le_refl _)])
    obtain ⟨s0, s1, s2⟩ := BRr.out.q3
    obtain ⟨z0, z1, z2⟩ := BRr.out.z3
    have hRl := BRr.out.lt
    go_wp2
    refine bodyPost_ret (v := .tuple #[frV u lo A' n c', .bool true]) (by simp [results, Try.results41, go_sem, *]) rfl ?_
    rw [HY.out, HO2.out, hsome.out, show playF u lo l ms = (u, lo, x) by unfold playF; rw [hsome.out]]
    refine ⟨A', c', by dsimp only; rw [hxl]; rfl, ?_, fill_below hbr.out (Nat.le_succ _)⟩
    dsimp only
    rw [hxl]
    exact fill_own' hrr.out (own_nbT hrr.out BRr.out (by decide))
end Go.Proofs.Ytphhelmcaehclaa
