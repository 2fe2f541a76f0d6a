/- A move made on a frame: the reference's. -/
import Derived.Test.YtfmenkhfhibmeaaVGmB
import Derived.Test.YtfmenkhfhibmeaaVFrG
namespace Go.Proofs.Ytfmenkhfhibmeaa
open Go.RowKit
set_option linter.unusedVariables false
set_option linter.unusedSimpArgs false
end Go.Proofs.Ytfmenkhfhibmeaa
namespace Go.Proofs.Ytfmenkhfhibmeaa
open Go.RowKit
set_option linter.unusedVariables false
set_option linter.unusedSimpArgs false
def playS (u lo : Int) (l : List R2) (ms : List R3) : Option (List R2) := ms.foldl (fun o m => o.bind fun x => if mvB u lo x m = true then some (mvL x m) else none) (some l)
def playF (u lo : Int) (l : List R2) (ms : List R3) : Int × Int × List R2 := match playS u lo l ms with | some x => (u, lo, x) | none => (0, 0, [])
theorem play_take {u lo : Int} {l : List R2} {ms : List R3} {k : Nat} {x : List R2} {m : R3} (h : playS u lo l (ms.take k) = some x) (hm : ms[k]? = some m) : playS u lo l (ms.take (k + 1)) = if mvB u lo x m = true then some (mvL x m) else none := by
 unfold playS at h ⊢
 rw [List.take_add_one, hm]
 simp [List.foldl_append, h]
theorem fold_none {u lo : Int} (ms : List R3) : ms.foldl (fun (o : Option (List R2)) m => o.bind fun x => if mvB u lo x m = true then some (mvL x m) else none) none = none := by
 induction ms with
 | nil => rfl
 | cons m ms ih => exact ih
theorem play_none {u lo : Int} {l : List R2} {ms : List R3} {k : Nat} (h : playS u lo l (ms.take k) = none) : playF u lo l ms = (0, 0, []) ∧ (playS u lo l ms).isSome = false := by
 have e : playS u lo l ms = none := by
  unfold playS at h ⊢
  conv => lhs; rw [← List.take_append_drop k ms]
  rw [List.foldl_append, h]
  exact fold_none _
 unfold playF
 rw [e]
 exact ⟨rfl, rfl⟩
theorem mvB_fr {u lo : Int} {x : List R2} {m : R3} (h : mvB u lo x m = true) : frB u lo (mvL x m) = true := by
 unfold mvB at h
 simp only [Bool.and_eq_true] at h
 exact h.2
set_option maxRecDepth 100000 in
set_option maxHeartbeats 4000000 in
theorem played_any (u lo : Int) (A : Option Addr) (n c : Nat) (l : List R2) (B : Option Addr) (k cb : Nat) (ms : List R3) (w : World) (hf : frB u lo l = true) (hok : ms.all okM = true) (hk : k ≤ 1048576) (h : Reads w w.heap.size 2 A n (rowsV2 l)) (hm : Reads w w.heap.size 3 B k (rowsV3 ms)) :
 Calls Try.prog 71 #[frV u lo A n c, .slice B k cb] w (RetFrB w (playF u lo l ms) (playS u lo l ms).isSome) := by
 have hl := rows_len2 h
 have hkl := rows_len3 hm
 have H := Lib.hid h
 have HM := Lib.hid hm
 have BF0 := Lib.hid ((Blk.born w #[.int .i64 u, .int .i64 lo, .slice A n c] 26 (H := w.heap.size) rfl).al (.cells #[.int .i64 0, .int .i64 0, .slice none 0 0] 26))
 have BR0 := Lib.hid (Blk.born (w.alloc (.cells #[.int .i64 u, .int .i64 lo, .slice A n c] 26)) #[.int .i64 0, .int .i64 0, .slice none 0 0] 26 (H := w.heap.size + 1) (by simp))
 have hbx := Lib.hid (ext_alloc (ext_alloc (ext_refl w) (.cells #[.int .i64 u, .int .i64 lo, .slice A n c] 26)) (.cells #[.int .i64 0, .int .i64 0, .slice none 0 0] 26))
 have hle1 := Nat.le_succ w.heap.size
 clear h hm
 obtain ⟨_, _, hn1, hn8⟩ := frB_head hf
 rw [hl] at hn1 hn8
 have hn : n ≤ 1048576 := by omega
 have HKL := Lib.hid hkl
 have HF := Lib.hid hf
 have HOK := Lib.hid hok
 have ISO := Lib.hid (show l.length = n from hl)
 obtain ⟨Y, hY⟩ : ∃ Y, Y = playF u lo l ms := ⟨_, rfl⟩
 obtain ⟨ok, hok2⟩ : ∃ ok, ok = (playS u lo l ms).isSome := ⟨_, rfl⟩
 rw [← hY, ← hok2]
 have HY := Lib.hid hY
 have HO2 := Lib.hid hok2
 clear hkl hl hf hok hY hok2
 go_enter Try.func71, Try.ntmps71
 have BF1 := BF0
 have BR1 := BR0
 have hb2 := hbx
 go_wp2_with fail
 refine (own_fr u lo A n c l _ hn1 hn (rdx H.out hb2.out)).mono ?_
 rintro e w2 ⟨h, cr, rfl, hr2, hb3⟩
 have hr2 := Lib.hid (own_base (base' := w.heap.size) hr2 hb2.out.size)
 have BR2 := Lib.hid (BR1.out.ext hb3)
 have hb4 := Lib.hid (ext_trans hb2.out hb3)
 have hRl := BR2.out.lt
 obtain ⟨N, hN⟩ : ∃ N, N = w2.heap.size := ⟨_, rfl⟩
 obtain ⟨W, hW⟩ : ∃ W, W = w2.alloc (.cells #[.int .i64 u, .int .i64 lo, .slice (some ⟨h, 0, none⟩) n cr] 26) := ⟨_, rfl⟩
 have BNW := Lib.hid (show Blk W N 26 #[.int .i64 u, .int .i64 lo, .slice (some ⟨h, 0, none⟩) n cr] by rw [hW]; exact Blk.born _ _ _ hN)
 have BRW := Lib.hid (show Blk W (w.heap.size + 1) 26 #[.int .i64 0, .int .i64 0, .slice none 0 0] by rw [hW]; exact BR2.out.al _)
 have hrW := Lib.hid (show W.ownsRow w.heap.size 55 2 (.slice (some ⟨h, 0, none⟩) n cr) n (rowsV2 l) by rw [hW]; exact hr2.out.alloc _)
 have hbW := Lib.hid (show Below w.heap.size w W by rw [hW]; exact ext_alloc hb4.out _)
 have HWN := Lib.hid (And.intro hW hN)
 have hneNR : N ≠ w.heap.size + 1 := by omega
 have hNle : w.heap.size ≤ N := by omega
 clear hb3 hN hW hRl
 go_wp2
 rw [← HWN.out.2, ← HWN.out.1]
 clear HWN
 go_loopw [15] (fun i wr => ∃ (j : Nat) (x : List R2) (A' : Option Addr) (c' : Nat), j ≤ k ∧ i = .int .i64 j ∧ x.length = n ∧ Hid (playS u lo l (ms.take j) = some x) ∧ Hid (frB u lo x = true) ∧ Hid (wr.ownsRow w.heap.size 55 2 (.slice A' n c') n (rowsV2 x)) ∧ Hid (Blk wr N 26 #[.int .i64 u, .int .i64 lo, .slice A' n c']) ∧ Hid (Blk wr (w.heap.size + 1) 26 #[.int .i64 0, .int .i64 0, .slice none 0 0]) ∧ Hid (Below w.heap.size w wr)) (fun i _ => k - (intOf i).toNat)
 case atStart => exact ⟨0, l, some ⟨h, 0, none⟩, cr, Nat.zero_le _, rfl, ISO.out, Lib.hid rfl, HF, hrW, BNW, BRW, hbW⟩
 case round =>
  obtain ⟨j, x, A', c', hj, rfl, hxl, hps, hfx, hrr, BNr, BRr, hbr⟩ := hrel
  obtain ⟨p0, p1, p2⟩ := BNr.out.q3
  have hNl := BNr.out.lt
  by_cases hlt : j < k
  · obtain ⟨m, hm⟩ := list_split (l := ms) (k := j) (by rw [HKL.out]; exact hlt)
    obtain ⟨b, o, rfl, hbb, e0, e1, e2⟩ := rows_at3 (rdx HM.out hbr.out) hm
    have hokm : okM m = true := by have := HOK.out; rw [List.all_eq_true] at this; exact this m (List.mem_of_getElem? hm)
    have hstep := play_take hps.out hm
    have HMV := fun (w : World) h => moved_any u lo A' n c' x m w hfx.out hokm h
    have hmvl : (mvL x m).length = n := by rw [mvL_len]; exact hxl
    cases hmb : mvB u lo x m
    · rw [hmb] at HMV
      rw [show mvF u lo x m = (0, 0, []) by unfold mvF; rw [hmb]; rfl] at HMV
      have HMVh := Lib.hid HMV
      have hnone := Lib.hid (play_none (k := j + 1) (by rw [hstep, hmb]; rfl))
      clear HMV hmb hstep hm
      go_wp2_with fail
      refine (HMVh.out _ (Reads.of_own (hrr.out.alloc _))).mono ?_
      rintro e w5 ⟨A1, c1, rfl, hr1, hb⟩
      have BR5 := Lib.hid ((BRr.out.al _).ext hb)
      have hb5 := Lib.hid (ext_trans (ext_alloc hbr.out _) hb)
      obtain ⟨s0, s1, s2⟩ := BR5.out.q3
      obtain ⟨z0, z1, z2⟩ := BR5.out.z3
      have hRl := BR5.out.lt
      clear hb hr1
      have hne1 : ¬ w5.heap.size = w.heap.size + 1 := by omega
      go_wp2
      refine bodyPost_ret (v := .tuple #[frV 0 0 none 0 0, .bool false]) (by simp [results, Try.results71, go_sem, *]) rfl ?_
      rw [HY.out, HO2.out, hnone.out.2, hnone.out.1]
      refine ⟨none, 0, rfl, World.ownsRow_nil _ _ _ _, ?_⟩
      repeat (first | (with_reducible exact hb5.out) | (with_reducible refine ext_alloc ?_ _) | (with_reducible refine fill_below ?_ (Nat.le_succ _)))
    · rw [hmb] at HMV
      rw [show mvF u lo x m = (u, lo, mvL x m) by unfold mvF; rw [if_pos hmb]] at HMV
      unfold RetFrB at HMV
      dsimp only at HMV
      rw [hmvl] at HMV
      have HMVh := Lib.hid HMV
      have hnext := Lib.hid (show playS u lo l (ms.take (j + 1)) = some (mvL x m) by rw [hstep, if_pos hmb])
      have hfn := Lib.hid (mvB_fr hmb)
      clear HMV hmb hstep hm
      go_wp2_with fail
      refine (HMVh.out _ (Reads.of_own (hrr.out.alloc _))).mono ?_
      rintro e w5 ⟨A1, c1, rfl, hr1, hb⟩
      have hr5 := Lib.hid (own_base (base' := w.heap.size) hr1 (ext_alloc hbr.out _).size)
      have BR5 := Lib.hid ((BRr.out.al _).ext hb)
      have BN5 := Lib.hid ((BNr.out.al _).ext hb)
      have hb5 := Lib.hid (ext_trans (ext_alloc hbr.out _) hb)
      obtain ⟨s0, s1, s2⟩ := BN5.out.q3
      obtain ⟨z0, z1, z2⟩ := BN5.out.z3
      have hRl := BN5.out.lt
      have hnn := Lib.hid (own_nbT hr5.out BN5.out (by decide))
      clear hb hr1 p0 p1 p2
      have hne1 : ¬ w5.heap.size = N := by omega
      have hne2 : ¬ N = w5.heap.size := by omega
      go_wp2
      go_roundw
      case rel =>
       refine ⟨j + 1, mvL x m, A1, c1, by omega, by go_num, hmvl, hnext, hfn, Lib.hid ?_, Lib.hid ?_, Lib.hid ?_, Lib.hid ?_⟩
       · repeat (first | (with_reducible exact hr5.out) | (with_reducible refine World.ownsRow.alloc ?_ _) | (with_reducible refine fill_own' ?_ hnn.out))
       · repeat (first | (with_reducible refine Blk.al ?_ _) | (with_reducible exact fr_put BN5.out) | (with_reducible exact fr_put (BN5.out.al _)))
       · repeat (first | (with_reducible exact BR5.out) | (with_reducible refine Blk.al ?_ _) | (with_reducible refine fill_far ?_ hneNR))
       · repeat (first | (with_reducible exact hb5.out) | (with_reducible refine ext_alloc ?_ _) | (with_reducible refine fill_below ?_ hNle))
      case measure => simp [intOf]; omega
  · obtain rfl : j = k := by omega
    have hsome := Lib.hid (show playS u lo l ms = some x by rw [← hps.out, List.take_of_length_le (by rw [HKL.out]; exact Nat.le_refl _)])
    obtain ⟨s0, s1, s2⟩ := BRr.out.q3
    obtain ⟨z0, z1, z2⟩ := BRr.out.z3
    have hRl := BRr.out.lt
    go_wp2
    refine bodyPost_ret (v := .tuple #[frV u lo A' n c', .bool true]) (by simp [results, Try.results71, go_sem, *]) rfl ?_
    rw [HY.out, HO2.out, hsome.out, show playF u lo l ms = (u, lo, x) by unfold playF; rw [hsome.out]]
    refine ⟨A', c', by dsimp only; rw [hxl]; rfl, ?_, fill_below hbr.out (Nat.le_succ _)⟩
    dsimp only
    rw [hxl]
    exact fill_own' hrr.out (own_nbT hrr.out BRr.out (by decide))
end Go.Proofs.Ytfmenkhfhibmeaa
namespace Go.Proofs.Ytfmenkhfhibmeaa
open Go.RowKit
set_option linter.unusedVariables false
set_option linter.unusedSimpArgs false
theorem play_app (u lo : Int) (l : List R2) (ms ns : List R3) : playS u lo l (ms ++ ns) = (playS u lo l ms).bind fun x => playS u lo x ns := by
 unfold playS
 rw [List.foldl_append]
 cases h : ms.foldl (fun (o : Option (List R2)) m => o.bind fun x => if mvB u lo x m = true then some (mvL x m) else none) (some l) with
 | none => exact fold_none ns
 | some x => rfl
theorem play_one {u lo : Int} {l : List R2} {m : R3} (h : mvB u lo l m = true) : playS u lo l [m] = some (mvL l m) := by
 unfold playS
 simp [h]
theorem frB_set {u lo : Int} {l : List R2} {r : Nat} {x : R2} (h : frB u lo l = true) (hx : rodB u lo x = true) : frB u lo (l.set r x) = true := by
 simp only [frB, Bool.and_eq_true, List.all_eq_true] at h ⊢
 refine ⟨by rw [List.length_set]; exact h.1, fun y hy => ?_⟩
 rcases List.mem_or_eq_of_mem_set hy with hy | rfl
 · exact h.2 y hy
 · exact hx
theorem frB_rodsD {u lo : Int} {ds : List Int} (hh : headB u lo ds.length = true) (hw : WF ds) : frB u lo (rodsD ds) = true := by
 have h2 := hh
 simp only [headB, Bool.and_eq_true, inB_iff] at h2
 simp only [frB, Bool.and_eq_true, List.all_eq_true]
 refine ⟨by rw [rodsD_len]; exact hh, fun y hy => ?_⟩
 unfold rodsD at hy
 obtain ⟨d, hd, rfl⟩ := List.mem_map.1 hy
 have := hw d hd
 unfold rodB rodD
 simp only [Bool.and_eq_true, inB_iff]
 omega
theorem turn_up {u lo : Int} {l : List R2} (h : frB u lo l = true) {r : Nat} {x : R2} {a : Int} (hr : l[r]? = some x) (ha : 0 ≤ a ∧ a ≤ 1) (hx : 0 ≤ x.a ∧ x.a ≤ 1) : playS u lo l (if a - x.a = 0 then [] else [⟨r, 0, a - x.a⟩]) = some (l.set r ⟨a, x.b⟩) ∧ (if a - x.a = 0 then ([] : List R3) else [⟨r, 0, a - x.a⟩]).all okM = true := by
 obtain ⟨hu, hlo, h1, h8⟩ := frB_head h
 have hrl : r < l.length := (List.getElem?_eq_some_iff.1 hr).1
 have hrod := frB_rod h hr
 by_cases e : a - x.a = 0
 · rw [if_pos e]
   refine ⟨?_, rfl⟩
   have : (⟨a, x.b⟩ : R2) = x := by rw [R2.eq_iff]; exact ⟨by show a = x.a; omega, rfl⟩
   rw [this, set_same hr]
   rfl
 · rw [if_neg e]
   have hb : bump x ⟨r, 0, a - x.a⟩ = ⟨a, x.b⟩ := by
    unfold bump
    rw [if_pos rfl, R2.eq_iff]
    exact ⟨by show x.a + (a - x.a) = a; omega, rfl⟩
   have hg : l.getD r ⟨0, 0⟩ = x := by rw [List.getD_eq_getElem?_getD, hr]; rfl
   have hm : mvL l ⟨r, 0, a - x.a⟩ = l.set r ⟨a, x.b⟩ := by
    show l.set (r : Int).toNat (bump (l.getD (r : Int).toNat ⟨0, 0⟩) ⟨r, 0, a - x.a⟩) = _
    rw [Int.toNat_natCast, hg, hb]
   refine ⟨?_, ?_⟩
   · rw [play_one, hm]
     unfold mvB
     rw [hm, frB_set h]
     · simp; exact hrl
     · unfold rodB
       simp only [Bool.and_eq_true, inB_iff]
       omega
   · simp only [List.all_cons, List.all_nil, Bool.and_true, okM_iff]
     exact ⟨by omega, by omega, by omega, e⟩
theorem turn_lo {u lo : Int} {l : List R2} (h : frB u lo l = true) {r : Nat} {x : R2} {b : Int} (hr : l[r]? = some x) (hb : 0 ≤ b ∧ b ≤ 4) (hx : 0 ≤ x.b ∧ x.b ≤ 4) : playS u lo l (if b - x.b = 0 then [] else [⟨r, 1, b - x.b⟩]) = some (l.set r ⟨x.a, b⟩) ∧ (if b - x.b = 0 then ([] : List R3) else [⟨r, 1, b - x.b⟩]).all okM = true := by
 obtain ⟨hu, hlo, h1, h8⟩ := frB_head h
 have hrl : r < l.length := (List.getElem?_eq_some_iff.1 hr).1
 have hrod := frB_rod h hr
 by_cases e : b - x.b = 0
 · rw [if_pos e]
   refine ⟨?_, rfl⟩
   have : (⟨x.a, b⟩ : R2) = x := by rw [R2.eq_iff]; exact ⟨rfl, by show b = x.b; omega⟩
   rw [this, set_same hr]
   rfl
 · rw [if_neg e]
   have hb : bump x ⟨r, 1, b - x.b⟩ = ⟨x.a, b⟩ := by
    unfold bump
    rw [if_neg (show ¬ (1 : Int) = 0 by decide), R2.eq_iff]
    exact ⟨rfl, by show x.b + (b - x.b) = b; omega⟩
   have hg : l.getD r ⟨0, 0⟩ = x := by rw [List.getD_eq_getElem?_getD, hr]; rfl
   have hm : mvL l ⟨r, 1, b - x.b⟩ = l.set r ⟨x.a, b⟩ := by
    show l.set (r : Int).toNat (bump (l.getD (r : Int).toNat ⟨0, 0⟩) ⟨r, 1, b - x.b⟩) = _
    rw [Int.toNat_natCast, hg, hb]
   refine ⟨?_, ?_⟩
   · rw [play_one, hm]
     unfold mvB
     rw [hm, frB_set h]
     · simp; exact hrl
     · unfold rodB
       simp only [Bool.and_eq_true, inB_iff]
       omega
   · simp only [List.all_cons, List.all_nil, Bool.and_true, okM_iff]
     exact ⟨by omega, by omega, by omega, e⟩
theorem play_turn {u lo : Int} {l : List R2} (h : frB u lo l = true) {r : Nat} {a v : Int} (hr : l[r]? = some (rodD a)) (ha : 0 ≤ a ∧ a ≤ 9) (hv : 0 ≤ v ∧ v ≤ 9) : playS u lo l (turnM r a v) = some (l.set r (rodD v)) ∧ (turnM r a v).all okM = true := by
 have hrl : r < l.length := (List.getElem?_eq_some_iff.1 hr).1
 obtain ⟨hu, hlo, h1, h8⟩ := frB_head h
 have e1 : (rodD a).a = a / 5 := rfl
 have e2 : (rodD a).b = a % 5 := rfl
 have e3 : (rodD v).a = v / 5 := rfl
 have e4 : (rodD v).b = v % 5 := rfl
 obtain ⟨p1, q1⟩ := turn_up h hr (a := (rodD v).a) (by rw [e3]; omega) (by rw [e1]; omega)
 have hf : frB u lo (l.set r ⟨(rodD v).a, (rodD a).b⟩) = true := frB_set h (by
  unfold rodB
  simp only [Bool.and_eq_true, inB_iff, e2, e3]
  omega)
 obtain ⟨p2, q2⟩ := turn_lo hf (r := r) (x := ⟨(rodD v).a, (rodD a).b⟩) (b := (rodD v).b) (by rw [List.getElem?_set_self hrl]) (by rw [e4]; omega) (by show 0 ≤ (rodD a).b ∧ (rodD a).b ≤ 4; rw [e2]; omega)
 unfold turnM mvR
 refine ⟨?_, ?_⟩
 · rw [play_app, p1]
   show playS u lo (l.set r ⟨(rodD v).a, (rodD a).b⟩) _ = _
   rw [p2, List.set_set]
 · rw [List.all_append, q1, q2]; rfl
/-- from worker s on the moves, played, make the frame of worker s' -/
def Plays (u lo : Int) (s s' : WS) : Prop := s'.ds.length = s.ds.length ∧ ∃ ns, s'.ms = s.ms ++ ns ∧ ns.all okM = true ∧ playS u lo (rodsD s.ds) ns = some (rodsD s'.ds)
theorem Plays.refl (u lo : Int) (s : WS) : Plays u lo s s := ⟨rfl, [], by simp, rfl, rfl⟩
theorem Plays.trans {u lo : Int} {a b c : WS} (h : Plays u lo a b) (h2 : Plays u lo b c) : Plays u lo a c := by
 obtain ⟨l1, ns, e1, o1, p1⟩ := h
 obtain ⟨l2, ms, e2, o2, p2⟩ := h2
 refine ⟨by omega, ns ++ ms, by rw [e2, e1, List.append_assoc], by rw [List.all_append, o1, o2]; rfl, ?_⟩
 rw [play_app, p1]
 exact p2
theorem Plays.ask {u lo : Int} {s : WS} {ds : List Int} {ms : List R3} {q q' : Int} (h : Plays u lo s ⟨ds, ms, q⟩) : Plays u lo s ⟨ds, ms, q'⟩ := h
theorem Plays.turn {u lo : Int} (s : WS) {r : Nat} {v : Int} (q : Int) (hh : headB u lo s.ds.length = true) (hw : WF s.ds) (hr : r < s.ds.length) (hv : 0 ≤ v ∧ v ≤ 9) : Plays u lo s ⟨s.ds.set r v, s.ms ++ turnM r (s.ds.getD r 0) v, q⟩ := by
 obtain ⟨d, hd⟩ := list_split (l := s.ds) (k := r) hr
 have hg : s.ds.getD r 0 = d := by rw [List.getD_eq_getElem?_getD, hd]; rfl
 obtain ⟨p, o⟩ := play_turn (frB_rodsD hh hw) (rodsD_get hd) (hw.get hd) hv
 refine ⟨by simp, turnM r (s.ds.getD r 0) v, rfl, by rw [hg]; exact o, ?_⟩
 rw [hg, p]
 show some _ = some (rodsD (s.ds.set r v))
 rw [rodsD_set]
theorem addS_plays {u lo : Int} : ∀ (r : Nat) (d : Int) (s : WS), headB u lo s.ds.length = true → AddFit r d s.ds → Plays u lo s (addS r d s) := by
 intro r
 induction r with
 | zero => intro d s _ _; exact Plays.refl _ _ _
 | succ r ih =>
   intro d s hh hf
   by_cases h : 0 < d
   · rw [addS_pos s h]
     have hx := hf.2.2.2.1.getD r
     exact (Plays.turn s _ hh hf.2.2.2.1 hf.1 (by omega)).trans (ih _ _ (by show headB u lo (s.ds.set r _).length = true; rw [List.length_set]; exact hh) hf.step)
   · rw [addS_none s h]; exact Plays.refl _ _ _
theorem takeS_plays {u lo : Int} : ∀ (r : Nat) (d : Int) (s : WS), headB u lo s.ds.length = true → TakeFit r d s.ds → Plays u lo s (takeS r d s) := by
 intro r
 induction r with
 | zero => intro d s _ _; exact Plays.refl _ _ _
 | succ r ih =>
   intro d s hh hf
   by_cases h : 0 < d
   · have hv := hf.2.2.2.1.getD r
     by_cases hx : d ≤ s.ds.getD r 0
     · rw [takeS_in s h hx]
       exact Plays.turn s _ hh hf.2.2.2.1 hf.1 (by omega)
     · rw [takeS_left s h hx]
       exact (Plays.turn s _ hh hf.2.2.2.1 hf.1 (by have := hf.2.2.1; omega)).trans (ih _ _ (by show headB u lo (s.ds.set r _).length = true; rw [List.length_set]; exact hh) (hf.left hx))
   · rw [takeS_none s h]; exact Plays.refl _ _ _
theorem addN_plays {u lo : Int} {m : Int} {s : WS} (hh : headB u lo s.ds.length = true) (hw : WF s.ds) (h0 : 0 ≤ m) (hm : numD s.ds + m < pw s.ds.length) : ∀ k, k ≤ s.ds.length → Plays u lo s (addN s.ds.length m s k) := by
 intro k
 induction k with
 | zero => intro _; exact Plays.refl _ _ _
 | succ k ih =>
   intro hk
   refine (ih (by omega)).trans ?_
   rw [addN]
   exact addS_plays _ _ _ (by rw [addN_len]; exact hh) ((addN_facts hw h0 hm k (by omega)).2 (by omega))
theorem takeN_plays {u lo : Int} {m : Int} {s : WS} (hh : headB u lo s.ds.length = true) (hw : WF s.ds) (h0 : 0 ≤ m) (hm : m ≤ numD s.ds) : ∀ k, k ≤ s.ds.length → Plays u lo s (takeN s.ds.length m s k) := by
 intro k
 induction k with
 | zero => intro _; exact Plays.refl _ _ _
 | succ k ih =>
   intro hk
   refine (ih (by omega)).trans ?_
   rw [takeN]
   exact takeS_plays _ _ _ (by rw [takeN_len]; exact hh) ((takeN_facts hw h0 hm k (by omega)).2 (by omega))
theorem numD_inj : ∀ {a b : List Int}, WF a → WF b → a.length = b.length → numD a = numD b → a = b := by
 intro a
 induction a with
 | nil => intro b _ _ hl _; exact (List.eq_nil_of_length_eq_zero (by rw [← hl]; rfl)).symm
 | cons x a ih =>
   intro b ha hb hl he
   cases b with
   | nil => simp at hl
   | cons y b =>
     simp only [List.length_cons, Nat.add_right_cancel_iff] at hl
     have ha2 : WF a := fun z hz => ha z (List.mem_cons_of_mem _ hz)
     have hb2 : WF b := fun z hz => hb z (List.mem_cons_of_mem _ hz)
     have h1 := numD_bounds ha2
     have h2 := numD_bounds hb2
     rw [numD_cons, numD_cons, hl] at he
     rw [hl] at h1
     have hp := pw_pos b.length
     have hxy : x = y := by
      rcases Int.lt_trichotomy x y with h | h | h
      · have : (x + 1) * pw b.length ≤ y * pw b.length := Int.mul_le_mul_of_nonneg_right (by omega) (by omega)
        rw [Int.add_mul] at this
        omega
      · exact h
      · have : (y + 1) * pw b.length ≤ x * pw b.length := Int.mul_le_mul_of_nonneg_right (by omega) (by omega)
        rw [Int.add_mul] at this
        omega
     subst hxy
     rw [ih ha2 hb2 hl (by omega)]
/-- a standard frame is known by its number -/
theorem numR_rodsD (ds : List Int) : numR (rodsD ds) = numD ds := by unfold numR; rw [dsOf_rodsD]
end Go.Proofs.Ytfmenkhfhibmeaa
namespace Go.Proofs.Ytfmenkhfhibmeaa
open Go.RowKit
set_option linter.unusedVariables false
set_option linter.unusedSimpArgs false
/-- moves come back beside a bool -/
abbrev RetMv (w : World) (l : List R3) (ok : Bool) : Ending → World → Prop := RetSliceB w 81 3 l.length (rowsV3 l) ok
def addDms (u lo : Int) (l : List R2) (rod d : Int) : List R3 := if addDigitB u lo l rod d = true then (addS (rod.toNat + 1) d ⟨dsOf l, [], 0⟩).ms else []
def takeDms (u lo : Int) (l : List R2) (rod d : Int) : List R3 := if takeDigitB u lo l rod d = true then (takeS (rod.toNat + 1) d ⟨dsOf l, [], 0⟩).ms else []
def addNst (l : List R2) (m : Int) : WS := addN l.length m ⟨dsOf l, [], 0⟩ l.length
def takeNst (l : List R2) (m : Int) : WS := takeN l.length m ⟨dsOf l, [], 0⟩ l.length
def addNok (u lo : Int) (l : List R2) (m : Int) : Bool := goodB u lo l && canB l m
def takeNok (u lo : Int) (l : List R2) (m : Int) : Bool := goodB u lo l && canTB l m
def addNmok (u lo : Int) (l : List R2) (m : Int) : Bool := addNok u lo l m && decide ((addNst l m).ms.length ≤ 60)
def takeNmok (u lo : Int) (l : List R2) (m : Int) : Bool := takeNok u lo l m && decide ((takeNst l m).ms.length ≤ 60)
def addNms (u lo : Int) (l : List R2) (m : Int) : List R3 := if addNmok u lo l m = true then (addNst l m).ms else []
def takeNms (u lo : Int) (l : List R2) (m : Int) : List R3 := if takeNmok u lo l m = true then (takeNst l m).ms else []
set_option maxRecDepth 100000 in
theorem implAddDigitMoves_any (u lo : Int) (A : Option Addr) (n c : Nat) (l : List R2) (rod d : Int) (w : World) (hn : n ≤ 1048576) (h : Reads w w.heap.size 2 A n (rowsV2 l)) :
 Calls Try.prog 32 #[frV u lo A n c, .int .i64 rod, .int .i64 d] w (RetMv w (addDms u lo l rod d) (addDigitB u lo l rod d)) := by
 have H := Lib.hid h
 cases hg : addDigitB u lo l rod d
 · have e : addDms u lo l rod d = [] := by simp [addDms, hg]
   rw [e]
   have HG := Lib.hid hg
   clear h e hg
   go_enter Try.func32, Try.ntmps32
   go_wp2_with fail
   refine (addDigit_no u lo A n c l rod d _ hn (rdx H.out (ext_alloc (ext_refl w) _)) HG.out).mono ?_
   rintro e w1 ⟨rfl, hb1⟩
   go_wp2
   go_ret2
   exact ⟨none, 0, rfl, World.ownsRow_nil _ _ _ _, (by repeat (first | exact ext_refl _ | assumption | refine ext_alloc ?_ _ | refine ext_drew ?_ | refine ext_drewN ?_ _ | refine ext_set ?_ (by simp <;> omega) _ | refine ext_trans ?_ (by assumption)))⟩
 · have e : addDms u lo l rod d = (addS (rod.toNat + 1) d ⟨dsOf l, [], 0⟩).ms := by simp [addDms, hg]
   rw [e]
   have HG := Lib.hid hg
   obtain ⟨st, hst⟩ : ∃ st, st = addS (rod.toNat + 1) d ⟨dsOf l, [], 0⟩ := ⟨_, rfl⟩
   rw [← hst]
   have HST := Lib.hid hst
   clear h e hg hst
   go_enter Try.func32, Try.ntmps32
   go_wp2_with fail
   refine (addDigit_yes u lo A n c l rod d _ hn (rdx H.out (ext_alloc (ext_refl w) _)) HG.out).mono ?_
   rw [← HST.out]
   rintro e w1 ⟨g, rfl, hW, hb1⟩
   obtain ⟨hh, cr, cm, Am, hB, _, _, hm⟩ := hW
   obtain ⟨q0, q1, q2, q3, q4⟩ := hB.q5
   have hb2 := Lib.hid (ext_trans (ext_alloc (ext_refl w) _) hb1)
   have hm := Lib.hid (own_base (base' := w.heap.size) hm (by simp))
   clear hb1 hB
   go_wp2
   go_ret2
   exact ⟨Am, cm, rfl, hm.out, hb2.out⟩
set_option maxRecDepth 100000 in
theorem implTakeDigitMoves_any (u lo : Int) (A : Option Addr) (n c : Nat) (l : List R2) (rod d : Int) (w : World) (hn : n ≤ 1048576) (h : Reads w w.heap.size 2 A n (rowsV2 l)) :
 Calls Try.prog 45 #[frV u lo A n c, .int .i64 rod, .int .i64 d] w (RetMv w (takeDms u lo l rod d) (takeDigitB u lo l rod d)) := by
 have H := Lib.hid h
 cases hg : takeDigitB u lo l rod d
 · have e : takeDms u lo l rod d = [] := by simp [takeDms, hg]
   rw [e]
   have HG := Lib.hid hg
   clear h e hg
   go_enter Try.func45, Try.ntmps45
   go_wp2_with fail
   refine (takeDigit_no u lo A n c l rod d _ hn (rdx H.out (ext_alloc (ext_refl w) _)) HG.out).mono ?_
   rintro e w1 ⟨rfl, hb1⟩
   go_wp2
   go_ret2
   exact ⟨none, 0, rfl, World.ownsRow_nil _ _ _ _, (by repeat (first | exact ext_refl _ | assumption | refine ext_alloc ?_ _ | refine ext_drew ?_ | refine ext_drewN ?_ _ | refine ext_set ?_ (by simp <;> omega) _ | refine ext_trans ?_ (by assumption)))⟩
 · have e : takeDms u lo l rod d = (takeS (rod.toNat + 1) d ⟨dsOf l, [], 0⟩).ms := by simp [takeDms, hg]
   rw [e]
   have HG := Lib.hid hg
   obtain ⟨st, hst⟩ : ∃ st, st = takeS (rod.toNat + 1) d ⟨dsOf l, [], 0⟩ := ⟨_, rfl⟩
   rw [← hst]
   have HST := Lib.hid hst
   clear h e hg hst
   go_enter Try.func45, Try.ntmps45
   go_wp2_with fail
   refine (takeDigit_yes u lo A n c l rod d _ hn (rdx H.out (ext_alloc (ext_refl w) _)) HG.out).mono ?_
   rw [← HST.out]
   rintro e w1 ⟨g, rfl, hW, hb1⟩
   obtain ⟨hh, cr, cm, Am, hB, _, _, hm⟩ := hW
   obtain ⟨q0, q1, q2, q3, q4⟩ := hB.q5
   have hb2 := Lib.hid (ext_trans (ext_alloc (ext_refl w) _) hb1)
   have hm := Lib.hid (own_base (base' := w.heap.size) hm (by simp))
   clear hb1 hB
   go_wp2
   go_ret2
   exact ⟨Am, cm, rfl, hm.out, hb2.out⟩
set_option maxRecDepth 100000 in
theorem implAddNumberMoves_any (u lo : Int) (A : Option Addr) (n c : Nat) (l : List R2) (m : Int) (w : World) (hn : n ≤ 1048576) (h : Reads w w.heap.size 2 A n (rowsV2 l)) :
 Calls Try.prog 25 #[frV u lo A n c, .int .i64 m] w (RetMv w (addNms u lo l m) (addNmok u lo l m)) := by
 have hl := rows_len2 h
 have H := Lib.hid h
 cases hg : addNok u lo l m
 · have e0 : addNmok u lo l m = false := by simp [addNmok, hg]
   have e : addNms u lo l m = [] := by simp [addNms, e0]
   rw [e, e0]
   have HG := Lib.hid hg
   clear h e e0 hg hl
   go_enter Try.func25, Try.ntmps25
   go_wp2_with fail
   refine (addNumber_no u lo A n c l m _ hn (rdx H.out (ext_alloc (ext_refl w) _)) HG.out).mono ?_
   rintro e w1 ⟨rfl, hb1⟩
   go_wp2
   go_ret2
   exact ⟨none, 0, rfl, World.ownsRow_nil _ _ _ _, (by repeat (first | exact ext_refl _ | assumption | refine ext_alloc ?_ _ | refine ext_drew ?_ | refine ext_drewN ?_ _ | refine ext_set ?_ (by simp <;> omega) _ | refine ext_trans ?_ (by assumption)))⟩
 · have HG := Lib.hid hg
   have ES : addNst l m = addN n m ⟨dsOf l, [], 0⟩ n := by rw [← hl]; rfl
   have EB : addNmok u lo l m = decide ((addNst l m).ms.length ≤ 60) := by simp [addNmok, hg]
   have EM : addNms u lo l m = if (addNst l m).ms.length ≤ 60 then (addNst l m).ms else [] := by simp [addNms, EB]
   have EN := Lib.hid (show (addNst l m).ms.length ≤ 16 * n by
    obtain ⟨hgd, _⟩ : goodB u lo l = true ∧ canB l m = true := by simpa [addNok] using hg
    obtain ⟨hf, _⟩ : frB u lo l = true ∧ stdB l = true := by simpa [goodB] using hgd
    have := (frB_head hf).2.2.2
    rw [ES]
    have := addN_msl n m ⟨dsOf l, [], 0⟩ n (by omega)
    simpa using this)
   obtain ⟨st, hst⟩ : ∃ st, st = addN n m ⟨dsOf l, [], 0⟩ n := ⟨_, rfl⟩
   rw [EB, EM, ES, ← hst]
   rw [ES, ← hst] at EN
   have EN := EN.out
   have HST := Lib.hid hst
   clear h hg hl EB EM ES hst
   by_cases h60 : st.ms.length ≤ 60
   · rw [if_pos h60]
     have hd : decide (st.ms.length ≤ 60) = true := by simpa using h60
     rw [hd]
     clear hd
     go_enter Try.func25, Try.ntmps25
     go_wp2_with fail
     refine (addNumber_yes u lo A n c l m _ hn (rdx H.out (ext_alloc (ext_refl w) _)) HG.out).mono ?_
     rw [← HST.out]
     rintro e w1 ⟨g, rfl, hW, hb1⟩
     obtain ⟨hh, cr, cm, Am, hB, _, _, hm⟩ := hW
     obtain ⟨q0, q1, q2, q3, q4⟩ := hB.q5
     have hb2 := Lib.hid (ext_trans (ext_alloc (ext_refl w) _) hb1)
     have hm := Lib.hid (own_base (base' := w.heap.size) hm (by simp))
     clear hb1 hB
     go_wp2
     go_ret2
     exact ⟨Am, cm, rfl, hm.out, hb2.out⟩
   · rw [if_neg h60]
     have hd : decide (st.ms.length ≤ 60) = false := by simpa using h60
     rw [hd]
     clear hd
     go_enter Try.func25, Try.ntmps25
     go_wp2_with fail
     refine (addNumber_yes u lo A n c l m _ hn (rdx H.out (ext_alloc (ext_refl w) _)) HG.out).mono ?_
     rw [← HST.out]
     rintro e w1 ⟨g, rfl, hW, hb1⟩
     obtain ⟨hh, cr, cm, Am, hB, _, _, hm⟩ := hW
     obtain ⟨q0, q1, q2, q3, q4⟩ := hB.q5
     have hb2 := Lib.hid (ext_trans (ext_alloc (ext_refl w) _) hb1)
     clear hb1 hB hm
     go_wp2
     go_ret2
     exact ⟨none, 0, rfl, World.ownsRow_nil _ _ _ _, hb2.out⟩
set_option maxRecDepth 100000 in
theorem implTakeNumberMoves_any (u lo : Int) (A : Option Addr) (n c : Nat) (l : List R2) (m : Int) (w : World) (hn : n ≤ 1048576) (h : Reads w w.heap.size 2 A n (rowsV2 l)) :
 Calls Try.prog 37 #[frV u lo A n c, .int .i64 m] w (RetMv w (takeNms u lo l m) (takeNmok u lo l m)) := by
 have hl := rows_len2 h
 have H := Lib.hid h
 cases hg : takeNok u lo l m
 · have e0 : takeNmok u lo l m = false := by simp [takeNmok, hg]
   have e : takeNms u lo l m = [] := by simp [takeNms, e0]
   rw [e, e0]
   have HG := Lib.hid hg
   clear h e e0 hg hl
   go_enter Try.func37, Try.ntmps37
   go_wp2_with fail
   refine (takeNumber_no u lo A n c l m _ hn (rdx H.out (ext_alloc (ext_refl w) _)) HG.out).mono ?_
   rintro e w1 ⟨rfl, hb1⟩
   go_wp2
   go_ret2
   exact ⟨none, 0, rfl, World.ownsRow_nil _ _ _ _, (by repeat (first | exact ext_refl _ | assumption | refine ext_alloc ?_ _ | refine ext_drew ?_ | refine ext_drewN ?_ _ | refine ext_set ?_ (by simp <;> omega) _ | refine ext_trans ?_ (by assumption)))⟩
 · have HG := Lib.hid hg
   have ES : takeNst l m = takeN n m ⟨dsOf l, [], 0⟩ n := by rw [← hl]; rfl
   have EB : takeNmok u lo l m = decide ((takeNst l m).ms.length ≤ 60) := by simp [takeNmok, hg]
   have EM : takeNms u lo l m = if (takeNst l m).ms.length ≤ 60 then (takeNst l m).ms else [] := by simp [takeNms, EB]
   have EN := Lib.hid (show (takeNst l m).ms.length ≤ 16 * n by
    obtain ⟨hgd, _⟩ : goodB u lo l = true ∧ canTB l m = true := by simpa [takeNok] using hg
    obtain ⟨hf, _⟩ : frB u lo l = true ∧ stdB l = true := by simpa [goodB] using hgd
    have := (frB_head hf).2.2.2
    rw [ES]
    have := takeN_msl n m ⟨dsOf l, [], 0⟩ n (by omega)
    simpa using this)
   obtain ⟨st, hst⟩ : ∃ st, st = takeN n m ⟨dsOf l, [], 0⟩ n := ⟨_, rfl⟩
   rw [EB, EM, ES, ← hst]
   rw [ES, ← hst] at EN
   have EN := EN.out
   have HST := Lib.hid hst
   clear h hg hl EB EM ES hst
   by_cases h60 : st.ms.length ≤ 60
   · rw [if_pos h60]
     have hd : decide (st.ms.length ≤ 60) = true := by simpa using h60
     rw [hd]
     clear hd
     go_enter Try.func37, Try.ntmps37
     go_wp2_with fail
     refine (takeNumber_yes u lo A n c l m _ hn (rdx H.out (ext_alloc (ext_refl w) _)) HG.out).mono ?_
     rw [← HST.out]
     rintro e w1 ⟨g, rfl, hW, hb1⟩
     obtain ⟨hh, cr, cm, Am, hB, _, _, hm⟩ := hW
     obtain ⟨q0, q1, q2, q3, q4⟩ := hB.q5
     have hb2 := Lib.hid (ext_trans (ext_alloc (ext_refl w) _) hb1)
     have hm := Lib.hid (own_base (base' := w.heap.size) hm (by simp))
     clear hb1 hB
     go_wp2
     go_ret2
     exact ⟨Am, cm, rfl, hm.out, hb2.out⟩
   · rw [if_neg h60]
     have hd : decide (st.ms.length ≤ 60) = false := by simpa using h60
     rw [hd]
     clear hd
     go_enter Try.func37, Try.ntmps37
     go_wp2_with fail
     refine (takeNumber_yes u lo A n c l m _ hn (rdx H.out (ext_alloc (ext_refl w) _)) HG.out).mono ?_
     rw [← HST.out]
     rintro e w1 ⟨g, rfl, hW, hb1⟩
     obtain ⟨hh, cr, cm, Am, hB, _, _, hm⟩ := hW
     obtain ⟨q0, q1, q2, q3, q4⟩ := hB.q5
     have hb2 := Lib.hid (ext_trans (ext_alloc (ext_refl w) _) hb1)
     clear hb1 hB hm
     go_wp2
     go_ret2
     exact ⟨none, 0, rfl, World.ownsRow_nil _ _ _ _, hb2.out⟩
end Go.Proofs.Ytfmenkhfhibmeaa
