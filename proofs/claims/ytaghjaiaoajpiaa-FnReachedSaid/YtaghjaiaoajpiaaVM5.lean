/- A move made on a frame: the reference's. -/
import Derived.Test.YtaghjaiaoajpiaaVGmB
import Derived.Test.YtaghjaiaoajpiaaVM4
import Derived.Test.YtaghjaiaoajpiaaVRegN
import Derived.Test.YtaghjaiaoajpiaaVM3
import Derived.Test.YtaghjaiaoajpiaaVFrG
namespace Go.Proofs.Ytaghjaiaoajpiaa
open Go.RowKit
set_option linter.unusedVariables false
set_option linter.unusedSimpArgs false
end Go.Proofs.Ytaghjaiaoajpiaa
namespace Go.Proofs.Ytaghjaiaoajpiaa
open Go.RowKit
set_option linter.unusedVariables false
set_option linter.unusedSimpArgs false
def playS (u lo : Int) (l : List R2) (ms : List R3) : Option (List R2) := ms.foldl (fun o m => o.bind fun x => if mvB u lo x m = true then some (mvL x m) else none) (some l)
def playF (u lo : Int) (l : List R2) (ms : List R3) : Int × Int × List R2 := match playS u lo l ms with | some x => (u, lo, x) | none => (0, 0, [])
theorem play_take {u lo : Int} {l : List R2} {ms : List R3} {k : Nat} {x : List R2} {m : R3} (h : playS u lo l (ms.take k) = some x) (hm : ms[k]? = some m) : playS u lo l (ms.take (k + 1)) = if mvB u lo x m = true then some (mvL x m) else none := by
 unfold playS at h ⊢
 rw [List.take_add_one, hm]
 simp [List.foldl_append, h]
theorem fold_none {u lo : Int} (ms : List R3) : ms.foldl (fun (o : Option (List R2)) m => o.bind fun x => if mvB u lo x m = true then some (mvL x m) else none) none = none := by
 induction ms with
 | nil => rfl
 | cons m ms ih => exact ih
theorem play_none {u lo : Int} {l : List R2} {ms : List R3} {k : Nat} (h : playS u lo l (ms.take k) = none) : playF u lo l ms = (0, 0, []) ∧ (playS u lo l ms).isSome = false := by
 have e : playS u lo l ms = none := by
  unfold playS at h ⊢
  conv => lhs; rw [← List.take_append_drop k ms]
  rw [List.foldl_append, h]
  exact fold_none _
 unfold playF
 rw [e]
 exact ⟨rfl, rfl⟩
theorem mvB_fr {u lo : Int} {x : List R2} {m : R3} (h : mvB u lo x m = true) : frB u lo (mvL x m) = true := by
 unfold mvB at h
 simp only [Bool.and_eq_true] at h
 exact h.2
set_option maxRecDepth 100000 in
set_option maxHeartbeats 4000000 in
theorem played_any (u lo : Int) (A : Option Addr) (n c : Nat) (l : List R2) (B : Option Addr) (k cb : Nat) (ms : List R3) (w : World) (hf : frB u lo l = true) (hok : ms.all okM = true) (hk : k ≤ 1048576) (h : Reads w w.heap.size 2 A n (rowsV2 l)) (hm : Reads w w.heap.size 3 B k (rowsV3 ms)) :
 Calls Try.prog 51 #[frV u lo A n c, .slice B k cb] w (RetFrB w (playF u lo l ms) (playS u lo l ms).isSome) := by
 have hl := rows_len2 h
 have hkl := rows_len3 hm
 have H := Lib.hid h
 have HM := Lib.hid hm
 have BF0 := Lib.hid ((Blk.born w #[.int .i64 u, .int .i64 lo, .slice A n c] 26 (H := w.heap.size) rfl).al (.cells #[.int .i64 0, .int .i64 0, .slice none 0 0] 26))
 have BR0 := Lib.hid (Blk.born (w.alloc (.cells #[.int .i64 u, .int .i64 lo, .slice A n c] 26)) #[.int .i64 0, .int .i64 0, .slice none 0 0] 26 (H := w.heap.size + 1) (by simp))
 have hbx := Lib.hid (ext_alloc (ext_alloc (ext_refl w) (.cells #[.int .i64 u, .int .i64 lo, .slice A n c] 26)) (.cells #[.int .i64 0, .int .i64 0, .slice none 0 0] 26))
 have hle1 := Nat.le_succ w.heap.size
 clear h hm
 obtain ⟨_, _, hn1, hn8⟩ := frB_head hf
 rw [hl] at hn1 hn8
 have hn : n ≤ 1048576 := by omega
 have HKL := Lib.hid hkl
 have HF := Lib.hid hf
 have HOK := Lib.hid hok
 have ISO := Lib.hid (show l.length = n from hl)
 obtain ⟨Y, hY⟩ : ∃ Y, Y = playF u lo l ms := ⟨_, rfl⟩
 obtain ⟨ok, hok2⟩ : ∃ ok, ok = (playS u lo l ms).isSome := ⟨_, rfl⟩
 rw [← hY, ← hok2]
 have HY := Lib.hid hY
 have HO2 := Lib.hid hok2
 clear hkl hl hf hok hY hok2
 go_enter Try.func51, Try.ntmps51
 have BF1 := BF0
 have BR1 := BR0
 have hb2 := hbx
 go_wp2_with fail
 refine (own_fr u lo A n c l _ hn1 hn (rdx H.out hb2.out)).mono ?_
 rintro e w2 ⟨h, cr, rfl, hr2, hb3⟩
 have hr2 := Lib.hid (own_base (base' := w.heap.size) hr2 hb2.out.size)
 have BR2 := Lib.hid (BR1.out.ext hb3)
 have hb4 := Lib.hid (ext_trans hb2.out hb3)
 have hRl := BR2.out.lt
 obtain ⟨N, hN⟩ : ∃ N, N = w2.heap.size := ⟨_, rfl⟩
 obtain ⟨W, hW⟩ : ∃ W, W = w2.alloc (.cells #[.int .i64 u, .int .i64 lo, .slice (some ⟨h, 0, none⟩) n cr] 26) := ⟨_, rfl⟩
 have BNW := Lib.hid (show Blk W N 26 #[.int .i64 u, .int .i64 lo, .slice (some ⟨h, 0, none⟩) n cr] by rw [hW]; exact Blk.born _ _ _ hN)
 have BRW := Lib.hid (show Blk W (w.heap.size + 1) 26 #[.int .i64 0, .int .i64 0, .slice none 0 0] by rw [hW]; exact BR2.out.al _)
 have hrW := Lib.hid (show W.ownsRow w.heap.size 42 2 (.slice (some ⟨h, 0, none⟩) n cr) n (rowsV2 l) by rw [hW]; exact hr2.out.alloc _)
 have hbW := Lib.hid (show Below w.heap.size w W by rw [hW]; exact ext_alloc hb4.out _)
 have HWN := Lib.hid (And.intro hW hN)
 have hneNR : N ≠ w.heap.size + 1 := by omega
 have hNle : w.heap.size ≤ N := by omega
 clear hb3 hN hW hRl
 go_wp2
 rw [← HWN.out.2, ← HWN.out.1]
 clear HWN
 go_loopw [15] (fun i wr => ∃ (j : Nat) (x : List R2) (A' : Option Addr) (c' : Nat), j ≤ k ∧ i = .int .i64 j ∧ x.length = n ∧ Hid (playS u lo l (ms.take j) = some x) ∧ Hid (frB u lo x = true) ∧ Hid (wr.ownsRow w.heap.size 42 2 (.slice A' n c') n (rowsV2 x)) ∧ Hid (Blk wr N 26 #[.int .i64 u, .int .i64 lo, .slice A' n c']) ∧ Hid (Blk wr (w.heap.size + 1) 26 #[.int .i64 0, .int .i64 0, .slice none 0 0]) ∧ Hid (Below w.heap.size w wr)) (fun i _ => k - (intOf i).toNat)
 case atStart => exact ⟨0, l, some ⟨h, 0, none⟩, cr, Nat.zero_le _, rfl, ISO.out, Lib.hid rfl, HF, hrW, BNW, BRW, hbW⟩
 case round =>
  obtain ⟨j, x, A', c', hj, rfl, hxl, hps, hfx, hrr, BNr, BRr, hbr⟩ := hrel
  obtain ⟨p0, p1, p2⟩ := BNr.out.q3
  have hNl := BNr.out.lt
  by_cases hlt : j < k
  · obtain ⟨m, hm⟩ := list_split (l := ms) (k := j) (by rw [HKL.out]; exact hlt)
    obtain ⟨b, o, rfl, hbb, e0, e1, e2⟩ := rows_at3 (rdx HM.out hbr.out) hm
    have hokm : okM m = true := by have := HOK.out; rw [List.all_eq_true] at this; exact this m (List.mem_of_getElem? hm)
    have hstep := play_take hps.out hm
    have HMV := fun (w : World) h => moved_any u lo A' n c' x m w hfx.out hokm h
    have hmvl : (mvL x m).length = n := by rw [mvL_len]; exact hxl
    cases hmb : mvB u lo x m
    · rw [hmb] at HMV
      rw [show mvF u lo x m = (0, 0, []) by unfold mvF; rw [hmb]; rfl] at HMV
      have HMVh := Lib.hid HMV
      have hnone := Lib.hid (play_none (k := j + 1) (by rw [hstep, hmb]; rfl))
      clear HMV hmb hstep hm
      go_wp2_with fail
      refine (HMVh.out _ (Reads.of_own (hrr.out.alloc _))).mono ?_
      rintro e w5 ⟨A1, c1, rfl, hr1, hb⟩
      have BR5 := Lib.hid ((BRr.out.al _).ext hb)
      have hb5 := Lib.hid (ext_trans (ext_alloc hbr.out _) hb)
      obtain ⟨s0, s1, s2⟩ := BR5.out.q3
      obtain ⟨z0, z1, z2⟩ := BR5.out.z3
      have hRl := BR5.out.lt
      clear hb hr1
      have hne1 : ¬ w5.heap.size = w.heap.size + 1 := by omega
      go_wp2
      refine bodyPost_ret (v := .tuple #[frV 0 0 none 0 0, .bool false]) (by simp [results, Try.results51, go_sem, *]) rfl ?_
      rw [HY.out, HO2.out, hnone.out.2, hnone.out.1]
      refine ⟨none, 0, rfl, World.ownsRow_nil _ _ _ _, ?_⟩
      repeat (first | (with_reducible exact hb5.out) | (with_reducible refine ext_alloc ?_ _) | (with_reducible refine fill_below ?_ (Nat.le_succ _)))
    · rw [hmb] at HMV
      rw [show mvF u lo x m = (u, lo, mvL x m) by unfold mvF; rw [if_pos hmb]] at HMV
      unfold RetFrB at HMV
      dsimp only at HMV
      rw [hmvl] at HMV
      have HMVh := Lib.hid HMV
      have hnext := Lib.hid (show playS u lo l (ms.take (j + 1)) = some (mvL x m) by rw [hstep, if_pos hmb])
      have hfn := Lib.hid (mvB_fr hmb)
      clear HMV hmb hstep hm
      go_wp2_with fail
      refine (HMVh.out _ (Reads.of_own (hrr.out.alloc _))).mono ?_
      rintro e w5 ⟨A1, c1, rfl, hr1, hb⟩
      have hr5 := Lib.hid (own_base (base' := w.heap.size) hr1 (ext_alloc hbr.out _).size)
      have BR5 := Lib.hid ((BRr.out.al _).ext hb)
      have BN5 := Lib.hid ((BNr.out.al _).ext hb)
      have hb5 := Lib.hid (ext_trans (ext_alloc hbr.out _) hb)
      obtain ⟨s0, s1, s2⟩ := BN5.out.q3
      obtain ⟨z0, z1, z2⟩ := BN5.out.z3
      have hRl := BN5.out.lt
      have hnn := Lib.hid (own_nbT hr5.out BN5.out (by decide))
      clear hb hr1 p0 p1 p2
      have hne1 : ¬ w5.heap.size = N := by omega
      have hne2 : ¬ N = w5.heap.size := by omega
      go_wp2
      go_roundw
      case rel =>
       refine ⟨j + 1, mvL x m, A1, c1, by omega, by go_num, hmvl, hnext, hfn, Lib.hid ?_, Lib.hid ?_, Lib.hid ?_, Lib.hid ?_⟩
       · repeat (first | (with_reducible exact hr5.out) | (with_reducible refine World.ownsRow.alloc ?_ _) | (with_reducible refine fill_own' ?_ hnn.out))
       · repeat (first | (with_reducible refine Blk.al ?_ _) | (with_reducible exact fr_put BN5.out) | (with_reducible exact fr_put (BN5.out.al _)))
       · repeat (first | (with_reducible exact BR5.out) | (with_reducible refine Blk.al ?_ _) | (with_reducible refine fill_far ?_ hneNR))
       · repeat (first | (with_reducible exact hb5.out) | (with_reducible refine ext_alloc ?_ _) | (with_reducible refine fill_below ?_ hNle))
      case measure => simp [intOf]; omega
  · obtain rfl : j = k := by omega
    have hsome := Lib.hid (show playS u lo l ms = some x by rw [← hps.out, List.take_of_length_le (by rw [HKL.out]; exact Nat.le_refl _)])
    obtain ⟨s0, s1, s2⟩ := BRr.out.q3
    obtain ⟨z0, z1, z2⟩ := BRr.out.z3
    have hRl := BRr.out.lt
    go_wp2
    refine bodyPost_ret (v := .tuple #[frV u lo A' n c', .bool true]) (by simp [results, Try.results51, go_sem, *]) rfl ?_
    rw [HY.out, HO2.out, hsome.out, show playF u lo l ms = (u, lo, x) by unfold playF; rw [hsome.out]]
    refine ⟨A', c', by dsimp only; rw [hxl]; rfl, ?_, fill_below hbr.out (Nat.le_succ _)⟩
    dsimp only
    rw [hxl]
    exact fill_own' hrr.out (own_nbT hrr.out BRr.out (by decide))
end Go.Proofs.Ytaghjaiaoajpiaa
namespace Go.Proofs.Ytaghjaiaoajpiaa
open Go.RowKit
set_option linter.unusedVariables false
set_option linter.unusedSimpArgs false
theorem hv {p q : Prop} (h : p) (k : p → q) : q := k h
def wasteOk (u lo : Int) (l : List R2) (ms : List R3) : Bool := frB u lo l && rcdB ms && (playS u lo l ms).isSome
def wasteV (u lo : Int) (l : List R2) (ms : List R3) : Int := if wasteOk u lo l ms = true then beads ms - beads (btw l ((playS u lo l ms).getD []) l.length) else 0
theorem rec_small {ms : List R3} (h : rcdB ms = true) : smallM ms := by
 intro m hm
 unfold rcdB mvsB at h
 simp only [Bool.and_eq_true, List.all_eq_true] at h
 have := okM_iff.1 (h.2.2 m hm)
 omega
theorem play_inv {u lo : Int} {l : List R2} {ms : List R3} (hf : frB u lo l = true) : ∀ x, playS u lo l ms = some x → frB u lo x = true ∧ x.length = l.length := by
 unfold playS
 have key : ∀ (ms : List R3) (o : Option (List R2)), (∀ x, o = some x → frB u lo x = true ∧ x.length = l.length) → ∀ x, ms.foldl (fun o m => o.bind fun x => if mvB u lo x m = true then some (mvL x m) else none) o = some x → frB u lo x = true ∧ x.length = l.length := by
  intro ms
  induction ms with
  | nil => intro o ho x hx; exact ho x hx
  | cons m ms ih =>
    intro o ho x hx
    refine ih _ ?_ x hx
    intro y hy
    rcases o with _ | z
    · cases hy
    · simp only [Option.bind_some] at hy
      split at hy
      · rename_i hmv
        injection hy with hy
        subst hy
        exact ⟨mvB_fr hmv, by rw [mvL_len]; exact (ho z rfl).2⟩
      · cases hy
 exact key ms (some l) (fun x hx => by injection hx with hx; subst hx; exact ⟨hf, rfl⟩)
theorem play_fr {u lo : Int} {l x : List R2} {ms : List R3} (hf : frB u lo l = true) (h : playS u lo l ms = some x) : frB u lo x = true := (play_inv hf x h).1
theorem play_len {u lo : Int} {l x : List R2} {ms : List R3} (h : playS u lo l ms = some x) : x.length = l.length := by
 unfold playS at h
 have key : ∀ (ms : List R3) (o : Option (List R2)), (∀ x, o = some x → x.length = l.length) → ∀ x, ms.foldl (fun o m => o.bind fun x => if mvB u lo x m = true then some (mvL x m) else none) o = some x → x.length = l.length := by
  intro ms
  induction ms with
  | nil => intro o ho x hx; exact ho x hx
  | cons m ms ih =>
    intro o ho x hx
    refine ih _ ?_ x hx
    intro y hy
    rcases o with _ | z
    · cases hy
    · simp only [Option.bind_some] at hy
      split at hy
      · injection hy with hy
        subst hy
        rw [mvL_len]; exact ho z rfl
      · cases hy
 exact key ms (some l) (fun x hx => by injection hx with hx; subst hx; rfl) x h
end Go.Proofs.Ytaghjaiaoajpiaa
namespace Go.Proofs.Ytaghjaiaoajpiaa
open Go.RowKit
set_option linter.unusedVariables false
set_option linter.unusedSimpArgs false
def zeroW : Way := ⟨[], 0, 0, false⟩
def valT (n : Int) (j : Nat) : Int := n % 10 + 10 * (j : Int)
def valB (n : Int) (j : Nat) : Bool := decide (valT n j ≤ 15) && decide (valT n j ≤ n)
def wayNext (x : Way) (k : Nat) (rd f : R2) : Way := ⟨x.l ++ [f], x.m + (mvR (k : Int) rd f).length, x.b + beads (mvR (k : Int) rd f), true⟩
def wayStep (bt : Way → Way → Bool) (x : Way) (k : Nat) (rd : R2) (o : Way) (f : R2) : Way := if bt (wayNext x k rd f) o = true then wayNext x k rd f else o
def wayFold (bt : Way → Way → Bool) (x : Way) (k : Nat) (rd : R2) (o : Way) (fs : List R2) : Way := fs.foldl (wayStep bt x k rd) o
def bestSt (bt : Way → Way → Bool) (u lo : Int) (l : List R2) (r : Nat) (B : Int → Way) (n : Int) (j : Nat) (o : Way) : Way :=
 if valB n j = true then (if (B ((n - valT n j) / 10)).ok = true then wayFold bt (B ((n - valT n j) / 10)) r (l.getD r ⟨0, 0⟩) o (forms u lo (valT n j)) else o) else o
def bestTo (bt : Way → Way → Bool) (u lo : Int) (l : List R2) (r : Nat) (B : Int → Way) (n : Int) : Nat → Way
 | 0 => zeroW
 | j + 1 => bestSt bt u lo l r B n j (bestTo bt u lo l r B n j)
def bestP (bt : Way → Way → Bool) (u lo : Int) (l : List R2) : Nat → Int → Way
 | 0, n => ⟨[], 0, 0, n == 0⟩
 | r + 1, n => bestTo bt u lo l r (bestP bt u lo l r) n 2
theorem valB_no {n : Int} {j : Nat} (hn : 0 ≤ n) (h : valB n j = false) : valB n (j + 1) = false := by
 unfold valB valT at h ⊢
 simp only [Bool.and_eq_false_iff, decide_eq_false_iff_not] at h ⊢
 omega
theorem bestTo_stop {bt : Way → Way → Bool} {u lo : Int} {l : List R2} {r : Nat} {B : Int → Way} {n : Int} {j : Nat} (hn : 0 ≤ n) (hj : j ≤ 2) (h : valB n j = false) : bestTo bt u lo l r B n 2 = bestTo bt u lo l r B n j := by
 have e : ∀ k, valB n k = false → bestTo bt u lo l r B n (k + 1) = bestTo bt u lo l r B n k := fun k hk => by
  rw [bestTo, bestSt, hk]
  rfl
 rcases (show j = 0 ∨ j = 1 ∨ j = 2 by omega) with rfl | rfl | rfl
 · rw [e 1 (valB_no hn h), e 0 h]
 · exact e 1 h
 · rfl
/-- what a way of so many rods satisfies -/
def GoodW (u lo : Int) (r : Nat) (x : Way) : Prop := (x.ok = true → x.l.length = r) ∧ x.l.length ≤ r ∧ (∀ y ∈ x.l, 0 ≤ y.a ∧ y.a ≤ u ∧ 0 ≤ y.b ∧ y.b ≤ lo) ∧ 0 ≤ x.m ∧ x.m ≤ 2 * (r : Int) ∧ 0 ≤ x.b ∧ x.b ≤ 2000 * (r : Int)
theorem GoodW.zero (u lo : Int) (r : Nat) : GoodW u lo r zeroW := ⟨(fun h => by cases h), Nat.zero_le _, (fun y hy => by cases hy), by simp [zeroW], by simp [zeroW]; omega, by simp [zeroW], by simp [zeroW]; omega⟩
theorem formsN_mem {lo v : Int} {y : R2} : ∀ {k : Nat}, y ∈ formsN lo v k → 0 ≤ y.a ∧ y.a < k ∧ y.b = v - 5 * y.a ∧ 0 ≤ y.b ∧ y.b ≤ lo := by
 intro k
 induction k with
 | zero => intro h; cases h
 | succ k ih =>
   intro h
   rw [formsN] at h
   rcases List.mem_append.1 h with h | h
   · have := ih h
     omega
   · split at h
     · rename_i hb
       have hb := inB_iff.1 hb
       obtain rfl := List.mem_singleton.1 h
       dsimp only
       omega
     · cases h
theorem forms_mem {u lo v : Int} {y : R2} (h : y ∈ forms u lo v) : 0 ≤ y.a ∧ y.a ≤ u ∧ y.b = v - 5 * y.a ∧ 0 ≤ y.b ∧ y.b ≤ lo := by
 have := formsN_mem h
 omega
theorem formsN_len (lo v : Int) : ∀ k, (formsN lo v k).length ≤ k := by
 intro k
 induction k with
 | zero => exact Nat.zero_le _
 | succ k ih => rw [formsN, List.length_append]; split <;> simp <;> omega
theorem GoodW.next {u lo : Int} {l : List R2} (hf : frB u lo l = true) {r : Nat} {x : Way} {f : R2} (hx : GoodW u lo r x) (ho : x.ok = true) (hff : 0 ≤ f.a ∧ f.a ≤ u ∧ 0 ≤ f.b ∧ f.b ≤ lo) : GoodW u lo (r + 1) (wayNext x r (l.getD r ⟨0, 0⟩) f) := by
 obtain ⟨h1, h2, h3, h4, h5, h6, h7⟩ := hx
 have hh := frB_head hf
 have hs := mvR_small (k := (r : Int)) (fr_nine hf r) (s := f) (by omega)
 have hb := beads_bound hs (mvR (r : Int) (l.getD r ⟨0, 0⟩) f).length
 rw [List.take_of_length_le (Nat.le_refl _)] at hb
 have hm := mvR_len (r : Int) (l.getD r ⟨0, 0⟩) f
 unfold wayNext
 refine ⟨fun _ => ?_, ?_, fun y hy => ?_, ?_, ?_, ?_, ?_⟩
 · show (x.l ++ [f]).length = r + 1
   rw [List.length_append, h1 ho]
   rfl
 · show (x.l ++ [f]).length ≤ r + 1
   rw [List.length_append, h1 ho]
   exact Nat.le_refl _
 · rcases List.mem_append.1 hy with hy | hy
   · exact h3 y hy
   · obtain rfl := List.mem_singleton.1 hy
     exact hff
 · show 0 ≤ x.m + _
   omega
 · show x.m + _ ≤ _
   omega
 · show 0 ≤ x.b + _
   omega
 · show x.b + _ ≤ _
   omega
theorem GoodW.fold {bt : Way → Way → Bool} {u lo : Int} {l : List R2} (hf : frB u lo l = true) {r : Nat} {x : Way} (hx : GoodW u lo r x) (ho : x.ok = true) : ∀ (fs : List R2) (o : Way), (∀ f ∈ fs, 0 ≤ f.a ∧ f.a ≤ u ∧ 0 ≤ f.b ∧ f.b ≤ lo) → GoodW u lo (r + 1) o → GoodW u lo (r + 1) (wayFold bt x r (l.getD r ⟨0, 0⟩) o fs) := by
 intro fs
 induction fs with
 | nil => intro o _ h; exact h
 | cons f fs ih =>
   intro o hfs h
   refine ih _ (fun g hg => hfs g (List.mem_cons_of_mem _ hg)) ?_
   unfold wayStep
   split
   · exact GoodW.next hf hx ho (hfs f List.mem_cons_self)
   · exact h
theorem GoodW.best (bt : Way → Way → Bool) {u lo : Int} {l : List R2} (hf : frB u lo l = true) : ∀ (r : Nat) (n : Int), GoodW u lo r (bestP bt u lo l r n) := by
 intro r
 induction r with
 | zero => intro n; exact ⟨fun _ => rfl, Nat.le_refl _, (fun y hy => by cases hy), by simp [bestP], by simp [bestP], by simp [bestP], by simp [bestP]⟩
 | succ r ih =>
   intro n
   have key : ∀ j, GoodW u lo (r + 1) (bestTo bt u lo l r (bestP bt u lo l r) n j) := by
    intro j
    induction j with
    | zero => exact GoodW.zero u lo (r + 1)
    | succ j ij =>
      rw [bestTo, bestSt]
      split
      · split
        · rename_i ho
          exact GoodW.fold hf (ih _) ho _ _ (fun f hff => by have := forms_mem hff; omega) ij
        · exact ij
      · exact ij
   exact key 2
theorem GoodW.to (bt : Way → Way → Bool) {u lo : Int} {l : List R2} (hf : frB u lo l = true) (r : Nat) (n : Int) : ∀ j, GoodW u lo (r + 1) (bestTo bt u lo l r (bestP bt u lo l r) n j) := by
 intro j
 induction j with
 | zero => exact GoodW.zero u lo (r + 1)
 | succ j ij =>
   rw [bestTo, bestSt]
   split
   · split
     · rename_i ho
       exact GoodW.fold hf (GoodW.best bt hf r _) ho _ _ (fun f hff => by have := forms_mem hff; omega) ij
     · exact ij
   · exact ij
theorem GoodW.small {u lo : Int} {l : List R2} (hf : frB u lo l = true) {r : Nat} {x : Way} (hx : GoodW u lo r x) : smallR x.l := by
 intro k y hy
 have hh := frB_head hf
 have := hx.2.2.1 y (List.mem_of_getElem? hy)
 omega
theorem fold_take {bt : Way → Way → Bool} {x : Way} {k : Nat} {rd : R2} {o : Way} {fs : List R2} {i : Nat} {f : R2} (h : fs[i]? = some f) : wayFold bt x k rd o (fs.take (i + 1)) = wayStep bt x k rd (wayFold bt x k rd o (fs.take i)) f := by
 unfold wayFold
 rw [List.take_add_one, h, List.foldl_append]
 rfl
end Go.Proofs.Ytaghjaiaoajpiaa
namespace Go.Proofs.Ytaghjaiaoajpiaa
open Go.RowKit
set_option linter.unusedVariables false
set_option linter.unusedSimpArgs false
theorem info_rows : (Try.prog.info? 24).map (fun i => (i.zero, i.size, i.bytes)) = some (some (.slice none 0 0), 1, 24) := by kernel_rfl
def prodT (rest : List (List R2)) (fs : List R2) : List (List R2) := rest.flatMap (fun t => fs.map (fun f => t ++ [f]))
def tgSt (u lo : Int) (B : Int → List (List R2)) (n : Int) (j : Nat) : List (List R2) := if valB n j = true then prodT (B ((n - valT n j) / 10)) (forms u lo (valT n j)) else []
def tgTo (u lo : Int) (B : Int → List (List R2)) (n : Int) : Nat → List (List R2)
 | 0 => []
 | j + 1 => tgTo u lo B n j ++ tgSt u lo B n j
def tgP (u lo : Int) : Nat → Int → List (List R2)
 | 0, n => if n = 0 then [[]] else []
 | r + 1, n => tgTo u lo (tgP u lo r) n 2
theorem tgTo_stop {u lo : Int} {B : Int → List (List R2)} {n : Int} {j : Nat} (hn : 0 ≤ n) (hj : j ≤ 2) (h : valB n j = false) : tgTo u lo B n 2 = tgTo u lo B n j := by
 have e : ∀ k, valB n k = false → tgTo u lo B n (k + 1) = tgTo u lo B n k := fun k hk => by
  rw [tgTo, tgSt, hk]
  simp
 rcases (show j = 0 ∨ j = 1 ∨ j = 2 by omega) with rfl | rfl | rfl
 · rw [e 1 (valB_no hn h), e 0 h]
 · exact e 1 h
 · rfl
theorem prodT_nil (fs : List R2) : prodT [] fs = [] := rfl
theorem prodT_none (rest : List (List R2)) : prodT rest [] = [] := by
 unfold prodT
 induction rest with
 | nil => rfl
 | cons t rest ih => rw [List.flatMap_cons, ih]; rfl
theorem prodT_len (rest : List (List R2)) (fs : List R2) : (prodT rest fs).length = rest.length * fs.length := by
 unfold prodT
 induction rest with
 | nil => simp
 | cons t rest ih => rw [List.flatMap_cons, List.length_append, ih, List.length_map, List.length_cons, Nat.add_mul]; omega
theorem prodT_take {rest : List (List R2)} {fs : List R2} {i : Nat} {t : List R2} (h : rest[i]? = some t) : prodT (rest.take (i + 1)) fs = prodT (rest.take i) fs ++ fs.map (fun f => t ++ [f]) := by
 unfold prodT
 rw [List.take_add_one, h, List.flatMap_append]
 simp
theorem tgP_mem {u lo : Int} : ∀ (r : Nat) (n : Int), ∀ t ∈ tgP u lo r n, t.length = r ∧ ∀ y ∈ t, 0 ≤ y.a ∧ y.a ≤ u ∧ 0 ≤ y.b ∧ y.b ≤ lo := by
 intro r
 induction r with
 | zero =>
   intro n t ht
   rw [tgP] at ht
   split at ht
   · obtain rfl := List.mem_singleton.1 ht
     exact ⟨rfl, fun y hy => by cases hy⟩
   · cases ht
 | succ r ih =>
   intro n t ht
   have key : ∀ j, ∀ t ∈ tgTo u lo (tgP u lo r) n j, t.length = r + 1 ∧ ∀ y ∈ t, 0 ≤ y.a ∧ y.a ≤ u ∧ 0 ≤ y.b ∧ y.b ≤ lo := by
    intro j
    induction j with
    | zero => intro t ht; cases ht
    | succ j ij =>
      intro t ht
      rw [tgTo] at ht
      rcases List.mem_append.1 ht with ht | ht
      · exact ij t ht
      · unfold tgSt at ht
        split at ht
        · obtain ⟨s, hs, ht⟩ := List.mem_flatMap.1 ht
          obtain ⟨f, hf, rfl⟩ := List.mem_map.1 ht
          obtain ⟨h1, h2⟩ := ih _ s hs
          refine ⟨by rw [List.length_append, h1]; rfl, fun y hy => ?_⟩
          rcases List.mem_append.1 hy with hy | hy
          · exact h2 y hy
          · obtain rfl := List.mem_singleton.1 hy
            have := forms_mem hf
            omega
        · cases ht
   exact key 2 t ht
theorem tgP_len {u lo : Int} (hu : 0 ≤ u ∧ u ≤ 2) : ∀ (r : Nat) (n : Int), (tgP u lo r n).length ≤ 6 ^ r := by
 intro r
 induction r with
 | zero => intro n; rw [tgP]; split <;> simp
 | succ r ih =>
   intro n
   have hf : ∀ v, (forms u lo v).length ≤ 3 := fun v => by have := formsN_len lo v (u + 1).toNat; unfold forms; omega
   have hs : ∀ j, (tgSt u lo (tgP u lo r) n j).length ≤ 3 * 6 ^ r := fun j => by
    unfold tgSt
    split
    · rw [prodT_len, Nat.mul_comm]
      exact Nat.mul_le_mul (hf _) (ih _)
    · exact Nat.zero_le _
   have h0 := hs 0
   have h1 := hs 1
   rw [tgP, tgTo, tgTo, tgTo, List.length_append, List.length_append, Nat.pow_succ]
   simp only [List.length_nil]
   omega
/-- each value is a slice of its own row -/
def Tgs (w : World) (B r : Nat) (vals : List Value) (LL : List (List R2)) : Prop := vals.length = LL.length ∧ ∀ (i : Nat) (L : List R2), LL[i]? = some L → L.length = r ∧ ∃ (A : Option Addr) (c : Nat), vals[i]? = some (.slice A r c) ∧ w.ownsRow B 42 2 (.slice A r c) r (rowsV2 L)
theorem Tgs.ext {w w' : World} {B r : Nat} {vals : List Value} {LL : List (List R2)} (h : Tgs w B r vals LL) (hb : Below w.heap.size w w') : Tgs w' B r vals LL :=
 ⟨h.1, fun i L hL => by obtain ⟨h1, A, c, h2, h3⟩ := h.2 i L hL; exact ⟨h1, A, c, h2, own_ext h3 hb⟩⟩
theorem Tgs.kept {w w' : World} {B r : Nat} {vals : List Value} {LL : List (List R2)} (h : Tgs w B r vals LL) {B2 E2 s2 n2 : Nat} {v : Value} {xs : List Value} (ho : w.ownsRow B2 E2 s2 v n2 xs) (hne : 42 ≠ E2) (hg : w.grownBy w' v.ownBlock) : Tgs w' B r vals LL :=
 ⟨h.1, fun i L hL => by obtain ⟨h1, A, c, h2, h3⟩ := h.2 i L hL; exact ⟨h1, A, c, h2, h3.kept hg (own_neT h3 ho hne)⟩⟩
theorem Tgs.base {w : World} {B B' r : Nat} {vals : List Value} {LL : List (List R2)} (h : Tgs w B r vals LL) (hB : B' ≤ B) : Tgs w B' r vals LL :=
 ⟨h.1, fun i L hL => by obtain ⟨h1, A, c, h2, h3⟩ := h.2 i L hL; exact ⟨h1, A, c, h2, own_base h3 hB⟩⟩
theorem Tgs.snoc {w : World} {B r : Nat} {vals : List Value} {LL : List (List R2)} (h : Tgs w B r vals LL) {A : Option Addr} {c : Nat} {L : List R2} (hl : L.length = r) (ho : w.ownsRow B 42 2 (.slice A r c) r (rowsV2 L)) : Tgs w B r (vals ++ [.slice A r c]) (LL ++ [L]) := by
 refine ⟨by rw [List.length_append, List.length_append, h.1]; rfl, fun i M hM => ?_⟩
 by_cases hi : i < LL.length
 · rw [List.getElem?_append_left hi] at hM
   obtain ⟨h1, A', c', h2, h3⟩ := h.2 i M hM
   exact ⟨h1, A', c', by rw [List.getElem?_append_left (by rw [h.1]; exact hi)]; exact h2, h3⟩
 · have hi2 : i = LL.length := by
    have := (List.getElem?_eq_some_iff.1 hM).1
    rw [List.length_append] at this
    simp at this
    omega
   subst hi2
   rw [List.getElem?_append_right (Nat.le_refl _), Nat.sub_self] at hM
   injection hM with hM
   subst hM
   exact ⟨hl, A, c, by rw [← h.1, List.getElem?_append_right (Nat.le_refl _), Nat.sub_self]; rfl, ho⟩
theorem Tgs.nil (w : World) (B r : Nat) : Tgs w B r [] [] := ⟨rfl, fun i L hL => by cases hL⟩
def RetTg (w : World) (r : Nat) (LL : List (List R2)) (e : Ending) (w' : World) : Prop := ∃ (A : Option Addr) (c : Nat) (vals : List Value), e = .returned (.slice A LL.length c) ∧ w'.ownsRow w.heap.size 24 1 (.slice A LL.length c) LL.length vals ∧ Tgs w' w.heap.size r vals LL ∧ Below w.heap.size w w'
end Go.Proofs.Ytaghjaiaoajpiaa
namespace Go.Proofs.Ytaghjaiaoajpiaa
open Go.RowKit
set_option linter.unusedVariables false
set_option linter.unusedSimpArgs false
/-- frames of one kind -/
def mbB (u lo : Int) (l : List R2) (u' lo' : Int) (l' : List R2) : Bool := frB u lo l && frB u' lo' l' && decide (u = u') && decide (lo = lo') && decide (l.length = l'.length)
def mbL (u lo : Int) (l : List R2) (u' lo' : Int) (l' : List R2) : List R3 := if mbB u lo l u' lo' l' = true then btw l l' l.length else []
theorem mb_parts {u lo u' lo' : Int} {l l' : List R2} (h : mbB u lo l u' lo' l' = true) : frB u lo l = true ∧ frB u' lo' l' = true ∧ u = u' ∧ lo = lo' ∧ l.length = l'.length := by
 unfold mbB at h
 simp only [Bool.and_eq_true, decide_eq_true_eq] at h
 exact ⟨h.1.1.1.1, h.1.1.1.2, h.1.1.2, h.1.2, h.2⟩
theorem mvs_small {ms : List R3} (h : mvsB ms = true) : smallM ms := by
 intro m hm
 unfold mvsB at h
 simp only [Bool.and_eq_true, List.all_eq_true] at h
 have := (okM_iff.1 (h.2 m hm)).2.2.1
 omega
end Go.Proofs.Ytaghjaiaoajpiaa
namespace Go.Proofs.Ytaghjaiaoajpiaa
open Go.RowKit
set_option linter.unusedVariables false
set_option linter.unusedSimpArgs false
theorem lit_ownV {B : Nat} (w0 : World) (E K : Nat) (cs : List Value) {H : Nat} (hH : H = w0.heap.size) (hB : B ≤ w0.heap.size) (hl : cs.length = K) : (w0.alloc (.cells cs.toArray E)).ownsRow B E K (.slice (some ⟨H, 0, none⟩) 1 1) 1 cs := by
 subst hH
 have h9 := World.ownsRow_lit (size := K) (e := E) w0 cs.toArray 1 hB (by unfold maxLen; omega) (by simp [hl])
 simpa using h9
theorem ints_oneV (l : List Int) : ∀ u ∈ intsV l, u.oneCell' = true := by
 intro u hu
 obtain ⟨z, _, rfl⟩ := List.mem_map.1 hu
 rfl
def negM (m : R3) : R3 := ⟨m.a, m.b, -m.c⟩
def undo (ms : List R3) : List R3 := (ms.map negM).reverse
def unL (ms : List R3) : List R3 := if mvsB ms = true then undo ms else []
theorem undo_drop {ms : List R3} {j : Nat} {m : R3} (h : ms[j]? = some m) : undo (ms.drop j) = undo (ms.drop (j + 1)) ++ [negM m] := by
 obtain ⟨hj, e⟩ := List.getElem?_eq_some_iff.1 h
 rw [List.drop_eq_getElem_cons hj, e]
 unfold undo
 rw [List.map_cons, List.reverse_cons]
end Go.Proofs.Ytaghjaiaoajpiaa
namespace Go.Proofs.Ytaghjaiaoajpiaa
open Go.RowKit
set_option linter.unusedVariables false
set_option linter.unusedSimpArgs false
/-- what a move changes -/
def chW (r : Nat) (m : R3) : Int := m.c * pw (r - (m.a.toNat + 1)) * (if m.b = 0 then 5 else 1)
def chg (r : Nat) (ms : List R3) : Int := ms.foldl (fun s m => s + chW r m) 0
def chB (ms : List R3) (z : Int) : Bool := mvsB ms && inB z 1 8 && ms.all (fun m => decide (m.a < z))
def chV (ms : List R3) (z : Int) : Int := if chB ms z = true then chg z.toNat ms else 0
theorem chg_take {r : Nat} {ms : List R3} {k : Nat} {m : R3} (h : ms[k]? = some m) : chg r (ms.take (k + 1)) = chg r (ms.take k) + chW r m := by
 unfold chg
 rw [List.take_add_one, h]
 simp
theorem mul_five {c P : Int} (hc : -5 ≤ c ∧ c ≤ 5) (h0 : 1 ≤ P) (h1 : P ≤ 100000000) : -500000000 ≤ c * P ∧ c * P ≤ 500000000 := by
 have e1 := Int.mul_le_mul_of_nonneg_right hc.2 (show 0 ≤ P by omega)
 have e2 := Int.mul_le_mul_of_nonneg_right hc.1 (show 0 ≤ P by omega)
 omega
theorem chW_bound {r : Nat} {m : R3} (hr : r ≤ 8) (hm : okM m = true) : -2500000000 ≤ chW r m ∧ chW r m ≤ 2500000000 := by
 have h := mul_five (okM_iff.1 hm).2.2.1 (pw_pos (r - (m.a.toNat + 1))) (pw_lt (show r - (m.a.toNat + 1) ≤ 8 by omega))
 unfold chW
 split <;> omega
theorem chg_bound {r : Nat} {ms : List R3} (hr : r ≤ 8) (hm : ∀ m ∈ ms, okM m = true) (k : Nat) : -2500000000 * (k : Int) ≤ chg r (ms.take k) ∧ chg r (ms.take k) ≤ 2500000000 * (k : Int) := by
 induction k with
 | zero => simp [chg]
 | succ k ih =>
   by_cases hk : k < ms.length
   · obtain ⟨m, hx⟩ := list_split (l := ms) (k := k) hk
     have hb := chW_bound hr (hm m (List.mem_of_getElem? hx))
     rw [chg_take hx]
     push_cast
     omega
   · rw [List.take_of_length_le (by omega)]
     rw [List.take_of_length_le (by omega)] at ih
     push_cast
     omega
theorem chB_parts {ms : List R3} {z : Int} (h : chB ms z = true) : mvsB ms = true ∧ (1 ≤ z ∧ z ≤ 8) ∧ ∀ m ∈ ms, m.a < z := by
 unfold chB at h
 simp only [Bool.and_eq_true, inB_iff, List.all_eq_true, decide_eq_true_eq] at h
 exact ⟨h.1.1, h.1.2, h.2⟩
end Go.Proofs.Ytaghjaiaoajpiaa
namespace Go.Proofs.Ytaghjaiaoajpiaa
open Go.RowKit
set_option linter.unusedVariables false
set_option linter.unusedSimpArgs false
theorem bump_neg (r : R2) (m : R3) : bump (bump r m) (negM m) = r := by
 obtain ⟨a, b⟩ := r
 unfold bump negM
 dsimp only
 by_cases h : m.b = 0
 · rw [if_pos h, if_pos h]
   dsimp only
   rw [show a + m.c + -m.c = a by omega]
 · rw [if_neg h, if_neg h]
   dsimp only
   rw [show b + m.c + -m.c = b by omega]
theorem mvL_neg {y : List R2} {m : R3} (h0 : 0 ≤ m.a) (h1 : m.a < y.length) : mvL (mvL y m) (negM m) = y := by
 have hi : m.a.toNat < y.length := by omega
 unfold mvL
 rw [show (negM m).a = m.a from rfl]
 rw [List.getD_eq_getElem?_getD, List.getD_eq_getElem?_getD, List.getElem?_set_self hi, Option.getD_some, bump_neg, List.set_set]
 exact set_same (by rw [List.getElem?_eq_getElem hi]; rfl)
theorem mvB_neg {u lo : Int} {y : List R2} {m : R3} (hf : frB u lo y = true) (h0 : 0 ≤ m.a) (h : mvB u lo y m = true) : mvB u lo (mvL y m) (negM m) = true ∧ mvL (mvL y m) (negM m) = y := by
 unfold mvB at h
 simp only [Bool.and_eq_true, decide_eq_true_eq] at h
 have e := mvL_neg h0 h.1
 refine ⟨?_, e⟩
 unfold mvB
 rw [e, hf, mvL_len, Bool.and_true, decide_eq_true_iff]
 exact h.1
theorem play_cons (u lo : Int) (l : List R2) (m : R3) (ms : List R3) : playS u lo l (m :: ms) = if mvB u lo l m = true then playS u lo (mvL l m) ms else none := by
 unfold playS
 rw [List.foldl_cons]
 split
 · rename_i h
   rw [show (some l).bind (fun x => if mvB u lo x m = true then some (mvL x m) else none) = some (mvL l m) by simp [h]]
 · rename_i h
   rw [show (some l).bind (fun x => if mvB u lo x m = true then some (mvL x m) else none) = none by simp [h]]
   exact fold_none ms
theorem play_snoc {u lo : Int} {l x : List R2} {ms : List R3} {m : R3} (h : playS u lo l (ms ++ [m]) = some x) : ∃ y, playS u lo l ms = some y ∧ mvB u lo y m = true ∧ x = mvL y m := by
 unfold playS at h
 rw [List.foldl_append, List.foldl_cons, List.foldl_nil] at h
 cases hy : playS u lo l ms with
 | none => unfold playS at hy; rw [hy] at h; cases h
 | some y =>
   unfold playS at hy
   rw [hy] at h
   refine ⟨y, rfl, ?_⟩
   simp only [Option.bind_some] at h
   split at h
   · rename_i h2
     injection h with h
     exact ⟨h2, h.symm⟩
   · cases h
/-- moves undone lead back -/
theorem undo_back {u lo : Int} {l : List R2} (hf : frB u lo l = true) (ms : List R3) (hm : ∀ m ∈ ms, okM m = true) : ∀ k x, playS u lo l (ms.take k) = some x → playS u lo x (undo (ms.take k)) = some l := by
 intro k
 induction k with
 | zero =>
   intro x h
   rw [List.take_zero] at h ⊢
   injection h with h
   subst h
   rfl
 | succ k ih =>
   intro x h
   by_cases hk : k < ms.length
   · obtain ⟨m, hx⟩ := list_split (l := ms) (k := k) hk
     rw [List.take_add_one, hx] at h ⊢
     obtain ⟨y, h1, h2, rfl⟩ := play_snoc h
     have hfy := play_fr hf h1
     have hmo := (okM_iff.1 (hm m (List.mem_of_getElem? hx))).1.1
     obtain ⟨e1, e2⟩ := mvB_neg hfy hmo h2
     show playS u lo (mvL y m) (undo (ms.take k ++ [m])) = some l
     rw [show undo (ms.take k ++ [m]) = negM m :: undo (ms.take k) by unfold undo; rw [List.map_append, List.reverse_append]; rfl, play_cons, if_pos e1, e2]
     exact ih y h1
   · rw [List.take_of_length_le (by omega)] at h ⊢
     rw [List.take_of_length_le (by omega)] at ih
     exact ih x h
theorem dsOf_set (l : List R2) (i : Nat) (r : R2) : dsOf (l.set i r) = (dsOf l).set i (5 * r.a + r.b) := by
 unfold dsOf
 rw [List.map_set]
 rfl
/-- a move changes the number by what it is worth -/
theorem num_mv {y : List R2} {m : R3} (h0 : 0 ≤ m.a) (h1 : m.a < y.length) (hb : m.b = 0 ∨ m.b = 1) : numR (mvL y m) = numR y + chW y.length m := by
 have hi : m.a.toNat < y.length := by omega
 unfold mvL numR
 rw [dsOf_set, numD_set _ _ _ (by rw [dsOf_len]; exact hi), dsOf_len]
 obtain ⟨r, hr⟩ := list_split (l := y) (k := m.a.toNat) hi
 rw [List.getD_eq_getElem?_getD, hr, Option.getD_some]
 have e : (dsOf y).getD m.a.toNat 0 = 5 * r.a + r.b := by
  rw [List.getD_eq_getElem?_getD]
  unfold dsOf
  rw [List.getElem?_map, hr]
  rfl
 rw [e]
 unfold chW bump
 congr 1
 rcases hb with hb | hb
 · rw [if_pos hb, if_pos hb]
   dsimp only
   rw [show 5 * (r.a + m.c) + r.b - (5 * r.a + r.b) = m.c * 5 by omega, Int.mul_assoc, Int.mul_assoc, Int.mul_comm 5]
 · rw [if_neg (by omega), if_neg (by omega)]
   dsimp only
   rw [show 5 * r.a + (r.b + m.c) - (5 * r.a + r.b) = m.c by omega, Int.mul_one]
theorem num_play {u lo : Int} {l : List R2} (ms : List R3) (hm : ∀ m ∈ ms, okM m = true) : ∀ k x, playS u lo l (ms.take k) = some x → numR x = numR l + chg l.length (ms.take k) := by
 intro k
 induction k with
 | zero =>
   intro x h
   rw [List.take_zero] at h ⊢
   injection h with h
   subst h
   unfold chg
   simp
 | succ k ih =>
   intro x h
   by_cases hk : k < ms.length
   · obtain ⟨m, hx⟩ := list_split (l := ms) (k := k) hk
     rw [chg_take hx]
     rw [List.take_add_one, hx] at h
     obtain ⟨y, h1, h2, rfl⟩ := play_snoc h
     have ho := okM_iff.1 (hm m (List.mem_of_getElem? hx))
     have hl := play_len h1
     unfold mvB at h2
     simp only [Bool.and_eq_true, decide_eq_true_eq] at h2
     rw [num_mv ho.1.1 h2.1 (by omega), ih y h1, hl]
     omega
   · rw [List.take_of_length_le (by omega)] at h ⊢
     rw [List.take_of_length_le (by omega)] at ih
     exact ih x h
end Go.Proofs.Ytaghjaiaoajpiaa
namespace Go.Proofs.Ytaghjaiaoajpiaa
open Go.RowKit
set_option linter.unusedVariables false
set_option linter.unusedSimpArgs false
theorem frB_set {u lo : Int} {y : List R2} (hf : frB u lo y = true) (k : Nat) {r : R2} (h : 0 ≤ r.a ∧ r.a ≤ u ∧ 0 ≤ r.b ∧ r.b ≤ lo) : frB u lo (y.set k r) = true := by
 unfold frB at hf ⊢
 simp only [Bool.and_eq_true, List.all_eq_true] at hf ⊢
 refine ⟨by rw [List.length_set]; exact hf.1, fun q hq => ?_⟩
 rcases List.mem_or_eq_of_mem_set hq with h2 | h2
 · exact hf.2 q h2
 · subst h2
   unfold rodB
   rw [Bool.and_eq_true, inB_iff, inB_iff]
   omega
theorem play_app (u lo : Int) (l : List R2) (a b : List R3) : playS u lo l (a ++ b) = (playS u lo l a).bind fun y => playS u lo y b := by
 cases h : playS u lo l a with
 | none =>
   unfold playS at h ⊢
   rw [List.foldl_append, h]
   exact fold_none b
 | some y =>
   unfold playS at h ⊢
   rw [List.foldl_append, h]
   rfl
theorem play_up {u lo : Int} {y : List R2} {k : Nat} {r : R2} {z : Int} (hf : frB u lo y = true) (hr : y[k]? = some r) (hz : 0 ≤ z ∧ z ≤ u) : playS u lo y (if z - r.a = 0 then [] else [⟨(k : Int), 0, z - r.a⟩]) = some (y.set k ⟨z, r.b⟩) := by
 have hk : k < y.length := (List.getElem?_eq_some_iff.1 hr).1
 have hb := frB_rod hf hr
 by_cases h : z - r.a = 0
 · rw [if_pos h]
   have e : (⟨z, r.b⟩ : R2) = r := by obtain ⟨a, b⟩ := r; rw [show z = a by dsimp only at h; omega]
   rw [e, set_same hr]
   rfl
 · rw [if_neg h, play_cons]
   have e : mvL y ⟨(k : Int), 0, z - r.a⟩ = y.set k ⟨z, r.b⟩ := by
    unfold mvL bump
    rw [show ((k : Int)).toNat = k from Int.toNat_natCast k, List.getD_eq_getElem?_getD, hr, Option.getD_some, if_pos rfl]
    dsimp only
    rw [show r.a + (z - r.a) = z by omega]
   have hv : mvB u lo y ⟨(k : Int), 0, z - r.a⟩ = true := by
    unfold mvB
    rw [e, frB_set hf k (r := ⟨z, r.b⟩) ⟨hz.1, hz.2, hb.2.2.1, hb.2.2.2⟩, Bool.and_true, decide_eq_true_iff]
    dsimp only
    omega
   rw [if_pos hv, e]
   rfl
theorem play_low {u lo : Int} {y : List R2} {k : Nat} {r : R2} {z : Int} (hf : frB u lo y = true) (hr : y[k]? = some r) (hz : 0 ≤ z ∧ z ≤ lo) : playS u lo y (if z - r.b = 0 then [] else [⟨(k : Int), 1, z - r.b⟩]) = some (y.set k ⟨r.a, z⟩) := by
 have hk : k < y.length := (List.getElem?_eq_some_iff.1 hr).1
 have hb := frB_rod hf hr
 by_cases h : z - r.b = 0
 · rw [if_pos h]
   have e : (⟨r.a, z⟩ : R2) = r := by obtain ⟨a, b⟩ := r; rw [show z = b by dsimp only at h; omega]
   rw [e, set_same hr]
   rfl
 · rw [if_neg h, play_cons]
   have e : mvL y ⟨(k : Int), 1, z - r.b⟩ = y.set k ⟨r.a, z⟩ := by
    unfold mvL bump
    rw [show ((k : Int)).toNat = k from Int.toNat_natCast k, List.getD_eq_getElem?_getD, hr, Option.getD_some, if_neg (show ¬ (1 : Int) = 0 by decide)]
    dsimp only
    rw [show r.b + (z - r.b) = z by omega]
   have hv : mvB u lo y ⟨(k : Int), 1, z - r.b⟩ = true := by
    unfold mvB
    rw [e, frB_set hf k (r := ⟨r.a, z⟩) ⟨hb.1, hb.2.1, hz.1, hz.2⟩, Bool.and_true, decide_eq_true_iff]
    dsimp only
    omega
   rw [if_pos hv, e]
   rfl
/-- a rod's moves lead it to its end -/
theorem play_mvR {u lo : Int} {y : List R2} {k : Nat} {r s : R2} (hf : frB u lo y = true) (hr : y[k]? = some r) (hs : 0 ≤ s.a ∧ s.a ≤ u ∧ 0 ≤ s.b ∧ s.b ≤ lo) : playS u lo y (mvR (k : Int) r s) = some (y.set k s) := by
 have hk : k < y.length := (List.getElem?_eq_some_iff.1 hr).1
 have hb := frB_rod hf hr
 unfold mvR
 rw [play_app, play_up hf hr ⟨hs.1, hs.2.1⟩, Option.bind_some]
 have h2 := play_low (k := k) (r := ⟨s.a, r.b⟩) (z := s.b) (frB_set hf k (r := ⟨s.a, r.b⟩) ⟨hs.1, hs.2.1, hb.2.2.1, hb.2.2.2⟩) (by rw [List.getElem?_set_self hk]) ⟨hs.2.2.1, hs.2.2.2⟩
 dsimp only at h2
 rw [h2, List.set_set]
/-- the moves between lead from one to the other -/
theorem play_btw {u lo : Int} {l x : List R2} (hf : frB u lo l = true) (hx : frB u lo x = true) (hl : x.length = l.length) : ∀ k, k ≤ l.length → playS u lo l (btw l x k) = some (x.take k ++ l.drop k) := by
 intro k
 induction k with
 | zero => intro _; rw [List.take_zero, List.drop_zero]; rfl
 | succ k ih =>
   intro hk
   obtain ⟨r, hr⟩ := list_split (l := l) (k := k) (by omega)
   obtain ⟨s, hs⟩ := list_split (l := x) (k := k) (by omega)
   have h1 := ih (by omega)
   rw [btw_step hr hs, play_app, h1, Option.bind_some]
   have hy := play_fr hf h1
   have e1 : (x.take k ++ l.drop k)[k]? = some r := by
    rw [List.getElem?_append_right (by rw [List.length_take]; omega), List.length_take, Nat.min_eq_left (by omega), Nat.sub_self, List.getElem?_drop, Nat.add_zero]
    exact hr
   rw [play_mvR hy e1 (frB_rod hx hs)]
   congr 1
   rw [List.set_append_right _ _ (by rw [List.length_take]; omega), List.length_take, Nat.min_eq_left (by omega), Nat.sub_self, List.take_add_one, hs, List.append_assoc]
   congr 1
   obtain ⟨hk2, e2⟩ := List.getElem?_eq_some_iff.1 hr
   rw [List.drop_eq_getElem_cons hk2]
   rfl
theorem play_between {u lo : Int} {l x : List R2} (hf : frB u lo l = true) (hx : frB u lo x = true) (hl : x.length = l.length) : playS u lo l (btw l x l.length) = some x := by
 rw [play_btw hf hx hl _ (Nat.le_refl _), List.drop_of_length_le (Nat.le_refl _), List.append_nil, List.take_of_length_le (by omega)]
end Go.Proofs.Ytaghjaiaoajpiaa
namespace Go.Proofs.Ytaghjaiaoajpiaa
open Go.RowKit
set_option linter.unusedVariables false
set_option linter.unusedSimpArgs false
theorem fold_add (ms : List R3) : ∀ s : Int, ms.foldl (fun s m => s + ab m.c) s = s + beads ms := by
 unfold beads
 induction ms with
 | nil => intro s; simp
 | cons m ms ih =>
   intro s
   rw [List.foldl_cons, List.foldl_cons, ih, ih (0 + ab m.c)]
   omega
theorem bd_app (a b : List R3) : beads (a ++ b) = beads a + beads b := by
 have h := fold_add b (beads a)
 rw [← h]
 unfold beads
 rw [List.foldl_append]
theorem ab_nonneg (z : Int) : 0 ≤ ab z := by unfold ab; split <;> omega
theorem ab_tri (x y c : Int) (h : y = x + c) : ab y ≤ ab x + ab c := by unfold ab; split <;> split <;> split <;> omega
theorem ab_zero {z : Int} (h : z = 0) : ab z = 0 := by subst h; rfl
theorem bd_mvR (k : Int) (r s : R2) : beads (mvR k r s) = ab (s.a - r.a) + ab (s.b - r.b) := by
 unfold mvR
 rw [bd_app]
 congr 1
 · split
   · rename_i h; rw [ab_zero h]; rfl
   · unfold beads; simp
 · split
   · rename_i h; rw [ab_zero h]; rfl
   · unfold beads; simp
theorem len_mvR (k : Int) (r s : R2) : (mvR k r s).length = (if s.a - r.a = 0 then 0 else 1) + (if s.b - r.b = 0 then 0 else 1) := by
 unfold mvR
 rw [List.length_append]
 congr 1
 · split <;> rfl
 · split <;> rfl
/-- one move more: at most its beads more, at most one move more -/
theorem mvR_bump (k : Int) (r s : R2) (m : R3) : beads (mvR k r (bump s m)) ≤ beads (mvR k r s) + ab m.c ∧ (mvR k r (bump s m)).length ≤ (mvR k r s).length + 1 := by
 rw [bd_mvR, bd_mvR, len_mvR, len_mvR]
 unfold bump
 by_cases h : m.b = 0
 · rw [if_pos h]
   dsimp only
   have := ab_tri (s.a - r.a) (s.a + m.c - r.a) m.c (by omega)
   refine ⟨by omega, ?_⟩
   split <;> split <;> omega
 · rw [if_neg h]
   dsimp only
   have := ab_tri (s.b - r.b) (s.b + m.c - r.b) m.c (by omega)
   refine ⟨by omega, ?_⟩
   split <;> split <;> (try split) <;> omega
theorem btw_mv (l y : List R2) {m : R3} (h1 : m.a.toNat < y.length) : ∀ n, beads (btw l (mvL y m) n) ≤ beads (btw l y n) + (if m.a.toNat < n then ab m.c else 0) ∧ (btw l (mvL y m) n).length ≤ (btw l y n).length + (if m.a.toNat < n then 1 else 0) := by
 intro n
 induction n with
 | zero => simp [btw]
 | succ n ih =>
   rw [btw, btw, bd_app, bd_app, List.length_append, List.length_append]
   have ha := ab_nonneg m.c
   by_cases hi : m.a.toNat = n
   · have e : (mvL y m).getD n ⟨0, 0⟩ = bump (y.getD n ⟨0, 0⟩) m := by
      unfold mvL
      rw [hi, List.getD_eq_getElem?_getD, List.getElem?_set_self (by omega), Option.getD_some]
     rw [e]
     have := mvR_bump (n : Int) (l.getD n ⟨0, 0⟩) (y.getD n ⟨0, 0⟩) m
     rw [if_neg (by omega), if_neg (by omega)] at ih
     rw [if_pos (by omega), if_pos (by omega)]
     omega
   · have e : (mvL y m).getD n ⟨0, 0⟩ = y.getD n ⟨0, 0⟩ := by
      unfold mvL
      rw [List.getD_eq_getElem?_getD, List.getElem?_set_ne hi, ← List.getD_eq_getElem?_getD]
     rw [e]
     by_cases hn : m.a.toNat < n
     · rw [if_pos hn, if_pos hn] at ih
       rw [if_pos (by omega), if_pos (by omega)]
       omega
     · rw [if_neg hn, if_neg hn] at ih
       rw [if_neg (by omega), if_neg (by omega)]
       omega
theorem mvR_self (k : Int) (r : R2) : mvR k r r = [] := by unfold mvR; rw [if_pos (by omega), if_pos (by omega)]; rfl
theorem btw_self (l : List R2) : ∀ n, btw l l n = [] := by
 intro n
 induction n with
 | zero => rfl
 | succ n ih => rw [btw, ih, mvR_self]; rfl
/-- no moves that lead there have fewer beads, or are fewer -/
theorem btw_least {u lo : Int} {l : List R2} (n : Nat) (ms : List R3) (hm : ∀ m ∈ ms, okM m = true) : ∀ k x, playS u lo l (ms.take k) = some x → beads (btw l x n) ≤ beads (ms.take k) ∧ (btw l x n).length ≤ (ms.take k).length := by
 intro k
 induction k with
 | zero =>
   intro x h
   rw [List.take_zero] at h ⊢
   injection h with h
   subst h
   rw [btw_self]
   exact ⟨Int.le_refl _, Nat.le_refl _⟩
 | succ k ih =>
   intro x h
   by_cases hk : k < ms.length
   · obtain ⟨m, hx⟩ := list_split (l := ms) (k := k) hk
     rw [beads_take hx]
     rw [List.take_add_one, hx] at h ⊢
     obtain ⟨y, h1, h2, rfl⟩ := play_snoc h
     have ho := okM_iff.1 (hm m (List.mem_of_getElem? hx))
     unfold mvB at h2
     simp only [Bool.and_eq_true, decide_eq_true_eq] at h2
     have hb := btw_mv l y (m := m) (by omega) n
     have hi := ih y h1
     have ha := ab_nonneg m.c
     have e1 : (if m.a.toNat < n then ab m.c else 0) ≤ ab m.c := by split <;> omega
     have e2 : (if m.a.toNat < n then 1 else 0) ≤ 1 := by split <;> omega
     refine ⟨by omega, ?_⟩
     rw [List.length_append]
     show _ ≤ _ + 1
     omega
   · rw [List.take_of_length_le (by omega)] at h ⊢
     rw [List.take_of_length_le (by omega)] at ih
     exact ih x h
end Go.Proofs.Ytaghjaiaoajpiaa
namespace Go.Proofs.Ytaghjaiaoajpiaa
open Go.RowKit
set_option linter.unusedVariables false
set_option linter.unusedSimpArgs false
theorem okM_neg {m : R3} (h : okM m = true) : okM (negM m) = true := by
 rw [okM_iff] at h ⊢
 obtain ⟨h1, h2, h3, h4⟩ := h
 exact ⟨h1, h2, ⟨by show -5 ≤ -m.c; omega, by show -m.c ≤ 5; omega⟩, by show -m.c ≠ 0; omega⟩
theorem mvs_undo {ms : List R3} (h : mvsB ms = true) : mvsB (undo ms) = true := by
 unfold mvsB at h ⊢
 simp only [Bool.and_eq_true, decide_eq_true_eq, List.all_eq_true] at h ⊢
 refine ⟨by unfold undo; rw [List.length_reverse, List.length_map]; exact h.1, fun m hm => ?_⟩
 unfold undo at hm
 obtain ⟨q, hq, rfl⟩ := List.mem_map.1 (List.mem_reverse.1 hm)
 exact okM_neg (h.2 q hq)
theorem undo_len (ms : List R3) : (undo ms).length = ms.length := by unfold undo; rw [List.length_reverse, List.length_map]
theorem mvR_ok {u lo : Int} {l x : List R2} (hf : frB u lo l = true) (hx : frB u lo x = true) {k : Nat} {r s : R2} (hr : l[k]? = some r) (hs : x[k]? = some s) : ∀ m ∈ mvR (k : Int) r s, okM m = true := by
 have h1 := frB_rod hf hr
 have h2 := frB_rod hx hs
 have hh := frB_head hf
 have hk : k < l.length := (List.getElem?_eq_some_iff.1 hr).1
 intro m hm
 unfold mvR at hm
 rcases List.mem_append.1 hm with h | h
 · split at h
   · cases h
   · rename_i hne
     simp only [List.mem_cons, List.not_mem_nil, or_false] at h
     subst h
     rw [okM_iff]
     dsimp only
     omega
 · split at h
   · cases h
   · rename_i hne
     simp only [List.mem_cons, List.not_mem_nil, or_false] at h
     subst h
     rw [okM_iff]
     dsimp only
     omega
theorem btw_ok {u lo : Int} {l x : List R2} (hf : frB u lo l = true) (hx : frB u lo x = true) (hl : x.length = l.length) : ∀ n, n ≤ l.length → ∀ m ∈ btw l x n, okM m = true := by
 intro n
 induction n with
 | zero => intro _ m hm; cases hm
 | succ n ih =>
   intro hn m hm
   obtain ⟨r, hr⟩ := list_split (l := l) (k := n) (by omega)
   obtain ⟨s, hs⟩ := list_split (l := x) (k := n) (by omega)
   rw [btw_step hr hs] at hm
   rcases List.mem_append.1 hm with h | h
   · exact ih (by omega) m h
   · exact mvR_ok hf hx hr hs m h
theorem mvs_btw {u lo : Int} {l x : List R2} (hf : frB u lo l = true) (hx : frB u lo x = true) (hl : x.length = l.length) : mvsB (btw l x l.length) = true := by
 have h := btw_len l x l.length
 have hh := frB_head hf
 unfold mvsB
 simp only [Bool.and_eq_true, decide_eq_true_eq, List.all_eq_true]
 exact ⟨by omega, btw_ok hf hx hl _ (Nat.le_refl _)⟩
end Go.Proofs.Ytaghjaiaoajpiaa
namespace Go.Proofs.Ytaghjaiaoajpiaa
open Go.RowKit
set_option linter.unusedVariables false
set_option linter.unusedSimpArgs false
def mbeF (u lo : Int) (l : List R2) (m : R3) : Int × Int × List R2 := if (frB u lo l && okM m) = true then mvF u lo l m else (0, 0, [])
def mbeB (u lo : Int) (l : List R2) (m : R3) : Bool := frB u lo l && okM m && mvB u lo l m
end Go.Proofs.Ytaghjaiaoajpiaa
namespace Go.Proofs.Ytaghjaiaoajpiaa
open Go.RowKit
set_option linter.unusedVariables false
set_option linter.unusedSimpArgs false
/-- what PlayMoves gives -/
def plF (u lo : Int) (l : List R2) (ms : List R3) : Int × Int × List R2 := if frB u lo l && mvsB ms then playF u lo l ms else (0, 0, [])
def plB (u lo : Int) (l : List R2) (ms : List R3) : Bool := frB u lo l && mvsB ms && (playS u lo l ms).isSome
theorem pl_of {u lo : Int} {l x : List R2} {ms : List R3} (hf : frB u lo l = true) (hm : mvsB ms = true) (h : playS u lo l ms = some x) : plF u lo l ms = (u, lo, x) ∧ plB u lo l ms = true := by
 unfold plF plB playF
 rw [hf, hm, h]
 exact ⟨rfl, rfl⟩
theorem pl_to {u lo : Int} {l : List R2} {ms : List R3} (h : plB u lo l ms = true) : frB u lo l = true ∧ mvsB ms = true ∧ ∃ x, playS u lo l ms = some x ∧ plF u lo l ms = (u, lo, x) := by
 have h0 := h
 unfold plB at h
 simp only [Bool.and_eq_true] at h
 obtain ⟨⟨hf, hm⟩, hs⟩ := h
 obtain ⟨x, hx⟩ := Option.isSome_iff_exists.1 hs
 exact ⟨hf, hm, x, hx, (pl_of hf hm hx).1⟩
theorem plF_len (u lo : Int) (l : List R2) (ms : List R3) : (plF u lo l ms).2.2.length ≤ l.length := by
 by_cases h : plB u lo l ms = true
 · obtain ⟨hf, _, x, hx, e⟩ := pl_to h
   rw [e]
   exact Nat.le_of_eq (play_len hx)
 · unfold plF playF
   split
   · rename_i h2
     split
     · rename_i x hx
       exact Nat.le_of_eq (play_len hx)
     · exact Nat.zero_le _
   · exact Nat.zero_le _
theorem play_lt {u lo : Int} (ms : List R3) : ∀ (l : List R2) (x : List R2), playS u lo l ms = some x → ∀ m ∈ ms, m.a < (l.length : Int) := by
 induction ms with
 | nil => intro l x _ m hm; cases hm
 | cons a ms ih =>
   intro l x h m hm
   rw [play_cons] at h
   by_cases hb : mvB u lo l a = true
   · rw [if_pos hb] at h
     rcases List.mem_cons.1 hm with rfl | hm
     · unfold mvB at hb
       simp only [Bool.and_eq_true, decide_eq_true_eq] at hb
       exact hb.1
     · have := ih _ _ h m hm
       rwa [mvL_len] at this
   · rw [if_neg hb] at h
     cases h
/-- what the law asks of a play that goes -/
theorem fmv_law {u lo : Int} {l : List R2} {ms : List R3} (h : plB u lo l ms = true) : ∃ bt : List R3,
 frB u lo l = true ∧ frB (plF u lo l ms).1 (plF u lo l ms).2.1 (plF u lo l ms).2.2 = true ∧ mvsB ms = true ∧ plF (plF u lo l ms).1 (plF u lo l ms).2.1 (plF u lo l ms).2.2 (undo ms) = (u, lo, l) ∧ plB (plF u lo l ms).1 (plF u lo l ms).2.1 (plF u lo l ms).2.2 (undo ms) = true ∧ chB ms (l.length : Int) = true ∧ numR (plF u lo l ms).2.2 = numR l + chV ms (l.length : Int) ∧
 mbB u lo l (plF u lo l ms).1 (plF u lo l ms).2.1 (plF u lo l ms).2.2 = true ∧ mbL u lo l (plF u lo l ms).1 (plF u lo l ms).2.1 (plF u lo l ms).2.2 = bt ∧ mvsB bt = true ∧ plF u lo l bt = plF u lo l ms ∧ plB u lo l bt = true ∧ beads bt ≤ beads ms ∧ bt.length ≤ ms.length := by
 obtain ⟨hf, hm, x, hx, e⟩ := pl_to h
 have hfx := play_fr hf hx
 have hlx := play_len hx
 have hok : ∀ m ∈ ms, okM m = true := by
  unfold mvsB at hm
  simp only [Bool.and_eq_true, List.all_eq_true] at hm
  exact hm.2
 have hun := undo_back hf ms hok ms.length x (by rw [List.take_length]; exact hx)
 rw [List.take_length] at hun
 have hnum := num_play ms hok ms.length x (by rw [List.take_length]; exact hx)
 rw [List.take_length] at hnum
 have hle := btw_least (u := u) (lo := lo) (l := l) l.length ms hok ms.length x (by rw [List.take_length]; exact hx)
 rw [List.take_length] at hle
 have hbt := play_between hf hfx hlx
 have hmb : mbB u lo l u lo x = true := by unfold mbB; rw [hf, hfx, hlx]; simp
 have hmbt := mvs_btw hf hfx hlx
 have hh := frB_head hf
 have hcb : chB ms (l.length : Int) = true := by
  unfold chB
  rw [hm, (inB_iff).2 (by omega), Bool.true_and, Bool.true_and, List.all_eq_true]
  intro m hmm
  exact decide_eq_true (play_lt ms l x hx m hmm)
 have u1 := pl_of hfx (mvs_undo hm) hun
 have b1 := pl_of hf hmbt hbt
 rw [e]
 refine ⟨btw l x l.length, hf, hfx, hm, u1.1, u1.2, hcb, ?_, hmb, ?_, hmbt, b1.1, b1.2, hle.1, hle.2⟩
 · unfold chV
   rw [if_pos hcb, hnum]
   simp
 · unfold mbL
   rw [if_pos hmb]
theorem mbL_len (u lo : Int) (l : List R2) (u' lo' : Int) (l' : List R2) : (mbL u lo l u' lo' l').length ≤ 2 * l.length := by
 unfold mbL
 split
 · exact btw_len _ _ _
 · exact Nat.zero_le _
theorem unL_len (ms : List R3) : (unL ms).length ≤ ms.length := by
 unfold unL
 split
 · rw [undo_len]; exact Nat.le_refl _
 · exact Nat.zero_le _
theorem mbeF_len (u lo : Int) (l : List R2) (m : R3) : (mbeF u lo l m).2.2.length ≤ l.length := by
 unfold mbeF mvF
 split
 · split
   · exact Nat.le_of_eq (mvL_len l m)
   · exact Nat.zero_le _
 · exact Nat.zero_le _
end Go.Proofs.Ytaghjaiaoajpiaa
namespace Go.Proofs.Ytaghjaiaoajpiaa
open Go.RowKit
set_option linter.unusedVariables false
set_option linter.unusedSimpArgs false
/-- moves come back beside a bool -/
abbrev RetMv (w : World) (l : List R3) (ok : Bool) : Ending → World → Prop := RetSliceB w 83 3 l.length (rowsV3 l) ok
def addDms (u lo : Int) (l : List R2) (rod d : Int) : List R3 := if addDigitB u lo l rod d = true then (addS (rod.toNat + 1) d ⟨dsOf l, [], 0⟩).ms else []
def takeDms (u lo : Int) (l : List R2) (rod d : Int) : List R3 := if takeDigitB u lo l rod d = true then (takeS (rod.toNat + 1) d ⟨dsOf l, [], 0⟩).ms else []
def addNst (l : List R2) (m : Int) : WS := addN l.length m ⟨dsOf l, [], 0⟩ l.length
def takeNst (l : List R2) (m : Int) : WS := takeN l.length m ⟨dsOf l, [], 0⟩ l.length
def addNok (u lo : Int) (l : List R2) (m : Int) : Bool := goodB u lo l && canB l m
def takeNok (u lo : Int) (l : List R2) (m : Int) : Bool := goodB u lo l && canTB l m
def addNmok (u lo : Int) (l : List R2) (m : Int) : Bool := addNok u lo l m && decide ((addNst l m).ms.length ≤ 60)
def takeNmok (u lo : Int) (l : List R2) (m : Int) : Bool := takeNok u lo l m && decide ((takeNst l m).ms.length ≤ 60)
def addNms (u lo : Int) (l : List R2) (m : Int) : List R3 := if addNmok u lo l m = true then (addNst l m).ms else []
def takeNms (u lo : Int) (l : List R2) (m : Int) : List R3 := if takeNmok u lo l m = true then (takeNst l m).ms else []
set_option maxRecDepth 100000 in
theorem implAddDigitMoves_any (u lo : Int) (A : Option Addr) (n c : Nat) (l : List R2) (rod d : Int) (w : World) (hn : n ≤ 1048576) (h : Reads w w.heap.size 2 A n (rowsV2 l)) :
 Calls Try.prog 29 #[frV u lo A n c, .int .i64 rod, .int .i64 d] w (RetMv w (addDms u lo l rod d) (addDigitB u lo l rod d)) := by
 have H := Lib.hid h
 cases hg : addDigitB u lo l rod d
 · have e : addDms u lo l rod d = [] := by simp [addDms, hg]
   rw [e]
   have HG := Lib.hid hg
   clear h e hg
   go_enter Try.func29, Try.ntmps29
   go_wp2_with fail
   refine (addDigit_no u lo A n c l rod d _ hn (rdx H.out (ext_alloc (ext_refl w) _)) HG.out).mono ?_
   rintro e w1 ⟨rfl, hb1⟩
   go_wp2
   go_ret2
   exact ⟨none, 0, rfl, World.ownsRow_nil _ _ _ _, (by repeat (first | exact ext_refl _ | assumption | refine ext_alloc ?_ _ | refine ext_drew ?_ | refine ext_drewN ?_ _ | refine ext_set ?_ (by simp <;> omega) _ | refine ext_trans ?_ (by assumption)))⟩
 · have e : addDms u lo l rod d = (addS (rod.toNat + 1) d ⟨dsOf l, [], 0⟩).ms := by simp [addDms, hg]
   rw [e]
   have HG := Lib.hid hg
   obtain ⟨st, hst⟩ : ∃ st, st = addS (rod.toNat + 1) d ⟨dsOf l, [], 0⟩ := ⟨_, rfl⟩
   rw [← hst]
   have HST := Lib.hid hst
   clear h e hg hst
   go_enter Try.func29, Try.ntmps29
   go_wp2_with fail
   refine (addDigit_yes u lo A n c l rod d _ hn (rdx H.out (ext_alloc (ext_refl w) _)) HG.out).mono ?_
   rw [← HST.out]
   rintro e w1 ⟨g, rfl, hW, hb1⟩
   obtain ⟨hh, cr, cm, Am, hB, _, _, hm⟩ := hW
   obtain ⟨q0, q1, q2, q3, q4⟩ := hB.q5
   have hb2 := Lib.hid (ext_trans (ext_alloc (ext_refl w) _) hb1)
   have hm := Lib.hid (own_base (base' := w.heap.size) hm (by simp))
   clear hb1 hB
   go_wp2
   go_ret2
   exact ⟨Am, cm, rfl, hm.out, hb2.out⟩
set_option maxRecDepth 100000 in
theorem implAddNumberMoves_any (u lo : Int) (A : Option Addr) (n c : Nat) (l : List R2) (m : Int) (w : World) (hn : n ≤ 1048576) (h : Reads w w.heap.size 2 A n (rowsV2 l)) :
 Calls Try.prog 21 #[frV u lo A n c, .int .i64 m] w (RetMv w (addNms u lo l m) (addNmok u lo l m)) := by
 have hl := rows_len2 h
 have H := Lib.hid h
 cases hg : addNok u lo l m
 · have e0 : addNmok u lo l m = false := by simp [addNmok, hg]
   have e : addNms u lo l m = [] := by simp [addNms, e0]
   rw [e, e0]
   have HG := Lib.hid hg
   clear h e e0 hg hl
   go_enter Try.func21, Try.ntmps21
   go_wp2_with fail
   refine (addNumber_no u lo A n c l m _ hn (rdx H.out (ext_alloc (ext_refl w) _)) HG.out).mono ?_
   rintro e w1 ⟨rfl, hb1⟩
   go_wp2
   go_ret2
   exact ⟨none, 0, rfl, World.ownsRow_nil _ _ _ _, (by repeat (first | exact ext_refl _ | assumption | refine ext_alloc ?_ _ | refine ext_drew ?_ | refine ext_drewN ?_ _ | refine ext_set ?_ (by simp <;> omega) _ | refine ext_trans ?_ (by assumption)))⟩
 · have HG := Lib.hid hg
   have ES : addNst l m = addN n m ⟨dsOf l, [], 0⟩ n := by rw [← hl]; rfl
   have EB : addNmok u lo l m = decide ((addNst l m).ms.length ≤ 60) := by simp [addNmok, hg]
   have EM : addNms u lo l m = if (addNst l m).ms.length ≤ 60 then (addNst l m).ms else [] := by simp [addNms, EB]
   have EN := Lib.hid (show (addNst l m).ms.length ≤ 16 * n by
    obtain ⟨hgd, _⟩ : goodB u lo l = true ∧ canB l m = true := by simpa [addNok] using hg
    obtain ⟨hf, _⟩ : frB u lo l = true ∧ stdB l = true := by simpa [goodB] using hgd
    have := (frB_head hf).2.2.2
    rw [ES]
    have := addN_msl n m ⟨dsOf l, [], 0⟩ n (by omega)
    simpa using this)
   obtain ⟨st, hst⟩ : ∃ st, st = addN n m ⟨dsOf l, [], 0⟩ n := ⟨_, rfl⟩
   rw [EB, EM, ES, ← hst]
   rw [ES, ← hst] at EN
   have EN := EN.out
   have HST := Lib.hid hst
   clear h hg hl EB EM ES hst
   by_cases h60 : st.ms.length ≤ 60
   · rw [if_pos h60]
     have hd : decide (st.ms.length ≤ 60) = true := by simpa using h60
     rw [hd]
     clear hd
     go_enter Try.func21, Try.ntmps21
     go_wp2_with fail
     refine (addNumber_yes u lo A n c l m _ hn (rdx H.out (ext_alloc (ext_refl w) _)) HG.out).mono ?_
     rw [← HST.out]
     rintro e w1 ⟨g, rfl, hW, hb1⟩
     obtain ⟨hh, cr, cm, Am, hB, _, _, hm⟩ := hW
     obtain ⟨q0, q1, q2, q3, q4⟩ := hB.q5
     have hb2 := Lib.hid (ext_trans (ext_alloc (ext_refl w) _) hb1)
     have hm := Lib.hid (own_base (base' := w.heap.size) hm (by simp))
     clear hb1 hB
     go_wp2
     go_ret2
     exact ⟨Am, cm, rfl, hm.out, hb2.out⟩
   · rw [if_neg h60]
     have hd : decide (st.ms.length ≤ 60) = false := by simpa using h60
     rw [hd]
     clear hd
     go_enter Try.func21, Try.ntmps21
     go_wp2_with fail
     refine (addNumber_yes u lo A n c l m _ hn (rdx H.out (ext_alloc (ext_refl w) _)) HG.out).mono ?_
     rw [← HST.out]
     rintro e w1 ⟨g, rfl, hW, hb1⟩
     obtain ⟨hh, cr, cm, Am, hB, _, _, hm⟩ := hW
     obtain ⟨q0, q1, q2, q3, q4⟩ := hB.q5
     have hb2 := Lib.hid (ext_trans (ext_alloc (ext_refl w) _) hb1)
     clear hb1 hB hm
     go_wp2
     go_ret2
     exact ⟨none, 0, rfl, World.ownsRow_nil _ _ _ _, hb2.out⟩
end Go.Proofs.Ytaghjaiaoajpiaa
namespace Go.Proofs.Ytaghjaiaoajpiaa
open Go.RowKit
set_option linter.unusedVariables false
set_option linter.unusedSimpArgs false
theorem l2Standard_b (u lo : Int) (A : Option Addr) (n c : Nat) (l : List R2) (w : World) (b : Bool) (hn : n ≤ 1048576) (h : Reads w w.heap.size 2 A n (rowsV2 l)) (hb : goodB u lo l = b) :
 Calls Try.prog 69 #[frV u lo A n c] w (RetV (.bool b) w) := by subst hb; exact l2Standard_any u lo A n c l w hn h
theorem good_fr {u lo : Int} {l : List R2} (h : goodB u lo l = true) : frB u lo l = true := by simp only [goodB, Bool.and_eq_true] at h; exact h.1
theorem good_std {u lo : Int} {l : List R2} (h : goodB u lo l = true) : stdB l = true := by simp only [goodB, Bool.and_eq_true] at h; exact h.2
/-- what the reference asks of a number to be added is what the program asks -/
theorem canB_ref {u lo : Int} {l : List R2} {m : Int} (hf : frB u lo l = true) (m0 : 0 ≤ m) : canB l m = decide (numR l + m < pw l.length) := by
 have hb := numR_bounds hf l.length
 rw [numR_all l _ (Nat.le_refl _)] at hb
 rw [Bool.eq_iff_iff]
 simp only [canB, Bool.and_eq_true, inB_iff, decide_eq_true_eq]
 omega
theorem canTB_ref {l : List R2} {m : Int} (m0 : 0 ≤ m) : canTB l m = decide (m ≤ numR l) := by
 rw [Bool.eq_iff_iff]
 simp only [canTB, inB_iff, decide_eq_true_eq]
 omega
set_option maxRecDepth 100000 in
theorem l6At_any (u lo : Int) (A : Option Addr) (n c r : Nat) (m : Int) (w : World) (hn : n ≤ 8) (hr : r < n) (m0 : 0 ≤ m) (m1 : m < 200000000) :
 Calls Try.prog 77 #[frV u lo A n c, .int .i64 m, .int .i64 (r : Int)] w fun e w' => e = .returned (.int .i64 (dg n m r)) ∧ Below w.heap.size w w' := by
 have hp0 := pw_pos (n - (r + 1))
 have hp1 := pw_lt (n := n - (r + 1)) (by omega)
 have hq0 : 0 ≤ m / pw (n - (r + 1)) := Int.ediv_nonneg m0 (by omega)
 have hq1 : m / pw (n - (r + 1)) ≤ m := Int.ediv_le_self _ m0
 have hne : ¬ pw (n - (r + 1)) = 0 := by omega
 have E := Lib.hid (show dg n m r = m / pw (n - (r + 1)) % 10 from rfl)
 go_enter Try.func77, Try.ntmps77
 go_wp2_with fail
 refine (l2Power_any _ (n - (r + 1)) _ (by omega) (by omega)).mono ?_
 rintro e w1 ⟨rfl, rfl⟩
 go_wp2
 go_ret
 exact ⟨ret_int (by rw [E.out]), (by repeat (first | exact ext_refl _ | assumption | refine ext_alloc ?_ _ | refine ext_drew ?_ | refine ext_drewN ?_ _ | refine ext_set ?_ (by simp <;> omega) _ | refine ext_trans ?_ (by assumption)))⟩
set_option maxRecDepth 100000 in
theorem l6CanDigit_any (u lo : Int) (A : Option Addr) (n c : Nat) (l : List R2) (rod d : Int) (w : World) (hn : n ≤ 1048576) (h : Reads w w.heap.size 2 A n (rowsV2 l)) :
 Calls Try.prog 54 #[frV u lo A n c, .int .i64 rod, .int .i64 d] w (RetV (.bool (addDigitB u lo l rod d)) w) := by
 have hl := rows_len2 h
 have H := Lib.hid h
 clear h
 cases hgd : goodB u lo l
 · rw [show addDigitB u lo l rod d = false by simp [addDigitB, hgd]]
   have hgd := Lib.hid hgd
   have hl := Lib.hid hl
   go_enter Try.func54, Try.ntmps54
   go_wp2_with fail
   refine (l2Standard_b u lo A n c l _ _ hn (rdx H.out (ext_alloc (ext_refl w) _)) hgd.out).mono ?_
   rintro e w1 ⟨rfl, hb1⟩
   go_wp2
   go_ret
   exact ⟨rfl, ext_trans (ext_alloc (ext_refl w) _) hb1⟩
 have hf := good_fr hgd
 have hn8 := (frB_head hf).2.2.2
 rw [hl] at hn8
 cases hr : inB rod 0 ((n : Int) - 1)
 · rw [show addDigitB u lo l rod d = false by simp [addDigitB, hl, hr]]
   have hgd := Lib.hid hgd
   have hf := Lib.hid hf
   have hl := Lib.hid hl
   go_enter Try.func54, Try.ntmps54
   go_wp2_with fail
   refine (l2Standard_b u lo A n c l _ _ hn (rdx H.out (ext_alloc (ext_refl w) _)) hgd.out).mono ?_
   rintro e w1 ⟨rfl, hb1⟩
   obtain ⟨BF, hb2, hs2⟩ := box_frame (by simpa using hb1)
   have hb2 := Lib.hid hb2
   obtain ⟨d0, d1, d2⟩ := BF.q3
   clear BF hb1
   go_wp2_with fail
   refine (l1In_b _ _ _ _ _ hr).mono ?_
   rintro e w2 ⟨rfl, hb3⟩
   go_wp2
   go_ret
   exact ⟨rfl, ext_trans hb2.out hb3⟩
 cases hd : inB d 0 9
 · rw [show addDigitB u lo l rod d = false by simp [addDigitB, hd]]
   have hgd := Lib.hid hgd
   have hf := Lib.hid hf
   have hl := Lib.hid hl
   go_enter Try.func54, Try.ntmps54
   go_wp2_with fail
   refine (l2Standard_b u lo A n c l _ _ hn (rdx H.out (ext_alloc (ext_refl w) _)) hgd.out).mono ?_
   rintro e w1 ⟨rfl, hb1⟩
   obtain ⟨BF, hb2, hs2⟩ := box_frame (by simpa using hb1)
   have hb2 := Lib.hid hb2
   obtain ⟨d0, d1, d2⟩ := BF.q3
   clear BF hb1
   go_wp2_with fail
   refine (l1In_b _ _ _ _ _ hr).mono ?_
   rintro e w2 ⟨rfl, hb3⟩
   have hb4 := Lib.hid (ext_trans hb2.out hb3)
   clear hb3
   go_wp2_with fail
   refine (l1In_b _ _ _ _ _ hd).mono ?_
   rintro e w3 ⟨rfl, hb5⟩
   go_wp2
   go_ret
   exact ⟨rfl, ext_trans hb4.out hb5⟩
 obtain ⟨r0, r1⟩ := inB_iff.1 hr
 obtain ⟨d0, d9⟩ := inB_iff.1 hd
 obtain ⟨r, rfl⟩ := Int.eq_ofNat_of_zero_le r0
 have hrn : r < n := by omega
 have hnb := numR_bounds hf l.length
 rw [numR_all l _ (Nat.le_refl _)] at hnb
 obtain ⟨n0, n1⟩ := hnb
 have hp0 := pw_pos n
 have hp1 := pw_lt hn8
 have hpr0 := pw_pos (n - (r + 1))
 have hpr1 := pw_lt (n := n - (r + 1)) (by omega)
 have q0 : 0 ≤ d * pw (n - (r + 1)) := Int.mul_nonneg d0 (by omega)
 have q1 : d * pw (n - (r + 1)) ≤ 9 * 100000000 := Int.mul_le_mul d9 hpr1 (by omega) (by omega)
 have E := Lib.hid (show addDigitB u lo l (r : Int) d = decide (numR l + d * pw (n - (r + 1)) < pw n) by
  rw [addDigitB, hgd, hl, hr, hd, show (r : Int).toNat = r from rfl, canB_ref hf q0]
  try rw [hl]
  rfl)
 have HZ := Lib.hid (show (n : Int) - 1 - r = ((n - (r + 1) : Nat) : Int) by omega)
 have hn7 : n - (r + 1) ≤ 8 := by omega
 have hgd := Lib.hid hgd
 have hf := Lib.hid hf
 have hl := Lib.hid hl
 rw [E.out]
 go_enter Try.func54, Try.ntmps54
 go_wp2_with fail
 refine (l2Standard_b u lo A n c l _ _ hn (rdx H.out (ext_alloc (ext_refl w) _)) hgd.out).mono ?_
 rintro e w1 ⟨rfl, hb1⟩
 obtain ⟨BF, hb2, hs2⟩ := box_frame (by simpa using hb1)
 have hb2 := Lib.hid hb2
 obtain ⟨c0, c1, c2⟩ := BF.q3
 clear hb1
 go_wp2_with fail
 refine (l1In_b _ _ _ _ _ hr).mono ?_
 rintro e w2 ⟨rfl, hb3⟩
 have hb4 := Lib.hid (ext_trans hb2.out hb3)
 have BF := BF.ext hb3
 have hs3 := hb3.size
 clear hb3 c0 c1 c2
 go_wp2_with fail
 refine (l1In_b _ _ _ _ _ hd).mono ?_
 rintro e w3 ⟨rfl, hb5⟩
 have hb6 := Lib.hid (ext_trans hb4.out hb5)
 obtain ⟨c0, c1, c2⟩ := (BF.ext hb5).q3
 have hs5 := hb5.size
 have hs6 : w.heap.size < w3.heap.size := by omega
 clear hb5 BF
 go_wp2
 (refine wp_region_later (by kernel_rfl) (by kernel_rfl) ?_; (repeat (go_big_quiet_step (first | (go_at_call 61; with_reducible exact Calls.later_same (l2Power_any ((n : Int) - 1 - r) (n - (r + 1)) _ HZ.out hn7)) | (go_at_call 61; with_reducible exact Calls.later_same (l2Power_any n n _ rfl hn8)) | (go_at_call 71; with_reducible exact Calls.later_of (l2Number_any u lo A n c l _ hf.out (rdx (rdx H.out hb6.out) (Later.h _))))))); refine wpQuiet_nil ?_; intro w1 hw1; obtain ⟨⟨wl, hbL⟩, hw1'⟩ := hw1; simp only at hw1'; subst hw1'; obtain ⟨hcL, hfL⟩ := bcell hbL)
 have hb7 := Lib.hid (ext_trans hb6.out hbL)
 clear hbL hcL hfL
 go_wp2
 go_ret
 exact ⟨rfl, hb7.out⟩
theorem l6Can_any (u lo : Int) (A : Option Addr) (n c : Nat) (l : List R2) (m : Int) (w : World) (hn : n ≤ 1048576) (h : Reads w w.heap.size 2 A n (rowsV2 l)) :
 Calls Try.prog 47 #[frV u lo A n c, .int .i64 m] w (RetV (.bool (addNok u lo l m)) w) := by
 have hl := rows_len2 h
 have H := Lib.hid h
 clear h
 cases hgd : goodB u lo l
 · rw [show addNok u lo l m = false by simp [addNok, hgd]]
   have hgd := Lib.hid hgd
   have hl := Lib.hid hl
   go_enter Try.func47, Try.ntmps47
   go_wp2
   (refine wp_region_later (by kernel_rfl) (by kernel_rfl) ?_; (repeat (go_big_quiet_step (first | (go_at_call 69; with_reducible exact Calls.later_of (l2Standard_b u lo A n c l _ _ hn (rdx (rdx H.out (ext_alloc (ext_refl w) _)) (Later.h _)) hgd.out))))); refine wpQuiet_nil ?_; intro w1 hw1; obtain ⟨⟨wl, hbL⟩, hw1'⟩ := hw1; simp only at hw1'; subst hw1'; obtain ⟨hcL, hfL⟩ := bcell hbL)
   go_wp2
   go_ret
   exact ⟨rfl, (by repeat (first | exact ext_refl _ | assumption | refine ext_alloc ?_ _ | refine ext_drew ?_ | refine ext_drewN ?_ _ | refine ext_set ?_ (by simp <;> omega) _ | refine ext_trans ?_ (by assumption)))⟩
 have hf := good_fr hgd
 have hn8 := (frB_head hf).2.2.2
 rw [hl] at hn8
 have hp0 := pw_pos n
 have hp1 := pw_lt hn8
 cases hb : inB m 0 (pw n - 1)
 · rw [show addNok u lo l m = false by simp [addNok, canB, hl, hb]]
   have hgd := Lib.hid hgd
   have hf := Lib.hid hf
   have hl := Lib.hid hl
   go_enter Try.func47, Try.ntmps47
   go_wp2
   (refine wp_region_later (by kernel_rfl) (by kernel_rfl) ?_; (repeat (go_big_quiet_step (first | (go_at_call 69; with_reducible exact Calls.later_of (l2Standard_b u lo A n c l _ _ hn (rdx (rdx H.out (ext_alloc (ext_refl w) _)) (Later.h _)) hgd.out)) | (go_at_call 61; with_reducible exact Calls.later_same (l2Power_any n n _ rfl hn8)) | (go_at_call 37; with_reducible exact Calls.later_of (l1In_b _ _ _ _ _ hb))))); refine wpQuiet_nil ?_; intro w1 hw1; obtain ⟨⟨wl, hbL⟩, hw1'⟩ := hw1; simp only at hw1'; subst hw1'; obtain ⟨hcL, hfL⟩ := bcell hbL)
   go_wp2
   go_ret
   exact ⟨rfl, (by repeat (first | exact ext_refl _ | assumption | refine ext_alloc ?_ _ | refine ext_drew ?_ | refine ext_drewN ?_ _ | refine ext_set ?_ (by simp <;> omega) _ | refine ext_trans ?_ (by assumption)))⟩
 obtain ⟨m0, m1⟩ := inB_iff.1 hb
 have hnb := numR_bounds hf l.length
 rw [numR_all l _ (Nat.le_refl _)] at hnb
 obtain ⟨n0, n1⟩ := hnb
 have E := Lib.hid (show addNok u lo l m = decide (numR l + m < pw n) by rw [addNok, hgd, canB_ref hf m0, hl]; rfl)
 have hgd := Lib.hid hgd
 have hf := Lib.hid hf
 have hl := Lib.hid hl
 go_enter Try.func47, Try.ntmps47
 go_wp2
 (refine wp_region_later (by kernel_rfl) (by kernel_rfl) ?_; (repeat (go_big_quiet_step (first | (go_at_call 69; with_reducible exact Calls.later_of (l2Standard_b u lo A n c l _ _ hn (rdx (rdx H.out (ext_alloc (ext_refl w) _)) (Later.h _)) hgd.out)) | (go_at_call 61; with_reducible exact Calls.later_same (l2Power_any n n _ rfl hn8)) | (go_at_call 37; with_reducible exact Calls.later_of (l1In_b _ _ _ _ _ hb)) | (go_at_call 71; with_reducible exact Calls.later_of (l2Number_any u lo A n c l _ hf.out (rdx (rdx H.out (ext_alloc (ext_refl w) _)) (Later.h _))))))); refine wpQuiet_nil ?_; intro w1 hw1; obtain ⟨⟨wl, hbL⟩, hw1'⟩ := hw1; simp only at hw1'; subst hw1'; obtain ⟨hcL, hfL⟩ := bcell hbL)
 go_wp2
 go_ret
 exact ⟨ret_bool (by rw [E.out]), (by repeat (first | exact ext_refl _ | assumption | refine ext_alloc ?_ _ | refine ext_drew ?_ | refine ext_drewN ?_ _ | refine ext_set ?_ (by simp <;> omega) _ | refine ext_trans ?_ (by assumption)))⟩
end Go.Proofs.Ytaghjaiaoajpiaa
