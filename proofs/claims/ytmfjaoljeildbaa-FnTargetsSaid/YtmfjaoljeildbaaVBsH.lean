/- l13Best. -/
import Derived.Deep.CutBlock
import Derived.Test.YtmfjaoljeildbaaVM7
import Derived.Test.YtmfjaoljeildbaaVM5
namespace Go.Proofs.Ytmfjaoljeildbaa
open Go.RowKit
set_option linter.unusedVariables false
set_option linter.unusedSimpArgs false
def wayT (l : List R2) (N : Nat) (t : List R2) : Way := ⟨t, (btw l t N).length, beads (btw l t N), true⟩
def minT (bt : Way → Way → Bool) (l : List R2) (N : Nat) (LL : List (List R2)) : Way := LL.foldl (fun s t => if bt (wayT l N t) s = true then wayT l N t else s) zeroW
theorem minT_take {bt : Way → Way → Bool} {l : List R2} {N : Nat} {LL : List (List R2)} {i : Nat} {t : List R2} (h : LL[i]? = some t) : minT bt l N (LL.take (i + 1)) = if bt (wayT l N t) (minT bt l N (LL.take i)) = true then wayT l N t else minT bt l N (LL.take i) := by
 unfold minT
 rw [List.take_add_one, h, List.foldl_append]
 rfl
def RetBest (w : World) (u lo : Int) (s : Way) (e : Ending) (w' : World) : Prop := ∃ (U L : Int) (A : Option Addr) (c : Nat), e = .returned (.tuple #[frV U L A s.l.length c, .bool s.ok]) ∧ (s.ok = true → U = u ∧ L = lo) ∧ (s.ok = false → U = 0 ∧ L = 0) ∧ w'.ownsRow w.heap.size 86 2 (.slice A s.l.length c) s.l.length (rowsV2 s.l) ∧ Below w.heap.size w w'
theorem tgs_fill {w : World} {B r g : Nat} {cs : Array Value} {vals : List Value} {LL : List (List R2)} {a b c : Value} (h : Tgs w B r vals LL) (hg : Blk w g 26 cs) : Tgs (((w.setCell ⟨g, 0, none⟩ a).setCell ⟨g, 1, none⟩ b).setCell ⟨g, 2, none⟩ c) B r vals LL :=
 ⟨h.1, fun i L hL => by obtain ⟨h1, A, c', h2, h3⟩ := h.2 i L hL; exact ⟨h1, A, c', h2, fill_own' h3 (own_nbT h3 hg (by decide))⟩⟩
theorem frmsV_get (u lo : Int) {vals : List Value} {v : Value} : ∀ {i : Nat}, vals[i]? = some v → (frmsV u lo vals)[i * 3]? = some (.int .i64 u) ∧ (frmsV u lo vals)[i * 3 + 1]? = some (.int .i64 lo) ∧ (frmsV u lo vals)[i * 3 + 2]? = some v := by
 induction vals with
 | nil => intro i h; cases h
 | cons a vals ih =>
   intro i h
   have e : frmsV u lo (a :: vals) = .int .i64 u :: .int .i64 lo :: a :: frmsV u lo vals := by unfold frmsV; rw [List.flatMap_cons]; rfl
   rw [e]
   cases i with
   | zero => injection h with h; subst h; exact ⟨rfl, rfl, rfl⟩
   | succ i =>
     have h9 := ih (i := i) h
     rw [show (i + 1) * 3 = i * 3 + 1 + 1 + 1 by omega]
     exact h9
theorem frB_mk {u lo : Int} {l t : List R2} (hf : frB u lo l = true) (hl : t.length = l.length) (hy : ∀ y ∈ t, 0 ≤ y.a ∧ y.a ≤ u ∧ 0 ≤ y.b ∧ y.b ≤ lo) : frB u lo t = true := by
 unfold frB at hf ⊢
 rw [hl]
 simp only [Bool.and_eq_true, List.all_eq_true] at hf ⊢
 refine ⟨hf.1, fun y hy' => ?_⟩
 have := hy y hy'
 unfold rodB
 simp only [Bool.and_eq_true, inB_iff, decide_eq_true_eq]
 omega
/-- what a way over all rods satisfies -/
def GoodB (N : Nat) (s : Way) : Prop := (s.ok = true → s.l.length = N) ∧ smallR s.l ∧ 0 ≤ s.m ∧ s.m ≤ 16 ∧ 0 ≤ s.b ∧ s.b ≤ 16000
theorem GoodB.zero (N : Nat) : GoodB N zeroW := ⟨(fun h => by cases h), (fun k r h => by cases h), Int.le_refl _, by decide, Int.le_refl _, by decide⟩
theorem GoodB.way {u lo : Int} {l t : List R2} {N : Nat} (hf : frB u lo l = true) (ht : frB u lo t = true) (hl : l.length = N) (htl : t.length = N) : GoodB N (wayT l N t) := by
 have hh := frB_head hf
 have hb := beads_bound (btw_small hf ht N) (btw l t N).length
 rw [List.take_of_length_le (Nat.le_refl _)] at hb
 have hm := btw_len l t N
 refine ⟨fun _ => htl, fun k r hr => ?_, ?_, ?_, ?_, ?_⟩
 · have := fr_nine ht k
   have hr2 : t[k]? = some r := hr
   rw [List.getD_eq_getElem?_getD, hr2, Option.getD_some] at this
   omega
 · show (0 : Int) ≤ ((btw l t N).length : Int)
   omega
 · show ((btw l t N).length : Int) ≤ 16
   omega
 · show 0 ≤ beads (btw l t N)
   omega
 · show beads (btw l t N) ≤ 16000
   omega
set_option maxRecDepth 100000 in
set_option maxHeartbeats 16000000 in
theorem l13Best_any (u lo : Int) (A : Option Addr) (N c : Nat) (l : List R2) (n : Int) (w : World) (hf : frB u lo l = true) (hl : l.length = N) (h0 : 0 ≤ n) (h63 : n ≤ 9223372036854775807) (h : Reads w w.heap.size 2 A N (rowsV2 l)) :
 Calls Try.prog 40 #[frV u lo A N c, .int .i64 n] w (RetBest w u lo (minT nearP l N (tgP u lo N n))) := by
 have hh := frB_head hf
 rw [hl] at hh
 have H := Lib.hid h
 have HF := Lib.hid hf
 have HA := Lib.hid (fun (w : World) => l13All_any u lo A N c n w (by omega) (by omega) h0 h63)
 have hmem := tgP_mem (u := u) (lo := lo) N n
 have HMEM := Lib.hid hmem
 have hll := tgP_len (lo := lo) (u := u) (by omega) N n
 have hll2 : (tgP u lo N n).length ≤ 1679616 := Nat.le_trans hll (Nat.le_trans (Nat.pow_le_pow_right (by omega) (show N ≤ 8 by omega)) (by decide))
 obtain ⟨LL, hLL⟩ : ∃ o9, tgP u lo N n = o9 := ⟨_, rfl⟩
 rw [hLL] at HA hll2 HMEM ⊢
 obtain ⟨N4, hN4⟩ : ∃ o9, w.heap.size + 1 = o9 := ⟨_, rfl⟩
 have BF0 := Lib.hid ((Blk.born w #[.int .i64 u, .int .i64 lo, .slice A N c] 26 (H := w.heap.size) rfl).al (.cells #[.int .i64 0, .int .i64 0, .slice none 0 0] 26))
 have B40 := Lib.hid (Blk.born (w.alloc (.cells #[.int .i64 u, .int .i64 lo, .slice A N c] 26)) #[.int .i64 0, .int .i64 0, .slice none 0 0] 26 (H := N4) (by rw [← hN4]; simp))
 have hbx := Lib.hid (ext_alloc (ext_alloc (ext_refl w) (.cells #[.int .i64 u, .int .i64 lo, .slice A N c] 26)) (.cells #[.int .i64 0, .int .i64 0, .slice none 0 0] 26))
 have hN4w : w.heap.size < N4 := by omega
 unfold RetFrs at HA
 clear hLL hll hmem hf h
 obtain ⟨f0, f1, f2⟩ := BF0.out.q3
 go_enter Try.func40, Try.ntmps40
 go_wp2_with fail
 refine (HA.out _).mono ?_
 rintro e w1 ⟨Ao, co, vals, rfl, hor, htr, hb1⟩
 obtain ⟨N7, hN7⟩ : ∃ o9, w1.heap.size = o9 := ⟨_, rfl⟩
 obtain ⟨W1, hW1⟩ : ∃ y : World, y = w1.alloc (.cells #[.int .i64 0, .int .i64 0, .slice none 0 0] 26) := ⟨_, rfl⟩
 have BF := Lib.hid (show Blk W1 w.heap.size 26 #[.int .i64 u, .int .i64 lo, .slice A N c] by rw [hW1]; exact (BF0.out.ext hb1).al _)
 have B4 := Lib.hid (show Blk W1 N4 26 #[.int .i64 0, .int .i64 0, .slice none 0 0] by rw [hW1]; exact (B40.out.ext hb1).al _)
 have B7 := Lib.hid (show Blk W1 N7 26 #[.int .i64 0, .int .i64 0, .slice none 0 0] by rw [hW1]; exact Blk.born w1 _ 26 hN7.symm)
 have HO := Lib.hid (show W1.ownsRow w.heap.size 26 3 (.slice Ao LL.length co) LL.length (frmsV u lo vals) by rw [hW1]; exact (own_base hor hbx.out.size).alloc _)
 have HRT := Lib.hid (show Tgs W1 w.heap.size N vals LL by rw [hW1]; exact (htr.base hbx.out.size).ext (ext_alloc (ext_refl _) _))
 have hb := Lib.hid (show Below w.heap.size w W1 by rw [hW1]; exact ext_alloc (ext_trans hbx.out hb1) _)
 have hN47 : N4 < N7 := by have := (B40.out.ext hb1).lt; omega
 have HVL := Lib.hid htr.1
 have HLT7 := Lib.hid (fun b (hb9 : Value.ownBlock (.slice Ao LL.length co) = some b) => show b < N7 from by have := (hor.lt b hb9).2; omega)
 go_upto_region 2 with fail
 rw [← hW1]
 clear hW1 hN7 hor htr hb1 BF0 B40 hbx f0 f1 f2 HA hN4
 go_wp2
 go_loopw [8, 9, 10] (fun mv bv iv wr => ∃ (i : Nat) (s : Way) (mz U9 L9 : Int) (A9 : Option Addr) (c9 : Nat), i ≤ LL.length ∧ iv = .int .i64 (i : Int) ∧ mv = .int .i64 mz ∧ (s.ok = true → mz = s.m) ∧ (s.ok = false → mz = -1) ∧ bv = .int .i64 s.b ∧ (s.ok = true → U9 = u ∧ L9 = lo) ∧ (s.ok = false → U9 = 0 ∧ L9 = 0) ∧ Hid (minT nearP l N (LL.take i) = s) ∧ Hid (GoodB N s) ∧ Hid (Blk wr N7 26 #[.int .i64 U9, .int .i64 L9, .slice A9 s.l.length c9]) ∧ Hid (wr.ownsRow w.heap.size 86 2 (.slice A9 s.l.length c9) s.l.length (rowsV2 s.l)) ∧ Hid (wr.ownsRow w.heap.size 26 3 (.slice Ao LL.length co) LL.length (frmsV u lo vals)) ∧ Hid (Tgs wr w.heap.size N vals LL) ∧ Hid (Blk wr w.heap.size 26 #[.int .i64 u, .int .i64 lo, .slice A N c]) ∧ Hid (Blk wr N4 26 #[.int .i64 0, .int .i64 0, .slice none 0 0]) ∧ Hid (Below w.heap.size w wr)) (fun _ _ iv _ => LL.length - (intOf iv).toNat)
 case atStart => exact ⟨0, zeroW, -1, 0, 0, none, 0, Nat.zero_le _, rfl, rfl, (fun h => by cases h), (fun _ => rfl), rfl, (fun h => by cases h), (fun _ => ⟨rfl, rfl⟩), Lib.hid rfl, Lib.hid (GoodB.zero N), B7, Lib.hid (World.ownsRow_nil _ _ _ _), HO, HRT, BF, B4, hb⟩
 case round =>
  clear B7 HO HRT BF B4 hb
  obtain ⟨i, s, mz, U9, L9, A9, c9, hi9, rfl, rfl, hm1, hm0, rfl, hU1, hU0, HMS, HGS, B7, HSR, HO, HRT, BF, B4, hb⟩ := hrel
  obtain ⟨W, hW⟩ : ∃ y : World, y = wr := ⟨_, rfl⟩
  subst hW
  by_cases hlt : i < LL.length
  · obtain ⟨t, ht⟩ := list_split (l := LL) (k := i) hlt
    have HMT := Lib.hid (minT_take (bt := nearP) (l := l) (N := N) ht)
    rw [HMS.out] at HMT
    obtain ⟨htl, At, ct, hvr, hto⟩ := HRT.out.2 i t ht
    have hfv := frmsV_get u lo hvr
    have HV0 := Lib.hid hfv.1
    have HV1 := Lib.hid hfv.2.1
    have HV2 := Lib.hid hfv.2.2
    have HTL := Lib.hid htl
    have hft := frB_mk HF.out (by rw [htl, hl]) (HMEM.out t (List.mem_of_getElem? ht)).2
    have HGT := Lib.hid (GoodB.way HF.out hft hl htl)
    have hms := btw_len l t N
    have HSM := Lib.hid (btw_small HF.out hft N)
    have hbd := beads_bound HSM.out (btw l t N).length
    rw [List.take_of_length_le (Nat.le_refl _)] at hbd
    have HBT := Lib.hid (fun (w : World) h h' => l4Between_any u lo A At N c ct l t w HF.out hft h h')
    obtain ⟨bo, co', hB, hLw, hLl⟩ := HO.out.form (by omega)
    injection hB with hB _ hB2
    subst hB hB2
    have hbo7 := HLT7.out bo rfl
    have HBON := Lib.hid (show bo ≠ N7 by omega)
    have d0 := HO.out.cellAt (i * 3) (by omega)
    have d1 := HO.out.cellAt (i * 3 + 1) (by omega)
    have d2 := HO.out.cellAt (i * 3 + 2) (by omega)
    rw [HV0.out] at d0
    rw [HV1.out] at d1
    rw [HV2.out] at d2
    obtain ⟨f0, f1, f2⟩ := BF.out.q3
    have lF := BF.out.lt
    have hi1 : (i : Int) < (LL.length : Int) := by omega
    have hi0 : (0 : Int) ≤ (i : Int) := by omega
    have x1 : Reads W.drew W.drew.heap.size 2 A N (rowsV2 l) := rdx H.out (ext_drew hb.out)
    have x2 : Reads W.drew W.drew.heap.size 2 At N (rowsV2 t) := Reads.of_own (World.ownsRow.drew hto)
    have HTO := Lib.hid hto
    obtain ⟨ms, hmsE⟩ : ∃ o9, btw l t N = o9 := ⟨_, rfl⟩
    have HWT := Lib.hid (show wayT l N t = ⟨t, ms.length, beads ms, true⟩ by unfold wayT; rw [hmsE])
    rw [hmsE] at HBT hms HSM hbd
    unfold RetSlice at HBT
    clear hmsE hvr hto htl hfv ht hft
    go_upto_region 5 with fail
    go_cut [11] (fun s11 wx => ∃ (Am : Option Addr) (cm : Nat), s11 = .slice Am ms.length cm ∧ Hid (wx.ownsRow w.heap.size 54 3 (.slice Am ms.length cm) ms.length (rowsV3 ms)) ∧ Hid (Below W.heap.size W wx))
    case first =>
     go_region_law (first
      | (go_simp; go_at_call 42; refine (HBT.out _ x1 x2).mono ?_; rintro e w5 ⟨Am, cm, rfl, hm5, hb5⟩; have hb6 := Lib.hid (ext_drew_left hb5); have hm6 := Lib.hid hm5; clear hm5 hb5))
     all_goals
      go_wp2_with fail
      go_meet
      exact ⟨Am, cm, rfl, Lib.hid (own_base hm6.out hb.out.size), hb6⟩
    case rest =>
     clear x1 x2 d0 d1 d2 f0 f1 f2 lF HBT
     obtain ⟨Am, cm, rfl, HM, hbV⟩ := hcut
     obtain ⟨W5, hW5⟩ : ∃ y : World, y = wc := ⟨_, rfl⟩
     subst hW5
     go_wp2_with fail
     refine (l4Beads_any Am ms.length cm ms _ (by omega) HSM.out (Reads.of_own HM.out)).mono ?_
     rintro e w6 ⟨rfl, hb6⟩
     have hbA := Lib.hid (ext_trans hbV.out hb6)
     have HO6 := Lib.hid (own_ext HO.out hbA.out)
     have HRT6 := Lib.hid (HRT.out.ext hbA.out)
     have BF6 := Lib.hid (BF.out.ext hbA.out)
     have B46 := Lib.hid (B4.out.ext hbA.out)
     have B76 := Lib.hid (B7.out.ext hbA.out)
     have HSR6 := Lib.hid (own_ext HSR.out hbA.out)
     have HTO6 := Lib.hid (own_ext HTO.out hbA.out)
     have hbb6 := Lib.hid (ext_trans hb.out hbA.out)
     clear hb6 hbV HO HRT BF B4 B7 HSR HTO hb hbA HM
     obtain ⟨W6, hW6⟩ : ∃ y : World, y = w6 := ⟨_, rfl⟩
     subst hW6
     obtain ⟨g0, g1, g2⟩ := B76.out.q3
     have l7 := B76.out.lt
     have d0 := HO6.out.cellAt (i * 3) (by omega)
     have d1 := HO6.out.cellAt (i * 3 + 1) (by omega)
     have d2 := HO6.out.cellAt (i * 3 + 2) (by omega)
     rw [HV0.out] at d0
     rw [HV1.out] at d1
     rw [HV2.out] at d2
     have lo6 : bo < W6.heap.size := (HO6.out.lt _ rfl).2
     cases hok : s.ok
     · have hmz := hm0 hok
       subst hmz
       have hnear : nearP (wayT l N t) s = true := by rw [HWT.out]; unfold nearP; rw [hok]; rfl
       have k1 : ((-1 : Int) < 0) := by decide
       have k1b : decide ((-1 : Int) < 0) = true := rfl
       go_upto_region 7 with fail
       (refine wp_region_later (by kernel_rfl) (by kernel_rfl) ?_; (repeat (go_big_quiet_step (fail))); refine wpQuiet_nil ?_; intro w8 hw1; obtain ⟨⟨wl, hb⟩, hw1'⟩ := hw1; simp only at hw1'; subst hw1')
       have HO7 := Lib.hid (own_ext HO6.out hb)
       have HRT7 := Lib.hid (HRT6.out.ext hb)
       have BF7 := Lib.hid (BF6.out.ext hb)
       have B47 := Lib.hid (B46.out.ext hb)
       have B77 := Lib.hid (B76.out.ext hb)
       have HSR7 := Lib.hid (own_ext HSR6.out hb)
       have hbb7 := Lib.hid (ext_trans hbb6.out hb)
       have HTO7 := Lib.hid (own_ext HTO6.out hb)
       clear hb g0 g1 g2 l7 d0 d1 d2 lo6 HO6 HRT6 BF6 B46 B76 HSR6 hbb6 HTO6
       obtain ⟨g0, g1, g2⟩ := B77.out.q3
       obtain ⟨z0, z1, z2⟩ := B77.out.z3
       have l7 := B77.out.lt
       have d0 := HO7.out.cellAt (i * 3) (by omega)
       have d1 := HO7.out.cellAt (i * 3 + 1) (by omega)
       have d2 := HO7.out.cellAt (i * 3 + 2) (by omega)
       rw [HV0.out] at d0
       rw [HV1.out] at d1
       rw [HV2.out] at d2
       have lo9 : bo < w8.heap.size := (HO7.out.lt _ rfl).2
       obtain ⟨W9, hW9⟩ : ∃ y : World, y = ((w8.setCell ⟨N7, 0, none⟩ (.int .i64 u)).setCell ⟨N7, 1, none⟩ (.int .i64 lo)).setCell ⟨N7, 2, none⟩ (.slice At N ct) := ⟨_, rfl⟩
       have B79 := Lib.hid (show Blk W9 N7 26 #[.int .i64 u, .int .i64 lo, .slice At N ct] by rw [hW9]; exact fr_put B77.out)
       have hne9 : bo ≠ N7 := HBON.out
       have HO9 := Lib.hid (show W9.ownsRow w.heap.size 26 3 (.slice (some ⟨bo, 0, none⟩) LL.length co) LL.length (frmsV u lo vals) by rw [hW9]; exact fill_own' HO7.out (by intro e; injection e with e; exact hne9 e))
       have HRT9 := Lib.hid (show Tgs W9 w.heap.size N vals LL by rw [hW9]; exact tgs_fill HRT7.out B77.out)
       have BF9 := Lib.hid (show Blk W9 w.heap.size 26 #[.int .i64 u, .int .i64 lo, .slice A N c] by rw [hW9]; exact fill_far BF7.out (by omega))
       have B49 := Lib.hid (show Blk W9 N4 26 #[.int .i64 0, .int .i64 0, .slice none 0 0] by rw [hW9]; exact fill_far B47.out (by omega))
       have HT9 := Lib.hid (show W9.ownsRow w.heap.size 86 2 (.slice At N ct) N (rowsV2 t) by rw [hW9]; exact fill_own' HTO7.out (own_nbT HTO7.out B77.out (by decide)))
       have hb9 := Lib.hid (show Below w.heap.size w W9 by rw [hW9]; exact fill_below hbb7.out (by omega))
       have hnear9 : (if nearP (wayT l N t) s = true then wayT l N t else s) = wayT l N t := if_pos hnear
       clear HO7 HRT7 BF7 B47 B77 HSR7 hbb7 HTO7
       go_wp2
       rw [← hW9]
       clear hW9
       go_roundw
       case rel => exact ⟨i + 1, wayT l N t, ms.length, u, lo, At, ct, by omega, by go_num, rfl, (fun _ => by rw [HWT.out]), (fun h => by cases h), by rw [HWT.out], (fun _ => ⟨rfl, rfl⟩), (fun h => by cases h), Lib.hid (HMT.out.trans hnear9), HGT, by rw [show (wayT l N t).l.length = N from HTL.out]; exact B79, by rw [show (wayT l N t).l.length = N from HTL.out]; exact HT9, HO9, HRT9, BF9, B49, hb9⟩
       case measure => simp [intOf]; omega
     · have hmz := hm1 hok
       subst hmz
       have hgm := HGS.out.2.2.1
       have k0 : ¬ s.m < 0 := by omega
       have k0b : decide (s.m < 0) = false := decide_eq_false k0
       by_cases hm2 : (ms.length : Int) < s.m
       · have hnear : nearP (wayT l N t) s = true := by rw [HWT.out]; unfold nearP; simp [hok, hm2]; omega
         have k2 : decide ((ms.length : Int) < s.m) = true := decide_eq_true hm2
         go_upto_region 7 with fail
         (refine wp_region_later (by kernel_rfl) (by kernel_rfl) ?_; (repeat (go_big_quiet_step (fail))); refine wpQuiet_nil ?_; intro w8 hw1; obtain ⟨⟨wl, hb⟩, hw1'⟩ := hw1; simp only at hw1'; subst hw1')
         have HO7 := Lib.hid (own_ext HO6.out hb)
         have HRT7 := Lib.hid (HRT6.out.ext hb)
         have BF7 := Lib.hid (BF6.out.ext hb)
         have B47 := Lib.hid (B46.out.ext hb)
         have B77 := Lib.hid (B76.out.ext hb)
         have HSR7 := Lib.hid (own_ext HSR6.out hb)
         have hbb7 := Lib.hid (ext_trans hbb6.out hb)
         have HTO7 := Lib.hid (own_ext HTO6.out hb)
         clear hb g0 g1 g2 l7 d0 d1 d2 lo6 HO6 HRT6 BF6 B46 B76 HSR6 hbb6 HTO6
         obtain ⟨g0, g1, g2⟩ := B77.out.q3
         obtain ⟨z0, z1, z2⟩ := B77.out.z3
         have l7 := B77.out.lt
         have d0 := HO7.out.cellAt (i * 3) (by omega)
         have d1 := HO7.out.cellAt (i * 3 + 1) (by omega)
         have d2 := HO7.out.cellAt (i * 3 + 2) (by omega)
         rw [HV0.out] at d0
         rw [HV1.out] at d1
         rw [HV2.out] at d2
         have lo9 : bo < w8.heap.size := (HO7.out.lt _ rfl).2
         obtain ⟨W9, hW9⟩ : ∃ y : World, y = ((w8.setCell ⟨N7, 0, none⟩ (.int .i64 u)).setCell ⟨N7, 1, none⟩ (.int .i64 lo)).setCell ⟨N7, 2, none⟩ (.slice At N ct) := ⟨_, rfl⟩
         have B79 := Lib.hid (show Blk W9 N7 26 #[.int .i64 u, .int .i64 lo, .slice At N ct] by rw [hW9]; exact fr_put B77.out)
         have hne9 : bo ≠ N7 := HBON.out
         have HO9 := Lib.hid (show W9.ownsRow w.heap.size 26 3 (.slice (some ⟨bo, 0, none⟩) LL.length co) LL.length (frmsV u lo vals) by rw [hW9]; exact fill_own' HO7.out (by intro e; injection e with e; exact hne9 e))
         have HRT9 := Lib.hid (show Tgs W9 w.heap.size N vals LL by rw [hW9]; exact tgs_fill HRT7.out B77.out)
         have BF9 := Lib.hid (show Blk W9 w.heap.size 26 #[.int .i64 u, .int .i64 lo, .slice A N c] by rw [hW9]; exact fill_far BF7.out (by omega))
         have B49 := Lib.hid (show Blk W9 N4 26 #[.int .i64 0, .int .i64 0, .slice none 0 0] by rw [hW9]; exact fill_far B47.out (by omega))
         have HT9 := Lib.hid (show W9.ownsRow w.heap.size 86 2 (.slice At N ct) N (rowsV2 t) by rw [hW9]; exact fill_own' HTO7.out (own_nbT HTO7.out B77.out (by decide)))
         have hb9 := Lib.hid (show Below w.heap.size w W9 by rw [hW9]; exact fill_below hbb7.out (by omega))
         have hnear9 : (if nearP (wayT l N t) s = true then wayT l N t else s) = wayT l N t := if_pos hnear
         clear HO7 HRT7 BF7 B47 B77 HSR7 hbb7 HTO7
         go_wp2
         rw [← hW9]
         clear hW9
         go_roundw
         case rel => exact ⟨i + 1, wayT l N t, ms.length, u, lo, At, ct, by omega, by go_num, rfl, (fun _ => by rw [HWT.out]), (fun h => by cases h), by rw [HWT.out], (fun _ => ⟨rfl, rfl⟩), (fun h => by cases h), Lib.hid (HMT.out.trans hnear9), HGT, by rw [show (wayT l N t).l.length = N from HTL.out]; exact B79, by rw [show (wayT l N t).l.length = N from HTL.out]; exact HT9, HO9, HRT9, BF9, B49, hb9⟩
         case measure => simp [intOf]; omega
       · have k2 : decide ((ms.length : Int) < s.m) = false := decide_eq_false hm2
         by_cases hm3 : (ms.length : Int) = s.m
         · have k3 : ((ms.length : Int) == s.m) = true := by simp [hm3]
           by_cases hb2 : beads ms < s.b
           · have hnear : nearP (wayT l N t) s = true := by rw [HWT.out]; unfold nearP; simp [hok, hm3, hb2]; omega
             have k4 : decide (beads ms < s.b) = true := decide_eq_true hb2
             have hm3' := Lib.hid hm3
             clear hm3
             go_upto_region 7 with fail
             (refine wp_region_later (by kernel_rfl) (by kernel_rfl) ?_; (repeat (go_big_quiet_step (fail))); refine wpQuiet_nil ?_; intro w8 hw1; obtain ⟨⟨wl, hb⟩, hw1'⟩ := hw1; simp only at hw1'; subst hw1')
             have HO7 := Lib.hid (own_ext HO6.out hb)
             have HRT7 := Lib.hid (HRT6.out.ext hb)
             have BF7 := Lib.hid (BF6.out.ext hb)
             have B47 := Lib.hid (B46.out.ext hb)
             have B77 := Lib.hid (B76.out.ext hb)
             have HSR7 := Lib.hid (own_ext HSR6.out hb)
             have hbb7 := Lib.hid (ext_trans hbb6.out hb)
             have HTO7 := Lib.hid (own_ext HTO6.out hb)
             clear hb g0 g1 g2 l7 d0 d1 d2 lo6 HO6 HRT6 BF6 B46 B76 HSR6 hbb6 HTO6
             obtain ⟨g0, g1, g2⟩ := B77.out.q3
             obtain ⟨z0, z1, z2⟩ := B77.out.z3
             have l7 := B77.out.lt
             have d0 := HO7.out.cellAt (i * 3) (by omega)
             have d1 := HO7.out.cellAt (i * 3 + 1) (by omega)
             have d2 := HO7.out.cellAt (i * 3 + 2) (by omega)
             rw [HV0.out] at d0
             rw [HV1.out] at d1
             rw [HV2.out] at d2
             have lo9 : bo < w8.heap.size := (HO7.out.lt _ rfl).2
             obtain ⟨W9, hW9⟩ : ∃ y : World, y = ((w8.setCell ⟨N7, 0, none⟩ (.int .i64 u)).setCell ⟨N7, 1, none⟩ (.int .i64 lo)).setCell ⟨N7, 2, none⟩ (.slice At N ct) := ⟨_, rfl⟩
             have B79 := Lib.hid (show Blk W9 N7 26 #[.int .i64 u, .int .i64 lo, .slice At N ct] by rw [hW9]; exact fr_put B77.out)
             have hne9 : bo ≠ N7 := HBON.out
             have HO9 := Lib.hid (show W9.ownsRow w.heap.size 26 3 (.slice (some ⟨bo, 0, none⟩) LL.length co) LL.length (frmsV u lo vals) by rw [hW9]; exact fill_own' HO7.out (by intro e; injection e with e; exact hne9 e))
             have HRT9 := Lib.hid (show Tgs W9 w.heap.size N vals LL by rw [hW9]; exact tgs_fill HRT7.out B77.out)
             have BF9 := Lib.hid (show Blk W9 w.heap.size 26 #[.int .i64 u, .int .i64 lo, .slice A N c] by rw [hW9]; exact fill_far BF7.out (by omega))
             have B49 := Lib.hid (show Blk W9 N4 26 #[.int .i64 0, .int .i64 0, .slice none 0 0] by rw [hW9]; exact fill_far B47.out (by omega))
             have HT9 := Lib.hid (show W9.ownsRow w.heap.size 86 2 (.slice At N ct) N (rowsV2 t) by rw [hW9]; exact fill_own' HTO7.out (own_nbT HTO7.out B77.out (by decide)))
             have hb9 := Lib.hid (show Below w.heap.size w W9 by rw [hW9]; exact fill_below hbb7.out (by omega))
             have hnear9 : (if nearP (wayT l N t) s = true then wayT l N t else s) = wayT l N t := if_pos hnear
             clear HO7 HRT7 BF7 B47 B77 HSR7 hbb7 HTO7
             go_wp2
             rw [← hW9]
             clear hW9
             go_roundw
             case rel => exact ⟨i + 1, wayT l N t, ms.length, u, lo, At, ct, by omega, by go_num, rfl, (fun _ => by rw [HWT.out]), (fun h => by cases h), by rw [HWT.out], (fun _ => ⟨rfl, rfl⟩), (fun h => by cases h), Lib.hid (HMT.out.trans hnear9), HGT, by rw [show (wayT l N t).l.length = N from HTL.out]; exact B79, by rw [show (wayT l N t).l.length = N from HTL.out]; exact HT9, HO9, HRT9, BF9, B49, hb9⟩
             case measure => simp [intOf]; omega
           · have k4 : decide (beads ms < s.b) = false := decide_eq_false hb2
             by_cases hb3 : beads ms = s.b
             · have k5 : (beads ms == s.b) = true := by simp [hb3]
               have hnr : nearP (wayT l N t) s = decide (cmpP t s.l < 0) := by rw [HWT.out]; unfold nearP; simp [hok, hm3, hb3]
               have hsl := HGS.out.1 hok
               have HBE := Lib.hid (fun (m : Later W6) => l13Before_any At A9 N ct c9 t s.l m.world (by omega) (by have := HGT.out.2.1; exact this) HGS.out.2.1 (Reads.of_own (own_ext HTO6.out m.h)) (by have h9 := Reads.of_own (own_ext HSR6.out m.h); rwa [hsl] at h9))
               rw [hsl] at g2
               have HSL := Lib.hid hsl
               have hm3' := Lib.hid hm3
               have hb3' := Lib.hid hb3
               obtain ⟨zz, hzz⟩ : ∃ o9, decide (cmpP t s.l < 0) = o9 := ⟨_, rfl⟩
               rw [hzz] at HBE hnr
               clear hsl hm3 hb3 hzz
               cases zz
               · have hnear := hnr
                 go_upto_region 7 with fail
                 (refine wp_region_later (by kernel_rfl) (by kernel_rfl) ?_; (repeat (go_big_quiet_step (first | (go_at_call 73; with_reducible exact Calls.later_of (HBE.out _))))); refine wpQuiet_nil ?_; intro w8 hw1; obtain ⟨⟨wl, hb⟩, hw1'⟩ := hw1; simp only at hw1'; subst hw1')
                 have HO7 := Lib.hid (own_ext HO6.out hb)
                 have HRT7 := Lib.hid (HRT6.out.ext hb)
                 have BF7 := Lib.hid (BF6.out.ext hb)
                 have B47 := Lib.hid (B46.out.ext hb)
                 have B77 := Lib.hid (B76.out.ext hb)
                 have HSR7 := Lib.hid (own_ext HSR6.out hb)
                 have hbb7 := Lib.hid (ext_trans hbb6.out hb)
                 have HTO7 := Lib.hid (own_ext HTO6.out hb)
                 clear hb g0 g1 g2 l7 d0 d1 d2 lo6 HO6 HRT6 BF6 B46 B76 HSR6 hbb6 HTO6
                 go_wp2
                 go_roundw
                 case rel => exact ⟨i + 1, s, s.m, U9, L9, A9, c9, by omega, by go_num, rfl, (fun _ => rfl), (fun h => by rw [hok] at h; cases h), rfl, hU1, hU0, Lib.hid (HMT.out.trans (if_neg (by rw [hnear]; simp))), HGS, B77, HSR7, HO7, HRT7, BF7, B47, hbb7⟩
                 case measure => simp [intOf]; omega
               · have hnear := hnr
                 go_upto_region 7 with fail
                 (refine wp_region_later (by kernel_rfl) (by kernel_rfl) ?_; (repeat (go_big_quiet_step (first | (go_at_call 73; with_reducible exact Calls.later_of (HBE.out _))))); refine wpQuiet_nil ?_; intro w8 hw1; obtain ⟨⟨wl, hb⟩, hw1'⟩ := hw1; simp only at hw1'; subst hw1')
                 have HO7 := Lib.hid (own_ext HO6.out hb)
                 have HRT7 := Lib.hid (HRT6.out.ext hb)
                 have BF7 := Lib.hid (BF6.out.ext hb)
                 have B47 := Lib.hid (B46.out.ext hb)
                 have B77 := Lib.hid (B76.out.ext hb)
                 have HSR7 := Lib.hid (own_ext HSR6.out hb)
                 have hbb7 := Lib.hid (ext_trans hbb6.out hb)
                 have HTO7 := Lib.hid (own_ext HTO6.out hb)
                 clear hb g0 g1 g2 l7 d0 d1 d2 lo6 HO6 HRT6 BF6 B46 B76 HSR6 hbb6 HTO6
                 obtain ⟨g0, g1, g2⟩ := B77.out.q3
                 obtain ⟨z0, z1, z2⟩ := B77.out.z3
                 have l7 := B77.out.lt
                 have d0 := HO7.out.cellAt (i * 3) (by omega)
                 have d1 := HO7.out.cellAt (i * 3 + 1) (by omega)
                 have d2 := HO7.out.cellAt (i * 3 + 2) (by omega)
                 rw [HV0.out] at d0
                 rw [HV1.out] at d1
                 rw [HV2.out] at d2
                 have lo9 : bo < w8.heap.size := (HO7.out.lt _ rfl).2
                 obtain ⟨W9, hW9⟩ : ∃ y : World, y = ((w8.setCell ⟨N7, 0, none⟩ (.int .i64 u)).setCell ⟨N7, 1, none⟩ (.int .i64 lo)).setCell ⟨N7, 2, none⟩ (.slice At N ct) := ⟨_, rfl⟩
                 have B79 := Lib.hid (show Blk W9 N7 26 #[.int .i64 u, .int .i64 lo, .slice At N ct] by rw [hW9]; exact fr_put B77.out)
                 have hne9 : bo ≠ N7 := HBON.out
                 have HO9 := Lib.hid (show W9.ownsRow w.heap.size 26 3 (.slice (some ⟨bo, 0, none⟩) LL.length co) LL.length (frmsV u lo vals) by rw [hW9]; exact fill_own' HO7.out (by intro e; injection e with e; exact hne9 e))
                 have HRT9 := Lib.hid (show Tgs W9 w.heap.size N vals LL by rw [hW9]; exact tgs_fill HRT7.out B77.out)
                 have BF9 := Lib.hid (show Blk W9 w.heap.size 26 #[.int .i64 u, .int .i64 lo, .slice A N c] by rw [hW9]; exact fill_far BF7.out (by omega))
                 have B49 := Lib.hid (show Blk W9 N4 26 #[.int .i64 0, .int .i64 0, .slice none 0 0] by rw [hW9]; exact fill_far B47.out (by omega))
                 have HT9 := Lib.hid (show W9.ownsRow w.heap.size 86 2 (.slice At N ct) N (rowsV2 t) by rw [hW9]; exact fill_own' HTO7.out (own_nbT HTO7.out B77.out (by decide)))
                 have hb9 := Lib.hid (show Below w.heap.size w W9 by rw [hW9]; exact fill_below hbb7.out (by omega))
                 have hnear9 : (if nearP (wayT l N t) s = true then wayT l N t else s) = wayT l N t := if_pos hnear
                 clear HO7 HRT7 BF7 B47 B77 HSR7 hbb7 HTO7
                 go_wp2
                 rw [← hW9]
                 clear hW9
                 go_roundw
                 case rel => exact ⟨i + 1, wayT l N t, ms.length, u, lo, At, ct, by omega, by go_num, rfl, (fun _ => by rw [HWT.out]), (fun h => by cases h), by rw [HWT.out], (fun _ => ⟨rfl, rfl⟩), (fun h => by cases h), Lib.hid (HMT.out.trans hnear9), HGT, by rw [show (wayT l N t).l.length = N from HTL.out]; exact B79, by rw [show (wayT l N t).l.length = N from HTL.out]; exact HT9, HO9, HRT9, BF9, B49, hb9⟩
                 case measure => simp [intOf]; omega
             · have k5 : (beads ms == s.b) = false := by simp [hb3]
               have hnear : nearP (wayT l N t) s = false := by rw [HWT.out]; unfold nearP; simp [hok, hm3, hb3]; omega
               have hm3' := Lib.hid hm3
               clear hm3
               go_upto_region 7 with fail
               (refine wp_region_later (by kernel_rfl) (by kernel_rfl) ?_; (repeat (go_big_quiet_step (fail))); refine wpQuiet_nil ?_; intro w8 hw1; obtain ⟨⟨wl, hb⟩, hw1'⟩ := hw1; simp only at hw1'; subst hw1')
               have HO7 := Lib.hid (own_ext HO6.out hb)
               have HRT7 := Lib.hid (HRT6.out.ext hb)
               have BF7 := Lib.hid (BF6.out.ext hb)
               have B47 := Lib.hid (B46.out.ext hb)
               have B77 := Lib.hid (B76.out.ext hb)
               have HSR7 := Lib.hid (own_ext HSR6.out hb)
               have hbb7 := Lib.hid (ext_trans hbb6.out hb)
               have HTO7 := Lib.hid (own_ext HTO6.out hb)
               clear hb g0 g1 g2 l7 d0 d1 d2 lo6 HO6 HRT6 BF6 B46 B76 HSR6 hbb6 HTO6
               go_wp2
               go_roundw
               case rel => exact ⟨i + 1, s, s.m, U9, L9, A9, c9, by omega, by go_num, rfl, (fun _ => rfl), (fun h => by rw [hok] at h; cases h), rfl, hU1, hU0, Lib.hid (HMT.out.trans (if_neg (by rw [hnear]; simp))), HGS, B77, HSR7, HO7, HRT7, BF7, B47, hbb7⟩
               case measure => simp [intOf]; omega
         · have k3 : ((ms.length : Int) == s.m) = false := by simp [hm3]
           have hnear : nearP (wayT l N t) s = false := by rw [HWT.out]; unfold nearP; simp [hok, hm3]; omega
           go_upto_region 7 with fail
           (refine wp_region_later (by kernel_rfl) (by kernel_rfl) ?_; (repeat (go_big_quiet_step (fail))); refine wpQuiet_nil ?_; intro w8 hw1; obtain ⟨⟨wl, hb⟩, hw1'⟩ := hw1; simp only at hw1'; subst hw1')
           have HO7 := Lib.hid (own_ext HO6.out hb)
           have HRT7 := Lib.hid (HRT6.out.ext hb)
           have BF7 := Lib.hid (BF6.out.ext hb)
           have B47 := Lib.hid (B46.out.ext hb)
           have B77 := Lib.hid (B76.out.ext hb)
           have HSR7 := Lib.hid (own_ext HSR6.out hb)
           have hbb7 := Lib.hid (ext_trans hbb6.out hb)
           have HTO7 := Lib.hid (own_ext HTO6.out hb)
           clear hb g0 g1 g2 l7 d0 d1 d2 lo6 HO6 HRT6 BF6 B46 B76 HSR6 hbb6 HTO6
           go_wp2
           go_roundw
           case rel => exact ⟨i + 1, s, s.m, U9, L9, A9, c9, by omega, by go_num, rfl, (fun _ => rfl), (fun h => by rw [hok] at h; cases h), rfl, hU1, hU0, Lib.hid (HMT.out.trans (if_neg (by rw [hnear]; simp))), HGS, B77, HSR7, HO7, HRT7, BF7, B47, hbb7⟩
           case measure => simp [intOf]; omega
  · obtain rfl : i = LL.length := by omega
    rw [List.take_of_length_le (Nat.le_refl _)] at HMS
    obtain ⟨g0, g1, g2⟩ := B7.out.q3
    obtain ⟨y0, y1, y2⟩ := B4.out.q3
    obtain ⟨z0, z1, z2⟩ := B4.out.z3
    have l7 := B7.out.lt
    have l4 := B4.out.lt
    have hgm := HGS.out.2.2.1
    cases hok : s.ok
    · have hU := hU0 hok
      have hmz := hm0 hok
      have hge : ¬ (0 : Int) ≤ mz := by omega
      have hge2 : decide ((0 : Int) ≤ mz) = false := decide_eq_false hge
      clear hm0 hm1 hmz
      go_wp2
      refine bodyPost_ret (v := .tuple #[frV U9 L9 A9 s.l.length c9, .bool false]) (by simp [results, Try.results40, go_sem, *]) rfl ?_
      rw [HMS.out]
      exact ⟨U9, L9, A9, c9, by rw [hok], (fun h => by rw [hok] at h; cases h), fun _ => hU, fill_own' HSR.out (own_nbT HSR.out B4.out (by decide)), fill_below hb.out (by omega)⟩
    · have hU := hU1 hok
      have hmz := hm1 hok
      have hge : (0 : Int) ≤ mz := by omega
      have hge2 : decide ((0 : Int) ≤ mz) = true := decide_eq_true hge
      clear hm0 hm1 hmz
      go_wp2
      refine bodyPost_ret (v := .tuple #[frV U9 L9 A9 s.l.length c9, .bool true]) (by simp [results, Try.results40, go_sem, *]) rfl ?_
      rw [HMS.out]
      exact ⟨U9, L9, A9, c9, by rw [hok], (fun _ => hU), (fun h => by rw [hok] at h; cases h), fill_own' HSR.out (own_nbT HSR.out B4.out (by decide)), fill_below hb.out (by omega)⟩

end Go.Proofs.Ytmfjaoljeildbaa
