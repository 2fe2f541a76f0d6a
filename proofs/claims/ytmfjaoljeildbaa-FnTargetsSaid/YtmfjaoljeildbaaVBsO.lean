/- FewestBeads: the reference's. -/
import Derived.Deep.CutBlock
import Derived.Test.YtmfjaoljeildbaaVBsL
import Derived.Test.YtmfjaoljeildbaaVM5
namespace Go.Proofs.Ytmfjaoljeildbaa
open Go.RowKit
set_option linter.unusedVariables false
set_option linter.unusedSimpArgs false
theorem few_end {u lo : Int} {l : List R2} {m : Int} (ha : askB u lo l m = true) : (minT fewP l l.length (tgP u lo l.length m)).ok = (fewW u lo l m).ok ∧ ((fewW u lo l m).ok = true → (minT fewP l l.length (tgP u lo l.length m)).b = (fewW u lo l m).b) ∧ ((fewW u lo l m).ok = false → (fewW u lo l m).b = 0) := by
 have e : fewW u lo l m = bestP fewP u lo l l.length m := by unfold fewW; rw [if_pos ha]
 obtain ⟨h1, h2⟩ := few_eq u lo l l.length m
 refine ⟨by rw [e]; exact h1, by rw [e]; exact h2, fun h => ?_⟩
 rcases few_is u lo l m with ⟨_, h3, _⟩ | ⟨h3, _⟩
 · rw [h3]; rfl
 · rw [h3] at h; cases h
set_option maxRecDepth 100000 in
set_option maxHeartbeats 8000000 in
theorem specFewestBeads_any (u lo : Int) (A : Option Addr) (n c : Nat) (l : List R2) (m : Int) (w : World) (hn : n ≤ 1048576) (h63 : m ≤ 9223372036854775807) (h : Reads w w.heap.size 2 A n (rowsV2 l)) :
 Calls Try.prog 23 #[frV u lo A n c, .int .i64 m] w (RetV (.tuple #[.int .i64 (fewW u lo l m).b, .bool (fewW u lo l m).ok]) w) := by
 have hl := rows_len2 h
 have H := Lib.hid h
 have BF0 := Lib.hid (Blk.born w #[.int .i64 u, .int .i64 lo, .slice A n c] 26 (H := w.heap.size) rfl)
 have hbx := Lib.hid (ext_alloc (ext_refl w) (.cells #[.int .i64 u, .int .i64 lo, .slice A n c] 26))
 clear h
 cases ha : askB u lo l m
 · rw [show fewW u lo l m = zeroW by unfold fewW; rw [if_neg (by rw [ha]; simp)]]
   have HA := Lib.hid ha
   clear ha hl
   have BF1 := BF0
   obtain ⟨W1, hW1⟩ : ∃ y : World, y = w.alloc (.cells #[.int .i64 u, .int .i64 lo, .slice A n c] 26) := ⟨_, rfl⟩
   rw [← hW1] at BF1
   have hb1 := Lib.hid (show Below w.heap.size w W1 by rw [hW1]; exact hbx.out)
   clear BF0 hbx
   go_enter Try.func23, Try.ntmps23
   go_upto_region 1 with fail
   rw [← hW1]
   clear hW1
   obtain ⟨f0, f1, f2⟩ := BF1.out.q3
   have lF := BF1.out.lt
   go_wp2_with fail
   refine (l13Asked_any u lo A n c l m _ hn h63 (rdx H.out hb1.out)).mono ?_
   rw [HA.out]
   rintro e w2 ⟨rfl, hb⟩
   have BF2 := Lib.hid (BF1.out.ext hb)
   have hb2 := Lib.hid (ext_trans hb1.out hb)
   clear hb f0 f1 f2 lF BF1 hb1
   obtain ⟨f0, f1, f2⟩ := BF2.out.q3
   have lF := BF2.out.lt
   go_wp2
   go_ret2
   exact ⟨rfl, hb2.out⟩
 · have hf : frB u lo l = true := by unfold askB at ha; simp at ha; exact ha.1
   have hm0 : 0 ≤ m := by unfold askB at ha; simp at ha; exact ha.2
   have hh := frB_head hf
   have HFW := Lib.hid (few_end (u := u) (lo := lo) (l := l) (m := m) ha)
   rw [hl] at HFW hh
   have HAL := Lib.hid (fun (w : World) => l13All_any u lo A n c m w (by omega) (by omega) hm0 h63)
   have HMEM := Lib.hid (tgP_mem (u := u) (lo := lo) n m)
   have hll := tgP_len (lo := lo) (u := u) (by omega) n m
   have hll2 : (tgP u lo n m).length ≤ 1679616 := Nat.le_trans hll (Nat.le_trans (Nat.pow_le_pow_right (by omega) (show n ≤ 8 by omega)) (by decide))
   obtain ⟨LL, hLL⟩ : ∃ o9, tgP u lo n m = o9 := ⟨_, rfl⟩
   rw [hLL] at HAL HMEM HFW hll2
   unfold RetFrs at HAL
   obtain ⟨Y, hY⟩ : ∃ o9, fewW u lo l m = o9 := ⟨_, rfl⟩
   rw [hY] at HFW ⊢
   have HA := Lib.hid ha
   have HF := Lib.hid hf
   have HL := Lib.hid hl
   have hh8 : n ≤ 8 := by omega
   have hh2 : 0 ≤ u ∧ u ≤ 2 := by omega
   clear ha hf hl hLL hY hll hm0 hh
   have BF1 := BF0
   obtain ⟨W1, hW1⟩ : ∃ y : World, y = w.alloc (.cells #[.int .i64 u, .int .i64 lo, .slice A n c] 26) := ⟨_, rfl⟩
   rw [← hW1] at BF1
   have hb1 := Lib.hid (show Below w.heap.size w W1 by rw [hW1]; exact hbx.out)
   clear BF0 hbx
   go_enter Try.func23, Try.ntmps23
   go_upto_region 1 with fail
   rw [← hW1]
   clear hW1
   obtain ⟨f0, f1, f2⟩ := BF1.out.q3
   have lF := BF1.out.lt
   go_wp2_with fail
   refine (l13Asked_any u lo A n c l m _ hn h63 (rdx H.out hb1.out)).mono ?_
   rw [HA.out]
   rintro e w2 ⟨rfl, hb⟩
   have BF2 := Lib.hid (BF1.out.ext hb)
   have hb2 := Lib.hid (ext_trans hb1.out hb)
   clear hb f0 f1 f2 lF BF1 hb1
   obtain ⟨f0, f1, f2⟩ := BF2.out.q3
   have lF := BF2.out.lt
   go_wp2_with fail
   refine (HAL.out _).mono ?_
   rintro e w3 ⟨Ao, co, vals, rfl, hor, htr, hb3⟩
   have BF := Lib.hid (BF2.out.ext hb3)
   have HO := Lib.hid (own_base (base' := w.heap.size) hor hb2.out.size)
   have HRT := Lib.hid (htr.base (B' := w.heap.size) hb2.out.size)
   have hb := Lib.hid (ext_trans hb2.out hb3)
   have HVL := Lib.hid htr.1
   obtain ⟨W0, hW0⟩ : ∃ y : World, y = w3 := ⟨_, rfl⟩
   subst hW0
   clear hor htr hb3 BF2 hb2 f0 f1 f2 lF HAL
   go_wp2
   go_loopw [7, 8] (fun mv iv wr => ∃ (i : Nat) (s : Way) (mz : Int), i ≤ LL.length ∧ iv = .int .i64 (i : Int) ∧ mv = .int .i64 mz ∧ (s.ok = true → mz = s.b) ∧ (s.ok = false → mz = -1) ∧ Hid (minT fewP l n (LL.take i) = s) ∧ Hid (GoodB n s) ∧ Hid (wr.ownsRow w.heap.size 26 3 (.slice Ao LL.length co) LL.length (frmsV u lo vals)) ∧ Hid (Tgs wr w.heap.size n vals LL) ∧ Hid (Blk wr w.heap.size 26 #[.int .i64 u, .int .i64 lo, .slice A n c]) ∧ Hid (Below w.heap.size w wr)) (fun _ iv _ => LL.length - (intOf iv).toNat)
   case atStart => exact ⟨0, zeroW, -1, Nat.zero_le _, rfl, rfl, (fun h => by cases h), (fun _ => rfl), Lib.hid rfl, Lib.hid (GoodB.zero n), HO, HRT, BF, hb⟩
   case round =>
    clear HO HRT BF hb
    obtain ⟨i, s, mz, hi9, rfl, rfl, hm1, hm0, HMS, HGS, HO, HRT, BF, hb⟩ := hrel
    obtain ⟨W, hW⟩ : ∃ y : World, y = wr := ⟨_, rfl⟩
    subst hW
    by_cases hlt : i < LL.length
    · obtain ⟨t, ht⟩ := list_split (l := LL) (k := i) hlt
      have HMT := Lib.hid (minT_take (bt := fewP) (l := l) (N := n) ht)
      rw [HMS.out] at HMT
      obtain ⟨htl, At, ct, hvr, hto⟩ := HRT.out.2 i t ht
      have hfv := frmsV_get u lo hvr
      have HV0 := Lib.hid hfv.1
      have HV1 := Lib.hid hfv.2.1
      have HV2 := Lib.hid hfv.2.2
      have hft := frB_mk HF.out (by rw [htl, HL.out]) (HMEM.out t (List.mem_of_getElem? ht)).2
      have HGT := Lib.hid (GoodB.way HF.out hft HL.out htl)
      have hms := btw_len l t n
      have HSM := Lib.hid (btw_small HF.out hft n)
      have hbd := beads_bound HSM.out (btw l t n).length
      rw [List.take_of_length_le (Nat.le_refl _)] at hbd
      have HBT := Lib.hid (fun (w : World) h h' => l4Between_any u lo A At n c ct l t w HF.out hft h h')
      obtain ⟨bo, co', hB, hLw, hLl⟩ := HO.out.form (by omega)
      injection hB with hB _ hB2
      subst hB hB2
      have HDC := Lib.hid (fun (w' : World) (hb' : Below W.heap.size W w') => show w'.cell? ⟨bo, i * 3, none⟩ = some (.int .i64 u) ∧ w'.cell? ⟨bo, i * 3 + 1, none⟩ = some (.int .i64 lo) ∧ w'.cell? ⟨bo, i * 3 + 2, none⟩ = some (.slice At n ct) from by
       have d0 := (own_ext HO.out hb').cellAt (i * 3) (by omega)
       have d1 := (own_ext HO.out hb').cellAt (i * 3 + 1) (by omega)
       have d2 := (own_ext HO.out hb').cellAt (i * 3 + 2) (by omega)
       rw [HV0.out] at d0
       rw [HV1.out] at d1
       rw [HV2.out] at d2
       exact ⟨d0, d1, d2⟩)
      obtain ⟨d0, d1, d2⟩ := HDC.out W (ext_refl W)
      obtain ⟨f0, f1, f2⟩ := BF.out.q3
      have lF := BF.out.lt
      have hi1 : (i : Int) < (LL.length : Int) := by omega
      have hi0 : (0 : Int) ≤ (i : Int) := by omega
      have HTO := Lib.hid hto
      obtain ⟨ms, hmsE⟩ : ∃ o9, btw l t n = o9 := ⟨_, rfl⟩
      have HWT := Lib.hid (show wayT l n t = ⟨t, ms.length, beads ms, true⟩ by unfold wayT; rw [hmsE])
      rw [hmsE] at HBT hms HSM hbd
      have HBD := Lib.hid (fun (w : World) (Am : Option Addr) (cm : Nat) h => l4Beads_any Am ms.length cm ms w (by omega) HSM.out h)
      unfold RetSlice at HBT
      unfold RetV at HBD
      clear hmsE hvr hto hfv ht hft
      go_upto_region 7 with fail
      go_cut [9] (fun s9 wx => s9 = .int .i64 (beads ms) ∧ Hid (Below W.heap.size W wx))
      case first =>
       go_region_held3 (fun w' => w'.cell? ⟨w.heap.size, 0, none⟩ = some (.int .i64 u) ∧ w'.cell? ⟨w.heap.size, 1, none⟩ = some (.int .i64 lo) ∧ w'.cell? ⟨w.heap.size, 2, none⟩ = some (.slice A n c) ∧ w'.cell? ⟨bo, i * 3, none⟩ = some (.int .i64 u) ∧ w'.cell? ⟨bo, i * 3 + 1, none⟩ = some (.int .i64 lo) ∧ w'.cell? ⟨bo, i * 3 + 2, none⟩ = some (.slice At n ct)) (first | (go_split_ands; ((repeat' refine And.intro ?_ ?_) <;> with_reducible (repeat (first | assumption | refine cell_drew ?_))))) (first
        | (go_at_call 42; (with_reducible refine (HBT.out _ ?_ ?_).mono ?_); (focus (refine rdx H.out ?_; (repeat (first | (with_reducible exact hb.out) | (with_reducible assumption) | (with_reducible refine ext_drew ?_))); done)); (focus (refine Reads.of_own (own_ext HTO.out ?_); (repeat (first | (with_reducible exact ext_refl _) | (with_reducible assumption) | (with_reducible refine ext_drew ?_))); done)); rintro e wM ⟨Am, cm, rfl, hmm, hbwM⟩; refine hv (p := Below W.heap.size W wM) ?_ fun hcwM => ?_; (focus (refine ext_trans ?_ hbwM; (repeat (first | (with_reducible exact ext_refl _) | (with_reducible assumption) | (with_reducible refine ext_drew ?_))); done)); refine hv (p := Below w.heap.size w wM) ?_ fun hgwM => ?_; (focus (refine ext_trans ?_ hbwM; (repeat (first | (with_reducible exact hb.out) | (with_reducible assumption) | (with_reducible refine ext_drew ?_))); done)); obtain ⟨f0, f1, f2⟩ := (BF.out.ext hcwM).q3; obtain ⟨d0, d1, d2⟩ := HDC.out _ hcwM; have hmm2 := Lib.hid hmm; clear hmm)
        | (go_at_call 55; (with_reducible refine (HBD.out _ Am cm ?_).mono ?_); (focus (refine Reads.of_own (own_ext hmm2.out ?_); (repeat (first | (with_reducible exact ext_refl _) | (with_reducible assumption) | (with_reducible refine ext_drew ?_))); done)); rintro e wB ⟨rfl, hbwB⟩; refine hv (p := Below W.heap.size W wB) ?_ fun hcwB => ?_; (focus (refine ext_trans ?_ hbwB; (repeat (first | (with_reducible exact ext_refl _) | (with_reducible assumption) | (with_reducible refine ext_drew ?_))); done)); refine hv (p := Below w.heap.size w wB) ?_ fun hgwB => ?_; (focus (refine ext_trans ?_ hbwB; (repeat (first | (with_reducible exact hb.out) | (with_reducible assumption) | (with_reducible refine ext_drew ?_))); done)); obtain ⟨f0, f1, f2⟩ := (BF.out.ext hcwB).q3; obtain ⟨d0, d1, d2⟩ := HDC.out _ hcwB))
       all_goals
        go_wp2_with fail
        go_meet
        exact ⟨rfl, Lib.hid hcwB⟩
      case rest =>
       clear f0 f1 f2 d0 d1 d2 lF HBT HBD HDC
       obtain ⟨rfl, HC⟩ := hcut
       obtain ⟨W5, hW5⟩ : ∃ y : World, y = wc := ⟨_, rfl⟩
       subst hW5
       have HO7 := Lib.hid (own_ext HO.out HC.out)
       have HRT7 := Lib.hid (HRT.out.ext HC.out)
       have BF7 := Lib.hid (BF.out.ext HC.out)
       have hb7 := Lib.hid (ext_trans hb.out HC.out)
       clear HO HRT BF hb
       cases hok : s.ok
       · have hmz := hm0 hok
         subst hmz
         have hnear : fewP (wayT l n t) s = true := by rw [HWT.out]; unfold fewP; rw [hok]; rfl
         have k1 : ((-1 : Int) < 0) := by decide
         have k1b : decide ((-1 : Int) < 0) = true := rfl
         have HT9 := Lib.hid (HMT.out.trans (if_pos hnear))
         go_wp2
         go_roundw
         case rel => exact ⟨i + 1, wayT l n t, beads ms, by omega, by go_num, rfl, (fun _ => by rw [HWT.out]), (fun h => by cases h), HT9, HGT, HO7, HRT7, BF7, hb7⟩
         case measure => simp [intOf]; omega
       · have hmz := hm1 hok
         subst hmz
         have hgm := HGS.out.2.2.2.2
         have k0 : ¬ s.b < 0 := by omega
         have k0b : decide (s.b < 0) = false := decide_eq_false k0
         by_cases hb2 : beads ms < s.b
         · have hnear : fewP (wayT l n t) s = true := by rw [HWT.out]; unfold fewP; simp [hok, hb2]
           have k2 : decide (beads ms < s.b) = true := decide_eq_true hb2
           have HT9 := Lib.hid (HMT.out.trans (if_pos hnear))
           go_wp2
           go_roundw
           case rel => exact ⟨i + 1, wayT l n t, beads ms, by omega, by go_num, rfl, (fun _ => by rw [HWT.out]), (fun h => by cases h), HT9, HGT, HO7, HRT7, BF7, hb7⟩
           case measure => simp [intOf]; omega
         · have hnear : fewP (wayT l n t) s = false := by rw [HWT.out]; unfold fewP; simp [hok]; omega
           have k2 : decide (beads ms < s.b) = false := decide_eq_false hb2
           have HT9 := Lib.hid (HMT.out.trans (if_neg (by rw [hnear]; simp)))
           go_wp2
           go_roundw
           case rel => exact ⟨i + 1, s, s.b, by omega, by go_num, rfl, (fun _ => rfl), (fun h => by rw [hok] at h; cases h), HT9, HGS, HO7, HRT7, BF7, hb7⟩
           case measure => simp [intOf]; omega
    · obtain rfl : i = LL.length := by omega
      rw [List.take_of_length_le (Nat.le_refl _)] at HMS
      have hgm := HGS.out.2.2.2.2
      obtain ⟨e1, e2, e3⟩ := HFW.out
      rw [HMS.out] at e1 e2
      cases hok : s.ok
      · have hmz := hm0 hok
        subst hmz
        rw [hok] at e1
        have e4 := e3 e1.symm
        have EQ := Lib.hid (show Ending.returned (.tuple #[.int .i64 0, .bool false]) = .returned (.tuple #[.int .i64 Y.b, .bool Y.ok]) by rw [e4, ← e1])
        have k1 : ((-1 : Int) < 0) := by decide
        have k1b : decide ((-1 : Int) < 0) = true := rfl
        clear e1 e2 e3 e4
        go_wp2
        go_ret2
        exact ⟨EQ.out, hb.out⟩
      · have hmz := hm1 hok
        subst hmz
        rw [hok] at e1
        have e4 := e2 e1.symm
        have EQ := Lib.hid (show Ending.returned (.tuple #[.int .i64 s.b, .bool true]) = .returned (.tuple #[.int .i64 Y.b, .bool Y.ok]) by rw [e4, ← e1])
        have k0 : ¬ s.b < 0 := by omega
        have k0b : decide (s.b < 0) = false := decide_eq_false k0
        clear e1 e2 e3 e4
        go_wp2
        go_ret2
        exact ⟨EQ.out, hb.out⟩

end Go.Proofs.Ytmfjaoljeildbaa
