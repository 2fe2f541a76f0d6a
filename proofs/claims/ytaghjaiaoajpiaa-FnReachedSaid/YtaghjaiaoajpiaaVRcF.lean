/- The program's search, walked. -/
import Derived.Deep.CutBlock
import Derived.Test.YtaghjaiaoajpiaaVM11
import Derived.Test.YtaghjaiaoajpiaaVGmB
import Derived.Test.YtaghjaiaoajpiaaVM4
namespace Go.Proofs.Ytaghjaiaoajpiaa
open Go.RowKit
set_option linter.unusedVariables false
set_option linter.unusedSimpArgs false
theorem partA_even {l : List R2} {k : Nat} {r : R2} (h : l[k]? = some r) : partA l (2 * k) = r.a := by unfold partA; rw [if_pos (by omega), show 2 * k / 2 = k by omega, List.getD_eq_getElem?_getD, h]; rfl
theorem partA_odd {l : List R2} {k : Nat} {r : R2} (h : l[k]? = some r) : partA l (2 * k + 1) = r.b := by unfold partA; rw [if_neg (by omega), show (2 * k + 1) / 2 = k by omega, List.getD_eq_getElem?_getD, h]; rfl
theorem setA_even {l : List R2} {k : Nat} {r : R2} (h : l[k]? = some r) (x : Int) : setA l (2 * k) x = l.set k ⟨x, r.b⟩ := by unfold setA; rw [if_pos (by omega), show 2 * k / 2 = k by omega, List.getD_eq_getElem?_getD, h]; rfl
theorem setA_odd {l : List R2} {k : Nat} {r : R2} (h : l[k]? = some r) (x : Int) : setA l (2 * k + 1) x = l.set k ⟨r.a, x⟩ := by unfold setA; rw [if_neg (by omega), show (2 * k + 1) / 2 = k by omega, List.getD_eq_getElem?_getD, h]; rfl
theorem mostA_even (u lo : Int) (k : Nat) : mostA u lo (2 * k) = u := by unfold mostA; rw [if_pos (by omega)]
theorem mostA_odd (u lo : Int) (k : Nat) : mostA u lo (2 * k + 1) = lo := by unfold mostA; rw [if_neg (by omega)]
theorem frB_setR {u lo : Int} {l : List R2} {n k : Nat} {r : R2} (hf : frB u lo l = true) (hl : l.length = n) (hk : k < n) (hr : 0 ≤ r.a ∧ r.a ≤ u ∧ 0 ≤ r.b ∧ r.b ≤ lo) : frB u lo (l.set k r) = true := by
 refine frB_mk hf (List.length_set ..) fun y hy => ?_
 rcases List.mem_or_eq_of_mem_set hy with hy | rfl
 · exact frB_mem hf y hy
 · exact hr
theorem wrap64_small {k : Nat} (h : k ≤ 8) : wrap64 (k : Int) = (k : Int) := by unfold wrap64; omega
theorem numR_small {u lo : Int} {l : List R2} (hf : frB u lo l = true) (hl : l.length ≤ 2) : 0 ≤ numR l ∧ numR l ≤ 300 := by
 have hh := frB_head hf
 have h := (rS_mem u lo l 0 (numR l)).2 ⟨l, okT_self l 0 (frB_mem hf) (Int.le_refl 0), rfl⟩
 have := rS_bounds (u := u) (lo := lo) (by omega) (by omega) l 0 _ hl h
 omega
theorem rI_ok {u lo : Int} : ∀ {j a : Nat} {l : List R2} {m x : Int}, frB u lo l = true → l.length ≤ 2 → 0 ≤ m ∨ True → a + j ≤ 2 * l.length → x ∈ rI u lo j l a m → 0 ≤ x ∧ x ≤ 300 := by
 intro j
 induction j with
 | zero =>
   intro a l m x hf hl _ _ hx
   rw [show x = numR l from List.mem_singleton.1 hx]
   exact numR_small hf hl
 | succ j ih =>
   intro a l m x hf hl _ ha hx
   rw [rI] at hx
   obtain ⟨y, hy, hx⟩ := List.mem_flatMap.1 hx
   rw [List.mem_range] at hy
   unfold rIx at hx
   split at hx
   · cases hx
   · obtain ⟨r, hr⟩ := list_split (l := l) (k := a / 2) (by omega)
     have hb := frB_rod hf hr
     rcases (show a = 2 * (a / 2) ∨ a = 2 * (a / 2) + 1 by omega) with hp | hp
     · have e := setA_even hr (y : Int)
       rw [← hp] at e
       have em := mostA_even u lo (a / 2)
       rw [← hp] at em
       rw [em] at hy
       rw [e] at hx
       exact ih (frB_setR hf rfl (by omega) (by dsimp only; omega)) (by rw [List.length_set]; exact hl) (.inr trivial) (by rw [List.length_set]; omega) hx
     · have e := setA_odd hr (y : Int)
       rw [← hp] at e
       have em := mostA_odd u lo (a / 2)
       rw [← hp] at em
       rw [em] at hy
       rw [e] at hx
       exact ih (frB_setR hf rfl (by omega) (by dsimp only; omega)) (by rw [List.length_set]; exact hl) (.inr trivial) (by rw [List.length_set]; omega) hx
theorem OKL.insA {xs es : List Int} (h : OKL xs) (he : ∀ y ∈ es, 0 ≤ y ∧ y ≤ 300) : OKL (insA xs es) := ⟨insA_asc _ _ h.1, fun x hx => by
 rcases (insA_mem es xs x).1 hx with hx | hx
 · exact h.2 x hx
 · exact he x hx⟩
set_option maxRecDepth 100000 in
set_option maxHeartbeats 16000000 in
theorem reached_any (u lo : Int) (B n : Nat) (hn1 : 1 ≤ n) (hn2 : n ≤ 2) : ∀ (j a : Nat) (A : Option Addr) (c : Nat) (l : List R2) (m : Int) (xs : List Int) (Al : Option Addr) (nl cl : Nat) (w : World), a + j = 2 * n → frB u lo l = true → l.length = n → 0 ≤ m → m ≤ 4 → B ≤ w.heap.size → Rods B w A n l → w.ownsRow B 3 1 (.slice Al nl cl) nl (intsV xs) → OKL xs → xs.length = nl →
 Calls Try.prog 35 #[frV u lo A n c, .int .i64 (a : Int), .int .i64 m, .slice Al nl cl] w (RetList B w (insA xs (rI u lo j l a m))) := by
 intro j
 induction j with
 | zero =>
   intro a A c l m xs Al nl cl w hj hf hl hm0 hm4 hB hR hO hOK hNL
   obtain ⟨W1, hW1⟩ : ∃ y : World, y = w.alloc (.cells #[.int .i64 u, .int .i64 lo, .slice A n c] 26) := ⟨_, rfl⟩
   have BF1 := Lib.hid (show Blk W1 w.heap.size 26 #[.int .i64 u, .int .i64 lo, .slice A n c] by rw [hW1]; exact Blk.born w _ 26 rfl)
   have HK1 := Lib.hid (show KI B w W1 by rw [hW1]; exact KI.ext (ext_alloc (ext_refl w) _) hB)
   have HO1 := Lib.hid (show W1.ownsRow B 3 1 (.slice Al nl cl) nl (intsV xs) by rw [hW1]; exact hO.alloc _)
   have HR1 := Lib.hid (hR.ki HK1.out)
   have hnl := hOK.len
   rw [hNL] at hnl
   have hae : (a : Int) = 2 * (n : Int) := by omega
   have hw2 : IntKind.i64.wrap (2 * (n : Int)) = 2 * (n : Int) := IntWalk.i64_in _ (by omega)
   have HN := Lib.hid (show insA xs (rI u lo 0 l a m) = insN xs (numR l) from rfl)
   rw [HN.out]
   have hBs := Nat.le_trans hB HK1.out.size
   obtain ⟨z, hz⟩ : ∃ o9, numR l = o9 := ⟨_, rfl⟩
   have HNM := Lib.hid (fun (w : World) h => number_any u lo A n c l w hf h)
   rw [hz] at HNM ⊢
   have HOK := Lib.hid hOK
   rw [hae]
   clear hO hOK hNL hR hf hl hz HN hae
   go_enter Try.func35, Try.ntmps35
   go_upto_region 1 with fail
   rw [← hW1]
   clear hW1
   obtain ⟨f0, f1, f2⟩ := BF1.out.q3
   have lF := BF1.out.lt
   go_wp2_with fail
   refine (HNM.out _ HR1.out.reads).mono ?_
   rintro e w2 ⟨rfl, hb2⟩
   have HO2 := Lib.hid (own_ext HO1.out hb2)
   have HK2 := Lib.hid (HK1.out.trans (KI.ext hb2 hBs))
   have hBs2 := Nat.le_trans hBs hb2.size
   clear hb2 HO1 HK1 f0 f1 f2 lF BF1
   go_wp2_with fail
   refine (putInt_any B Al nl cl xs z _ hBs2 (by omega) HO2.out HOK.out.1).mono ?_
   rintro e w3 ⟨A3, c3, rfl, ho3, hk3⟩
   go_wp2
   go_ret
   exact ⟨A3, c3, rfl, ho3, HK2.out.trans hk3⟩
 | succ j ih =>
   intro a A c l m xs Al nl cl w hj hf hl hm0 hm4 hB hR hO hOK hNL
   have IH := Lib.hid ih
   have hh := frB_head hf
   obtain ⟨W1, hW1⟩ : ∃ y : World, y = w.alloc (.cells #[.int .i64 u, .int .i64 lo, .slice A n c] 26) := ⟨_, rfl⟩
   have BF1 := Lib.hid (show Blk W1 w.heap.size 26 #[.int .i64 u, .int .i64 lo, .slice A n c] by rw [hW1]; exact Blk.born w _ 26 rfl)
   have HK1 := Lib.hid (show KI B w W1 by rw [hW1]; exact KI.ext (ext_alloc (ext_refl w) _) hB)
   have HO1 := Lib.hid (show W1.ownsRow B 3 1 (.slice Al nl cl) nl (intsV xs) by rw [hW1]; exact hO.alloc _)
   have HR1 := Lib.hid (hR.ki HK1.out)
   have hnl := hOK.len
   rw [hNL] at hnl
   have HNL := Lib.hid hNL
   have HOK := Lib.hid hOK
   have hw2 : IntKind.i64.wrap (2 * (n : Int)) = 2 * (n : Int) := IntWalk.i64_in _ (by omega)
   have hae : ¬ (a : Int) = 2 * (n : Int) := by omega
   have haeb : ((a : Int) == 2 * (n : Int)) = false := by simpa using hae
   obtain ⟨k, hk⟩ : ∃ o9, a / 2 = o9 := ⟨_, rfl⟩
   clear hO hOK hNL hR
   rcases (show a = 2 * k ∨ a = 2 * k + 1 by omega) with hpar | hpar
   · clear hk
     obtain ⟨rd, hrd⟩ := list_split (l := l) (k := k) (by rw [hl]; omega)
     have hka : a = 2 * k := by omega
     have hP : partA l a = rd.a := by rw [hka]; exact partA_even hrd
     have hM : mostA u lo a = u := by rw [hka]; exact mostA_even u lo k
     have hSET : ∀ x : Nat, setA l a (x : Int) = l.set k ⟨(x : Int), rd.b⟩ := fun x => by rw [hka]; exact setA_even hrd (x : Int)
     have hrb := frB_rod hf hrd
     have h0u : ((0 : Nat) : Int) ≤ u + 1 := by omega
     have hk0 : (0 : Int) ≤ (k : Int) := by omega
     have hk1 : (k : Int) < (n : Int) := by omega
     have haw : IntKind.i64.wrap ((a : Int) + 1) = (a : Int) + 1 := IntWalk.i64_in _ (by omega)
     have HDV := Lib.hid (show (a : Int) / 2 = (k : Int) by omega)
     have HMD := Lib.hid (show (a : Int) % 2 = 0 by omega)
     have HDN := Lib.hid (show a / 2 = k by omega)
     have HMN := Lib.hid (show a % 2 = 0 by omega)
     have HRI := Lib.hid (show rI u lo (j + 1) l a m = (List.range (u + 1).toNat).flatMap (rIx (fun l' m' => rI u lo j l' (a + 1) m') l a m) by rw [rI, hM])
     obtain ⟨FX, hFX⟩ : ∃ o9 : Nat → List Int, rIx (fun l' m' => rI u lo j l' (a + 1) m') l a m = o9 := ⟨_, rfl⟩
     rw [hFX] at HRI
     have HFX := Lib.hid (fun (x : Nat) => show FX x = if leftA l a m (x : Int) < 0 then [] else rI u lo j (setA l a (x : Int)) (a + 1) (leftA l a m (x : Int)) by rw [← hFX]; rfl)
     have HLA := Lib.hid (fun (x : Nat) => show leftA l a m (x : Int) = if (x : Int) = rd.a then m else m - 1 by unfold leftA; rw [hP])
     have HSET := Lib.hid hSET
     have HFS := Lib.hid (fun (x : Nat) (hx : (x : Int) ≤ u) => show frB u lo (l.set k ⟨(x : Int), rd.b⟩) = true from frB_setR hf hl (by omega) (by dsimp only; omega))
     have HRD := Lib.hid hrd
     have HF := Lib.hid hf
     have HL := Lib.hid hl
     have HEQ0 := Lib.hid (show xs = insA xs ((List.range 0).flatMap FX) from rfl)
     clear hP hM hSET hFX hrd hka hf hl ih hpar
     skip
     go_enter Try.func35, Try.ntmps35
     go_upto_region 1 with fail
     rw [← hW1]
     clear hW1
     obtain ⟨f0, f1, f2⟩ := BF1.out.q3
     have lF := BF1.out.lt
     have hdv := HDV.out
     have hmd := HMD.out
     have hdn := HDN.out
     have hmn := HMN.out
     go_wp2
     (try rw [hmd])
     clear hdv hmd hdn hmn
     skip
     go_loopw [3, 10] (fun lv xv wr => ∃ (x nl cl : Nat) (Al : Option Addr) (X : List Int), (x : Int) ≤ u + 1 ∧ xv = .int .i64 (x : Int) ∧ lv = .slice Al nl cl ∧ Hid (X.length = nl) ∧ nl ≤ 301 ∧ Hid (X = insA xs ((List.range x).flatMap FX)) ∧ Hid (OKL X) ∧ Hid (wr.ownsRow B 3 1 (.slice Al nl cl) nl (intsV X)) ∧ Hid (Rods B wr A n l) ∧ Hid (Blk wr w.heap.size 26 #[.int .i64 u, .int .i64 lo, .slice A n c]) ∧ Hid (KI B w wr)) (fun _ xv _ => (u + 1 - intOf xv).toNat)
     case atStart => exact ⟨0, nl, cl, Al, xs, h0u, rfl, rfl, HNL, hnl, HEQ0, HOK, HO1, HR1, BF1, HK1⟩
     case round =>
      clear f0 f1 f2 lF HO1 HR1 BF1 HK1 HEQ0 HOK hnl HNL
      obtain ⟨x, nl, cl, Al, X, hxm, rfl, rfl, HNL, hnl, HEQ, HOK, HO, HR, BF, HK⟩ := hrel
      obtain ⟨W, hW⟩ : ∃ y : World, y = wr := ⟨_, rfl⟩
      subst hW
      obtain ⟨f0, f1, f2⟩ := BF.out.q3
      have lF := BF.out.lt
      have hBW := Nat.le_trans hB HK.out.size
      by_cases hxu : (x : Int) ≤ u
      · obtain ⟨b, o, rfl, hbb, c0, c1⟩ := rows_at2 HR.out.reads HRD.out
        have HFS2 := Lib.hid (HFS.out x hxu)
        have hms : IntKind.i64.wrap (m - 1) = m - 1 := IntWalk.i64_in _ (by omega)
        have HSTEP := Lib.hid (show insA xs ((List.range (x + 1)).flatMap FX) = insA X (FX x) by
         rw [List.range_succ, List.flatMap_append, insA_app, ← HEQ.out, List.flatMap_cons, List.flatMap_nil, List.append_nil])
        by_cases hpe : (x : Int) = rd.a
        · have hpn : ((x : Int) != rd.a) = false := by simpa using hpe
          have HLV := Lib.hid (show leftA l a m (x : Int) = m by rw [HLA.out, if_pos hpe])
          have HFX2 := Lib.hid (show FX x = rI u lo j (l.set k ⟨(x : Int), rd.b⟩) (a + 1) m by rw [HFX.out, HLV.out, if_neg (by omega), HSET.out])
          have hm0b : decide (m < 0) = false := decide_eq_false (by omega)
          have hm0c : ¬ m < 0 := by omega
          have hm2 : 0 ≤ m ∧ m ≤ 4 := ⟨hm0, hm4⟩
          have HLL := Lib.hid hpe
          clear hpe HLV hms
          have hdv := HDV.out
          have hmd := HMD.out
          have hdn := HDN.out
          have hmn := HMN.out
          go_wp2_with fail
          clear hdv hmd hdn hmn
          skip
          refine (own_fr u lo (some ⟨b, o, none⟩) n c l _ hn1 (by omega) HR.out.reads).mono ?_
          rintro e w2 ⟨g2, c2, rfl, hr2, hb2⟩
          have hg2 := (hr2.lt g2 rfl).1
          obtain ⟨N2, hN2⟩ : ∃ o9, w2.heap.size = o9 := ⟨_, rfl⟩
          obtain ⟨W3, hW3⟩ : ∃ y : World, y = w2.alloc (.cells #[.int .i64 u, .int .i64 lo, .slice (some ⟨g2, 0, none⟩) n c2] 26) := ⟨_, rfl⟩
          have BN3 := Lib.hid (show Blk W3 N2 26 #[.int .i64 u, .int .i64 lo, .slice (some ⟨g2, 0, none⟩) n c2] by rw [hW3]; exact Blk.born _ _ _ hN2.symm)
          have hr3 := Lib.hid (show W3.ownsRow W.heap.size 42 2 (.slice (some ⟨g2, 0, none⟩) n c2) n (rowsV2 l) by rw [hW3]; exact hr2.alloc _)
          have hb3 := Lib.hid (show Below W.heap.size W W3 by rw [hW3]; exact ext_alloc hb2 _)
          go_upto_region 14 with fail
          rw [← hW3]
          clear hW3 hN2 hb2 hr2 f0 f1 f2 lF c0 c1
          obtain ⟨e0, e1, e2⟩ := BN3.out.q3
          have lN := BN3.out.lt
          obtain ⟨d0, d1, hlt', hge⟩ := rows_cells2 hr3.out HRD.out
          have fz := own_frozen hr3.out (k * 2)
          obtain ⟨W4, hW4⟩ : ∃ y : World, y = W3.setCell ⟨g2, k * 2, none⟩ (.int .i64 (x : Int)) := ⟨_, rfl⟩
          have hneN : g2 ≠ N2 := fun ee => own_nbT hr3.out BN3.out (by decide) (by rw [ee]; rfl)
          have hr4 := Lib.hid (show W4.ownsRow W.heap.size 42 2 (.slice (some ⟨g2, 0, none⟩) n c2) n (rowsV2 (l.set k ⟨(x : Int), rd.b⟩)) by
           rw [hW4, rowsV2_set0 HRD.out]
           exact (World.ownsRow.stored hr3.out (k * 2) (.int .i64 (x : Int))).1)
          have BN4 := Lib.hid (show Blk W4 N2 26 #[.int .i64 u, .int .i64 lo, .slice (some ⟨g2, 0, none⟩) n c2] by rw [hW4]; exact BN3.out.setF (p := ⟨g2, k * 2, none⟩) hneN _)
          have hb4 := Lib.hid (show Below W.heap.size W W4 by rw [hW4]; exact hb3.out.setCell (p := ⟨g2, k * 2, none⟩) hg2 _)
          have hdv := HDV.out
          have hmd := HMD.out
          have hdn := HDN.out
          have hmn := HMN.out
          go_upto_region 15 with fail
          clear hdv hmd hdn hmn
          skip
          rw [← hW4]
          clear hW4 e0 e1 e2 lN d0 d1 hlt' hge fz hr3 BN3 hb3
          obtain ⟨e0, e1, e2⟩ := BN4.out.q3
          have lN := BN4.out.lt
          have HKW := Lib.hid (KI.ext hb4.out hBW)
          have HO4 := Lib.hid (own_ext HO.out hb4.out)
          have HR4 := Lib.hid (HR.out.ki HKW.out)
          have BF4 := Lib.hid (BF.out.ext hb4.out)
          have HK4 := Lib.hid (HK.out.trans HKW.out)
          have hB4 := Nat.le_trans hBW HKW.out.size
          have HI := Lib.hid (IH.out (a + 1) (some ⟨g2, 0, none⟩) c2 (l.set k ⟨(x : Int), rd.b⟩) m X Al nl cl W4 (by omega) HFS2.out (by rw [List.length_set]; exact HL.out) hm2.1 hm2.2 hB4 (Rods.of_own hr4.out) HO4.out HOK.out HNL.out)
          rw [Int.natCast_add, Int.natCast_one] at HI
          have HX2 := Lib.hid (show insA X (rI u lo j (l.set k ⟨(x : Int), rd.b⟩) (a + 1) m) = insA xs ((List.range (x + 1)).flatMap FX) by rw [HSTEP.out, HFX2.out])
          obtain ⟨X2, hX2⟩ : ∃ o9, insA X (rI u lo j (l.set k ⟨(x : Int), rd.b⟩) (a + 1) m) = o9 := ⟨_, rfl⟩
          have HOK2 := Lib.hid (show OKL X2 from by
           rw [← hX2]
           exact OKL.insA HOK.out fun y hy => rI_ok HFS2.out (by rw [List.length_set, HL.out]; exact hn2) (.inr trivial) (by rw [List.length_set, HL.out]; omega) hy)
          rw [hX2] at HI HX2
          have hn4 := HOK2.out.len
          unfold RetList at HI
          clear hX2 HO HR BF HK HSTEP HFX2
          go_wp2_with fail
          skip
          refine HI.out.mono ?_
          rintro e w5 ⟨A5, c5, rfl, ho5, hk5⟩
          obtain ⟨n5, hn5⟩ : ∃ o9, X2.length = o9 := ⟨_, rfl⟩
          rw [hn5] at ho5 hn4 ⊢
          have HNL5 := Lib.hid hn5
          have HO5 := Lib.hid ho5
          have HR5 := Lib.hid (HR4.out.ki hk5)
          have BF5 := Lib.hid (hk5.blk BF4.out (by decide))
          have HK5 := Lib.hid (HK4.out.trans hk5)
          have HX3 := Lib.hid HX2.out
          clear hn5 ho5 hk5 HR4 BF4 HK4 HI HKW e0 e1 e2 lN
          go_wp2
          go_roundw
          case rel => exact ⟨x + 1, n5, c5, A5, X2, by omega, by go_num, rfl, HNL5, hn4, HX3, HOK2, HO5, HR5, BF5, HK5⟩
          case measure => simp [intOf]; omega
        · have hpn : ((x : Int) != rd.a) = true := by simpa using hpe
          have HLV := Lib.hid (show leftA l a m (x : Int) = m - 1 by rw [HLA.out, if_neg hpe])
          obtain ⟨L, hL⟩ : ∃ o9, m - 1 = o9 := ⟨_, rfl⟩
          rw [hL] at HLV
          have hmL := hms.trans hL
          have hLm : L ≤ 4 := by omega
          clear hpe hms hL
          by_cases hneg : L < 0
          · have hnb : decide (L < 0) = true := decide_eq_true hneg
            have HX2 := Lib.hid (show X = insA xs ((List.range (x + 1)).flatMap FX) by rw [HSTEP.out, HFX.out, HLV.out, if_pos hneg]; rfl)
            clear HSTEP HLV
            have hdv := HDV.out
            have hmd := HMD.out
            have hdn := HDN.out
            have hmn := HMN.out
            go_wp2
            clear hdv hmd hdn hmn
            skip
            go_roundw
            case rel => exact ⟨x + 1, nl, cl, Al, X, by omega, by go_num, rfl, HNL, hnl, HX2, HOK, HO, HR, BF, HK⟩
            case measure => simp [intOf]; omega
          · have hm0b : decide (L < 0) = false := decide_eq_false hneg
            have HFX2 := Lib.hid (show FX x = rI u lo j (l.set k ⟨(x : Int), rd.b⟩) (a + 1) L by rw [HFX.out, HLV.out, if_neg hneg, HSET.out])
            have hm2 : 0 ≤ L ∧ L ≤ 4 := by omega
            clear HLV
            have hdv := HDV.out
            have hmd := HMD.out
            have hdn := HDN.out
            have hmn := HMN.out
            go_wp2_with fail
            clear hdv hmd hdn hmn
            skip
            refine (own_fr u lo (some ⟨b, o, none⟩) n c l _ hn1 (by omega) HR.out.reads).mono ?_
            rintro e w2 ⟨g2, c2, rfl, hr2, hb2⟩
            have hg2 := (hr2.lt g2 rfl).1
            obtain ⟨N2, hN2⟩ : ∃ o9, w2.heap.size = o9 := ⟨_, rfl⟩
            obtain ⟨W3, hW3⟩ : ∃ y : World, y = w2.alloc (.cells #[.int .i64 u, .int .i64 lo, .slice (some ⟨g2, 0, none⟩) n c2] 26) := ⟨_, rfl⟩
            have BN3 := Lib.hid (show Blk W3 N2 26 #[.int .i64 u, .int .i64 lo, .slice (some ⟨g2, 0, none⟩) n c2] by rw [hW3]; exact Blk.born _ _ _ hN2.symm)
            have hr3 := Lib.hid (show W3.ownsRow W.heap.size 42 2 (.slice (some ⟨g2, 0, none⟩) n c2) n (rowsV2 l) by rw [hW3]; exact hr2.alloc _)
            have hb3 := Lib.hid (show Below W.heap.size W W3 by rw [hW3]; exact ext_alloc hb2 _)
            go_upto_region 14 with fail
            rw [← hW3]
            clear hW3 hN2 hb2 hr2 f0 f1 f2 lF c0 c1
            obtain ⟨e0, e1, e2⟩ := BN3.out.q3
            have lN := BN3.out.lt
            obtain ⟨d0, d1, hlt', hge⟩ := rows_cells2 hr3.out HRD.out
            have fz := own_frozen hr3.out (k * 2)
            obtain ⟨W4, hW4⟩ : ∃ y : World, y = W3.setCell ⟨g2, k * 2, none⟩ (.int .i64 (x : Int)) := ⟨_, rfl⟩
            have hneN : g2 ≠ N2 := fun ee => own_nbT hr3.out BN3.out (by decide) (by rw [ee]; rfl)
            have hr4 := Lib.hid (show W4.ownsRow W.heap.size 42 2 (.slice (some ⟨g2, 0, none⟩) n c2) n (rowsV2 (l.set k ⟨(x : Int), rd.b⟩)) by
             rw [hW4, rowsV2_set0 HRD.out]
             exact (World.ownsRow.stored hr3.out (k * 2) (.int .i64 (x : Int))).1)
            have BN4 := Lib.hid (show Blk W4 N2 26 #[.int .i64 u, .int .i64 lo, .slice (some ⟨g2, 0, none⟩) n c2] by rw [hW4]; exact BN3.out.setF (p := ⟨g2, k * 2, none⟩) hneN _)
            have hb4 := Lib.hid (show Below W.heap.size W W4 by rw [hW4]; exact hb3.out.setCell (p := ⟨g2, k * 2, none⟩) hg2 _)
            have hdv := HDV.out
            have hmd := HMD.out
            have hdn := HDN.out
            have hmn := HMN.out
            go_upto_region 15 with fail
            clear hdv hmd hdn hmn
            skip
            rw [← hW4]
            clear hW4 e0 e1 e2 lN d0 d1 hlt' hge fz hr3 BN3 hb3
            obtain ⟨e0, e1, e2⟩ := BN4.out.q3
            have lN := BN4.out.lt
            have HKW := Lib.hid (KI.ext hb4.out hBW)
            have HO4 := Lib.hid (own_ext HO.out hb4.out)
            have HR4 := Lib.hid (HR.out.ki HKW.out)
            have BF4 := Lib.hid (BF.out.ext hb4.out)
            have HK4 := Lib.hid (HK.out.trans HKW.out)
            have hB4 := Nat.le_trans hBW HKW.out.size
            have HI := Lib.hid (IH.out (a + 1) (some ⟨g2, 0, none⟩) c2 (l.set k ⟨(x : Int), rd.b⟩) L X Al nl cl W4 (by omega) HFS2.out (by rw [List.length_set]; exact HL.out) hm2.1 hm2.2 hB4 (Rods.of_own hr4.out) HO4.out HOK.out HNL.out)
            rw [Int.natCast_add, Int.natCast_one] at HI
            have HX2 := Lib.hid (show insA X (rI u lo j (l.set k ⟨(x : Int), rd.b⟩) (a + 1) L) = insA xs ((List.range (x + 1)).flatMap FX) by rw [HSTEP.out, HFX2.out])
            obtain ⟨X2, hX2⟩ : ∃ o9, insA X (rI u lo j (l.set k ⟨(x : Int), rd.b⟩) (a + 1) L) = o9 := ⟨_, rfl⟩
            have HOK2 := Lib.hid (show OKL X2 from by
             rw [← hX2]
             exact OKL.insA HOK.out fun y hy => rI_ok HFS2.out (by rw [List.length_set, HL.out]; exact hn2) (.inr trivial) (by rw [List.length_set, HL.out]; omega) hy)
            rw [hX2] at HI HX2
            have hn4 := HOK2.out.len
            unfold RetList at HI
            clear hX2 HO HR BF HK HSTEP HFX2
            go_wp2_with fail
            skip
            refine HI.out.mono ?_
            rintro e w5 ⟨A5, c5, rfl, ho5, hk5⟩
            obtain ⟨n5, hn5⟩ : ∃ o9, X2.length = o9 := ⟨_, rfl⟩
            rw [hn5] at ho5 hn4 ⊢
            have HNL5 := Lib.hid hn5
            have HO5 := Lib.hid ho5
            have HR5 := Lib.hid (HR4.out.ki hk5)
            have BF5 := Lib.hid (hk5.blk BF4.out (by decide))
            have HK5 := Lib.hid (HK4.out.trans hk5)
            have HX3 := Lib.hid HX2.out
            clear hn5 ho5 hk5 HR4 BF4 HK4 HI HKW e0 e1 e2 lN
            go_wp2
            go_roundw
            case rel => exact ⟨x + 1, n5, c5, A5, X2, by omega, by go_num, rfl, HNL5, hn4, HX3, HOK2, HO5, HR5, BF5, HK5⟩
            case measure => simp [intOf]; omega
      · have HXE := Lib.hid (show insA xs (rI u lo (j + 1) l a m) = X by
         rw [HRI.out, HEQ.out, show (u + 1).toNat = x by omega])
        go_wp2
        go_ret
        unfold RetList
        rw [HXE.out, HNL.out]
        exact ⟨_, _, rfl, HO.out, HK.out⟩
   · clear hk
     obtain ⟨rd, hrd⟩ := list_split (l := l) (k := k) (by rw [hl]; omega)
     have hka : a = 2 * k + 1 := by omega
     have hP : partA l a = rd.b := by rw [hka]; exact partA_odd hrd
     have hM : mostA u lo a = lo := by rw [hka]; exact mostA_odd u lo k
     have hSET : ∀ x : Nat, setA l a (x : Int) = l.set k ⟨rd.a, (x : Int)⟩ := fun x => by rw [hka]; exact setA_odd hrd (x : Int)
     have hrb := frB_rod hf hrd
     have h0u : ((0 : Nat) : Int) ≤ lo + 1 := by omega
     have hk0 : (0 : Int) ≤ (k : Int) := by omega
     have hk1 : (k : Int) < (n : Int) := by omega
     have haw : IntKind.i64.wrap ((a : Int) + 1) = (a : Int) + 1 := IntWalk.i64_in _ (by omega)
     have HDV := Lib.hid (show (a : Int) / 2 = (k : Int) by omega)
     have HMD := Lib.hid (show (a : Int) % 2 = 1 by omega)
     have HDN := Lib.hid (show a / 2 = k by omega)
     have HMN := Lib.hid (show a % 2 = 1 by omega)
     have HRI := Lib.hid (show rI u lo (j + 1) l a m = (List.range (lo + 1).toNat).flatMap (rIx (fun l' m' => rI u lo j l' (a + 1) m') l a m) by rw [rI, hM])
     obtain ⟨FX, hFX⟩ : ∃ o9 : Nat → List Int, rIx (fun l' m' => rI u lo j l' (a + 1) m') l a m = o9 := ⟨_, rfl⟩
     rw [hFX] at HRI
     have HFX := Lib.hid (fun (x : Nat) => show FX x = if leftA l a m (x : Int) < 0 then [] else rI u lo j (setA l a (x : Int)) (a + 1) (leftA l a m (x : Int)) by rw [← hFX]; rfl)
     have HLA := Lib.hid (fun (x : Nat) => show leftA l a m (x : Int) = if (x : Int) = rd.b then m else m - 1 by unfold leftA; rw [hP])
     have HSET := Lib.hid hSET
     have HFS := Lib.hid (fun (x : Nat) (hx : (x : Int) ≤ lo) => show frB u lo (l.set k ⟨rd.a, (x : Int)⟩) = true from frB_setR hf hl (by omega) (by dsimp only; omega))
     have HRD := Lib.hid hrd
     have HF := Lib.hid hf
     have HL := Lib.hid hl
     have HEQ0 := Lib.hid (show xs = insA xs ((List.range 0).flatMap FX) from rfl)
     clear hP hM hSET hFX hrd hka hf hl ih hpar
     skip
     go_enter Try.func35, Try.ntmps35
     go_upto_region 1 with fail
     rw [← hW1]
     clear hW1
     obtain ⟨f0, f1, f2⟩ := BF1.out.q3
     have lF := BF1.out.lt
     have hdv := HDV.out
     have hmd := HMD.out
     have hdn := HDN.out
     have hmn := HMN.out
     go_wp2
     (try rw [hmd])
     clear hdv hmd hdn hmn
     skip
     go_loopw [3, 10] (fun lv xv wr => ∃ (x nl cl : Nat) (Al : Option Addr) (X : List Int), (x : Int) ≤ lo + 1 ∧ xv = .int .i64 (x : Int) ∧ lv = .slice Al nl cl ∧ Hid (X.length = nl) ∧ nl ≤ 301 ∧ Hid (X = insA xs ((List.range x).flatMap FX)) ∧ Hid (OKL X) ∧ Hid (wr.ownsRow B 3 1 (.slice Al nl cl) nl (intsV X)) ∧ Hid (Rods B wr A n l) ∧ Hid (Blk wr w.heap.size 26 #[.int .i64 u, .int .i64 lo, .slice A n c]) ∧ Hid (KI B w wr)) (fun _ xv _ => (lo + 1 - intOf xv).toNat)
     case atStart => exact ⟨0, nl, cl, Al, xs, h0u, rfl, rfl, HNL, hnl, HEQ0, HOK, HO1, HR1, BF1, HK1⟩
     case round =>
      clear f0 f1 f2 lF HO1 HR1 BF1 HK1 HEQ0 HOK hnl HNL
      obtain ⟨x, nl, cl, Al, X, hxm, rfl, rfl, HNL, hnl, HEQ, HOK, HO, HR, BF, HK⟩ := hrel
      obtain ⟨W, hW⟩ : ∃ y : World, y = wr := ⟨_, rfl⟩
      subst hW
      obtain ⟨f0, f1, f2⟩ := BF.out.q3
      have lF := BF.out.lt
      have hBW := Nat.le_trans hB HK.out.size
      by_cases hxu : (x : Int) ≤ lo
      · obtain ⟨b, o, rfl, hbb, c0, c1⟩ := rows_at2 HR.out.reads HRD.out
        have HFS2 := Lib.hid (HFS.out x hxu)
        have hms : IntKind.i64.wrap (m - 1) = m - 1 := IntWalk.i64_in _ (by omega)
        have HSTEP := Lib.hid (show insA xs ((List.range (x + 1)).flatMap FX) = insA X (FX x) by
         rw [List.range_succ, List.flatMap_append, insA_app, ← HEQ.out, List.flatMap_cons, List.flatMap_nil, List.append_nil])
        by_cases hpe : (x : Int) = rd.b
        · have hpn : ((x : Int) != rd.b) = false := by simpa using hpe
          have HLV := Lib.hid (show leftA l a m (x : Int) = m by rw [HLA.out, if_pos hpe])
          have HFX2 := Lib.hid (show FX x = rI u lo j (l.set k ⟨rd.a, (x : Int)⟩) (a + 1) m by rw [HFX.out, HLV.out, if_neg (by omega), HSET.out])
          have hm0b : decide (m < 0) = false := decide_eq_false (by omega)
          have hm0c : ¬ m < 0 := by omega
          have hm2 : 0 ≤ m ∧ m ≤ 4 := ⟨hm0, hm4⟩
          have HLL := Lib.hid hpe
          clear hpe HLV hms
          have hdv := HDV.out
          have hmd := HMD.out
          have hdn := HDN.out
          have hmn := HMN.out
          go_wp2_with fail
          clear hdv hmd hdn hmn
          skip
          refine (own_fr u lo (some ⟨b, o, none⟩) n c l _ hn1 (by omega) HR.out.reads).mono ?_
          rintro e w2 ⟨g2, c2, rfl, hr2, hb2⟩
          have hg2 := (hr2.lt g2 rfl).1
          obtain ⟨N2, hN2⟩ : ∃ o9, w2.heap.size = o9 := ⟨_, rfl⟩
          obtain ⟨W3, hW3⟩ : ∃ y : World, y = w2.alloc (.cells #[.int .i64 u, .int .i64 lo, .slice (some ⟨g2, 0, none⟩) n c2] 26) := ⟨_, rfl⟩
          have BN3 := Lib.hid (show Blk W3 N2 26 #[.int .i64 u, .int .i64 lo, .slice (some ⟨g2, 0, none⟩) n c2] by rw [hW3]; exact Blk.born _ _ _ hN2.symm)
          have hr3 := Lib.hid (show W3.ownsRow W.heap.size 42 2 (.slice (some ⟨g2, 0, none⟩) n c2) n (rowsV2 l) by rw [hW3]; exact hr2.alloc _)
          have hb3 := Lib.hid (show Below W.heap.size W W3 by rw [hW3]; exact ext_alloc hb2 _)
          go_upto_region 14 with fail
          rw [← hW3]
          clear hW3 hN2 hb2 hr2 f0 f1 f2 lF c0 c1
          obtain ⟨e0, e1, e2⟩ := BN3.out.q3
          have lN := BN3.out.lt
          obtain ⟨d0, d1, hlt', hge⟩ := rows_cells2 hr3.out HRD.out
          have fz := own_frozen hr3.out (k * 2 + 1)
          obtain ⟨W4, hW4⟩ : ∃ y : World, y = W3.setCell ⟨g2, k * 2 + 1, none⟩ (.int .i64 (x : Int)) := ⟨_, rfl⟩
          have hneN : g2 ≠ N2 := fun ee => own_nbT hr3.out BN3.out (by decide) (by rw [ee]; rfl)
          have hr4 := Lib.hid (show W4.ownsRow W.heap.size 42 2 (.slice (some ⟨g2, 0, none⟩) n c2) n (rowsV2 (l.set k ⟨rd.a, (x : Int)⟩)) by
           rw [hW4, rowsV2_set1 HRD.out]
           exact (World.ownsRow.stored hr3.out (k * 2 + 1) (.int .i64 (x : Int))).1)
          have BN4 := Lib.hid (show Blk W4 N2 26 #[.int .i64 u, .int .i64 lo, .slice (some ⟨g2, 0, none⟩) n c2] by rw [hW4]; exact BN3.out.setF (p := ⟨g2, k * 2 + 1, none⟩) hneN _)
          have hb4 := Lib.hid (show Below W.heap.size W W4 by rw [hW4]; exact hb3.out.setCell (p := ⟨g2, k * 2 + 1, none⟩) hg2 _)
          have hdv := HDV.out
          have hmd := HMD.out
          have hdn := HDN.out
          have hmn := HMN.out
          go_upto_region 15 with fail
          clear hdv hmd hdn hmn
          skip
          rw [← hW4]
          clear hW4 e0 e1 e2 lN d0 d1 hlt' hge fz hr3 BN3 hb3
          obtain ⟨e0, e1, e2⟩ := BN4.out.q3
          have lN := BN4.out.lt
          have HKW := Lib.hid (KI.ext hb4.out hBW)
          have HO4 := Lib.hid (own_ext HO.out hb4.out)
          have HR4 := Lib.hid (HR.out.ki HKW.out)
          have BF4 := Lib.hid (BF.out.ext hb4.out)
          have HK4 := Lib.hid (HK.out.trans HKW.out)
          have hB4 := Nat.le_trans hBW HKW.out.size
          have HI := Lib.hid (IH.out (a + 1) (some ⟨g2, 0, none⟩) c2 (l.set k ⟨rd.a, (x : Int)⟩) m X Al nl cl W4 (by omega) HFS2.out (by rw [List.length_set]; exact HL.out) hm2.1 hm2.2 hB4 (Rods.of_own hr4.out) HO4.out HOK.out HNL.out)
          rw [Int.natCast_add, Int.natCast_one] at HI
          have HX2 := Lib.hid (show insA X (rI u lo j (l.set k ⟨rd.a, (x : Int)⟩) (a + 1) m) = insA xs ((List.range (x + 1)).flatMap FX) by rw [HSTEP.out, HFX2.out])
          obtain ⟨X2, hX2⟩ : ∃ o9, insA X (rI u lo j (l.set k ⟨rd.a, (x : Int)⟩) (a + 1) m) = o9 := ⟨_, rfl⟩
          have HOK2 := Lib.hid (show OKL X2 from by
           rw [← hX2]
           exact OKL.insA HOK.out fun y hy => rI_ok HFS2.out (by rw [List.length_set, HL.out]; exact hn2) (.inr trivial) (by rw [List.length_set, HL.out]; omega) hy)
          rw [hX2] at HI HX2
          have hn4 := HOK2.out.len
          unfold RetList at HI
          clear hX2 HO HR BF HK HSTEP HFX2
          go_wp2_with fail
          skip
          refine HI.out.mono ?_
          rintro e w5 ⟨A5, c5, rfl, ho5, hk5⟩
          obtain ⟨n5, hn5⟩ : ∃ o9, X2.length = o9 := ⟨_, rfl⟩
          rw [hn5] at ho5 hn4 ⊢
          have HNL5 := Lib.hid hn5
          have HO5 := Lib.hid ho5
          have HR5 := Lib.hid (HR4.out.ki hk5)
          have BF5 := Lib.hid (hk5.blk BF4.out (by decide))
          have HK5 := Lib.hid (HK4.out.trans hk5)
          have HX3 := Lib.hid HX2.out
          clear hn5 ho5 hk5 HR4 BF4 HK4 HI HKW e0 e1 e2 lN
          go_wp2
          go_roundw
          case rel => exact ⟨x + 1, n5, c5, A5, X2, by omega, by go_num, rfl, HNL5, hn4, HX3, HOK2, HO5, HR5, BF5, HK5⟩
          case measure => simp [intOf]; omega
        · have hpn : ((x : Int) != rd.b) = true := by simpa using hpe
          have HLV := Lib.hid (show leftA l a m (x : Int) = m - 1 by rw [HLA.out, if_neg hpe])
          obtain ⟨L, hL⟩ : ∃ o9, m - 1 = o9 := ⟨_, rfl⟩
          rw [hL] at HLV
          have hmL := hms.trans hL
          have hLm : L ≤ 4 := by omega
          clear hpe hms hL
          by_cases hneg : L < 0
          · have hnb : decide (L < 0) = true := decide_eq_true hneg
            have HX2 := Lib.hid (show X = insA xs ((List.range (x + 1)).flatMap FX) by rw [HSTEP.out, HFX.out, HLV.out, if_pos hneg]; rfl)
            clear HSTEP HLV
            have hdv := HDV.out
            have hmd := HMD.out
            have hdn := HDN.out
            have hmn := HMN.out
            go_wp2
            clear hdv hmd hdn hmn
            skip
            go_roundw
            case rel => exact ⟨x + 1, nl, cl, Al, X, by omega, by go_num, rfl, HNL, hnl, HX2, HOK, HO, HR, BF, HK⟩
            case measure => simp [intOf]; omega
          · have hm0b : decide (L < 0) = false := decide_eq_false hneg
            have HFX2 := Lib.hid (show FX x = rI u lo j (l.set k ⟨rd.a, (x : Int)⟩) (a + 1) L by rw [HFX.out, HLV.out, if_neg hneg, HSET.out])
            have hm2 : 0 ≤ L ∧ L ≤ 4 := by omega
            clear HLV
            have hdv := HDV.out
            have hmd := HMD.out
            have hdn := HDN.out
            have hmn := HMN.out
            go_wp2_with fail
            clear hdv hmd hdn hmn
            skip
            refine (own_fr u lo (some ⟨b, o, none⟩) n c l _ hn1 (by omega) HR.out.reads).mono ?_
            rintro e w2 ⟨g2, c2, rfl, hr2, hb2⟩
            have hg2 := (hr2.lt g2 rfl).1
            obtain ⟨N2, hN2⟩ : ∃ o9, w2.heap.size = o9 := ⟨_, rfl⟩
            obtain ⟨W3, hW3⟩ : ∃ y : World, y = w2.alloc (.cells #[.int .i64 u, .int .i64 lo, .slice (some ⟨g2, 0, none⟩) n c2] 26) := ⟨_, rfl⟩
            have BN3 := Lib.hid (show Blk W3 N2 26 #[.int .i64 u, .int .i64 lo, .slice (some ⟨g2, 0, none⟩) n c2] by rw [hW3]; exact Blk.born _ _ _ hN2.symm)
            have hr3 := Lib.hid (show W3.ownsRow W.heap.size 42 2 (.slice (some ⟨g2, 0, none⟩) n c2) n (rowsV2 l) by rw [hW3]; exact hr2.alloc _)
            have hb3 := Lib.hid (show Below W.heap.size W W3 by rw [hW3]; exact ext_alloc hb2 _)
            go_upto_region 14 with fail
            rw [← hW3]
            clear hW3 hN2 hb2 hr2 f0 f1 f2 lF c0 c1
            obtain ⟨e0, e1, e2⟩ := BN3.out.q3
            have lN := BN3.out.lt
            obtain ⟨d0, d1, hlt', hge⟩ := rows_cells2 hr3.out HRD.out
            have fz := own_frozen hr3.out (k * 2 + 1)
            obtain ⟨W4, hW4⟩ : ∃ y : World, y = W3.setCell ⟨g2, k * 2 + 1, none⟩ (.int .i64 (x : Int)) := ⟨_, rfl⟩
            have hneN : g2 ≠ N2 := fun ee => own_nbT hr3.out BN3.out (by decide) (by rw [ee]; rfl)
            have hr4 := Lib.hid (show W4.ownsRow W.heap.size 42 2 (.slice (some ⟨g2, 0, none⟩) n c2) n (rowsV2 (l.set k ⟨rd.a, (x : Int)⟩)) by
             rw [hW4, rowsV2_set1 HRD.out]
             exact (World.ownsRow.stored hr3.out (k * 2 + 1) (.int .i64 (x : Int))).1)
            have BN4 := Lib.hid (show Blk W4 N2 26 #[.int .i64 u, .int .i64 lo, .slice (some ⟨g2, 0, none⟩) n c2] by rw [hW4]; exact BN3.out.setF (p := ⟨g2, k * 2 + 1, none⟩) hneN _)
            have hb4 := Lib.hid (show Below W.heap.size W W4 by rw [hW4]; exact hb3.out.setCell (p := ⟨g2, k * 2 + 1, none⟩) hg2 _)
            have hdv := HDV.out
            have hmd := HMD.out
            have hdn := HDN.out
            have hmn := HMN.out
            go_upto_region 15 with fail
            clear hdv hmd hdn hmn
            skip
            rw [← hW4]
            clear hW4 e0 e1 e2 lN d0 d1 hlt' hge fz hr3 BN3 hb3
            obtain ⟨e0, e1, e2⟩ := BN4.out.q3
            have lN := BN4.out.lt
            have HKW := Lib.hid (KI.ext hb4.out hBW)
            have HO4 := Lib.hid (own_ext HO.out hb4.out)
            have HR4 := Lib.hid (HR.out.ki HKW.out)
            have BF4 := Lib.hid (BF.out.ext hb4.out)
            have HK4 := Lib.hid (HK.out.trans HKW.out)
            have hB4 := Nat.le_trans hBW HKW.out.size
            have HI := Lib.hid (IH.out (a + 1) (some ⟨g2, 0, none⟩) c2 (l.set k ⟨rd.a, (x : Int)⟩) L X Al nl cl W4 (by omega) HFS2.out (by rw [List.length_set]; exact HL.out) hm2.1 hm2.2 hB4 (Rods.of_own hr4.out) HO4.out HOK.out HNL.out)
            rw [Int.natCast_add, Int.natCast_one] at HI
            have HX2 := Lib.hid (show insA X (rI u lo j (l.set k ⟨rd.a, (x : Int)⟩) (a + 1) L) = insA xs ((List.range (x + 1)).flatMap FX) by rw [HSTEP.out, HFX2.out])
            obtain ⟨X2, hX2⟩ : ∃ o9, insA X (rI u lo j (l.set k ⟨rd.a, (x : Int)⟩) (a + 1) L) = o9 := ⟨_, rfl⟩
            have HOK2 := Lib.hid (show OKL X2 from by
             rw [← hX2]
             exact OKL.insA HOK.out fun y hy => rI_ok HFS2.out (by rw [List.length_set, HL.out]; exact hn2) (.inr trivial) (by rw [List.length_set, HL.out]; omega) hy)
            rw [hX2] at HI HX2
            have hn4 := HOK2.out.len
            unfold RetList at HI
            clear hX2 HO HR BF HK HSTEP HFX2
            go_wp2_with fail
            skip
            refine HI.out.mono ?_
            rintro e w5 ⟨A5, c5, rfl, ho5, hk5⟩
            obtain ⟨n5, hn5⟩ : ∃ o9, X2.length = o9 := ⟨_, rfl⟩
            rw [hn5] at ho5 hn4 ⊢
            have HNL5 := Lib.hid hn5
            have HO5 := Lib.hid ho5
            have HR5 := Lib.hid (HR4.out.ki hk5)
            have BF5 := Lib.hid (hk5.blk BF4.out (by decide))
            have HK5 := Lib.hid (HK4.out.trans hk5)
            have HX3 := Lib.hid HX2.out
            clear hn5 ho5 hk5 HR4 BF4 HK4 HI HKW e0 e1 e2 lN
            go_wp2
            go_roundw
            case rel => exact ⟨x + 1, n5, c5, A5, X2, by omega, by go_num, rfl, HNL5, hn4, HX3, HOK2, HO5, HR5, BF5, HK5⟩
            case measure => simp [intOf]; omega
      · have HXE := Lib.hid (show insA xs (rI u lo (j + 1) l a m) = X by
         rw [HRI.out, HEQ.out, show (lo + 1).toNat = x by omega])
        go_wp2
        go_ret
        unfold RetList
        rw [HXE.out, HNL.out]
        exact ⟨_, _, rfl, HO.out, HK.out⟩

end Go.Proofs.Ytaghjaiaoajpiaa
