/- The reference's search, walked. -/
import Derived.Deep.CutBlock
import Derived.Test.YtaghjaiaoajpiaaVM11
namespace Go.Proofs.Ytaghjaiaoajpiaa
open Go.RowKit
set_option linter.unusedVariables false
set_option linter.unusedSimpArgs false
set_option maxRecDepth 100000 in
set_option maxHeartbeats 16000000 in
theorem l13Reach_any (u lo : Int) (A : Option Addr) (n c : Nat) (l : List R2) (hf : frB u lo l = true) (hl : l.length = n) (hn2 : n ≤ 2) : ∀ (r k : Nat) (m : Int) (w : World), k + r = n → 0 ≤ m → m ≤ 4 → Reads w w.heap.size 2 A n (rowsV2 l) →
 Calls Try.prog 38 #[frV u lo A n c, .int .i64 (k : Int), .int .i64 m] w (RetSlice w 3 1 (rS u lo (l.drop k) m).length (intsV (rS u lo (l.drop k) m))) := by
 have hh := frB_head hf
 have HL := Lib.hid hl
 intro r
 induction r with
 | zero =>
   intro k m w hk hm0 hm4 h
   obtain rfl : n = k := by omega
   rw [List.drop_of_length_le (by rw [hl]; exact Nat.le_refl _)]
   have BF := Lib.hid (Blk.born w #[.int .i64 u, .int .i64 lo, .slice A n c] 26 (H := w.heap.size) rfl)
   have hb := Lib.hid (ext_alloc (ext_alloc (ext_refl w) (.cells #[.int .i64 u, .int .i64 lo, .slice A n c] 26)) (.cells #[.int .i64 0] 3))
   have hke : ((n : Int) == (n : Int)) = true := by simp
   obtain ⟨f0, f1, f2⟩ := BF.out.q3
   have lF := BF.out.lt
   clear h hl
   go_enter Try.func38, Try.ntmps38
   go_wp2
   skip
   go_ret
   exact ⟨_, _, rfl, lit_ownV (B := w.heap.size) (w.alloc (.cells #[.int .i64 u, .int .i64 lo, .slice A n c] 26)) 3 1 [.int .i64 0] (by simp) (by simp) rfl, hb.out⟩
 | succ r ih =>
   intro k m w hk hm0 hm4 h
   have IH := Lib.hid ih
   have hkl : k < n := by omega
   have hr8 : r ≤ 8 := by omega
   obtain ⟨rd, hrd⟩ := list_split (l := l) (k := k) (by rw [hl]; exact hkl)
   have hdr : l.drop k = rd :: l.drop (k + 1) := by
    obtain ⟨h1, h2⟩ := List.getElem?_eq_some_iff.1 hrd
    rw [List.drop_eq_getElem_cons h1, h2]
   have HRES0 : rS u lo (l.drop k) m = insA [] ((List.range (u + 1).toNat).flatMap (rSx (pw r) lo m (rS u lo (l.drop (k + 1))) rd)) := by
    rw [hdr, rS, show (l.drop (k + 1)).length = r by rw [List.length_drop, hl]; omega]
   have HP : Hid ((pw r = 1 ∧ r = 0) ∨ (pw r = 10 ∧ r = 1)) := Lib.hid (by
    rcases (show r = 0 ∨ r = 1 by omega) with rfl | rfl
    · exact .inl ⟨rfl, rfl⟩
    · exact .inr ⟨by decide, rfl⟩)
   obtain ⟨RES, hRES⟩ : ∃ o9, rS u lo (l.drop k) m = o9 := ⟨_, rfl⟩
   rw [hRES] at HRES0 ⊢
   obtain ⟨P, hP⟩ : ∃ o9, pw r = o9 := ⟨_, rfl⟩
   rw [hP] at HRES0 HP
   have HPW := Lib.hid hP
   obtain ⟨RS, hRS⟩ : ∃ o9 : Int → List Int, rS u lo (l.drop (k + 1)) = o9 := ⟨_, rfl⟩
   rw [hRS] at HRES0
   have HRS := Lib.hid hRS.symm
   have HRES := Lib.hid HRES0
   have HRD := Lib.hid hrd
   have H := Lib.hid h
   have hke : ((k : Int) == (n : Int)) = false := by simp; omega
   have hke2 : ¬ (k : Int) = (n : Int) := by omega
   obtain ⟨W0, hW0⟩ : ∃ y : World, y = w.alloc (.cells #[.int .i64 u, .int .i64 lo, .slice A n c] 26) := ⟨_, rfl⟩
   have BF0 := Lib.hid (show Blk W0 w.heap.size 26 #[.int .i64 u, .int .i64 lo, .slice A n c] by rw [hW0]; exact Blk.born w _ 26 rfl)
   have hb0 := Lib.hid (show Below w.heap.size w W0 by rw [hW0]; exact ext_alloc (ext_refl w) _)
   obtain ⟨g, hg⟩ : ∃ o9, W0.heap.size = o9 := ⟨_, rfl⟩
   obtain ⟨W1, hW1⟩ : ∃ y : World, y = W0.alloc (.cells #[] 3) := ⟨_, rfl⟩
   have BF := Lib.hid (show Blk W1 w.heap.size 26 #[.int .i64 u, .int .i64 lo, .slice A n c] by rw [hW1]; exact BF0.out.al _)
   have hb := Lib.hid (show Below w.heap.size w W1 by rw [hW1]; exact ext_alloc hb0.out _)
   have HO := Lib.hid (show W1.ownsRow w.heap.size 3 1 (.slice (some ⟨g, 0, none⟩) 0 0) 0 (intsV []) by rw [hW1]; exact own_lit_at W0 3 1 hg.symm (by rw [← hg]; exact hb0.out.size))
   have HNO := Lib.hid (show ([] : List Int).length = 0 from rfl)
   have hno : 0 ≤ 301 := by omega
   have HOK := Lib.hid OKL.nil
   have HEQ := Lib.hid (show ([] : List Int) = insA [] ((List.range 0).flatMap (rSx P lo m RS rd)) from rfl)
   clear ih hl hP hRES hRS hrd h hdr HRES0
   go_enter Try.func38, Try.ntmps38
   go_upto_region 1 with fail
   rw [← hW0]
   clear hW0
   obtain ⟨f0, f1, f2⟩ := BF0.out.q3
   have lF := BF0.out.lt
   go_upto_region 4 with fail
   rw [← hW1]
   clear hW1 hg f0 f1 f2 lF BF0 hb0
   go_wp2
   skip
   go_loopw [7, 8] (fun ov av wr => ∃ (a g no co : Nat) (Out : List Int), (a : Int) ≤ u + 1 ∧ av = .int .i64 (a : Int) ∧ ov = .slice (some ⟨g, 0, none⟩) no co ∧ Hid (Out.length = no) ∧ no ≤ 301 ∧ Hid (Out = insA [] ((List.range a).flatMap (rSx P lo m RS rd))) ∧ Hid (OKL Out) ∧ Hid (wr.ownsRow w.heap.size 3 1 (.slice (some ⟨g, 0, none⟩) no co) no (intsV Out)) ∧ Hid (Blk wr w.heap.size 26 #[.int .i64 u, .int .i64 lo, .slice A n c]) ∧ Hid (Below w.heap.size w wr)) (fun _ av _ => (u + 1 - intOf av).toNat)
   case atStart => exact ⟨0, g, 0, 0, [], by omega, rfl, rfl, HNO, hno, HEQ, HOK, HO, BF, hb⟩
   case round =>
    clear HNO hno HEQ HOK HO BF hb
    obtain ⟨a, g, no, co, OutA, hal, rfl, rfl, HNO, hno, HEQA, HOK, HO, BF, hb⟩ := hrel
    obtain ⟨W, hW⟩ : ∃ y : World, y = wr := ⟨_, rfl⟩
    subst hW
    obtain ⟨f0, f1, f2⟩ := BF.out.q3
    have lF := BF.out.lt
    by_cases hau : (a : Int) ≤ u
    · have HEQ := Lib.hid (show OutA = insA OutA ((List.range 0).flatMap (rSl P (a : Int) m RS rd)) from rfl)
      go_wp2
      go_loopw [7, 9] (fun ov bv wr => ∃ (b g no co : Nat) (Out : List Int), (b : Int) ≤ lo + 1 ∧ bv = .int .i64 (b : Int) ∧ ov = .slice (some ⟨g, 0, none⟩) no co ∧ Hid (Out.length = no) ∧ no ≤ 301 ∧ Hid (Out = insA OutA ((List.range b).flatMap (rSl P (a : Int) m RS rd))) ∧ Hid (OKL Out) ∧ Hid (wr.ownsRow w.heap.size 3 1 (.slice (some ⟨g, 0, none⟩) no co) no (intsV Out)) ∧ Hid (Blk wr w.heap.size 26 #[.int .i64 u, .int .i64 lo, .slice A n c]) ∧ Hid (Below w.heap.size w wr)) (fun _ bv _ => (lo + 1 - intOf bv).toNat)
      case atStart => exact ⟨0, g, no, co, OutA, by omega, rfl, rfl, HNO, hno, HEQ, HOK, HO, BF, hb⟩
      case round =>
       clear f0 f1 f2 lF
       clear HNO hno HEQ HOK HO BF hb
       obtain ⟨b, g, no, co, Out2, hbl, rfl, rfl, HNO, hno, HEQ2, HOK, HO, BF, hb⟩ := hrel
       obtain ⟨W, hW⟩ : ∃ y : World, y = wr := ⟨_, rfl⟩
       subst hW
       obtain ⟨f0, f1, f2⟩ := BF.out.q3
       have lF := BF.out.lt
       by_cases hbi : (b : Int) ≤ lo
       · obtain ⟨br, or, rfl, hbr, c0, c1⟩ := rows_at2 (rdx H.out hb.out) HRD.out
         have hk0 : (0 : Int) ≤ (k : Int) := by omega
         have hkn : (k : Int) < (n : Int) := by omega
         have hp0 := pts_ge rd (a : Int) (b : Int)
         have hp2 := pts_le rd (a : Int) (b : Int)
         have HPA := Lib.hid (fun (w : World) => l13Parts_any rd (a : Int) (b : Int) w)
         obtain ⟨pt, hpt⟩ : ∃ o9, pts rd (a : Int) (b : Int) = o9 := ⟨_, rfl⟩
         rw [hpt] at hp0 hp2 HPA
         have HPT := Lib.hid hpt
         have kw : IntKind.i64.wrap (m - pt) = m - pt := IntWalk.i64_in _ (by omega)
         unfold RetV at HPA
         obtain ⟨ra, rb⟩ := rd
         dsimp only at HPA c0 c1
         clear hpt
         go_wp2_with fail
         skip
         refine (HPA.out _).mono ?_
         rintro e w2 ⟨rfl, hb2⟩
         have HO2 := Lib.hid (own_ext HO.out hb2)
         have BF2 := Lib.hid (BF.out.ext hb2)
         have hb3 := Lib.hid (ext_trans hb.out hb2)
         clear HO BF hb hb2 f0 f1 f2 lF c0 c1 HPA
         obtain ⟨f0, f1, f2⟩ := BF2.out.q3
         have lF := BF2.out.lt
         by_cases hlf : m - pt < 0
         · have klf : decide (m - pt < 0) = true := decide_eq_true hlf
           have HM := Lib.hid (show Out2 = insA OutA ((List.range (b + 1)).flatMap (rSl P (a : Int) m RS ⟨ra, rb⟩)) by
            rw [List.range_succ, List.flatMap_append, insA_app, ← HEQ2.out, List.flatMap_cons, List.flatMap_nil, List.append_nil]
            unfold rSl
            rw [HPT.out, if_pos hlf]; rfl)
           clear HEQ2
           go_wp2
           go_roundw
           case rel => exact ⟨b + 1, g, no, co, Out2, by omega, by go_num, rfl, HNO, hno, HM, HOK, HO2, BF2, hb3⟩
           case measure => simp [intOf]; omega
         · have klf : decide (m - pt < 0) = false := decide_eq_false hlf
           have hm2 : 0 ≤ m - pt ∧ m - pt ≤ 4 := by omega
           have HRR := Lib.hid (fun (w : World) h => IH.out (k + 1) (m - pt) w (by omega) hm2.1 hm2.2 h)
           have HRB := Lib.hid (fun x h => rS_bounds (u := u) (lo := lo) (by omega) (by omega) (l.drop (k + 1)) (m - pt) x (by rw [List.length_drop, HL.out]; omega) h)
           have HRE := Lib.hid (show RS (m - pt) = rS u lo (l.drop (k + 1)) (m - pt) by rw [HRS.out])
           have hnr := asc_len 301 _ (rS_asc u lo (l.drop (k + 1)) (m - pt)) (fun x h => by have := HRB.out x h; rw [List.length_drop, HL.out] at this; omega)
           rw [show (l.drop (k + 1)).length = r by rw [List.length_drop, HL.out]; omega] at HRB
           obtain ⟨R, hR⟩ : ∃ o9, rS u lo (l.drop (k + 1)) (m - pt) = o9 := ⟨_, rfl⟩
           rw [hR] at HRR HRB HRE hnr
           obtain ⟨nr, hnrE⟩ : ∃ o9, R.length = o9 := ⟨_, rfl⟩
           rw [hnrE] at HRR hnr
           have HRL := Lib.hid hnrE
           have kk1 : IntKind.i64.wrap ((k : Int) + 1) = (k : Int) + 1 := IntWalk.i64_in _ (by omega)
           rw [Int.natCast_add, Int.natCast_one] at HRR
           unfold RetSlice at HRR
           obtain ⟨L, hL⟩ : ∃ o9, m - pt = o9 := ⟨_, rfl⟩
           rw [hL] at kw klf HRR hlf hm2 HRE
           clear hR hnrE
           go_wp2_with fail
           skip
           refine (HRR.out _ (rdx H.out hb3.out)).mono ?_
           rintro e w4 ⟨AR, cR, rfl, hoR, hbR⟩
           have HR := Lib.hid (own_base (base' := w.heap.size) hoR hb3.out.size)
           have HO := Lib.hid (own_ext HO2.out hbR)
           have BF := Lib.hid (BF2.out.ext hbR)
           have hb := Lib.hid (ext_trans hb3.out hbR)
           have HEQ := Lib.hid (show Out2 = insA Out2 ((R.take 0).map fun z => P * (5 * (a : Int) + (b : Int)) + z) from rfl)
           clear hoR hbR HO2 BF2 hb3 f0 f1 f2 lF HRR
           obtain ⟨f0, f1, f2⟩ := BF.out.q3
           have lF := BF.out.lt
           have HLL := Lib.hid hL
           go_wp2
           go_loopw [7, 12] (fun ov iv wr => ∃ (i g no co : Nat) (Out : List Int), i ≤ nr ∧ iv = .int .i64 (i : Int) ∧ Hid (wr.ownsRow w.heap.size 3 1 (.slice AR nr cR) nr (intsV R)) ∧ ov = .slice (some ⟨g, 0, none⟩) no co ∧ Hid (Out.length = no) ∧ no ≤ 301 ∧ Hid (Out = insA Out2 ((R.take i).map fun z => P * (5 * (a : Int) + (b : Int)) + z)) ∧ Hid (OKL Out) ∧ Hid (wr.ownsRow w.heap.size 3 1 (.slice (some ⟨g, 0, none⟩) no co) no (intsV Out)) ∧ Hid (Blk wr w.heap.size 26 #[.int .i64 u, .int .i64 lo, .slice (some ⟨br, or, none⟩) n c]) ∧ Hid (Below w.heap.size w wr)) (fun _ iv _ => nr - (intOf iv).toNat)
           case atStart => exact ⟨0, g, no, co, Out2, Nat.zero_le _, rfl, HR, rfl, HNO, hno, HEQ, HOK, HO, BF, hb⟩
           case round =>
            clear f0 f1 f2 lF
            clear HNO hno HEQ HOK HO BF hb HR
            obtain ⟨i, g, no, co, Out, hi, rfl, HR, rfl, HNO, hno, HEQ, HOK, HO, BF, hb⟩ := hrel
            obtain ⟨W, hW⟩ : ∃ y : World, y = wr := ⟨_, rfl⟩
            subst hW
            obtain ⟨f0, f1, f2⟩ := BF.out.q3
            have lF := BF.out.lt
            by_cases hlt : i < nr
            · obtain ⟨z, hz⟩ := list_split (l := R) (k := i) (by rw [HRL.out]; exact hlt)
              obtain ⟨bz, oz, hAz, hbz, c0⟩ := ints_at (Reads.of_own HR.out) hz
              subst hAz
              have hi1 : (i : Int) < (nr : Int) := by omega
              have hi0 : (0 : Int) ≤ (i : Int) := by omega
              have hzb := HRB.out z (List.mem_of_getElem? hz)
              have HSTEP := Lib.hid (show insA Out2 ((R.take (i + 1)).map fun z => P * (5 * (a : Int) + (b : Int)) + z) = insN Out (P * (5 * (a : Int) + (b : Int)) + z) by
               rw [List.take_add_one, hz, List.map_append, insA_app, ← HEQ.out]; rfl)
              have hN0 : 0 ≤ P * (5 * (a : Int) + (b : Int)) + z ∧ P * (5 * (a : Int) + (b : Int)) + z ≤ 300 := by
               rcases HP.out with ⟨hp, hr⟩ | ⟨hp, hr⟩
               · rw [hp]; omega
               · rw [hp]; omega
              have hQ0 : 0 ≤ P * (5 * (a : Int) + (b : Int)) ∧ P * (5 * (a : Int) + (b : Int)) ≤ 150 := by
               rcases HP.out with ⟨hp, hr⟩ | ⟨hp, hr⟩
               · rw [hp]; omega
               · rw [hp]; omega
              have hcm : (5 * (a : Int) + (b : Int)) * P = P * (5 * (a : Int) + (b : Int)) := Int.mul_comm _ _
              have j5 : IntKind.i64.wrap (5 * (a : Int)) = 5 * (a : Int) := IntWalk.i64_in _ (by omega)
              have j6 : IntKind.i64.wrap (5 * (a : Int) + (b : Int)) = 5 * (a : Int) + (b : Int) := IntWalk.i64_in _ (by omega)
              obtain ⟨V5, hV5⟩ : ∃ o9, 5 * (a : Int) = o9 := ⟨_, rfl⟩
              have k5 := j5.trans hV5
              rw [hV5] at hN0 hQ0 hcm j6
              obtain ⟨V, hV⟩ : ∃ o9, V5 + (b : Int) = o9 := ⟨_, rfl⟩
              have k6 := j6.trans hV
              rw [hV] at hN0 hQ0 hcm
              obtain ⟨Q, hQ⟩ : ∃ o9, P * V = o9 := ⟨_, rfl⟩
              rw [hQ] at hN0 hQ0 hcm
              have k7 : IntKind.i64.wrap (V * P) = Q := by rw [hcm]; exact IntWalk.i64_in _ (by omega)
              have j8 : IntKind.i64.wrap (Q + z) = Q + z := IntWalk.i64_in _ (by omega)
              obtain ⟨N, hN⟩ : ∃ o9, Q + z = o9 := ⟨_, rfl⟩
              have k8 := j8.trans hN
              rw [hN] at hN0
              have HSTP := Lib.hid (HSTEP.out.trans (by rw [hV5, hV, hQ, hN]))
              have HPC := Lib.hid (fun (w : World) => (show Calls Try.prog 61 #[.int .i64 (r : Int)] w fun e w' => e = .returned (.int .i64 P) ∧ w = w' from by rw [← HPW.out]; exact l2Power_any (r : Int) r w rfl hr8))
              clear hcm hV hN hV5 j5 j6 j8 HSTEP hQ0
              have k9 : IntKind.i64.wrap ((n : Int) - 1) = (n : Int) - 1 := IntWalk.i64_in _ (by omega)
              have k10 : IntKind.i64.wrap ((n : Int) - 1 - (k : Int)) = (r : Int) := by rw [IntKind.wrap_i64]; omega
              have HOK4 := Lib.hid (OKL.ins HOK.out hN0)
              have hlen4 := OKL.len HOK4.out
              have HBB := hb
              clear hb hz hzb hQ
              go_upto_region 16 with fail
              skip
              (refine wp_region_later (by kernel_rfl) (by kernel_rfl) ?_; (repeat (go_big_quiet_step (first | (go_at_call 61; with_reducible exact Calls.later_same ((HPC.out _)))))); refine wpQuiet_nil ?_; intro W5 hw1; obtain ⟨⟨wl, hb⟩, hw1'⟩ := hw1; simp only at hw1'; subst hw1')
              have HO5 := Lib.hid (own_ext HO.out hb)
              have HR5 := Lib.hid (own_ext HR.out hb)
              have BF5 := Lib.hid (BF.out.ext hb)
              have hb5 := Lib.hid (ext_trans HBB.out hb)
              clear hb HO HR BF HBB f0 f1 f2 lF c0
              go_wp2_with fail
              skip
              refine (l1Has_any (some ⟨g, 0, none⟩) no co Out N _ (by omega) (Reads.of_own HO5.out)).mono ?_
              by_cases hmem : N ∈ Out
              · have hdm : decide (N ∈ Out) = true := decide_eq_true hmem
                rw [hdm]
                rintro e w6 ⟨rfl, hb6⟩
                have HEQ4 := Lib.hid (show Out = insA Out2 ((R.take (i + 1)).map fun z => P * (5 * (a : Int) + (b : Int)) + z) by rw [HSTP.out, insN_have HOK.out.1 hmem])
                have HO6 := Lib.hid (own_ext HO5.out hb6)
                have HR6 := Lib.hid (own_ext HR5.out hb6)
                have BF6 := Lib.hid (BF5.out.ext hb6)
                have hb7 := Lib.hid (ext_trans hb5.out hb6)
                clear hmem hdm hb6 HO5 HR5 BF5 hb5 HSTP
                go_wp2
                go_roundw
                case rel => exact ⟨i + 1, g, no, co, Out, by omega, by go_num, HR6, rfl, HNO, hno, HEQ4, HOK, HO6, BF6, hb7⟩
                case measure => simp [intOf]; omega
              · have hdm : decide (N ∈ Out) = false := decide_eq_false hmem
                rw [hdm]
                rintro e w6 ⟨rfl, hb6⟩
                have HO6 := Lib.hid (own_ext HO5.out hb6)
                have HR6 := Lib.hid (own_ext HR5.out hb6)
                have BF6 := Lib.hid (BF5.out.ext hb6)
                have hb7 := Lib.hid (ext_trans hb5.out hb6)
                clear hmem hdm hb6 HO5 HR5 BF5 hb5
                go_wp2_with fail
                refine (l1Put_any w.heap.size g no co Out N _ hb7.out.size (by omega) HO6.out).mono ?_
                rintro e w8 ⟨A8, c8, rfl, ho8, hb8⟩
                obtain ⟨Out4, hOut4⟩ : ∃ o9, insN Out N = o9 := ⟨_, rfl⟩
                rw [hOut4] at ho8 HSTP HOK4 hlen4 ⊢
                have hpos : 0 < Out4.length := by rw [← hOut4]; exact insN_pos _ _
                obtain ⟨g8, hg8⟩ := own_some ho8 hpos
                subst hg8
                obtain ⟨no8, hno8⟩ : ∃ o9, Out4.length = o9 := ⟨_, rfl⟩
                rw [hno8] at ho8 hlen4 ⊢
                have HNO8 := Lib.hid hno8
                have HO8 := Lib.hid ho8
                have HR8 := Lib.hid (own_ext HR6.out hb8)
                have BF8 := Lib.hid (BF6.out.ext hb8)
                have hb9 := Lib.hid (ext_trans hb7.out hb8)
                have HEQ4 := Lib.hid (HSTP.out.symm)
                clear hOut4 hno8 hpos ho8 hb8 HO6 HR6 BF6 hb7 HSTP
                go_wp2
                go_roundw
                case rel => exact ⟨i + 1, g8, no8, c8, Out4, by omega, by go_num, HR8, rfl, HNO8, hlen4, HEQ4, HOK4, HO8, BF8, hb9⟩
                case measure => simp [intOf]; omega
            · obtain rfl : i = nr := by omega
              have HM := Lib.hid (show Out = insA OutA ((List.range (b + 1)).flatMap (rSl P (a : Int) m RS ⟨ra, rb⟩)) by
               rw [List.range_succ, List.flatMap_append, insA_app, ← HEQ2.out, List.flatMap_cons, List.flatMap_nil, List.append_nil, HEQ.out, List.take_of_length_le (by rw [HRL.out]; exact Nat.le_refl _)]
               unfold rSl
               rw [HPT.out, HLL.out, if_neg (by omega), HRE.out])
              go_wp2
              go_roundw
              case rel => exact ⟨b + 1, g, no, co, Out, by omega, by go_num, rfl, HNO, hno, HM, HOK, HO, BF, hb⟩
              case measure => simp [intOf]; omega
       · have HM := Lib.hid (show Out2 = insA [] ((List.range (a + 1)).flatMap (rSx P lo m RS rd)) by
          rw [List.range_succ, List.flatMap_append, insA_app, ← HEQA.out, List.flatMap_cons, List.flatMap_nil, List.append_nil]
          unfold rSx
          rw [show (lo + 1).toNat = b by omega]
          exact HEQ2.out)
         go_wp2
         go_roundw
         case rel => exact ⟨a + 1, g, no, co, Out2, by omega, by go_num, rfl, HNO, hno, HM, HOK, HO, BF, hb⟩
         case measure => simp [intOf]; omega
    · have HRF := Lib.hid (show RES = OutA by
       rw [HRES.out, HEQA.out, show (u + 1).toNat = a by omega])
      go_wp2
      skip
      go_ret
      unfold RetSlice
      rw [HRF.out, HNO.out]
      exact ⟨_, _, rfl, HO.out, hb.out⟩

end Go.Proofs.Ytaghjaiaoajpiaa
