/- EndRod: both. -/
import Derived.Test.YtihljhikhplegaaVM7
import Derived.Test.YtihljhikhplegaaVRuG
namespace Go.Proofs.Ytihljhikhplegaa
open Go.RowKit
set_option linter.unusedVariables false
set_option linter.unusedSimpArgs false
def RetEr (s : ByteArray) (z : Int) (w : World) (e : Ending) (w' : World) : Prop := e = .returned (.tuple #[.int .i64 ((erV s z).getD 0), .bool (erV s z).isSome]) ∧ Below w.heap.size w w'
theorem plain_word {l : List UInt8} {c : UInt8} {d : Nat} (h : plainO l = some (c, d)) (hc : c = 60 ∨ c = 62) : l = [c] ∧ d = 0 := by
 rcases plain_inv h with ⟨_, h2, h3⟩ | ⟨h1, _⟩
 · exact ⟨h3, h2⟩
 · rcases hc with rfl | rfl <;> rcases h1 with h1 | h1 <;> exact absurd h1 (by decide)
theorem plain_not {l : List UInt8} {c : UInt8} {d : Nat} (h : plainO l = some (c, d)) (h1 : c ≠ 60) (h2 : c ≠ 62) : l ≠ [60] ∧ l ≠ [62] := by
 rcases plain_inv h with ⟨_, _, h3⟩ | ⟨_, y, h3, _⟩
 · rw [h3]
   exact ⟨fun e => h1 (by injection e), fun e => h2 (by injection e)⟩
 · rw [h3]
   exact ⟨(fun e => by injection e with _ e; cases e), (fun e => by injection e with _ e; cases e)⟩
set_option maxRecDepth 100000 in
set_option maxHeartbeats 4000000 in
theorem implEndRod_any (s : ByteArray) (z : Int) (w : World) (hs : s.size ≤ 16777216) (hz : 0 ≤ z ∧ z ≤ 9) : Calls Try.prog 28 #[.string s, .int .i64 z] w (RetEr s z w) := by
 have HR := Lib.hid (fun w => rulesOf_any s w hs)
 skip
 cases hsc : scrB s
 · rw [hsc] at HR
   have HV := Lib.hid (show erV s z = none by unfold erV; rw [if_neg (by rw [hsc]; simp)])
   clear hsc
   unfold RetEr
   rw [HV.out]
   go_enter Try.func28, Try.ntmps28
   go_wp2_with fail
   refine (HR.out _).mono ?_
   rintro e w1 ⟨A1, c1, rfl, ho1, hb1⟩
   go_wp2
   go_ret2
   exact ⟨rfl, hb1⟩
 cases hin : inB z 1 8
 · rw [hsc] at HR
   have HV := Lib.hid (show erV s z = none by unfold erV; rw [if_neg (by rw [hin]; simp)])
   have HI := Lib.hid hin
   clear hsc hin
   unfold RetEr
   rw [HV.out]
   go_enter Try.func28, Try.ntmps28
   go_wp2_with fail
   refine (HR.out _).mono ?_
   rintro e w1 ⟨A1, c1, rfl, ho1, hb1⟩
   go_wp2_with fail
   refine (within_b _ _ _ _ _ HI.out).mono ?_
   rintro e w2 ⟨rfl, hb2⟩
   go_wp2
   go_ret2
   exact ⟨rfl, ext_trans hb1 hb2⟩
 · have hin2 := inB_iff.1 hin
   have hw9 : ∀ x ∈ rulesL s, okW x := rules_okW hsc
   have h81 := rules_81' hsc
   rw [show scrL s = rulesL s by unfold scrL; rw [if_pos hsc], hsc] at HR
   unfold RetEr
   rw [show erV s z = erL z (rulesL s) (rulesL s).length by unfold erV; rw [if_pos ⟨hsc, hin⟩]]
   obtain ⟨X, hX⟩ : ∃ X, rulesL s = X := ⟨_, rfl⟩
   rw [hX] at HR hw9 h81 ⊢
   obtain ⟨m, hm⟩ : ∃ m, X.length = m := ⟨_, rfl⟩
   rw [hm] at HR h81
   have hxm : X.length = m := hm
   clear hm
   have HI := Lib.hid hin
   have HW9 := Lib.hid hw9
   have HXM := Lib.hid hxm
   have HNO := Lib.hid (fun k => @erL_none z X k)
   have HIN := Lib.hid (fun k r => @erL_in z X (by omega) k r)
   clear hsc hin hX hw9 hxm
   go_enter Try.func28, Try.ntmps28
   go_wp2_with fail
   refine (HR.out _).mono ?_
   rintro e w1 ⟨A1, c1, rfl, ho1, hb1⟩
   have HO := Lib.hid ho1
   go_wp2_with fail
   refine (within_b _ _ _ _ _ HI.out).mono ?_
   rintro e w2 ⟨rfl, hb2⟩
   have HB := Lib.hid (ext_trans hb1 hb2)
   have HO := Lib.hid (own_ext HO.out hb2)
   clear hb1 hb2
   go_wp2_with fail
   go_loopw [8, 27] (fun v i wr => ∃ (k : Nat) (r : Int), k ≤ m ∧ i = .int .i64 k ∧ v = .int .i64 r ∧ (0 ≤ r ∧ r ≤ z - 1) ∧ Hid (erL z X k = some r) ∧ Hid (Below w2.heap.size w2 wr)) (fun _ i _ => m - (intOf i).toNat)
   case atStart => exact ⟨0, z - 1, Nat.zero_le _, rfl, by go_num, by omega, Lib.hid rfl, Lib.hid (ext_refl _)⟩
   case round =>
    obtain ⟨k, r, hk, rfl, rfl, ⟨hr0, hr1⟩, HE, HX⟩ := hrel
    by_cases hlt : k < m
    · have e2 : (k : Int) < (m : Int) := by omega
      have k0 : (0 : Int) ≤ (k : Int) := by omega
      obtain ⟨x, hx⟩ := list_split (l := X) (k := k) (by rw [HXM.out]; exact hlt)
      obtain ⟨b, o, rfl, hb, c0, c1, c2⟩ := rw_at (Reads.of_own (own_ext HO.out HX.out)) hx
      obtain ⟨⟨ht1, ht9⟩, _⟩ := HW9.out x (List.mem_of_getElem? hx)
      have HMORE := Lib.hid (erL_more HE.out hx)
      clear hx
      obtain ⟨xt, xc, xd⟩ := x
      dsimp only at ht1 ht9
      have hcase : (xc = 60 ∨ xc = 62 ∨ (xc ≠ 60 ∧ xc ≠ 62)) := by
       by_cases h1 : xc = 60
       · exact .inl h1
       · by_cases h2 : xc = 62
         · exact .inr (.inl h2)
         · exact .inr (.inr ⟨h1, h2⟩)
      rcases hcase with rfl | rfl | ⟨hx1, hx2⟩
      · have HR2 := Lib.hid (show rodO z r ⟨xt, 60, xd⟩ = if 0 ≤ r - (xt : Int) ∧ r - (xt : Int) ≤ z - 1 then some (r - (xt : Int)) else none by rfl)
        have w60 : (((60 : UInt8).toNat : Int) == 60) = true := rfl
        have w62 : (((60 : UInt8).toNat : Int) == 62) = false := rfl
        by_cases hok : 0 ≤ r - (xt : Int) ∧ r - (xt : Int) ≤ z - 1
        · have HB8 := Lib.hid (show inB (r - (xt : Int)) 0 (z - 1) = true by rw [inB_iff]; exact hok)
          rw [if_pos hok] at HR2
          go_wp2_with fail
          refine (within_b _ _ _ _ _ HB8.out).mono ?_
          rintro e w4 ⟨rfl, hb4⟩
          have HX4 := Lib.hid (ext_trans (ext_alloc HX.out _) hb4)
          clear hb4
          go_wp2
          go_roundw
          case rel => exact ⟨k + 1, r - (xt : Int), by omega, by go_num, rfl, hok, Lib.hid (by rw [HMORE.out, HR2.out]), HX4⟩
          case measure => simp [intOf]; omega
        · have HB8 := Lib.hid (show inB (r - (xt : Int)) 0 (z - 1) = false by rw [inB_no]; exact hok)
          rw [if_neg hok] at HR2
          go_wp2_with fail
          refine (within_b _ _ _ _ _ HB8.out).mono ?_
          rintro e w4 ⟨rfl, hb4⟩
          have HX4 := Lib.hid (ext_trans (ext_alloc HX.out _) hb4)
          clear hb4
          have HF := Lib.hid (show erL z X X.length = none from HNO.out (k + 1) (by rw [HMORE.out, HR2.out]))
          go_wp2
          go_ret2
          rw [HF.out]
          exact ⟨rfl, ext_trans HB.out HX4.out⟩
      · have HR2 := Lib.hid (show rodO z r ⟨xt, 62, xd⟩ = if 0 ≤ r + (xt : Int) ∧ r + (xt : Int) ≤ z - 1 then some (r + (xt : Int)) else none by rfl)
        have w60 : (((62 : UInt8).toNat : Int) == 60) = false := rfl
        have w62 : (((62 : UInt8).toNat : Int) == 62) = true := rfl
        by_cases hok : 0 ≤ r + (xt : Int) ∧ r + (xt : Int) ≤ z - 1
        · have HB8 := Lib.hid (show inB (r + (xt : Int)) 0 (z - 1) = true by rw [inB_iff]; exact hok)
          rw [if_pos hok] at HR2
          go_wp2_with fail
          refine (within_b _ _ _ _ _ HB8.out).mono ?_
          rintro e w4 ⟨rfl, hb4⟩
          have HX4 := Lib.hid (ext_trans (ext_alloc HX.out _) hb4)
          clear hb4
          go_wp2
          go_roundw
          case rel => exact ⟨k + 1, r + (xt : Int), by omega, by go_num, rfl, hok, Lib.hid (by rw [HMORE.out, HR2.out]), HX4⟩
          case measure => simp [intOf]; omega
        · have HB8 := Lib.hid (show inB (r + (xt : Int)) 0 (z - 1) = false by rw [inB_no]; exact hok)
          rw [if_neg hok] at HR2
          go_wp2_with fail
          refine (within_b _ _ _ _ _ HB8.out).mono ?_
          rintro e w4 ⟨rfl, hb4⟩
          have HX4 := Lib.hid (ext_trans (ext_alloc HX.out _) hb4)
          clear hb4
          have HF := Lib.hid (show erL z X X.length = none from HNO.out (k + 1) (by rw [HMORE.out, HR2.out]))
          go_wp2
          go_ret2
          rw [HF.out]
          exact ⟨rfl, ext_trans HB.out HX4.out⟩
      · have HR2 := Lib.hid (show rodO z r ⟨xt, xc, xd⟩ = if 0 ≤ r ∧ r ≤ z - 1 then some (r) else none by unfold rodO; dsimp only; rw [if_neg hx1, if_neg hx2])
        have hn60 : (xc.toNat : Int) ≠ 60 := fun h => hx1 (UInt8.toNat.inj (show xc.toNat = 60 by omega))
        have hn62 : (xc.toNat : Int) ≠ 62 := fun h => hx2 (UInt8.toNat.inj (show xc.toNat = 62 by omega))
        have w60 : ((xc.toNat : Int) == 60) = false := by simpa using hn60
        have w62 : ((xc.toNat : Int) == 62) = false := by simpa using hn62
        clear hx1 hx2 hn60 hn62
        by_cases hok : 0 ≤ r ∧ r ≤ z - 1
        · have HB8 := Lib.hid (show inB (r) 0 (z - 1) = true by rw [inB_iff]; exact hok)
          rw [if_pos hok] at HR2
          go_wp2_with fail
          refine (within_b _ _ _ _ _ HB8.out).mono ?_
          rintro e w4 ⟨rfl, hb4⟩
          have HX4 := Lib.hid (ext_trans (ext_alloc HX.out _) hb4)
          clear hb4
          go_wp2
          go_roundw
          case rel => exact ⟨k + 1, r, by omega, by go_num, rfl, hok, Lib.hid (by rw [HMORE.out, HR2.out]), HX4⟩
          case measure => simp [intOf]; omega
        · exact absurd ⟨hr0, hr1⟩ hok
    · obtain rfl : k = m := by omega
      have HF := Lib.hid (show erL z X X.length = some r by rw [HXM.out]; exact HE.out)
      go_wp2
      go_ret2
      rw [HF.out]
      exact ⟨rfl, ext_trans HB.out HX.out⟩

set_option maxRecDepth 100000 in
set_option maxHeartbeats 4000000 in
theorem specEndRod_any (s : ByteArray) (z : Int) (w : World) (hs : s.size ≤ 16777216) (hz : 0 ≤ z ∧ z ≤ 9) : Calls Try.prog 29 #[.string s, .int .i64 z] w (RetEr s z w) := by
 have HR := Lib.hid (fun w => l15Good_any s w hs)
 unfold RetV at HR
 cases hsc : scrB s
 · rw [hsc] at HR
   have HV := Lib.hid (show erV s z = none by unfold erV; rw [if_neg (by rw [hsc]; simp)])
   clear hsc
   unfold RetEr
   rw [HV.out]
   go_enter Try.func29, Try.ntmps29
   go_wp2_with fail
   refine (HR.out _).mono ?_
   rintro e w1 ⟨rfl, hb1⟩
   go_wp2
   go_ret2
   exact ⟨rfl, hb1⟩
 cases hin : inB z 1 8
 · rw [hsc] at HR
   have HV := Lib.hid (show erV s z = none by unfold erV; rw [if_neg (by rw [hin]; simp)])
   have HI := Lib.hid hin
   clear hsc hin
   unfold RetEr
   rw [HV.out]
   go_enter Try.func29, Try.ntmps29
   go_wp2_with fail
   refine (HR.out _).mono ?_
   rintro e w1 ⟨rfl, hb1⟩
   go_wp2_with fail
   refine (l1In_b _ _ _ _ _ HI.out).mono ?_
   rintro e w2 ⟨rfl, hb2⟩
   go_wp2
   go_ret2
   exact ⟨rfl, ext_trans hb1 hb2⟩
 · have hin2 := inB_iff.1 hin
   have hw9 : ∀ x ∈ rulesL s, okW x := rules_okW hsc
   have h81 := rules_81' hsc
   have hs80 : s.size ≤ 80 := by
    have h := hsc
    unfold scrB at h
    simp only [Bool.and_eq_true, decide_eq_true_eq] at h
    exact h.1
   have hrw := fun k l => @rule_word s hsc k l
   have HW := Lib.hid (fun w => l15Words_any s w hs80)
   have hpl := fun (l : List UInt8) (hl : l ∈ wordsL s) => (show l.length ≤ 80 from word_le hs80 hl)
   have hlen := rulesL_len s
   rw [hsc] at HR
   unfold RetEr
   rw [show erV s z = erL z (rulesL s) (rulesL s).length by unfold erV; rw [if_pos ⟨hsc, hin⟩]]
   obtain ⟨X, hX⟩ : ∃ X, rulesL s = X := ⟨_, rfl⟩
   rw [hX] at hrw hlen hw9 h81 ⊢
   obtain ⟨P, hP⟩ : ∃ P, wordsL s = P := ⟨_, rfl⟩
   rw [hP] at HW hrw hpl hlen
   obtain ⟨m, hm⟩ : ∃ m, P.length = m := ⟨_, rfl⟩
   rw [hm] at hlen HW
   have hxm : X.length = m := hlen
   rw [hxm] at h81
   have HM := Lib.hid hm
   have HRW := Lib.hid hrw
   have HPS := Lib.hid hpl
   clear hP hm hrw hpl hlen
   have HI := Lib.hid hin
   have HW9 := Lib.hid hw9
   have HXM := Lib.hid hxm
   have HNO := Lib.hid (fun k => @erL_none z X k)
   have HIN := Lib.hid (fun k r => @erL_in z X (by omega) k r)
   clear hsc hin hX hw9 hxm
   go_enter Try.func29, Try.ntmps29
   go_wp2_with fail
   refine (HR.out _).mono ?_
   rintro e w1 ⟨rfl, hb1⟩

   go_wp2_with fail
   refine (l1In_b _ _ _ _ _ HI.out).mono ?_
   rintro e w2 ⟨rfl, hb2⟩
   have HB := Lib.hid (ext_trans hb1 hb2)
   go_wp2_with fail
   refine (HW.out _).mono ?_
   rintro e w2 ⟨A1, c1, rfl, ho1, hb3⟩
   have HO := Lib.hid ho1
   have HB := Lib.hid (ext_trans HB.out hb3)
   clear ho1 hb3
   clear hb1 hb2
   go_wp2_with fail
   go_loopw [7, 8] (fun v i wr => ∃ (k : Nat) (r : Int), k ≤ m ∧ i = .int .i64 k ∧ v = .int .i64 r ∧ (0 ≤ r ∧ r ≤ z - 1) ∧ Hid (erL z X k = some r) ∧ Hid (Below w2.heap.size w2 wr)) (fun _ i _ => m - (intOf i).toNat)
   case atStart => exact ⟨0, z - 1, Nat.zero_le _, rfl, by go_num, by omega, Lib.hid rfl, Lib.hid (ext_refl _)⟩
   case round =>
    obtain ⟨k, r, hk, rfl, rfl, ⟨hr0, hr1⟩, HE, HX⟩ := hrel
    by_cases hlt : k < m
    · have e2 : (k : Int) < (m : Int) := by omega
      have k0 : (0 : Int) ≤ (k : Int) := by omega
      obtain ⟨l, hl⟩ := list_split (l := P) (k := k) (by rw [HM.out]; exact hlt)
      obtain ⟨x, hxo, hx⟩ := HRW.out k l hl
      obtain ⟨b, o, rfl, hb, c0⟩ := strs_at (Reads.of_own (own_ext HO.out HX.out)) hl
      have HT := Lib.hid (fun w => l15Times_any (str l) x w (by have := HPS.out l (List.mem_of_getElem? hl); rw [str_size]; exact this) (by rw [bl_str]; exact hxo))
      clear hl hxo
      go_wp2_with fail
      refine (HT.out _).mono ?_
      rintro e w3 ⟨p, rfl, hpl, _, hb3⟩
      have HX3 := Lib.hid (ext_trans HX.out hb3)
      have HPL := Lib.hid hpl
      clear hb3 hpl
      obtain ⟨⟨ht1, ht9⟩, _⟩ := HW9.out x (List.mem_of_getElem? hx)
      have HMORE := Lib.hid (erL_more HE.out hx)
      clear hx
      obtain ⟨xt, xc, xd⟩ := x
      dsimp only at ht1 ht9
      have hcase : (xc = 60 ∨ xc = 62 ∨ (xc ≠ 60 ∧ xc ≠ 62)) := by
       by_cases h1 : xc = 60
       · exact .inl h1
       · by_cases h2 : xc = 62
         · exact .inr (.inl h2)
         · exact .inr (.inr ⟨h1, h2⟩)
      rcases hcase with rfl | rfl | ⟨hx1, hx2⟩
      · have HR2 := Lib.hid (show rodO z r ⟨xt, 60, xd⟩ = if 0 ≤ r - (xt : Int) ∧ r - (xt : Int) ≤ z - 1 then some (r - (xt : Int)) else none by rfl)
        have hbp : bl p = [60] := (plain_word HPL.out (.inl rfl)).1
        have e60 : (p.toList == [60]) = true := by rw [lit_iff, hbp]; rfl
        have e62 : (p.toList == [62]) = false := by rw [lit_iff, hbp]; rfl
        clear hbp
        by_cases hok : 0 ≤ r - (xt : Int) ∧ r - (xt : Int) ≤ z - 1
        · have HB8 := Lib.hid (show inB (r - (xt : Int)) 0 (z - 1) = true by rw [inB_iff]; exact hok)
          rw [if_pos hok] at HR2
          go_wp2_with fail
          refine (l1In_b _ _ _ _ _ HB8.out).mono ?_
          rintro e w4 ⟨rfl, hb4⟩
          have HX4 := Lib.hid (ext_trans HX3.out hb4)
          clear hb4
          go_wp2
          go_roundw
          case rel => exact ⟨k + 1, r - (xt : Int), by omega, by go_num, rfl, hok, Lib.hid (by rw [HMORE.out, HR2.out]), HX4⟩
          case measure => simp [intOf]; omega
        · have HB8 := Lib.hid (show inB (r - (xt : Int)) 0 (z - 1) = false by rw [inB_no]; exact hok)
          rw [if_neg hok] at HR2
          go_wp2_with fail
          refine (l1In_b _ _ _ _ _ HB8.out).mono ?_
          rintro e w4 ⟨rfl, hb4⟩
          have HX4 := Lib.hid (ext_trans HX3.out hb4)
          clear hb4
          have HF := Lib.hid (show erL z X X.length = none from HNO.out (k + 1) (by rw [HMORE.out, HR2.out]))
          go_wp2
          go_ret2
          rw [HF.out]
          exact ⟨rfl, ext_trans HB.out HX4.out⟩
      · have HR2 := Lib.hid (show rodO z r ⟨xt, 62, xd⟩ = if 0 ≤ r + (xt : Int) ∧ r + (xt : Int) ≤ z - 1 then some (r + (xt : Int)) else none by rfl)
        have hbp : bl p = [62] := (plain_word HPL.out (.inr rfl)).1
        have e60 : (p.toList == [60]) = false := by rw [lit_iff, hbp]; rfl
        have e62 : (p.toList == [62]) = true := by rw [lit_iff, hbp]; rfl
        clear hbp
        by_cases hok : 0 ≤ r + (xt : Int) ∧ r + (xt : Int) ≤ z - 1
        · have HB8 := Lib.hid (show inB (r + (xt : Int)) 0 (z - 1) = true by rw [inB_iff]; exact hok)
          rw [if_pos hok] at HR2
          go_wp2_with fail
          refine (l1In_b _ _ _ _ _ HB8.out).mono ?_
          rintro e w4 ⟨rfl, hb4⟩
          have HX4 := Lib.hid (ext_trans HX3.out hb4)
          clear hb4
          go_wp2
          go_roundw
          case rel => exact ⟨k + 1, r + (xt : Int), by omega, by go_num, rfl, hok, Lib.hid (by rw [HMORE.out, HR2.out]), HX4⟩
          case measure => simp [intOf]; omega
        · have HB8 := Lib.hid (show inB (r + (xt : Int)) 0 (z - 1) = false by rw [inB_no]; exact hok)
          rw [if_neg hok] at HR2
          go_wp2_with fail
          refine (l1In_b _ _ _ _ _ HB8.out).mono ?_
          rintro e w4 ⟨rfl, hb4⟩
          have HX4 := Lib.hid (ext_trans HX3.out hb4)
          clear hb4
          have HF := Lib.hid (show erL z X X.length = none from HNO.out (k + 1) (by rw [HMORE.out, HR2.out]))
          go_wp2
          go_ret2
          rw [HF.out]
          exact ⟨rfl, ext_trans HB.out HX4.out⟩
      · have HR2 := Lib.hid (show rodO z r ⟨xt, xc, xd⟩ = if 0 ≤ r ∧ r ≤ z - 1 then some (r) else none by unfold rodO; dsimp only; rw [if_neg hx1, if_neg hx2])
        have hbp := plain_not HPL.out hx1 hx2
        have e60 : (p.toList == [60]) = false := by rw [lit_iff]; exact decide_eq_false hbp.1
        have e62 : (p.toList == [62]) = false := by rw [lit_iff]; exact decide_eq_false hbp.2
        clear hbp hx1 hx2
        by_cases hok : 0 ≤ r ∧ r ≤ z - 1
        · have HB8 := Lib.hid (show inB (r) 0 (z - 1) = true by rw [inB_iff]; exact hok)
          rw [if_pos hok] at HR2
          go_wp2_with fail
          refine (l1In_b _ _ _ _ _ HB8.out).mono ?_
          rintro e w4 ⟨rfl, hb4⟩
          have HX4 := Lib.hid (ext_trans HX3.out hb4)
          clear hb4
          go_wp2
          go_roundw
          case rel => exact ⟨k + 1, r, by omega, by go_num, rfl, hok, Lib.hid (by rw [HMORE.out, HR2.out]), HX4⟩
          case measure => simp [intOf]; omega
        · exact absurd ⟨hr0, hr1⟩ hok
    · obtain rfl : k = m := by omega
      have HF := Lib.hid (show erL z X X.length = some r by rw [HXM.out]; exact HE.out)
      go_wp2
      go_ret2
      rw [HF.out]
      exact ⟨rfl, ext_trans HB.out HX.out⟩

end Go.Proofs.Ytihljhikhplegaa
