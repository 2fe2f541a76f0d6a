/- Reading a number: the reference's l1Read and ParseInt, walked. -/
import Derived.Test.YtkcbgiegoadkbaaGreatVParW
namespace Go.Proofs.YtkcbgiegoadkbaaGreat
open Go.RowKit
set_option linter.unusedVariables false
set_option linter.unusedSimpArgs false
theorem ba_iff (a b : ByteArray) : (a.toList = b.toList) ↔ a = b := by
 rw [ByteArray.toList_eq, ByteArray.toList_eq]
 exact ⟨fun h => bl_inj h, fun h => by rw [h]⟩
theorem ba_yes {a b : ByteArray} (h : a = b) : (a.toList == b.toList) = true := by rw [beq_iff_eq]; exact (ba_iff a b).2 h
theorem ba_no {a b : ByteArray} (h : a ≠ b) : (a.toList == b.toList) = false := by rw [beq_eq_false_iff_ne]; exact mt (ba_iff a b).1 h
theorem ba_nyes {a b : ByteArray} (h : a = b) : (!a.toList == b.toList) = false := by rw [ba_yes h]; rfl
theorem ba_nno {a b : ByteArray} (h : a ≠ b) : (!a.toList == b.toList) = true := by rw [ba_no h]; rfl
theorem l1In_yes (n lo hi : Int) (w : World) (h : lo ≤ n ∧ n ≤ hi) : Calls Tryz.prog 82 #[.int .i64 n, .int .i64 lo, .int .i64 hi] w fun e w' => e = .returned (.bool true) ∧ w = w' := by
 have := l1In_any n lo hi w
 rwa [decide_eq_true h] at this
theorem l1In_no (n lo hi : Int) (w : World) (h : ¬ (lo ≤ n ∧ n ≤ hi)) : Calls Tryz.prog 82 #[.int .i64 n, .int .i64 lo, .int .i64 hi] w fun e w' => e = .returned (.bool false) ∧ w = w' := by
 have := l1In_any n lo hi w
 rwa [decide_eq_false h] at this
theorem val_bound6 {l : List UInt8} {k : Nat} (hk : k ≤ 6) (hd : (l.take k).all isD = true) : valL (l.take k) < 1000000 := by
 have h1 := valL_lt (l.take k).length _ rfl hd
 have h2 : (10 : Nat) ^ (l.take k).length ≤ 10 ^ 6 := Nat.pow_le_pow_right (by omega) (by have := List.length_take_le k l; omega)
 omega
set_option maxRecDepth 100000 in
set_option maxHeartbeats 4000000 in
theorem l1Read_any (s : ByteArray) (w : World) (hs : s.size ≤ 16777216) :
 Calls Tryz.prog 91 #[.string s] w (ParRet (parO s) w) := by
 have hlen := refT_len (bl s)
 obtain ⟨tt, hT⟩ : ∃ tt, tt = str (refT (bl s)) := ⟨_, rfl⟩
 have hbT : bl tt = refT (bl s) := by rw [hT, bl_str]
 have hsT : tt.size = (refT (bl s)).length := by rw [← bl_size, hbT]
 have hcase : (parB (bl s) = true ∧ 1 < (bl s).length ∧ ∃ h : 0 < s.size, ((s[0].toNat : Int) == 45) = true) ∨
  (parB (bl s) = false ∧ 1 < (bl s).length ∧ ∃ h : 0 < s.size, ((s[0].toNat : Int) == 45) = false) ∨ ¬ 1 < (bl s).length := by
  by_cases h1 : 1 < (bl s).length
  · have h0 : 0 < s.size := by rw [← bl_size]; omega
    have hz := bl_zero h0 (v := 45)
    have h45 : (45 : UInt8).toNat = 45 := rfl
    rw [h45] at hz
    rcases hb : parB (bl s) with _ | _
    · refine .inr (.inl ⟨rfl, h1, h0, ?_⟩)
      have := mt hz.2 (by simpa [parB] using hb)
      simp; omega
    · refine .inl ⟨rfl, h1, h0, ?_⟩
      have := hz.1 (by simpa [parB] using hb)
      simp; omega
  · exact .inr (.inr h1)
 have hbs := bl_size s
 have HP1 := Lib.hid (fun (h : 1 ≤ (refT (bl s)).length) (h6 : (refT (bl s)).length ≤ 6) (hd : (refT (bl s)).all isD = true) => ref_yes h h6 hd)
 have HP2 := Lib.hid (fun (h : (refT (bl s)).length < 1 ∨ 6 < (refT (bl s)).length) => ref_size h)
 have HP3 := Lib.hid (fun (h : (refT (bl s)).all isD = false) => ref_dig h)
 rw [← hbT] at HP1 HP2 HP3
 have HBT := Lib.hid hbT
 have HST := Lib.hid hsT
 have HT := Lib.hid hT
 have HLEN := Lib.hid hlen
 have HBS := Lib.hid hbs
 have HBTL := Lib.hid (bl_size tt)
 have hTs : tt.size ≤ s.size := by rw [hsT, hlen, ← hbs]; split <;> omega
 have HSG : Hid ((tt.size < s.size ∧ refZ (bl s) = -(valL (bl tt) : Int)) ∨ (tt.size = s.size ∧ refZ (bl s) = (valL (bl tt) : Int))) := Lib.hid (by
  rw [hsT, hlen, hbT]
  unfold refZ
  split
  · exact .inl ⟨by omega, rfl⟩
  · exact .inr ⟨by omega, rfl⟩)
 clear hT hbT hsT hlen hbs
 rcases hcase with ⟨hp, h1, h0, h45⟩ | ⟨hp, h1, h0, h45⟩ | h1
 · have h1t : decide ((1 : Int) < s.size) = true := decide_eq_true (by have := HBS.out; omega)
   have he : s.extract 1 s.size = tt := bl_inj (by
    rw [HBT.out, bl_extract, List.take_of_length_le (by rw [HBS.out]; exact Nat.le_refl _), refT, if_pos ⟨hp, h1⟩])
   have HE := Lib.hid he
   have HE2 : Hid (s.size - 1 = tt.size) := Lib.hid (by rw [← he]; simp)
   clear hp h1 he
   go_enter Tryz.func91, Tryz.ntmps91
   go_wp2_with fail
   rw [HE.out, HE2.out]
   by_cases hin : 1 ≤ (tt.size : Int) ∧ (tt.size : Int) ≤ 6
   · with_reducible refine (l1In_yes _ 1 6 _ hin).mono ?_
     rintro e w' ⟨rfl, rfl⟩
     obtain ⟨hi1, hi2⟩ := hin
     go_wp2_with fail
     go_loopw [5, 6] (fun n i wr => ∃ k h : Nat, k ≤ tt.size ∧ h < 1000000 ∧ i = .int .i64 k ∧ n = .int .i64 h ∧ Below w.heap.size w wr ∧ Hid (((bl tt).take k).all isD = true) ∧ Hid (valL ((bl tt).take k) = h)) (fun _ i _ => tt.size - (intOf i).toNat)
     case atStart => exact ⟨0, 0, Nat.zero_le _, by omega, rfl, rfl, ext_refl _, Lib.hid rfl, Lib.hid rfl⟩
     case round =>
      obtain ⟨k, h, hk, hh, rfl, rfl, hbw, hal, hva⟩ := hrel
      by_cases hlt : k < tt.size
      · have hc := bl_get hlt
        have hc8 := UInt8.toNat_lt tt[k]
        rcases isD_cases tt[k] with ⟨hd, a1, a2⟩ | ⟨hd, a1⟩ | ⟨hd, a1, a2⟩
        · have hn1 := Lib.hid (all_succ hc hal.out hd)
          have hn2 := Lib.hid (val_succ hc hva.out)
          have hn3 : 10 * h + (tt[k].toNat - 48) < 1000000 := by rw [← hn2.out]; exact val_bound6 (by omega) hn1.out
          have b1 : decide (tt[k].toNat < 48) = false := by simp; omega
          have b2 : decide (57 < tt[k].toNat) = false := by simp; omega
          clear hc hd
          go_wp2
          go_roundw
          case rel => exact ⟨k + 1, 10 * h + (tt[k].toNat - 48), by omega, hn3, by go_num, by go_num, hbw, hn1, hn2⟩
          case measure => simp [intOf]; omega
        · have hbad := Lib.hid (HP3.out (all_not hc hd))
          clear hc hd
          go_wp2
          go_ret2
          exact ⟨by rw [hbad.out]; rfl, hbw⟩
        · have hbad := Lib.hid (HP3.out (all_not hc hd))
          have b1 : decide (tt[k].toNat < 48) = false := by simp; omega
          clear hc hd
          go_wp2
          go_ret2
          exact ⟨by rw [hbad.out]; rfl, hbw⟩
      · obtain rfl : k = tt.size := by omega
        have hfin := Lib.hid (show valL (bl tt) = h ∧ (bl tt).all isD = true from by
         have ht : (bl tt).take tt.size = bl tt := List.take_of_length_le (by rw [HBTL.out]; exact Nat.le_refl _)
         have ha := hal.out
         have hv := hva.out
         rw [ht] at ha hv
         exact ⟨hv, ha⟩)
        have hyes := HP1.out (by rw [HBTL.out]; omega) (by rw [HBTL.out]; omega) hfin.out.2
        have hsg := HSG.out
        rw [hfin.out.1] at hsg
        rcases hsg with ⟨hts, hz⟩ | ⟨hts, hz⟩
        all_goals
         rw [hz] at hyes
         first
          | have hdc : decide (tt.size < s.size) = true := decide_eq_true hts
          | have hdc : decide (tt.size < s.size) = false := decide_eq_false (by omega)
          | have hdc : True := trivial
         try clear hts
         clear hz
        · by_cases he2 : decI (-(h : Int)) = s
          · rw [if_pos he2] at hyes
            have HY := Lib.hid hyes
            have hne := ba_nyes he2
            have hne1 := ba_yes he2
            clear he2 hyes
            go_wp2_with (go_at_call 45; refine (l1Num_any _ _ (by omega) (by omega)).mono ?_; rintro e w' ⟨rfl, hb⟩)
            go_ret2
            exact ⟨by rw [HY.out]; rfl, ext_trans hbw hb⟩
          · rw [if_neg he2] at hyes
            have HY := Lib.hid hyes
            have hne := ba_nno he2
            have hne1 := ba_no he2
            clear he2 hyes
            go_wp2_with (go_at_call 45; refine (l1Num_any _ _ (by omega) (by omega)).mono ?_; rintro e w' ⟨rfl, hb⟩)
            go_ret2
            exact ⟨by rw [HY.out]; rfl, ext_trans hbw hb⟩
        · by_cases he2 : decI (h : Int) = s
          · rw [if_pos he2] at hyes
            have HY := Lib.hid hyes
            have hne := ba_nyes he2
            have hne1 := ba_yes he2
            clear he2 hyes
            go_wp2_with (go_at_call 45; refine (l1Num_any _ _ (by omega) (by omega)).mono ?_; rintro e w' ⟨rfl, hb⟩)
            go_ret2
            exact ⟨by rw [HY.out]; rfl, ext_trans hbw hb⟩
          · rw [if_neg he2] at hyes
            have HY := Lib.hid hyes
            have hne := ba_nno he2
            have hne1 := ba_no he2
            clear he2 hyes
            go_wp2_with (go_at_call 45; refine (l1Num_any _ _ (by omega) (by omega)).mono ?_; rintro e w' ⟨rfl, hb⟩)
            go_ret2
            exact ⟨by rw [HY.out]; rfl, ext_trans hbw hb⟩
   · have hbad := Lib.hid (HP2.out (by rw [HBTL.out]; omega))
     with_reducible refine (l1In_no _ 1 6 _ hin).mono ?_
     rintro e w' ⟨rfl, rfl⟩
     clear hin
     go_wp2
     go_ret2
     exact ⟨by rw [hbad.out]; rfl, ext_refl _⟩
 · have h1t : decide ((1 : Int) < s.size) = true := decide_eq_true (by have := HBS.out; omega)
   obtain rfl : tt = s := bl_inj (by rw [HBT.out, refT, if_neg (by rw [hp]; simp)])
   clear hp h1
   go_enter Tryz.func91, Tryz.ntmps91
   go_wp2_with fail
   by_cases hin : 1 ≤ (tt.size : Int) ∧ (tt.size : Int) ≤ 6
   · with_reducible refine (l1In_yes _ 1 6 _ hin).mono ?_
     rintro e w' ⟨rfl, rfl⟩
     obtain ⟨hi1, hi2⟩ := hin
     go_wp2_with fail
     go_loopw [5, 6] (fun n i wr => ∃ k h : Nat, k ≤ tt.size ∧ h < 1000000 ∧ i = .int .i64 k ∧ n = .int .i64 h ∧ Below w.heap.size w wr ∧ Hid (((bl tt).take k).all isD = true) ∧ Hid (valL ((bl tt).take k) = h)) (fun _ i _ => tt.size - (intOf i).toNat)
     case atStart => exact ⟨0, 0, Nat.zero_le _, by omega, rfl, rfl, ext_refl _, Lib.hid rfl, Lib.hid rfl⟩
     case round =>
      obtain ⟨k, h, hk, hh, rfl, rfl, hbw, hal, hva⟩ := hrel
      by_cases hlt : k < tt.size
      · have hc := bl_get hlt
        have hc8 := UInt8.toNat_lt tt[k]
        rcases isD_cases tt[k] with ⟨hd, a1, a2⟩ | ⟨hd, a1⟩ | ⟨hd, a1, a2⟩
        · have hn1 := Lib.hid (all_succ hc hal.out hd)
          have hn2 := Lib.hid (val_succ hc hva.out)
          have hn3 : 10 * h + (tt[k].toNat - 48) < 1000000 := by rw [← hn2.out]; exact val_bound6 (by omega) hn1.out
          have b1 : decide (tt[k].toNat < 48) = false := by simp; omega
          have b2 : decide (57 < tt[k].toNat) = false := by simp; omega
          clear hc hd
          go_wp2
          go_roundw
          case rel => exact ⟨k + 1, 10 * h + (tt[k].toNat - 48), by omega, hn3, by go_num, by go_num, hbw, hn1, hn2⟩
          case measure => simp [intOf]; omega
        · have hbad := Lib.hid (HP3.out (all_not hc hd))
          clear hc hd
          go_wp2
          go_ret2
          exact ⟨by rw [hbad.out]; rfl, hbw⟩
        · have hbad := Lib.hid (HP3.out (all_not hc hd))
          have b1 : decide (tt[k].toNat < 48) = false := by simp; omega
          clear hc hd
          go_wp2
          go_ret2
          exact ⟨by rw [hbad.out]; rfl, hbw⟩
      · obtain rfl : k = tt.size := by omega
        have hfin := Lib.hid (show valL (bl tt) = h ∧ (bl tt).all isD = true from by
         have ht : (bl tt).take tt.size = bl tt := List.take_of_length_le (by rw [HBTL.out]; exact Nat.le_refl _)
         have ha := hal.out
         have hv := hva.out
         rw [ht] at ha hv
         exact ⟨hv, ha⟩)
        have hyes := HP1.out (by rw [HBTL.out]; omega) (by rw [HBTL.out]; omega) hfin.out.2
        have hsg := HSG.out
        rw [hfin.out.1] at hsg
        rcases hsg with ⟨hts, hz⟩ | ⟨hts, hz⟩
        · exact absurd hts (Nat.lt_irrefl _)
        all_goals
         rw [hz] at hyes
         first
          | have hdc : decide (tt.size < tt.size) = true := decide_eq_true hts
          | have hdc : decide (tt.size < tt.size) = false := decide_eq_false (by omega)
          | have hdc : True := trivial
         try clear hts
         clear hz
        · by_cases he2 : decI (h : Int) = tt
          · rw [if_pos he2] at hyes
            have HY := Lib.hid hyes
            have hne := ba_nyes he2
            have hne1 := ba_yes he2
            clear he2 hyes
            go_wp2_with (go_at_call 45; refine (l1Num_any _ _ (by omega) (by omega)).mono ?_; rintro e w' ⟨rfl, hb⟩)
            go_ret2
            exact ⟨by rw [HY.out]; rfl, ext_trans hbw hb⟩
          · rw [if_neg he2] at hyes
            have HY := Lib.hid hyes
            have hne := ba_nno he2
            have hne1 := ba_no he2
            clear he2 hyes
            go_wp2_with (go_at_call 45; refine (l1Num_any _ _ (by omega) (by omega)).mono ?_; rintro e w' ⟨rfl, hb⟩)
            go_ret2
            exact ⟨by rw [HY.out]; rfl, ext_trans hbw hb⟩
   · have hbad := Lib.hid (HP2.out (by rw [HBTL.out]; omega))
     with_reducible refine (l1In_no _ 1 6 _ hin).mono ?_
     rintro e w' ⟨rfl, rfl⟩
     clear hin
     go_wp2
     go_ret2
     exact ⟨by rw [hbad.out]; rfl, ext_refl _⟩
 · have h1t : decide ((1 : Int) < s.size) = false := decide_eq_false (by have := HBS.out; omega)
   obtain rfl : tt = s := bl_inj (by rw [HBT.out, refT, if_neg (by omega)])
   clear h1
   go_enter Tryz.func91, Tryz.ntmps91
   go_wp2_with fail
   by_cases hin : 1 ≤ (tt.size : Int) ∧ (tt.size : Int) ≤ 6
   · with_reducible refine (l1In_yes _ 1 6 _ hin).mono ?_
     rintro e w' ⟨rfl, rfl⟩
     obtain ⟨hi1, hi2⟩ := hin
     go_wp2_with fail
     go_loopw [5, 6] (fun n i wr => ∃ k h : Nat, k ≤ tt.size ∧ h < 1000000 ∧ i = .int .i64 k ∧ n = .int .i64 h ∧ Below w.heap.size w wr ∧ Hid (((bl tt).take k).all isD = true) ∧ Hid (valL ((bl tt).take k) = h)) (fun _ i _ => tt.size - (intOf i).toNat)
     case atStart => exact ⟨0, 0, Nat.zero_le _, by omega, rfl, rfl, ext_refl _, Lib.hid rfl, Lib.hid rfl⟩
     case round =>
      obtain ⟨k, h, hk, hh, rfl, rfl, hbw, hal, hva⟩ := hrel
      by_cases hlt : k < tt.size
      · have hc := bl_get hlt
        have hc8 := UInt8.toNat_lt tt[k]
        rcases isD_cases tt[k] with ⟨hd, a1, a2⟩ | ⟨hd, a1⟩ | ⟨hd, a1, a2⟩
        · have hn1 := Lib.hid (all_succ hc hal.out hd)
          have hn2 := Lib.hid (val_succ hc hva.out)
          have hn3 : 10 * h + (tt[k].toNat - 48) < 1000000 := by rw [← hn2.out]; exact val_bound6 (by omega) hn1.out
          have b1 : decide (tt[k].toNat < 48) = false := by simp; omega
          have b2 : decide (57 < tt[k].toNat) = false := by simp; omega
          clear hc hd
          go_wp2
          go_roundw
          case rel => exact ⟨k + 1, 10 * h + (tt[k].toNat - 48), by omega, hn3, by go_num, by go_num, hbw, hn1, hn2⟩
          case measure => simp [intOf]; omega
        · have hbad := Lib.hid (HP3.out (all_not hc hd))
          clear hc hd
          go_wp2
          go_ret2
          exact ⟨by rw [hbad.out]; rfl, hbw⟩
        · have hbad := Lib.hid (HP3.out (all_not hc hd))
          have b1 : decide (tt[k].toNat < 48) = false := by simp; omega
          clear hc hd
          go_wp2
          go_ret2
          exact ⟨by rw [hbad.out]; rfl, hbw⟩
      · obtain rfl : k = tt.size := by omega
        have hfin := Lib.hid (show valL (bl tt) = h ∧ (bl tt).all isD = true from by
         have ht : (bl tt).take tt.size = bl tt := List.take_of_length_le (by rw [HBTL.out]; exact Nat.le_refl _)
         have ha := hal.out
         have hv := hva.out
         rw [ht] at ha hv
         exact ⟨hv, ha⟩)
        have hyes := HP1.out (by rw [HBTL.out]; omega) (by rw [HBTL.out]; omega) hfin.out.2
        have hsg := HSG.out
        rw [hfin.out.1] at hsg
        rcases hsg with ⟨hts, hz⟩ | ⟨hts, hz⟩
        · exact absurd hts (Nat.lt_irrefl _)
        all_goals
         rw [hz] at hyes
         first
          | have hdc : decide (tt.size < tt.size) = true := decide_eq_true hts
          | have hdc : decide (tt.size < tt.size) = false := decide_eq_false (by omega)
          | have hdc : True := trivial
         try clear hts
         clear hz
        · by_cases he2 : decI (h : Int) = tt
          · rw [if_pos he2] at hyes
            have HY := Lib.hid hyes
            have hne := ba_nyes he2
            have hne1 := ba_yes he2
            clear he2 hyes
            go_wp2_with (go_at_call 45; refine (l1Num_any _ _ (by omega) (by omega)).mono ?_; rintro e w' ⟨rfl, hb⟩)
            go_ret2
            exact ⟨by rw [HY.out]; rfl, ext_trans hbw hb⟩
          · rw [if_neg he2] at hyes
            have HY := Lib.hid hyes
            have hne := ba_nno he2
            have hne1 := ba_no he2
            clear he2 hyes
            go_wp2_with (go_at_call 45; refine (l1Num_any _ _ (by omega) (by omega)).mono ?_; rintro e w' ⟨rfl, hb⟩)
            go_ret2
            exact ⟨by rw [HY.out]; rfl, ext_trans hbw hb⟩
   · have hbad := Lib.hid (HP2.out (by rw [HBTL.out]; omega))
     with_reducible refine (l1In_no _ 1 6 _ hin).mono ?_
     rintro e w' ⟨rfl, rfl⟩
     clear hin
     go_wp2
     go_ret2
     exact ⟨by rw [hbad.out]; rfl, ext_refl _⟩
theorem specParseInt_any (s : ByteArray) (w : World) (hs : s.size ≤ 16777216) :
 Calls Tryz.prog 73 #[.string s] w (ParRet (parO s) w) := by
 have H := Lib.hid (fun (w : World) => l1Read_any s w hs)
 obtain ⟨o, ho⟩ : ∃ o, parO s = o := ⟨_, rfl⟩
 rw [ho] at H ⊢
 clear ho
 go_enter Tryz.func73, Tryz.ntmps73
 go_wp2_with (go_at_call 91; refine (H.out _).mono ?_; rintro e w' ⟨rfl, hb⟩)
 go_ret2
 exact ⟨rfl, hb⟩
end Go.Proofs.YtkcbgiegoadkbaaGreat
