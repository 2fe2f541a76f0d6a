/- The words of a script: the reference's. -/
import Derived.Test.YtihljhikhplegaaVM5
import Derived.Test.YtihljhikhplegaaVM4
namespace Go.Proofs.Ytihljhikhplegaa
open Go.RowKit
set_option linter.unusedVariables false
set_option linter.unusedSimpArgs false
set_option maxRecDepth 100000 in
set_option maxHeartbeats 4000000 in
theorem l15Plain_any (s : ByteArray) (w : World) (hs : s.size ≤ 80) : Calls Try.prog 78 #[.string s] w fun e w' => e = .returned (.bool (plainO (bl s)).isSome) ∧ Below w.heap.size w w' := by
 rcases (show s.size = 2 ∨ s.size ≠ 2 by omega) with hsz | hsz
 · have hp0 : 0 < s.size := by omega
   have hp1 : 1 < s.size := by omega
   have hq : ((s.size : Nat) : Int) = 2 := by omega
   have h256 : (s[1]'hp1).toNat < 256 := UInt8.toNat_lt _
   have h256' : (s[0]'hp0).toNat < 256 := UInt8.toNat_lt _
   have HPL := plain_two hsz hp0 hp1
   rcases (show ((s[0]'hp0).toNat = 43 ∨ (s[0]'hp0).toNat = 45) ∨ ((s[0]'hp0).toNat ≠ 43 ∧ (s[0]'hp0).toNat ≠ 45) by omega) with hc | ⟨hc1, hc2⟩
   · cases hd : inB ((s[1]'hp1).toNat : Int) 49 57
     · have hd' := inB_no.1 hd
       rw [show (plainO (bl s)).isSome = false by rw [HPL, if_neg]; rfl; rintro ⟨_, h⟩; simp only [digB, decide_eq_true_eq] at h; omega]
       clear HPL hd'
       rcases hc with hc | hc
       · have b43 : (((s[0]'hp0).toNat : Int) == 43) = true := by simp; omega
         go_enter Try.func78, Try.ntmps78
         go_wp2_with fail
         with_reducible refine (l1In_b _ _ _ _ _ hd).mono ?_
         rintro e w1 ⟨rfl, hb1⟩
         go_wp2
         go_ret
         exact ⟨rfl, hb1⟩
       · have b43 : (((s[0]'hp0).toNat : Int) == 43) = false := by simp; omega
         have b45 : (((s[0]'hp0).toNat : Int) == 45) = true := by simp; omega
         go_enter Try.func78, Try.ntmps78
         go_wp2_with fail
         with_reducible refine (l1In_b _ _ _ _ _ hd).mono ?_
         rintro e w1 ⟨rfl, hb1⟩
         go_wp2
         go_ret
         exact ⟨rfl, hb1⟩
     · have hd' := inB_iff.1 hd
       rw [show (plainO (bl s)).isSome = true by rw [HPL, if_pos]; rfl; exact ⟨by rw [c43, c45]; exact hc, by simp only [digB, decide_eq_true_eq]; omega⟩]
       clear HPL hd'
       rcases hc with hc | hc
       · have b43 : (((s[0]'hp0).toNat : Int) == 43) = true := by simp; omega
         go_enter Try.func78, Try.ntmps78
         go_wp2_with fail
         with_reducible refine (l1In_b _ _ _ _ _ hd).mono ?_
         rintro e w1 ⟨rfl, hb1⟩
         go_wp2
         go_ret
         exact ⟨rfl, hb1⟩
       · have b43 : (((s[0]'hp0).toNat : Int) == 43) = false := by simp; omega
         have b45 : (((s[0]'hp0).toNat : Int) == 45) = true := by simp; omega
         go_enter Try.func78, Try.ntmps78
         go_wp2_with fail
         with_reducible refine (l1In_b _ _ _ _ _ hd).mono ?_
         rintro e w1 ⟨rfl, hb1⟩
         go_wp2
         go_ret
         exact ⟨rfl, hb1⟩
   · rw [show (plainO (bl s)).isSome = false by rw [HPL, if_neg]; rfl; rintro ⟨h, _⟩; rw [c43, c45] at h; omega]
     clear HPL
     have b43 : (((s[0]'hp0).toNat : Int) == 43) = false := by simp; omega
     have b45 : (((s[0]'hp0).toNat : Int) == 45) = false := by simp; omega
     go_enter Try.func78, Try.ntmps78
     go_wp2
     go_ret
     exact ⟨rfl, ext_refl _⟩
 · have hq : ¬ ((s.size : Nat) : Int) = 2 := by omega
   have e60 := lit_iff s [60]
   have e62 := lit_iff s [62]
   have e99 := lit_iff s [99]
   by_cases h1 : bl s = [60]
   · rw [decide_eq_true h1] at e60
     rw [show (plainO (bl s)).isSome = true by rw [h1]; rfl]
     clear h1 e62 e99
     go_enter Try.func78, Try.ntmps78
     go_wp2
     go_ret
     exact ⟨rfl, ext_refl _⟩
   rw [decide_eq_false h1] at e60
   by_cases h2 : bl s = [62]
   · rw [decide_eq_true h2] at e62
     rw [show (plainO (bl s)).isSome = true by rw [h2]; rfl]
     clear h1 h2 e99
     go_enter Try.func78, Try.ntmps78
     go_wp2
     go_ret
     exact ⟨rfl, ext_refl _⟩
   rw [decide_eq_false h2] at e62
   by_cases h3 : bl s = [99]
   · rw [decide_eq_true h3] at e99
     rw [show (plainO (bl s)).isSome = true by rw [h3]; rfl]
     clear h1 h2 h3
     go_enter Try.func78, Try.ntmps78
     go_wp2
     go_ret
     exact ⟨rfl, ext_refl _⟩
   rw [decide_eq_false h3] at e99
   rw [show (plainO (bl s)).isSome = false by
    have hl := bl_size s
    match e : bl s with
    | [] => rfl
    | [a] =>
      rw [e] at h1 h2 h3
      unfold plainO
      dsimp only
      rw [if_neg]
      · rfl
      · rintro (rfl | rfl | rfl)
        · exact h1 rfl
        · exact h2 rfl
        · exact h3 rfl
    | [a, b] => rw [e] at hl; simp at hl; omega
    | a :: b :: c :: l => rfl]
   clear h1 h2 h3
   go_enter Try.func78, Try.ntmps78
   go_wp2
   go_ret
   exact ⟨rfl, ext_refl _⟩
theorem l15Plain_b (s : ByteArray) (b : Bool) (w : World) (hs : s.size ≤ 80) (hb : (plainO (bl s)).isSome = b) : Calls Try.prog 78 #[.string s] w fun e w' => e = .returned (.bool b) ∧ Below w.heap.size w w' := by
 subst hb; exact l15Plain_any s w hs
theorem rep_not {s : ByteArray} {hp : 0 < s.size} (h1 : 50 ≤ (s[0]'hp).toNat) (h2 : (s[0]'hp).toNat ≤ 57) : plainO (bl s) = none := by
 rcases (show s.size = 1 ∨ s.size = 2 ∨ 3 ≤ s.size by omega) with h | h | h
 · rw [plain_one h hp, if_neg]
   rw [c60, c62, c99]
   omega
 · rw [plain_two h hp (by omega), if_neg]
   rw [c43, c45]
   omega
 · exact plain_more h
set_option maxRecDepth 100000 in
set_option maxHeartbeats 2000000 in
theorem l15Word_any (s : ByteArray) (w : World) (hs : s.size ≤ 80) : Calls Try.prog 72 #[.string s] w fun e w' => e = .returned (.bool (wordO (bl s)).isSome) ∧ Below w.heap.size w w' := by
 have HP := Lib.hid (fun w => l15Plain_any s w hs)
 rcases (show s.size = 0 ∨ 0 < s.size by omega) with hz | hp0
 · have e0 : bl s = [] := (List.length_eq_zero_iff (l := bl s)).1 (by rw [bl_size]; exact hz)
   rw [e0] at HP ⊢
   have hq : ¬ 1 < ((s.size : Nat) : Int) := by omega
   clear e0
   rw [show (wordO []).isSome = false from rfl]
   rw [show (plainO []).isSome = false from rfl] at HP
   go_enter Try.func72, Try.ntmps72
   go_wp2_with fail
   refine (HP.out _).mono ?_
   rintro e w1 ⟨rfl, hb1⟩
   go_wp2
   go_ret
   exact ⟨rfl, hb1⟩
 have h256 : (s[0]'hp0).toNat < 256 := UInt8.toNat_lt _
 by_cases hrep : (50 ≤ (s[0]'hp0).toNat ∧ (s[0]'hp0).toNat ≤ 57) ∧ 1 < s.size
 · obtain ⟨⟨hr1, hr2⟩, hs1⟩ := hrep
   rw [rep_not hr1 hr2] at HP
   rw [show (none : Option (UInt8 × Nat)).isSome = false from rfl] at HP
   have HT := Lib.hid (fun w => l15Plain_any (s.extract 1 s.size) w (by rw [ByteArray.size_extract]; omega))
   rw [bl_extract, List.take_of_length_le (by rw [bl_size]; exact Nat.le_refl _)] at HT
   have hin := inB_iff.2 (show (50 : Int) ≤ ((s[0]'hp0).toNat : Int) ∧ ((s[0]'hp0).toNat : Int) ≤ 57 by omega)
   rw [show (wordO (bl s)).isSome = (plainO ((bl s).drop 1)).isSome by rw [wordO_rep hs1 hr1 hr2]; simp]
   obtain ⟨bb, hbb⟩ : ∃ bb, (plainO ((bl s).drop 1)).isSome = bb := ⟨_, rfl⟩
   rw [hbb] at HT ⊢
   clear hbb
   go_enter Try.func72, Try.ntmps72
   go_wp2_with fail
   refine (HP.out _).mono ?_
   rintro e w1 ⟨rfl, hb1⟩
   go_wp2_with fail
   with_reducible refine (l1In_b _ _ _ _ _ hin).mono ?_
   rintro e w2 ⟨rfl, hb2⟩
   go_wp2_with fail
   refine (HT.out _).mono ?_
   rintro e w3 ⟨rfl, hb3⟩
   go_wp2
   go_ret
   exact ⟨rfl, ext_trans (ext_trans hb1 hb2) hb3⟩
 · rw [show (wordO (bl s)).isSome = (plainO (bl s)).isSome by rw [wordO_one hp0 hrep]; simp]
   cases hpl : (plainO (bl s)).isSome
   · rw [hpl] at HP
     clear hpl
     by_cases hs1 : 1 < s.size
     · have hin := inB_no.2 (show ¬ ((50 : Int) ≤ ((s[0]'hp0).toNat : Int) ∧ ((s[0]'hp0).toNat : Int) ≤ 57) by omega)
       clear hrep
       go_enter Try.func72, Try.ntmps72
       go_wp2_with fail
       refine (HP.out _).mono ?_
       rintro e w1 ⟨rfl, hb1⟩
       go_wp2_with fail
       with_reducible refine (l1In_b _ _ _ _ _ hin).mono ?_
       rintro e w2 ⟨rfl, hb2⟩
       go_wp2
       go_ret
       exact ⟨rfl, ext_trans hb1 hb2⟩
     · have hq : ¬ 1 < ((s.size : Nat) : Int) := by omega
       clear hrep
       go_enter Try.func72, Try.ntmps72
       go_wp2_with fail
       refine (HP.out _).mono ?_
       rintro e w1 ⟨rfl, hb1⟩
       go_wp2
       go_ret
       exact ⟨rfl, hb1⟩
   · rw [hpl] at HP
     clear hpl hrep
     go_enter Try.func72, Try.ntmps72
     go_wp2_with fail
     refine (HP.out _).mono ?_
     rintro e w1 ⟨rfl, hb1⟩
     go_wp2
     go_ret
     exact ⟨rfl, hb1⟩
set_option maxRecDepth 100000 in
theorem l15Words_any (s : ByteArray) (w : World) (hs : s.size ≤ 80) : Calls Try.prog 38 #[.string s] w (RetSlice w 9 1 (wordsL s).length (strsV (wordsL s))) := by
 by_cases h0 : s.size = 0
 · have es : s = ⟨#[]⟩ := bl_inj (by rw [(List.length_eq_zero_iff (l := bl s)).1 (by rw [bl_size]; exact h0)]; rfl)
   have hw0 : wordsL s = [] := by unfold wordsL; rw [if_pos h0]
   rw [hw0]
   subst es
   clear h0 hw0
   have ho := Lib.hid (own_lit_at w 9 1 (H := w.heap.size) (B := w.heap.size) rfl (Nat.le_refl _))
   go_enter Try.func38, Try.ntmps38
   go_wp2
   go_ret
   exact ⟨_, _, rfl, ho.out, ext_alloc (ext_refl _) _⟩
 · have hw : wordsL s = splitL 32 (bl s) := by unfold wordsL; rw [if_neg h0]
   have hne : (s.toList == []) = false := by rw [lit_iff, decide_eq_false]; intro e; have := congrArg List.length e; rw [bl_size] at this; exact h0 this
   rw [hw]
   have HSP := Lib.hid (fun w => l1Split_any s 32 w (by omega))
   clear hw
   go_enter Try.func38, Try.ntmps38
   go_wp2_with fail
   refine (HSP.out _).mono ?_
   rintro e w1 ⟨A1, c1, rfl, ho1, hb1⟩
   go_wp2
   go_ret
   exact ⟨_, _, rfl, ho1, hb1⟩
set_option maxRecDepth 100000 in
set_option maxHeartbeats 2000000 in
theorem l15Good_any (s : ByteArray) (w : World) (hs : s.size ≤ 16777216) : Calls Try.prog 42 #[.string s] w (RetV (.bool (scrB s)) w) := by
 by_cases h80 : 80 < s.size
 · have e : scrB s = false := by unfold scrB; rw [decide_eq_false (by omega)]; rfl
   rw [e]
   clear e
   go_enter Try.func42, Try.ntmps42
   go_wp2
   go_ret
   exact ⟨rfl, ext_refl _⟩
 have hpart := Lib.hid (fun x => @words_part s x)
 have HW := Lib.hid (fun w => l15Words_any s w (by omega))
 have hlen := wordsL_len s
 obtain ⟨P, hP⟩ : ∃ P, wordsL s = P := ⟨_, rfl⟩
 have E := Lib.hid (show scrB s = P.all fun l => (wordO l).isSome by unfold scrB; rw [hP, decide_eq_true (by omega)]; rfl)
 rw [hP] at hlen HW hpart
 clear hP
 go_enter Try.func42, Try.ntmps42
 go_wp2_with fail
 refine (HW.out _).mono ?_
 rintro e w1 ⟨A1, c1, rfl, ho1, hb1⟩
 have ho1 := Lib.hid ho1
 have hb1 := Lib.hid hb1
 go_wp2
 go_loopw [4] (fun i wr => ∃ (k : Nat), k ≤ P.length ∧ i = .int .i64 k ∧ Hid (okTo P k = true) ∧ Hid (wr.ownsRow w.heap.size 9 1 (.slice A1 P.length c1) P.length (strsV P)) ∧ Hid (Below w.heap.size w wr)) (fun i _ => P.length - (intOf i).toNat)
 case atStart => exact ⟨0, Nat.zero_le _, rfl, Lib.hid rfl, ho1, hb1⟩
 case round =>
  obtain ⟨k, hk, rfl, hok, hsr, hbr⟩ := hrel
  by_cases hlt : k < P.length
  · obtain ⟨x, hx⟩ := list_split (l := P) (k := k) hlt
    obtain ⟨b, o, hA, hbb, c0⟩ := strs_at (Reads.of_own hsr.out) hx
    subst hA
    have hxl := hpart.out x (List.mem_of_getElem? hx)
    have HR := Lib.hid (fun w => l15Word_any (str x) w (by rw [str_size]; omega))
    rw [bl_str] at HR
    rcases ho : wordO x with _ | r
    · rw [ho, show (none : Option RW).isSome = false from rfl] at HR
      have hbad := Lib.hid (show scrB s = false by rw [E.out]; exact ok_bad hx ho)
      clear hx ho
      go_wp2_with fail
      refine (HR.out _).mono ?_
      rintro e w2 ⟨rfl, hb2⟩
      go_wp2
      go_ret
      exact ⟨ret_bool (by rw [hbad.out]), ext_trans hbr.out hb2⟩
    · rw [ho, show (some r).isSome = true from rfl] at HR
      have hok2 := Lib.hid (okTo_more hok.out hx (by rw [ho]; rfl))
      clear hx ho
      go_wp2_with fail
      refine (HR.out _).mono ?_
      rintro e w2 ⟨rfl, hb2⟩
      go_wp2
      go_roundw
      case rel => exact ⟨k + 1, by omega, by go_num, hok2, Lib.hid (own_ext hsr.out hb2), Lib.hid (ext_trans hbr.out hb2)⟩
      case measure => simp [intOf]; omega
  · obtain rfl : k = P.length := by omega
    have hall := Lib.hid (show scrB s = true by rw [E.out]; have := hok.out; unfold okTo at this; rwa [List.take_of_length_le (Nat.le_refl _)] at this)
    go_wp2
    go_ret
    exact ⟨ret_bool (by rw [hall.out]), hbr.out⟩
/-- how often, and the plain word -/
def plainOf (l : List UInt8) : List UInt8 := match l with | c :: d :: rest => if repB c = true then d :: rest else l | _ => l
end Go.Proofs.Ytihljhikhplegaa
