/- Reading a number: the program's number and ParseInt, the reference's l1Read and ParseInt, walked. -/
import Derived.Test.YtkcbgiegoadkbaaGreatVPar
import Derived.Test.YtkcbgiegoadkbaaGreatVM1
namespace Go.Proofs.YtkcbgiegoadkbaaGreat
open Go.RowKit
set_option linter.unusedVariables false
set_option linter.unusedSimpArgs false
def numV (s : ByteArray) : Nat := (numO (bl s)).getD 0
theorem numO_of {l : List UInt8} (h0 : l.length ≠ 0) (h9 : ¬ 9 < l.length) (hz : ¬ (l[0]? = some 48 ∧ 1 < l.length)) (hd : l.all isD = true) : numO l = some (valL l) := by
 unfold numO
 rw [if_neg]
 rintro (h | h | h | h)
 · exact h0 h
 · exact h9 h
 · exact hz h
 · rw [hd] at h; cases h
theorem all_succ {l : List UInt8} {k : Nat} {c : UInt8} (hc : l[k]? = some c) (h : (l.take k).all isD = true) (hd : isD c = true) : (l.take (k + 1)).all isD = true := by
 rw [List.take_add_one, hc]
 simp [h, hd]
theorem all_not {l : List UInt8} {k : Nat} {c : UInt8} (hc : l[k]? = some c) (hd : isD c = false) : l.all isD = false := by
 rw [Bool.eq_false_iff]
 intro h
 rw [List.all_eq_true] at h
 have := h c (List.mem_of_getElem? hc)
 rw [hd] at this; cases this
theorem val_succ {l : List UInt8} {k h : Nat} {c : UInt8} (hc : l[k]? = some c) (hv : valL (l.take k) = h) : valL (l.take (k + 1)) = 10 * h + (c.toNat - 48) := by
 rw [List.take_add_one, hc, ← hv]
 exact valL_snoc _ _
theorem val_bound {l : List UInt8} {k : Nat} (hk : k ≤ 9) (hd : (l.take k).all isD = true) : valL (l.take k) < 1000000000 := by
 have h1 := valL_lt (l.take k).length _ rfl hd
 have h2 : (10 : Nat) ^ (l.take k).length ≤ 10 ^ 9 := Nat.pow_le_pow_right (by omega) (by have := List.length_take_le k l; omega)
 omega
theorem isD_cases (c : UInt8) : (isD c = true ∧ 48 ≤ c.toNat ∧ c.toNat ≤ 57) ∨ (isD c = false ∧ c.toNat < 48) ∨ (isD c = false ∧ 48 ≤ c.toNat ∧ 57 < c.toNat) := by
 simp [isD]
 omega
theorem bl_zero {s : ByteArray} (h : 0 < s.size) {v : UInt8} : (bl s)[0]? = some v ↔ s[0].toNat = v.toNat := by
 rw [bl_get h]
 constructor
 · intro e; injection e with e; rw [e]
 · intro e; rw [UInt8.toNat_inj.1 e]
def NumRetO (o : Option Nat) (w : World) (e : Ending) (w' : World) : Prop := e = .returned (.tuple #[.int .i64 ((o.getD 0 : Nat) : Int), .bool o.isSome]) ∧ w = w'
set_option maxHeartbeats 2000000 in
theorem number_any (s : ByteArray) (w : World) (hs : s.size ≤ 16777216) :
 Calls Tryz.prog 84 #[.string s] w (NumRetO (numO (bl s)) w) := by
 have hbs := bl_size s
 by_cases h0 : s.size = 0
 · rw [show numO (bl s) = none from numO_none (.inl (by omega))]
   have h1 : ((s.size : Int) == 0) = true := beq_iff_eq.2 (by omega)
   clear hbs h0
   go_enter Tryz.func84, Tryz.ntmps84
   go_wp2
   go_ret2
   exact ⟨rfl, rfl⟩
 have h1 : ((s.size : Int) == 0) = false := beq_eq_false_iff_ne.2 (by omega)
 by_cases h9 : 9 < s.size
 · rw [show numO (bl s) = none from numO_none (.inr (.inl (by omega)))]
   have h2 : decide ((9 : Int) < s.size) = true := by simp; omega
   clear hbs h0 h9
   go_enter Tryz.func84, Tryz.ntmps84
   go_wp2
   go_ret2
   exact ⟨rfl, rfl⟩
 have h2 : decide ((9 : Int) < s.size) = false := by simp; omega
 have hpos : 0 < s.size := by omega
 have hb0 := bl_zero hpos (v := 48)
 by_cases hz : s[0].toNat = 48 ∧ 1 < s.size
 · rw [show numO (bl s) = none from numO_none (.inr (.inr (.inl ⟨hb0.2 hz.1, by omega⟩)))]
   have h3 : ((s[0].toNat : Int) == 48) = true := by simp; omega
   have h4 : decide ((1 : Int) < s.size) = true := by simp; omega
   clear hbs h0 h9 hz hb0
   go_enter Tryz.func84, Tryz.ntmps84
   go_wp2
   go_ret2
   exact ⟨rfl, rfl⟩
 have hnz : ¬ ((bl s)[0]? = some 48 ∧ 1 < (bl s).length) := by
  rintro ⟨a, b⟩
  exact hz ⟨hb0.1 a, by omega⟩
 have HNZ := Lib.hid hnz
 have hs9 : s.size ≤ 9 := by omega
 have HBS := Lib.hid hbs
 have hcase : (((s[0].toNat : Int) == 48) = true ∧ decide ((1 : Int) < s.size) = false) ∨ ((s[0].toNat : Int) == 48) = false := by
  by_cases e : s[0].toNat = 48
  · exact .inl ⟨by simp; omega, by simp; omega⟩
  · exact .inr (by simp; omega)
 clear hbs h0 h9 hb0 hz hnz
 rcases hcase with ⟨h3, h4⟩ | h3
 all_goals
  go_enter Tryz.func84, Tryz.ntmps84
  go_wp2
  go_loop [4, 5] (fun n i => ∃ k h : Nat, k ≤ s.size ∧ h < 1000000000 ∧ i = .int .i64 k ∧ n = .int .i64 h ∧ Hid (((bl s).take k).all isD = true) ∧ Hid (valL ((bl s).take k) = h)) (fun _ i => s.size - (intOf i).toNat)
  case atStart => exact ⟨0, 0, Nat.zero_le _, by omega, rfl, rfl, Lib.hid rfl, Lib.hid rfl⟩
  case round =>
   obtain ⟨k, h, hk, hh, rfl, rfl, hal, hva⟩ := hrel
   by_cases hlt : k < s.size
   · have hc := bl_get hlt
     have hc8 := UInt8.toNat_lt s[k]
     rcases isD_cases s[k] with ⟨hd, a1, a2⟩ | ⟨hd, a1⟩ | ⟨hd, a1, a2⟩
     · have hn1 := Lib.hid (all_succ hc hal.out hd)
       have hn2 := Lib.hid (val_succ hc hva.out)
       have hn3 : 10 * h + (s[k].toNat - 48) < 1000000000 := by rw [← hn2.out]; exact val_bound (by omega) hn1.out
       have b1 : decide (s[k].toNat < 48) = false := by simp; omega
       have b2 : decide (57 < s[k].toNat) = false := by simp; omega
       clear hc hd
       go_wp2
       go_round
       case rel => exact ⟨k + 1, 10 * h + (s[k].toNat - 48), by omega, hn3, by go_num, by go_num, hn1, hn2⟩
       case measure => simp [intOf]; omega
     · have hbad := Lib.hid (numO_none (.inr (.inr (.inr (all_not hc hd)))))
       clear hc hd
       go_wp2
       go_ret2
       exact ⟨by rw [hbad.out]; rfl, rfl⟩
     · have hbad := Lib.hid (numO_none (.inr (.inr (.inr (all_not hc hd)))))
       have b1 : decide (s[k].toNat < 48) = false := by simp; omega
       clear hc hd
       go_wp2
       go_ret2
       exact ⟨by rw [hbad.out]; rfl, rfl⟩
   · obtain rfl : k = s.size := by omega
     have hfin := Lib.hid (show numO (bl s) = some h by
      have ht : (bl s).take s.size = bl s := List.take_of_length_le (by rw [HBS.out]; exact Nat.le_refl _)
      have ha := hal.out
      have hv := hva.out
      rw [ht] at ha hv
      rw [← hv]
      exact numO_of (by rw [HBS.out]; omega) (by rw [HBS.out]; omega) HNZ.out ha)
     go_wp2
     go_ret2
     exact ⟨by rw [hfin.out]; rfl, rfl⟩
def ParRet (o : Option Int) (w : World) (e : Ending) (w' : World) : Prop := e = .returned (.tuple #[.int .i64 (o.getD 0), .bool o.isSome]) ∧ Below w.heap.size w w'
theorem parT_yes {s : ByteArray} (h : parB (bl s) = true) : bl (s.extract 1 s.size) = parT (bl s) := by
 rw [bl_extract, parT, if_pos h, List.take_of_length_le (by rw [bl_size]; exact Nat.le_refl _)]
theorem parT_no {s : ByteArray} (h : parB (bl s) = false) : bl s = parT (bl s) := by
 rw [parT, if_neg (by rw [h]; simp)]
theorem parO_of {s : ByteArray} {n : Nat} (h : numO (parT (bl s)) = some n) : parO s = if 999999 < n ∨ (n = 0 ∧ parB (bl s) = true) then none else some (if parB (bl s) = true then -(n : Int) else n) := by
 simp [parO, h]
theorem parB_size {s : ByteArray} (h : parB (bl s) = true) : 0 < s.size := by
 rw [← bl_size]
 rcases hl : bl s with _ | ⟨c, l⟩
 · rw [hl] at h; simp [parB] at h
 · simp
set_option maxRecDepth 100000 in
set_option maxHeartbeats 2000000 in
theorem implParseInt_any (s : ByteArray) (w : World) (hs : s.size ≤ 16777216) :
 Calls Tryz.prog 58 #[.string s] w (ParRet (parO s) w) := by
 rcases hb : parB (bl s) with _ | _
 · have HN := Lib.hid (fun (w : World) => number_any s w hs)
   rw [parT_no hb] at HN
   have hcase : decide (0 < s.size) = false ∨ (decide (0 < s.size) = true ∧ ∃ h : 0 < s.size, ((s[0].toNat : Int) == 45) = false) := by
    by_cases h0 : 0 < s.size
    · refine .inr ⟨by simpa using h0, h0, ?_⟩
      have := mt (bl_zero h0 (v := 45)).2 (by simpa [parB] using hb)
      have h45 : (45 : UInt8).toNat = 45 := rfl
      rw [h45] at this
      simp
      omega
    · exact .inl (decide_eq_false (by omega))
   rcases hn : numO (parT (bl s)) with _ | n
   · rw [hn] at HN
     rw [show parO s = none from parO_none hn]
     clear hb hn
     rcases hcase with h1 | ⟨h1, h2, h3⟩
     all_goals
      go_enter Tryz.func58, Tryz.ntmps58
      go_wp2_with (go_at_call 84; refine (HN.out _).mono ?_; rintro e w' ⟨rfl, rfl⟩)
      go_ret2
      exact ⟨rfl, ext_refl _⟩
   · rw [hn] at HN
     have ho := parO_of hn
     rw [if_neg (c := parB (bl s) = true) (by rw [hb]; simp)] at ho
     have hlt : n ≤ 999999999999 := by
      unfold numO at hn
      split at hn
      · cases hn
      · rename_i hc
        simp only [not_or] at hc
        injection hn with hn
        have h1 := valL_lt (parT (bl s)).length _ rfl (by simpa using hc.2.2.2)
        have h2 : (10 : Nat) ^ (parT (bl s)).length ≤ 10 ^ 9 := Nat.pow_le_pow_right (by omega) (by omega)
        omega
     by_cases hbig : 999999 < n
     · rw [if_pos (.inl hbig)] at ho
       rw [ho]
       clear hb hn ho
       have hbig' : (999999 : Int) < n := by omega
       rcases hcase with h1 | ⟨h1, h2, h3⟩
       all_goals
        go_enter Tryz.func58, Tryz.ntmps58
        go_wp2_with (go_at_call 84; refine (HN.out _).mono ?_; rintro e w' ⟨rfl, rfl⟩)
        go_ret2
        exact ⟨rfl, ext_refl _⟩
     · rw [if_neg (by rw [hb]; simp; omega)] at ho
       rw [ho]
       clear hb hn ho
       have hbig' : ¬ (999999 : Int) < n := by omega
       have hz : ((n : Int) == 0) = true ∨ ((n : Int) == 0) = false := by
        rcases ((n : Int) == 0) with _ | _ <;> simp
       rcases hcase with h1 | ⟨h1, h2, h3⟩
       all_goals rcases hz with hz | hz
       all_goals
        go_enter Tryz.func58, Tryz.ntmps58
        go_wp2_with (go_at_call 84; refine (HN.out _).mono ?_; rintro e w' ⟨rfl, rfl⟩)
        go_ret2
        exact ⟨by simp, ext_refl _⟩
 · have h0 := parB_size hb
   have HN := Lib.hid (fun (w : World) => number_any (s.extract 1 s.size) w (by simp; omega))
   rw [parT_yes hb] at HN
   have h1 : decide (0 < s.size) = true := by simpa using h0
   have h3 : ((s[0].toNat : Int) == 45) = true := by
    have := (bl_zero h0 (v := 45)).1 (by simpa [parB] using hb)
    have h45 : (45 : UInt8).toNat = 45 := rfl
    rw [h45] at this
    simp
    omega
   rcases hn : numO (parT (bl s)) with _ | n
   · rw [hn] at HN
     rw [show parO s = none from parO_none hn]
     clear hb hn
     go_enter Tryz.func58, Tryz.ntmps58
     go_wp2_with (go_at_call 84; refine (HN.out _).mono ?_; rintro e w' ⟨rfl, rfl⟩)
     go_ret2
     exact ⟨rfl, ext_refl _⟩
   · rw [hn] at HN
     have ho := parO_of hn
     rw [if_pos (c := parB (bl s) = true) hb] at ho
     have hlt : n ≤ 999999999999 := by
      unfold numO at hn
      split at hn
      · cases hn
      · rename_i hc
        simp only [not_or] at hc
        injection hn with hn
        have h1 := valL_lt (parT (bl s)).length _ rfl (by simpa using hc.2.2.2)
        have h2 : (10 : Nat) ^ (parT (bl s)).length ≤ 10 ^ 9 := Nat.pow_le_pow_right (by omega) (by omega)
        omega
     by_cases hbig : 999999 < n ∨ n = 0
     · rw [if_pos (hbig.imp_right fun h => ⟨h, hb⟩)] at ho
       rw [ho]
       clear hb hn ho
       rcases hbig with hbig | rfl
       · have hbig' : (999999 : Int) < n := by omega
         go_enter Tryz.func58, Tryz.ntmps58
         go_wp2_with (go_at_call 84; refine (HN.out _).mono ?_; rintro e w' ⟨rfl, rfl⟩)
         go_ret2
         exact ⟨rfl, ext_refl _⟩
       · go_enter Tryz.func58, Tryz.ntmps58
         go_wp2_with (go_at_call 84; refine (HN.out _).mono ?_; rintro e w' ⟨rfl, rfl⟩)
         go_ret2
         exact ⟨rfl, ext_refl _⟩
     · rw [if_neg (by omega)] at ho
       rw [ho]
       clear hb hn ho
       have hbig' : ¬ (999999 : Int) < n := by omega
       have hz : ((n : Int) == 0) = false := by simp; omega
       go_enter Tryz.func58, Tryz.ntmps58
       go_wp2_with (go_at_call 84; refine (HN.out _).mono ?_; rintro e w' ⟨rfl, rfl⟩)
       go_ret2
       exact ⟨by simp, ext_refl _⟩
end Go.Proofs.YtkcbgiegoadkbaaGreat
