/- Loops over a text: printable, a byte in it, the checksum. -/
import Derived.Test.YtkcbgiegoadkbaaGreatVM1
namespace Go.Proofs.YtkcbgiegoadkbaaGreat
open Go.RowKit
set_option linter.unusedVariables false
set_option linter.unusedSimpArgs false
def okByte (c : UInt8) : Bool := decide (32 ≤ c.toNat) && decide (c.toNat ≤ 126) && decide (c.toNat ≠ 35)
def printedB (s : ByteArray) : Bool := (bl s).all okByte
def prTo (s : ByteArray) (k : Nat) : Bool := ((bl s).take k).all okByte
theorem prTo_succ {s : ByteArray} {k : Nat} {c : UInt8} (hc : (bl s)[k]? = some c) : prTo s (k + 1) = (prTo s k && okByte c) := by
 unfold prTo
 rw [List.take_add_one, hc]
 simp
theorem prTo_not {s : ByteArray} {k : Nat} {c : UInt8} (hc : (bl s)[k]? = some c) (h : okByte c = false) : printedB s = false := by
 rw [printedB, Bool.eq_false_iff]
 intro ha
 rw [List.all_eq_true] at ha
 have := ha c (List.mem_of_getElem? hc)
 rw [h] at this
 cases this
theorem prTo_all (s : ByteArray) : prTo s s.size = printedB s := by
 unfold prTo printedB
 rw [List.take_of_length_le (by rw [bl_size]; exact Nat.le_refl _)]
theorem ok_cases (c : UInt8) : (okByte c = true ∧ 32 ≤ c.toNat ∧ c.toNat ≤ 126 ∧ c.toNat ≠ 35) ∨ (okByte c = false ∧ c.toNat < 32) ∨ (okByte c = false ∧ 32 ≤ c.toNat ∧ 126 < c.toNat) ∨ (okByte c = false ∧ 32 ≤ c.toNat ∧ c.toNat ≤ 126 ∧ c.toNat = 35) := by
 simp [okByte]
 omega
set_option maxHeartbeats 1000000 in
theorem isPrinted_any (s : ByteArray) (w : World) (hs : s.size ≤ 16777216) :
 Calls Tryz.prog 56 #[.string s] w fun e w' => e = .returned (.bool (printedB s)) ∧ Below w.heap.size w w' := by
 go_enter Tryz.func56, Tryz.ntmps56
 go_wp2
 go_loopw [3] (fun i wr => ∃ k : Nat, k ≤ s.size ∧ i = .int .i64 k ∧ Below w.heap.size w wr ∧ Hid (prTo s k = true)) (fun i _ => s.size - (intOf i).toNat)
 case atStart => exact ⟨0, Nat.zero_le _, rfl, ext_refl _, Lib.hid rfl⟩
 case round =>
  obtain ⟨k, hk, rfl, hbl, hok⟩ := hrel
  by_cases hlt : k < s.size
  · have hc := bl_get hlt
    rcases ok_cases s[k] with ⟨ho, a1, a2, a3⟩ | ⟨ho, a1⟩ | ⟨ho, a1, a2⟩ | ⟨ho, a1, a2, a3⟩
    · have hnew := Lib.hid (show prTo s (k + 1) = true by rw [prTo_succ hc, hok.out, ho]; rfl)
      have b1 : decide (s[k].toNat < 32) = false := by simp; omega
      have b2 : decide (126 < s[k].toNat) = false := by simp; omega
      have b3 : ((s[k].toNat : Int) == 35) = false := by simp; omega
      clear hc ho a3
      go_wp2
      go_roundw
      case rel => exact ⟨k + 1, by omega, by go_num, hbl, hnew⟩
      case measure => simp [intOf]; omega
    · have hbad := Lib.hid (prTo_not hc ho)
      clear hc ho
      go_wp2
      go_ret
      exact ⟨by rw [hbad.out]; rfl, hbl⟩
    · have hbad := Lib.hid (prTo_not hc ho)
      clear hc ho
      go_wp2
      go_ret
      exact ⟨by rw [hbad.out]; rfl, hbl⟩
    · have hbad := Lib.hid (prTo_not hc ho)
      have b3 : ((s[k].toNat : Int) == 35) = true := by simp; omega
      clear hc ho a3
      go_wp2
      go_ret
      exact ⟨by rw [hbad.out]; rfl, hbl⟩
  · obtain rfl : k = s.size := by omega
    have hend := Lib.hid ((prTo_all s).symm.trans hok.out)
    go_wp2
    go_ret
    exact ⟨by rw [hend.out]; rfl, hbl⟩
set_option maxHeartbeats 1000000 in
theorem l27Plain_any (s : ByteArray) (most : Int) (w : World) (hs : s.size ≤ 16777216) :
 Calls Tryz.prog 71 #[.string s, .int .i64 most] w fun e w' => e = .returned (.bool (printedB s && decide ((s.size : Int) ≤ most))) ∧ Below w.heap.size w w' := by
 go_enter Tryz.func71, Tryz.ntmps71
 go_wp2
 go_loopw [5] (fun i wr => ∃ k : Nat, k ≤ s.size ∧ i = .int .i64 k ∧ Below w.heap.size w wr ∧ Hid (prTo s k = true)) (fun i _ => s.size - (intOf i).toNat)
 case atStart => exact ⟨0, Nat.zero_le _, rfl, ext_refl _, Lib.hid rfl⟩
 case round =>
  obtain ⟨k, hk, rfl, hbl, hok⟩ := hrel
  by_cases hlt : k < s.size
  · have hc := bl_get hlt
    have hc8 := UInt8.toNat_lt s[k]
    rcases ok_cases s[k] with ⟨ho, a1, a2, a3⟩ | ⟨ho, a1⟩ | ⟨ho, a1, a2⟩ | ⟨ho, a1, a2, a3⟩
    · have hnew := Lib.hid (show prTo s (k + 1) = true by rw [prTo_succ hc, hok.out, ho]; rfl)
      have b1 : decide ((32 : Int) ≤ (s[k].toNat : Int) ∧ (s[k].toNat : Int) ≤ 126) = true := by simp; omega
      have b3 : ((s[k].toNat : Int) == 35) = false := by simp; omega
      clear hc ho a3
      go_wp2_with (go_at_call 82; refine (l1In_any _ _ _ _).mono ?_; rintro e w' ⟨rfl, rfl⟩)
      go_roundw
      case rel => exact ⟨k + 1, by omega, by go_num, hbl, hnew⟩
      case measure => simp [intOf]; omega
    · have hbad := Lib.hid (prTo_not hc ho)
      have b1 : decide ((32 : Int) ≤ (s[k].toNat : Int) ∧ (s[k].toNat : Int) ≤ 126) = false := by simp; omega
      clear hc ho
      go_wp2_with (go_at_call 82; refine (l1In_any _ _ _ _).mono ?_; rintro e w' ⟨rfl, rfl⟩)
      go_ret
      exact ⟨by rw [hbad.out]; rfl, hbl⟩
    · have hbad := Lib.hid (prTo_not hc ho)
      have b1 : decide ((32 : Int) ≤ (s[k].toNat : Int) ∧ (s[k].toNat : Int) ≤ 126) = false := by simp; omega
      have b2 : decide (s[k].toNat ≤ 126) = false := by simp; omega
      have b4 : ¬ ((s[k].toNat : Int) ≤ 126) := by omega
      clear hc ho
      go_wp2_with (go_at_call 82; refine (l1In_any _ _ _ _).mono ?_; rintro e w' ⟨rfl, rfl⟩)
      go_ret
      exact ⟨by rw [hbad.out]; rfl, hbl⟩
    · have hbad := Lib.hid (prTo_not hc ho)
      have b1 : decide ((32 : Int) ≤ (s[k].toNat : Int) ∧ (s[k].toNat : Int) ≤ 126) = true := by simp; omega
      have b3 : ((s[k].toNat : Int) == 35) = true := by simp; omega
      clear hc ho a3
      go_wp2_with (go_at_call 82; refine (l1In_any _ _ _ _).mono ?_; rintro e w' ⟨rfl, rfl⟩)
      go_ret
      exact ⟨by rw [hbad.out]; rfl, hbl⟩
  · obtain rfl : k = s.size := by omega
    have hend := Lib.hid ((prTo_all s).symm.trans hok.out)
    by_cases hm : (s.size : Int) ≤ most
    · go_wp2
      go_ret
      exact ⟨by rw [hend.out]; simp [*], hbl⟩
    · go_wp2
      go_ret
      exact ⟨by rw [hend.out]; simp [*], hbl⟩
/-- a byte stands in a text -/
def standsB (s : ByteArray) (b : UInt8) : Bool := decide (b ∈ bl s)
theorem l1Stands_any (s : ByteArray) (b : UInt8) (w : World) (hs : s.size ≤ 16777216) :
 Calls Tryz.prog 72 #[.string s, .int .u8 (b.toNat : Int)] w fun e w' => e = .returned (.bool (standsB s b)) ∧ Below w.heap.size w w' := by
 go_enter Tryz.func72, Tryz.ntmps72
 go_wp2
 go_loopw [5] (fun i wr => ∃ k : Nat, k ≤ s.size ∧ i = .int .i64 k ∧ Below w.heap.size w wr ∧ Hid (b ∉ (bl s).take k)) (fun i _ => s.size - (intOf i).toNat)
 case atStart => exact ⟨0, Nat.zero_le _, rfl, ext_refl _, Lib.hid (by simp)⟩
 case round =>
  obtain ⟨k, hk, rfl, hbl, hno⟩ := hrel
  by_cases hlt : k < s.size
  · have hc := bl_get hlt
    by_cases heq : s[k] = b
    · have hd : ((s[k].toNat : Int) == (b.toNat : Int)) = true := by simp [heq]
      have hyes := Lib.hid (show standsB s b = true by rw [standsB, decide_eq_true_iff]; exact List.mem_of_getElem? (heq ▸ hc))
      clear hc heq
      go_wp2
      go_ret
      exact ⟨by rw [hyes.out]; rfl, hbl⟩
    · have hd : ((s[k].toNat : Int) == (b.toNat : Int)) = false := by
       rw [beq_eq_false_iff_ne]
       intro e
       exact heq (UInt8.toNat_inj.1 (by omega))
      have hnew := Lib.hid (show b ∉ (bl s).take (k + 1) by rw [List.take_add_one, hc]; simp; exact ⟨by simpa using hno.out, fun e => heq e.symm⟩)
      clear hc heq
      go_wp2
      go_roundw
      case rel => exact ⟨k + 1, by omega, by go_num, hbl, hnew⟩
      case measure => simp [intOf]; omega
  · obtain rfl : k = s.size := by omega
    have hend := Lib.hid (show standsB s b = false by
     have := hno.out
     rw [List.take_of_length_le (by rw [bl_size]; exact Nat.le_refl _)] at this
     simpa [standsB] using this)
    go_wp2
    go_ret
    exact ⟨by rw [hend.out]; rfl, hbl⟩
/-- the checksum -/
def ckStep (h : Nat) (c : UInt8) : Nat := (41 * h + c.toNat + 1) % 999979
def ck (s : ByteArray) : Nat := (bl s).foldl ckStep 7
def ckTo (s : ByteArray) (k : Nat) : Nat := ((bl s).take k).foldl ckStep 7
theorem ckTo_succ {s : ByteArray} {k h : Nat} {c : UInt8} (hc : (bl s)[k]? = some c) (hh : ckTo s k = h) : ckTo s (k + 1) = ckStep h c := by
 unfold ckTo at *
 rw [List.take_add_one, hc, List.foldl_append, hh]
 rfl
theorem ckTo_all (s : ByteArray) : ckTo s s.size = ck s := by
 unfold ckTo ck
 rw [List.take_of_length_le (by rw [bl_size]; exact Nat.le_refl _)]
theorem ckTo_lt (s : ByteArray) (k : Nat) : ckTo s k < 999979 := by
 unfold ckTo
 generalize (bl s).take k = l
 have : ∀ (l : List UInt8) (h : Nat), h < 999979 → l.foldl ckStep h < 999979 := by
  intro l
  induction l with
  | nil => intro h hh; exact hh
  | cons c l ih => intro h _; exact ih _ (Nat.mod_lt _ (by omega))
 exact this l 7 (by omega)
theorem ck_lt (s : ByteArray) : ck s < 999979 := by rw [← ckTo_all]; exact ckTo_lt s _
set_option maxHeartbeats 1000000 in
theorem l1Sum_any (s : ByteArray) (w : World) (hs : s.size ≤ 16777216) :
 Calls Tryz.prog 98 #[.string s] w fun e w' => e = .returned (.int .i64 (ck s : Nat)) ∧ Below w.heap.size w w' := by
 go_enter Tryz.func98, Tryz.ntmps98
 go_wp2
 go_loopw [3, 4] (fun n i wr => ∃ k h : Nat, k ≤ s.size ∧ h < 999979 ∧ i = .int .i64 k ∧ n = .int .i64 h ∧ Below w.heap.size w wr ∧ Hid (ckTo s k = h)) (fun _ i _ => s.size - (intOf i).toNat)
 case atStart => exact ⟨0, 7, Nat.zero_le _, by omega, rfl, rfl, ext_refl _, Lib.hid rfl⟩
 case round =>
  obtain ⟨k, h, hk, hh, rfl, rfl, hbl, hst⟩ := hrel
  by_cases hlt : k < s.size
  · have hnew := Lib.hid (ckTo_succ (bl_get hlt) hst.out)
    have hc8 := UInt8.toNat_lt s[k]
    have hq : ckStep h s[k] < 999979 := Nat.mod_lt _ (by omega)
    have hv := Lib.hid (show ((ckStep h s[k] : Nat) : Int) = (41 * (h : Int) + (s[k].toNat : Int) + 1) % 999979 by unfold ckStep; omega)
    go_wp2
    go_roundw
    case rel => exact ⟨k + 1, ckStep h s[k], by omega, hq, by go_num, by rw [hv.out], hbl, hnew⟩
    case measure => simp [intOf]; omega
  · obtain rfl : k = s.size := by omega
    have hend := Lib.hid (show ck s = h by rw [← ckTo_all]; exact hst.out)
    go_wp2
    go_ret
    exact ⟨by rw [hend.out]; rfl, hbl⟩
set_option maxHeartbeats 1000000 in
theorem checksum_any (s : ByteArray) (w : World) (hs : s.size ≤ 16777216) :
 Calls Tryz.prog 102 #[.string s] w fun e w' => e = .returned (.tuple #[.int .i64 (if s.size ≤ 4000 then (ck s : Nat) else 0 : Nat), .bool (decide (s.size ≤ 4000))]) ∧ Below w.heap.size w w' := by
 by_cases h4 : s.size ≤ 4000
 · have e1 : (if s.size ≤ 4000 then (ck s : Nat) else 0 : Nat) = ck s := if_pos h4
   have e2 : decide (s.size ≤ 4000) = true := by simpa using h4
   rw [e1, e2]
   clear e1 e2
   go_enter Tryz.func102, Tryz.ntmps102
   go_wp2
   go_loopw [4, 5] (fun n i wr => ∃ k h : Nat, k ≤ s.size ∧ h < 999979 ∧ i = .int .i64 k ∧ n = .int .i64 h ∧ Below w.heap.size w wr ∧ Hid (ckTo s k = h)) (fun _ i _ => s.size - (intOf i).toNat)
   case atStart => exact ⟨0, 7, Nat.zero_le _, by omega, rfl, rfl, ext_refl _, Lib.hid rfl⟩
   case round =>
    obtain ⟨k, h, hk, hh, rfl, rfl, hbl, hst⟩ := hrel
    by_cases hlt : k < s.size
    · have hnew := Lib.hid (ckTo_succ (bl_get hlt) hst.out)
      have hc8 := UInt8.toNat_lt s[k]
      have hq : ckStep h s[k] < 999979 := Nat.mod_lt _ (by omega)
      have hv := Lib.hid (show ((ckStep h s[k] : Nat) : Int) = (41 * (h : Int) + (s[k].toNat : Int) + 1) % 999979 by unfold ckStep; omega)
      go_wp2
      go_roundw
      case rel => exact ⟨k + 1, ckStep h s[k], by omega, hq, by go_num, by rw [hv.out], hbl, hnew⟩
      case measure => simp [intOf]; omega
    · obtain rfl : k = s.size := by omega
      have hend := Lib.hid (show ck s = h by rw [← ckTo_all]; exact hst.out)
      go_wp2
      go_ret2
      exact ⟨by rw [hend.out]; rfl, hbl⟩
 · have e1 : (if s.size ≤ 4000 then (ck s : Nat) else 0 : Nat) = 0 := if_neg h4
   have e2 : decide (s.size ≤ 4000) = false := by simpa using h4
   rw [e1, e2]
   clear e1 e2
   go_enter Tryz.func102, Tryz.ntmps102
   go_wp2
   go_ret2
   exact ⟨rfl, ext_refl _⟩
end Go.Proofs.YtkcbgiegoadkbaaGreat
