/- A word of a script is read: the program's. -/
import Derived.Test.YtihljhikhplegaaVM4
namespace Go.Proofs.Ytihljhikhplegaa
open Go.RowKit
set_option linter.unusedVariables false
set_option linter.unusedSimpArgs false
abbrev RW.val (r : RW) : Value := .agg #[.int .i64 (r.times : Int), .int .u8 (r.what.toNat : Int), .int .i64 (r.digit : Int)]
def RetWd (o : Option RW) (w : World) (e : Ending) (w' : World) : Prop :=
 match o with
 | some r => e = .returned (.tuple #[r.val, .bool true]) ∧ Below w.heap.size w w'
 | none => ∃ a b d : Int, e = .returned (.tuple #[.agg #[.int .i64 a, .int .u8 b, .int .i64 d], .bool false]) ∧ Below w.heap.size w w'
theorem c60 {c : UInt8} : c = 60 ↔ c.toNat = 60 := ⟨fun h => by rw [h]; rfl, fun h => UInt8.toNat_inj.1 h⟩
theorem c62 {c : UInt8} : c = 62 ↔ c.toNat = 62 := ⟨fun h => by rw [h]; rfl, fun h => UInt8.toNat_inj.1 h⟩
theorem c99 {c : UInt8} : c = 99 ↔ c.toNat = 99 := ⟨fun h => by rw [h]; rfl, fun h => UInt8.toNat_inj.1 h⟩
theorem c43 {c : UInt8} : c = 43 ↔ c.toNat = 43 := ⟨fun h => by rw [h]; rfl, fun h => UInt8.toNat_inj.1 h⟩
theorem c45 {c : UInt8} : c = 45 ↔ c.toNat = 45 := ⟨fun h => by rw [h]; rfl, fun h => UInt8.toNat_inj.1 h⟩
theorem bl_cons {s : ByteArray} (hp : 0 < s.size) : bl s = s[0] :: (bl s).drop 1 := by
 have h := bl_get hp
 obtain ⟨hi, e⟩ := List.getElem?_eq_some_iff.1 h
 conv => lhs; rw [← List.drop_zero (l := bl s), List.drop_eq_getElem_cons hi]
 rw [e]
theorem bl_one {s : ByteArray} (h : s.size = 1) (hp : 0 < s.size) : bl s = [s[0]] := by
 rw [bl_cons hp, List.drop_of_length_le (by rw [bl_size]; omega)]
theorem bl_two {s : ByteArray} (h : s.size = 2) (hp : 0 < s.size) (hp1 : 1 < s.size) : bl s = [s[0], s[1]] := by
 obtain ⟨hi, e⟩ := List.getElem?_eq_some_iff.1 (bl_get hp1)
 rw [bl_cons hp, List.drop_eq_getElem_cons hi, e, List.drop_of_length_le (by rw [bl_size]; omega)]
theorem plain_one {s : ByteArray} (h : s.size = 1) (hp : 0 < s.size) : plainO (bl s) = if s[0] = 60 ∨ s[0] = 62 ∨ s[0] = 99 then some (s[0], 0) else none := by rw [bl_one h hp]; rfl
theorem plain_two {s : ByteArray} (h : s.size = 2) (hp : 0 < s.size) (hp1 : 1 < s.size) : plainO (bl s) = if (s[0] = 43 ∨ s[0] = 45) ∧ digB s[1] = true then some (s[0], s[1].toNat - 48) else none := by rw [bl_two h hp hp1]; rfl
theorem plain_more {s : ByteArray} (h : 3 ≤ s.size) : plainO (bl s) = none := by
 have hl := bl_size s
 match e : bl s with
 | [] => rfl
 | [a] => rw [e] at hl; simp at hl; omega
 | [a, b] => rw [e] at hl; simp at hl; omega
 | a :: b :: c :: l => rfl
theorem wordO_cons (c : UInt8) (rest : List UInt8) : wordO (c :: rest) = if repB c = true ∧ rest ≠ [] then (plainO rest).map fun p => ⟨c.toNat - 48, p.1, p.2⟩ else (plainO (c :: rest)).map fun p => ⟨1, p.1, p.2⟩ := rfl
theorem wordO_rep {s : ByteArray} (h1 : 1 < s.size) {hp : 0 < s.size} (hr1 : 50 ≤ (s[0]'hp).toNat) (hr2 : (s[0]'hp).toNat ≤ 57) : wordO (bl s) = (plainO ((bl s).drop 1)).map fun p => ⟨(s[0]'hp).toNat - 48, p.1, p.2⟩ := by
 rw [bl_cons hp, wordO_cons, if_pos ⟨by simp [repB]; omega, by intro e; have := congrArg List.length e; rw [List.length_drop, bl_size] at this; simp at this; omega⟩]
 rw [List.drop_succ_cons, List.drop_zero]
theorem wordO_one {s : ByteArray} (hp : 0 < s.size) (h : ¬ ((50 ≤ (s[0]'hp).toNat ∧ (s[0]'hp).toNat ≤ 57) ∧ 1 < s.size)) : wordO (bl s) = (plainO (bl s)).map fun p => ⟨1, p.1, p.2⟩ := by
 conv => lhs; rw [bl_cons hp]
 rw [wordO_cons, if_neg, ← bl_cons hp]
 rintro ⟨e1, e2⟩
 simp only [repB, decide_eq_true_eq] at e1
 refine h ⟨e1, ?_⟩
 rcases Nat.lt_or_ge 1 s.size with h1 | h1
 · exact h1
 · exact absurd (List.drop_of_length_le (by rw [bl_size]; exact h1)) e2
set_option maxRecDepth 100000 in
set_option maxHeartbeats 8000000 in
theorem readRule_any (s : ByteArray) (w : World) (hs : s.size ≤ 80) : Calls Try.prog 71 #[.string s] w (RetWd (wordO (bl s)) w) := by
 rcases (show s.size = 0 ∨ s.size = 1 ∨ 1 < s.size by omega) with hz | hz | hs1
 · have E : wordO (bl s) = none := by
    rw [show bl s = [] from List.length_eq_zero_iff.1 (by rw [bl_size]; exact hz)]
    rfl
   rw [E]
   clear E
   go_enter Try.func71, Try.ntmps71
   go_wp2
   refine bodyPost_ret (v := .tuple #[.agg #[.int .i64 0, .int .u8 0, .int .i64 0], .bool false]) (by simp [results, Try.results71, go_sem, *]) rfl ?_
   exact ⟨_, _, _, rfl, by repeat (first | (with_reducible exact ext_refl _) | (with_reducible refine ext_alloc ?_ _) | (with_reducible refine ext_set ?_ (by simp <;> omega) _))⟩
 · have hp0 : 0 < s.size := by omega
   have hsz := hz
   have hnr : ¬ ((50 ≤ (s[0]'hp0).toNat ∧ (s[0]'hp0).toNat ≤ 57) ∧ 1 < s.size) := by omega
   rcases (show (s[0]'hp0).toNat = 60 ∨ (s[0]'hp0).toNat = 62 ∨ (s[0]'hp0).toNat = 99 ∨ (s[0]'hp0).toNat = 43 ∨ (s[0]'hp0).toNat = 45 ∨ ((s[0]'hp0).toNat ≠ 60 ∧ (s[0]'hp0).toNat ≠ 62 ∧ (s[0]'hp0).toNat ≠ 99 ∧ (s[0]'hp0).toNat ≠ 43 ∧ (s[0]'hp0).toNat ≠ 45) by omega) with hc | hc | hc | hc | hc | ⟨hc1, hc2, hc3, hc4, hc5⟩
   · skip
     have b60 : (((s[0]'hp0).toNat : Int) == 60) = true := by simp; omega
     have b62 : (((s[0]'hp0).toNat : Int) == 62) = false := by simp; omega
     have b99 : (((s[0]'hp0).toNat : Int) == 99) = false := by simp; omega
     have b43 : (((s[0]'hp0).toNat : Int) == 43) = false := by simp; omega
     have b45 : (((s[0]'hp0).toNat : Int) == 45) = false := by simp; omega
     have E : wordO (bl s) = some ⟨1, s[0]'hp0, 0⟩ := by
      rw [wordO_one hp0 hnr, plain_one hsz hp0]
      simp [c60, c62, c99, c43, c45, digB, hc]
     rw [E]
     clear E
     have hq1 : ((s.size : Nat) : Int) = 1 := by omega
     go_enter Try.func71, Try.ntmps71
     go_wp2
     refine bodyPost_ret (v := .tuple #[.agg #[.int .i64 (1), .int .u8 ((s[0]'hp0).toNat : Int), .int .i64 0], .bool true]) (by simp [results, Try.results71, go_sem, *]) rfl ?_
     refine ⟨?_, by repeat (first | (with_reducible exact ext_refl _) | (with_reducible refine ext_alloc ?_ _) | (with_reducible refine ext_set ?_ (by simp <;> omega) _))⟩
     simp only [RW.val]
     rfl
   · skip
     have b60 : (((s[0]'hp0).toNat : Int) == 60) = false := by simp; omega
     have b62 : (((s[0]'hp0).toNat : Int) == 62) = true := by simp; omega
     have b99 : (((s[0]'hp0).toNat : Int) == 99) = false := by simp; omega
     have b43 : (((s[0]'hp0).toNat : Int) == 43) = false := by simp; omega
     have b45 : (((s[0]'hp0).toNat : Int) == 45) = false := by simp; omega
     have E : wordO (bl s) = some ⟨1, s[0]'hp0, 0⟩ := by
      rw [wordO_one hp0 hnr, plain_one hsz hp0]
      simp [c60, c62, c99, c43, c45, digB, hc]
     rw [E]
     clear E
     have hq1 : ((s.size : Nat) : Int) = 1 := by omega
     go_enter Try.func71, Try.ntmps71
     go_wp2
     refine bodyPost_ret (v := .tuple #[.agg #[.int .i64 (1), .int .u8 ((s[0]'hp0).toNat : Int), .int .i64 0], .bool true]) (by simp [results, Try.results71, go_sem, *]) rfl ?_
     refine ⟨?_, by repeat (first | (with_reducible exact ext_refl _) | (with_reducible refine ext_alloc ?_ _) | (with_reducible refine ext_set ?_ (by simp <;> omega) _))⟩
     simp only [RW.val]
     rfl
   · skip
     have b60 : (((s[0]'hp0).toNat : Int) == 60) = false := by simp; omega
     have b62 : (((s[0]'hp0).toNat : Int) == 62) = false := by simp; omega
     have b99 : (((s[0]'hp0).toNat : Int) == 99) = true := by simp; omega
     have b43 : (((s[0]'hp0).toNat : Int) == 43) = false := by simp; omega
     have b45 : (((s[0]'hp0).toNat : Int) == 45) = false := by simp; omega
     have E : wordO (bl s) = some ⟨1, s[0]'hp0, 0⟩ := by
      rw [wordO_one hp0 hnr, plain_one hsz hp0]
      simp [c60, c62, c99, c43, c45, digB, hc]
     rw [E]
     clear E
     have hq1 : ((s.size : Nat) : Int) = 1 := by omega
     go_enter Try.func71, Try.ntmps71
     go_wp2
     refine bodyPost_ret (v := .tuple #[.agg #[.int .i64 (1), .int .u8 ((s[0]'hp0).toNat : Int), .int .i64 0], .bool true]) (by simp [results, Try.results71, go_sem, *]) rfl ?_
     refine ⟨?_, by repeat (first | (with_reducible exact ext_refl _) | (with_reducible refine ext_alloc ?_ _) | (with_reducible refine ext_set ?_ (by simp <;> omega) _))⟩
     simp only [RW.val]
     rfl
   · skip
     have b60 : (((s[0]'hp0).toNat : Int) == 60) = false := by simp; omega
     have b62 : (((s[0]'hp0).toNat : Int) == 62) = false := by simp; omega
     have b99 : (((s[0]'hp0).toNat : Int) == 99) = false := by simp; omega
     have b43 : (((s[0]'hp0).toNat : Int) == 43) = true := by simp; omega
     have b45 : (((s[0]'hp0).toNat : Int) == 45) = false := by simp; omega
     have E : wordO (bl s) = none := by
      rw [wordO_one hp0 hnr, plain_one hsz hp0]
      simp [c60, c62, c99, c43, c45, digB, hc]
     rw [E]
     clear E
     have hq1 : ((s.size : Nat) : Int) = 1 := by omega
     go_enter Try.func71, Try.ntmps71
     go_wp2
     refine bodyPost_ret (v := .tuple #[.agg #[.int .i64 0, .int .u8 0, .int .i64 0], .bool false]) (by simp [results, Try.results71, go_sem, *]) rfl ?_
     exact ⟨_, _, _, rfl, by repeat (first | (with_reducible exact ext_refl _) | (with_reducible refine ext_alloc ?_ _) | (with_reducible refine ext_set ?_ (by simp <;> omega) _))⟩
   · skip
     have b60 : (((s[0]'hp0).toNat : Int) == 60) = false := by simp; omega
     have b62 : (((s[0]'hp0).toNat : Int) == 62) = false := by simp; omega
     have b99 : (((s[0]'hp0).toNat : Int) == 99) = false := by simp; omega
     have b43 : (((s[0]'hp0).toNat : Int) == 43) = false := by simp; omega
     have b45 : (((s[0]'hp0).toNat : Int) == 45) = true := by simp; omega
     have E : wordO (bl s) = none := by
      rw [wordO_one hp0 hnr, plain_one hsz hp0]
      simp [c60, c62, c99, c43, c45, digB, hc]
     rw [E]
     clear E
     have hq1 : ((s.size : Nat) : Int) = 1 := by omega
     go_enter Try.func71, Try.ntmps71
     go_wp2
     refine bodyPost_ret (v := .tuple #[.agg #[.int .i64 0, .int .u8 0, .int .i64 0], .bool false]) (by simp [results, Try.results71, go_sem, *]) rfl ?_
     exact ⟨_, _, _, rfl, by repeat (first | (with_reducible exact ext_refl _) | (with_reducible refine ext_alloc ?_ _) | (with_reducible refine ext_set ?_ (by simp <;> omega) _))⟩
   · skip
     have b60 : (((s[0]'hp0).toNat : Int) == 60) = false := by simp; omega
     have b62 : (((s[0]'hp0).toNat : Int) == 62) = false := by simp; omega
     have b99 : (((s[0]'hp0).toNat : Int) == 99) = false := by simp; omega
     have b43 : (((s[0]'hp0).toNat : Int) == 43) = false := by simp; omega
     have b45 : (((s[0]'hp0).toNat : Int) == 45) = false := by simp; omega
     have E : wordO (bl s) = none := by
      rw [wordO_one hp0 hnr, plain_one hsz hp0]
      simp [c60, c62, c99, c43, c45, digB, hc1, hc2, hc3, hc4, hc5]
     rw [E]
     clear E
     have hq1 : ((s.size : Nat) : Int) = 1 := by omega
     go_enter Try.func71, Try.ntmps71
     go_wp2
     refine bodyPost_ret (v := .tuple #[.agg #[.int .i64 0, .int .u8 0, .int .i64 0], .bool false]) (by simp [results, Try.results71, go_sem, *]) rfl ?_
     exact ⟨_, _, _, rfl, by repeat (first | (with_reducible exact ext_refl _) | (with_reducible refine ext_alloc ?_ _) | (with_reducible refine ext_set ?_ (by simp <;> omega) _))⟩
 have hs0 : 0 < s.size := by omega
 rcases (show (50 ≤ (s[0]'hs0).toNat ∧ (s[0]'hs0).toNat ≤ 57) ∨ (s[0]'hs0).toNat < 50 ∨ 57 < (s[0]'hs0).toNat by omega) with ⟨hr1, hr2⟩ | hr1 | hr1
 · obtain ⟨t, ht⟩ : ∃ t, t = s.extract 1 s.size := ⟨_, rfl⟩
   have htz : t.size = s.size - 1 := by rw [ht, ByteArray.size_extract]; omega
   have hp0 : 0 < t.size := by omega
   clear htz
   have hbt : bl t = (bl s).drop 1 := by rw [ht, bl_extract, List.take_of_length_le (by rw [bl_size]; exact Nat.le_refl _)]
   rcases (show t.size = 1 ∨ t.size = 2 ∨ 3 ≤ t.size by omega) with hsz | hsz | hsz
   · skip
     rcases (show (t[0]'hp0).toNat = 60 ∨ (t[0]'hp0).toNat = 62 ∨ (t[0]'hp0).toNat = 99 ∨ (t[0]'hp0).toNat = 43 ∨ (t[0]'hp0).toNat = 45 ∨ ((t[0]'hp0).toNat ≠ 60 ∧ (t[0]'hp0).toNat ≠ 62 ∧ (t[0]'hp0).toNat ≠ 99 ∧ (t[0]'hp0).toNat ≠ 43 ∧ (t[0]'hp0).toNat ≠ 45) by omega) with hc | hc | hc | hc | hc | ⟨hc1, hc2, hc3, hc4, hc5⟩
     · skip
       have b60 : (((t[0]'hp0).toNat : Int) == 60) = true := by simp; omega
       have b62 : (((t[0]'hp0).toNat : Int) == 62) = false := by simp; omega
       have b99 : (((t[0]'hp0).toNat : Int) == 99) = false := by simp; omega
       have b43 : (((t[0]'hp0).toNat : Int) == 43) = false := by simp; omega
       have b45 : (((t[0]'hp0).toNat : Int) == 45) = false := by simp; omega
       have E : wordO (bl s) = some ⟨(s[0]'hs0).toNat - 48, t[0]'hp0, 0⟩ := by
        rw [wordO_rep hs1 hr1 hr2, ← hbt, plain_one hsz hp0]
        simp [c60, c62, c99, c43, c45, digB, hc]
       rw [E]
       clear E
       have hq1 : ((t.size : Nat) : Int) = 1 := by omega
       go_enter Try.func71, Try.ntmps71
       go_upto_region 5 with fail
       rw [← ht]
       have HT := Lib.hid ht
       clear ht hbt
       go_wp2
       refine bodyPost_ret (v := .tuple #[.agg #[.int .i64 (((s[0]'hs0).toNat : Int) - 48), .int .u8 ((t[0]'hp0).toNat : Int), .int .i64 0], .bool true]) (by simp [results, Try.results71, go_sem, *]) rfl ?_
       refine ⟨?_, by repeat (first | (with_reducible exact ext_refl _) | (with_reducible refine ext_alloc ?_ _) | (with_reducible refine ext_set ?_ (by simp <;> omega) _))⟩
       simp only [RW.val, (show (((s[0]'hs0).toNat - 48 : Nat) : Int) = ((s[0]'hs0).toNat : Int) - 48 by omega)]
       rfl
     · skip
       have b60 : (((t[0]'hp0).toNat : Int) == 60) = false := by simp; omega
       have b62 : (((t[0]'hp0).toNat : Int) == 62) = true := by simp; omega
       have b99 : (((t[0]'hp0).toNat : Int) == 99) = false := by simp; omega
       have b43 : (((t[0]'hp0).toNat : Int) == 43) = false := by simp; omega
       have b45 : (((t[0]'hp0).toNat : Int) == 45) = false := by simp; omega
       have E : wordO (bl s) = some ⟨(s[0]'hs0).toNat - 48, t[0]'hp0, 0⟩ := by
        rw [wordO_rep hs1 hr1 hr2, ← hbt, plain_one hsz hp0]
        simp [c60, c62, c99, c43, c45, digB, hc]
       rw [E]
       clear E
       have hq1 : ((t.size : Nat) : Int) = 1 := by omega
       go_enter Try.func71, Try.ntmps71
       go_upto_region 5 with fail
       rw [← ht]
       have HT := Lib.hid ht
       clear ht hbt
       go_wp2
       refine bodyPost_ret (v := .tuple #[.agg #[.int .i64 (((s[0]'hs0).toNat : Int) - 48), .int .u8 ((t[0]'hp0).toNat : Int), .int .i64 0], .bool true]) (by simp [results, Try.results71, go_sem, *]) rfl ?_
       refine ⟨?_, by repeat (first | (with_reducible exact ext_refl _) | (with_reducible refine ext_alloc ?_ _) | (with_reducible refine ext_set ?_ (by simp <;> omega) _))⟩
       simp only [RW.val, (show (((s[0]'hs0).toNat - 48 : Nat) : Int) = ((s[0]'hs0).toNat : Int) - 48 by omega)]
       rfl
     · skip
       have b60 : (((t[0]'hp0).toNat : Int) == 60) = false := by simp; omega
       have b62 : (((t[0]'hp0).toNat : Int) == 62) = false := by simp; omega
       have b99 : (((t[0]'hp0).toNat : Int) == 99) = true := by simp; omega
       have b43 : (((t[0]'hp0).toNat : Int) == 43) = false := by simp; omega
       have b45 : (((t[0]'hp0).toNat : Int) == 45) = false := by simp; omega
       have E : wordO (bl s) = some ⟨(s[0]'hs0).toNat - 48, t[0]'hp0, 0⟩ := by
        rw [wordO_rep hs1 hr1 hr2, ← hbt, plain_one hsz hp0]
        simp [c60, c62, c99, c43, c45, digB, hc]
       rw [E]
       clear E
       have hq1 : ((t.size : Nat) : Int) = 1 := by omega
       go_enter Try.func71, Try.ntmps71
       go_upto_region 5 with fail
       rw [← ht]
       have HT := Lib.hid ht
       clear ht hbt
       go_wp2
       refine bodyPost_ret (v := .tuple #[.agg #[.int .i64 (((s[0]'hs0).toNat : Int) - 48), .int .u8 ((t[0]'hp0).toNat : Int), .int .i64 0], .bool true]) (by simp [results, Try.results71, go_sem, *]) rfl ?_
       refine ⟨?_, by repeat (first | (with_reducible exact ext_refl _) | (with_reducible refine ext_alloc ?_ _) | (with_reducible refine ext_set ?_ (by simp <;> omega) _))⟩
       simp only [RW.val, (show (((s[0]'hs0).toNat - 48 : Nat) : Int) = ((s[0]'hs0).toNat : Int) - 48 by omega)]
       rfl
     · skip
       have b60 : (((t[0]'hp0).toNat : Int) == 60) = false := by simp; omega
       have b62 : (((t[0]'hp0).toNat : Int) == 62) = false := by simp; omega
       have b99 : (((t[0]'hp0).toNat : Int) == 99) = false := by simp; omega
       have b43 : (((t[0]'hp0).toNat : Int) == 43) = true := by simp; omega
       have b45 : (((t[0]'hp0).toNat : Int) == 45) = false := by simp; omega
       have E : wordO (bl s) = none := by
        rw [wordO_rep hs1 hr1 hr2, ← hbt, plain_one hsz hp0]
        simp [c60, c62, c99, c43, c45, digB, hc]
       rw [E]
       clear E
       have hq1 : ((t.size : Nat) : Int) = 1 := by omega
       go_enter Try.func71, Try.ntmps71
       go_upto_region 5 with fail
       rw [← ht]
       have HT := Lib.hid ht
       clear ht hbt
       go_wp2
       refine bodyPost_ret (v := .tuple #[.agg #[.int .i64 0, .int .u8 0, .int .i64 0], .bool false]) (by simp [results, Try.results71, go_sem, *]) rfl ?_
       exact ⟨_, _, _, rfl, by repeat (first | (with_reducible exact ext_refl _) | (with_reducible refine ext_alloc ?_ _) | (with_reducible refine ext_set ?_ (by simp <;> omega) _))⟩
     · skip
       have b60 : (((t[0]'hp0).toNat : Int) == 60) = false := by simp; omega
       have b62 : (((t[0]'hp0).toNat : Int) == 62) = false := by simp; omega
       have b99 : (((t[0]'hp0).toNat : Int) == 99) = false := by simp; omega
       have b43 : (((t[0]'hp0).toNat : Int) == 43) = false := by simp; omega
       have b45 : (((t[0]'hp0).toNat : Int) == 45) = true := by simp; omega
       have E : wordO (bl s) = none := by
        rw [wordO_rep hs1 hr1 hr2, ← hbt, plain_one hsz hp0]
        simp [c60, c62, c99, c43, c45, digB, hc]
       rw [E]
       clear E
       have hq1 : ((t.size : Nat) : Int) = 1 := by omega
       go_enter Try.func71, Try.ntmps71
       go_upto_region 5 with fail
       rw [← ht]
       have HT := Lib.hid ht
       clear ht hbt
       go_wp2
       refine bodyPost_ret (v := .tuple #[.agg #[.int .i64 0, .int .u8 0, .int .i64 0], .bool false]) (by simp [results, Try.results71, go_sem, *]) rfl ?_
       exact ⟨_, _, _, rfl, by repeat (first | (with_reducible exact ext_refl _) | (with_reducible refine ext_alloc ?_ _) | (with_reducible refine ext_set ?_ (by simp <;> omega) _))⟩
     · skip
       have b60 : (((t[0]'hp0).toNat : Int) == 60) = false := by simp; omega
       have b62 : (((t[0]'hp0).toNat : Int) == 62) = false := by simp; omega
       have b99 : (((t[0]'hp0).toNat : Int) == 99) = false := by simp; omega
       have b43 : (((t[0]'hp0).toNat : Int) == 43) = false := by simp; omega
       have b45 : (((t[0]'hp0).toNat : Int) == 45) = false := by simp; omega
       have E : wordO (bl s) = none := by
        rw [wordO_rep hs1 hr1 hr2, ← hbt, plain_one hsz hp0]
        simp [c60, c62, c99, c43, c45, digB, hc1, hc2, hc3, hc4, hc5]
       rw [E]
       clear E
       have hq1 : ((t.size : Nat) : Int) = 1 := by omega
       go_enter Try.func71, Try.ntmps71
       go_upto_region 5 with fail
       rw [← ht]
       have HT := Lib.hid ht
       clear ht hbt
       go_wp2
       refine bodyPost_ret (v := .tuple #[.agg #[.int .i64 0, .int .u8 0, .int .i64 0], .bool false]) (by simp [results, Try.results71, go_sem, *]) rfl ?_
       exact ⟨_, _, _, rfl, by repeat (first | (with_reducible exact ext_refl _) | (with_reducible refine ext_alloc ?_ _) | (with_reducible refine ext_set ?_ (by simp <;> omega) _))⟩
   · skip
     rcases (show (t[0]'hp0).toNat = 60 ∨ (t[0]'hp0).toNat = 62 ∨ (t[0]'hp0).toNat = 99 ∨ (t[0]'hp0).toNat = 43 ∨ (t[0]'hp0).toNat = 45 ∨ ((t[0]'hp0).toNat ≠ 60 ∧ (t[0]'hp0).toNat ≠ 62 ∧ (t[0]'hp0).toNat ≠ 99 ∧ (t[0]'hp0).toNat ≠ 43 ∧ (t[0]'hp0).toNat ≠ 45) by omega) with hc | hc | hc | hc | hc | ⟨hc1, hc2, hc3, hc4, hc5⟩
     · skip
       have b60 : (((t[0]'hp0).toNat : Int) == 60) = true := by simp; omega
       have b62 : (((t[0]'hp0).toNat : Int) == 62) = false := by simp; omega
       have b99 : (((t[0]'hp0).toNat : Int) == 99) = false := by simp; omega
       have b43 : (((t[0]'hp0).toNat : Int) == 43) = false := by simp; omega
       have b45 : (((t[0]'hp0).toNat : Int) == 45) = false := by simp; omega
       have E : wordO (bl s) = none := by
        rw [wordO_rep hs1 hr1 hr2, ← hbt, plain_two hsz hp0 (by omega)]
        simp [c60, c62, c99, c43, c45, digB, hc]
       rw [E]
       clear E
       have hq1 : ¬ ((t.size : Nat) : Int) = 1 := by omega
       go_enter Try.func71, Try.ntmps71
       go_upto_region 5 with fail
       rw [← ht]
       have HT := Lib.hid ht
       clear ht hbt
       go_wp2
       refine bodyPost_ret (v := .tuple #[.agg #[.int .i64 (((s[0]'hs0).toNat : Int) - 48), .int .u8 ((t[0]'hp0).toNat : Int), .int .i64 0], .bool false]) (by simp [results, Try.results71, go_sem, *]) rfl ?_
       exact ⟨_, _, _, rfl, by repeat (first | (with_reducible exact ext_refl _) | (with_reducible refine ext_alloc ?_ _) | (with_reducible refine ext_set ?_ (by simp <;> omega) _))⟩
     · skip
       have b60 : (((t[0]'hp0).toNat : Int) == 60) = false := by simp; omega
       have b62 : (((t[0]'hp0).toNat : Int) == 62) = true := by simp; omega
       have b99 : (((t[0]'hp0).toNat : Int) == 99) = false := by simp; omega
       have b43 : (((t[0]'hp0).toNat : Int) == 43) = false := by simp; omega
       have b45 : (((t[0]'hp0).toNat : Int) == 45) = false := by simp; omega
       have E : wordO (bl s) = none := by
        rw [wordO_rep hs1 hr1 hr2, ← hbt, plain_two hsz hp0 (by omega)]
        simp [c60, c62, c99, c43, c45, digB, hc]
       rw [E]
       clear E
       have hq1 : ¬ ((t.size : Nat) : Int) = 1 := by omega
       go_enter Try.func71, Try.ntmps71
       go_upto_region 5 with fail
       rw [← ht]
       have HT := Lib.hid ht
       clear ht hbt
       go_wp2
       refine bodyPost_ret (v := .tuple #[.agg #[.int .i64 (((s[0]'hs0).toNat : Int) - 48), .int .u8 ((t[0]'hp0).toNat : Int), .int .i64 0], .bool false]) (by simp [results, Try.results71, go_sem, *]) rfl ?_
       exact ⟨_, _, _, rfl, by repeat (first | (with_reducible exact ext_refl _) | (with_reducible refine ext_alloc ?_ _) | (with_reducible refine ext_set ?_ (by simp <;> omega) _))⟩
     · skip
       have b60 : (((t[0]'hp0).toNat : Int) == 60) = false := by simp; omega
       have b62 : (((t[0]'hp0).toNat : Int) == 62) = false := by simp; omega
       have b99 : (((t[0]'hp0).toNat : Int) == 99) = true := by simp; omega
       have b43 : (((t[0]'hp0).toNat : Int) == 43) = false := by simp; omega
       have b45 : (((t[0]'hp0).toNat : Int) == 45) = false := by simp; omega
       have E : wordO (bl s) = none := by
        rw [wordO_rep hs1 hr1 hr2, ← hbt, plain_two hsz hp0 (by omega)]
        simp [c60, c62, c99, c43, c45, digB, hc]
       rw [E]
       clear E
       have hq1 : ¬ ((t.size : Nat) : Int) = 1 := by omega
       go_enter Try.func71, Try.ntmps71
       go_upto_region 5 with fail
       rw [← ht]
       have HT := Lib.hid ht
       clear ht hbt
       go_wp2
       refine bodyPost_ret (v := .tuple #[.agg #[.int .i64 (((s[0]'hs0).toNat : Int) - 48), .int .u8 ((t[0]'hp0).toNat : Int), .int .i64 0], .bool false]) (by simp [results, Try.results71, go_sem, *]) rfl ?_
       exact ⟨_, _, _, rfl, by repeat (first | (with_reducible exact ext_refl _) | (with_reducible refine ext_alloc ?_ _) | (with_reducible refine ext_set ?_ (by simp <;> omega) _))⟩
     · skip
       rcases (show (49 ≤ (t[1]'(by omega)).toNat ∧ (t[1]'(by omega)).toNat ≤ 57) ∨ (t[1]'(by omega)).toNat < 49 ∨ 57 < (t[1]'(by omega)).toNat by omega) with ⟨hd1, hd2⟩ | hd1 | hd1
       · skip
         have b60 : (((t[0]'hp0).toNat : Int) == 60) = false := by simp; omega
         have b62 : (((t[0]'hp0).toNat : Int) == 62) = false := by simp; omega
         have b99 : (((t[0]'hp0).toNat : Int) == 99) = false := by simp; omega
         have b43 : (((t[0]'hp0).toNat : Int) == 43) = true := by simp; omega
         have b45 : (((t[0]'hp0).toNat : Int) == 45) = false := by simp; omega
         have E : wordO (bl s) = some ⟨(s[0]'hs0).toNat - 48, t[0]'hp0, (t[1]'(by omega)).toNat - 48⟩ := by
          rw [wordO_rep hs1 hr1 hr2, ← hbt, plain_two hsz hp0 (by omega)]
          simp [c60, c62, c99, c43, c45, digB, hc, hd1, hd2]
         rw [E]
         clear E
         have hq1 : ¬ ((t.size : Nat) : Int) = 1 := by omega
         go_enter Try.func71, Try.ntmps71
         go_upto_region 5 with fail
         rw [← ht]
         have HT := Lib.hid ht
         clear ht hbt
         go_wp2
         refine bodyPost_ret (v := .tuple #[.agg #[.int .i64 (((s[0]'hs0).toNat : Int) - 48), .int .u8 ((t[0]'hp0).toNat : Int), .int .i64 (((t[1]'(by omega)).toNat : Int) - 48)], .bool true]) (by simp [results, Try.results71, go_sem, *]) rfl ?_
         refine ⟨?_, by repeat (first | (with_reducible exact ext_refl _) | (with_reducible refine ext_alloc ?_ _) | (with_reducible refine ext_set ?_ (by simp <;> omega) _))⟩
         simp only [RW.val, (show (((s[0]'hs0).toNat - 48 : Nat) : Int) = ((s[0]'hs0).toNat : Int) - 48 by omega), (show (((t[1]'(by omega)).toNat - 48 : Nat) : Int) = ((t[1]'(by omega)).toNat : Int) - 48 by omega)]
       · skip
         have b60 : (((t[0]'hp0).toNat : Int) == 60) = false := by simp; omega
         have b62 : (((t[0]'hp0).toNat : Int) == 62) = false := by simp; omega
         have b99 : (((t[0]'hp0).toNat : Int) == 99) = false := by simp; omega
         have b43 : (((t[0]'hp0).toNat : Int) == 43) = true := by simp; omega
         have b45 : (((t[0]'hp0).toNat : Int) == 45) = false := by simp; omega
         have E : wordO (bl s) = none := by
          rw [wordO_rep hs1 hr1 hr2, ← hbt, plain_two hsz hp0 (by omega)]
          simp [c60, c62, c99, c43, c45, digB, hc]
          try omega
         rw [E]
         clear E
         have hq1 : ¬ ((t.size : Nat) : Int) = 1 := by omega
         go_enter Try.func71, Try.ntmps71
         go_upto_region 5 with fail
         rw [← ht]
         have HT := Lib.hid ht
         clear ht hbt
         go_wp2
         refine bodyPost_ret (v := .tuple #[.agg #[.int .i64 0, .int .u8 0, .int .i64 0], .bool false]) (by simp [results, Try.results71, go_sem, *]) rfl ?_
         exact ⟨_, _, _, rfl, by repeat (first | (with_reducible exact ext_refl _) | (with_reducible refine ext_alloc ?_ _) | (with_reducible refine ext_set ?_ (by simp <;> omega) _))⟩
       · skip
         have b60 : (((t[0]'hp0).toNat : Int) == 60) = false := by simp; omega
         have b62 : (((t[0]'hp0).toNat : Int) == 62) = false := by simp; omega
         have b99 : (((t[0]'hp0).toNat : Int) == 99) = false := by simp; omega
         have b43 : (((t[0]'hp0).toNat : Int) == 43) = true := by simp; omega
         have b45 : (((t[0]'hp0).toNat : Int) == 45) = false := by simp; omega
         have E : wordO (bl s) = none := by
          rw [wordO_rep hs1 hr1 hr2, ← hbt, plain_two hsz hp0 (by omega)]
          simp [c60, c62, c99, c43, c45, digB, hc]
          try omega
         rw [E]
         clear E
         have hq1 : ¬ ((t.size : Nat) : Int) = 1 := by omega
         go_enter Try.func71, Try.ntmps71
         go_upto_region 5 with fail
         rw [← ht]
         have HT := Lib.hid ht
         clear ht hbt
         go_wp2
         refine bodyPost_ret (v := .tuple #[.agg #[.int .i64 0, .int .u8 0, .int .i64 0], .bool false]) (by simp [results, Try.results71, go_sem, *]) rfl ?_
         exact ⟨_, _, _, rfl, by repeat (first | (with_reducible exact ext_refl _) | (with_reducible refine ext_alloc ?_ _) | (with_reducible refine ext_set ?_ (by simp <;> omega) _))⟩
     · skip
       rcases (show (49 ≤ (t[1]'(by omega)).toNat ∧ (t[1]'(by omega)).toNat ≤ 57) ∨ (t[1]'(by omega)).toNat < 49 ∨ 57 < (t[1]'(by omega)).toNat by omega) with ⟨hd1, hd2⟩ | hd1 | hd1
       · skip
         have b60 : (((t[0]'hp0).toNat : Int) == 60) = false := by simp; omega
         have b62 : (((t[0]'hp0).toNat : Int) == 62) = false := by simp; omega
         have b99 : (((t[0]'hp0).toNat : Int) == 99) = false := by simp; omega
         have b43 : (((t[0]'hp0).toNat : Int) == 43) = false := by simp; omega
         have b45 : (((t[0]'hp0).toNat : Int) == 45) = true := by simp; omega
         have E : wordO (bl s) = some ⟨(s[0]'hs0).toNat - 48, t[0]'hp0, (t[1]'(by omega)).toNat - 48⟩ := by
          rw [wordO_rep hs1 hr1 hr2, ← hbt, plain_two hsz hp0 (by omega)]
          simp [c60, c62, c99, c43, c45, digB, hc, hd1, hd2]
         rw [E]
         clear E
         have hq1 : ¬ ((t.size : Nat) : Int) = 1 := by omega
         go_enter Try.func71, Try.ntmps71
         go_upto_region 5 with fail
         rw [← ht]
         have HT := Lib.hid ht
         clear ht hbt
         go_wp2
         refine bodyPost_ret (v := .tuple #[.agg #[.int .i64 (((s[0]'hs0).toNat : Int) - 48), .int .u8 ((t[0]'hp0).toNat : Int), .int .i64 (((t[1]'(by omega)).toNat : Int) - 48)], .bool true]) (by simp [results, Try.results71, go_sem, *]) rfl ?_
         refine ⟨?_, by repeat (first | (with_reducible exact ext_refl _) | (with_reducible refine ext_alloc ?_ _) | (with_reducible refine ext_set ?_ (by simp <;> omega) _))⟩
         simp only [RW.val, (show (((s[0]'hs0).toNat - 48 : Nat) : Int) = ((s[0]'hs0).toNat : Int) - 48 by omega), (show (((t[1]'(by omega)).toNat - 48 : Nat) : Int) = ((t[1]'(by omega)).toNat : Int) - 48 by omega)]
       · skip
         have b60 : (((t[0]'hp0).toNat : Int) == 60) = false := by simp; omega
         have b62 : (((t[0]'hp0).toNat : Int) == 62) = false := by simp; omega
         have b99 : (((t[0]'hp0).toNat : Int) == 99) = false := by simp; omega
         have b43 : (((t[0]'hp0).toNat : Int) == 43) = false := by simp; omega
         have b45 : (((t[0]'hp0).toNat : Int) == 45) = true := by simp; omega
         have E : wordO (bl s) = none := by
          rw [wordO_rep hs1 hr1 hr2, ← hbt, plain_two hsz hp0 (by omega)]
          simp [c60, c62, c99, c43, c45, digB, hc]
          try omega
         rw [E]
         clear E
         have hq1 : ¬ ((t.size : Nat) : Int) = 1 := by omega
         go_enter Try.func71, Try.ntmps71
         go_upto_region 5 with fail
         rw [← ht]
         have HT := Lib.hid ht
         clear ht hbt
         go_wp2
         refine bodyPost_ret (v := .tuple #[.agg #[.int .i64 0, .int .u8 0, .int .i64 0], .bool false]) (by simp [results, Try.results71, go_sem, *]) rfl ?_
         exact ⟨_, _, _, rfl, by repeat (first | (with_reducible exact ext_refl _) | (with_reducible refine ext_alloc ?_ _) | (with_reducible refine ext_set ?_ (by simp <;> omega) _))⟩
       · skip
         have b60 : (((t[0]'hp0).toNat : Int) == 60) = false := by simp; omega
         have b62 : (((t[0]'hp0).toNat : Int) == 62) = false := by simp; omega
         have b99 : (((t[0]'hp0).toNat : Int) == 99) = false := by simp; omega
         have b43 : (((t[0]'hp0).toNat : Int) == 43) = false := by simp; omega
         have b45 : (((t[0]'hp0).toNat : Int) == 45) = true := by simp; omega
         have E : wordO (bl s) = none := by
          rw [wordO_rep hs1 hr1 hr2, ← hbt, plain_two hsz hp0 (by omega)]
          simp [c60, c62, c99, c43, c45, digB, hc]
          try omega
         rw [E]
         clear E
         have hq1 : ¬ ((t.size : Nat) : Int) = 1 := by omega
         go_enter Try.func71, Try.ntmps71
         go_upto_region 5 with fail
         rw [← ht]
         have HT := Lib.hid ht
         clear ht hbt
         go_wp2
         refine bodyPost_ret (v := .tuple #[.agg #[.int .i64 0, .int .u8 0, .int .i64 0], .bool false]) (by simp [results, Try.results71, go_sem, *]) rfl ?_
         exact ⟨_, _, _, rfl, by repeat (first | (with_reducible exact ext_refl _) | (with_reducible refine ext_alloc ?_ _) | (with_reducible refine ext_set ?_ (by simp <;> omega) _))⟩
     · skip
       have b60 : (((t[0]'hp0).toNat : Int) == 60) = false := by simp; omega
       have b62 : (((t[0]'hp0).toNat : Int) == 62) = false := by simp; omega
       have b99 : (((t[0]'hp0).toNat : Int) == 99) = false := by simp; omega
       have b43 : (((t[0]'hp0).toNat : Int) == 43) = false := by simp; omega
       have b45 : (((t[0]'hp0).toNat : Int) == 45) = false := by simp; omega
       have E : wordO (bl s) = none := by
        rw [wordO_rep hs1 hr1 hr2, ← hbt, plain_two hsz hp0 (by omega)]
        simp [c60, c62, c99, c43, c45, digB, hc1, hc2, hc3, hc4, hc5]
       rw [E]
       clear E
       have hq1 : ¬ ((t.size : Nat) : Int) = 1 := by omega
       go_enter Try.func71, Try.ntmps71
       go_upto_region 5 with fail
       rw [← ht]
       have HT := Lib.hid ht
       clear ht hbt
       go_wp2
       refine bodyPost_ret (v := .tuple #[.agg #[.int .i64 0, .int .u8 0, .int .i64 0], .bool false]) (by simp [results, Try.results71, go_sem, *]) rfl ?_
       exact ⟨_, _, _, rfl, by repeat (first | (with_reducible exact ext_refl _) | (with_reducible refine ext_alloc ?_ _) | (with_reducible refine ext_set ?_ (by simp <;> omega) _))⟩
   · skip
     rcases (show (t[0]'hp0).toNat = 60 ∨ (t[0]'hp0).toNat = 62 ∨ (t[0]'hp0).toNat = 99 ∨ (t[0]'hp0).toNat = 43 ∨ (t[0]'hp0).toNat = 45 ∨ ((t[0]'hp0).toNat ≠ 60 ∧ (t[0]'hp0).toNat ≠ 62 ∧ (t[0]'hp0).toNat ≠ 99 ∧ (t[0]'hp0).toNat ≠ 43 ∧ (t[0]'hp0).toNat ≠ 45) by omega) with hc | hc | hc | hc | hc | ⟨hc1, hc2, hc3, hc4, hc5⟩
     · skip
       have b60 : (((t[0]'hp0).toNat : Int) == 60) = true := by simp; omega
       have b62 : (((t[0]'hp0).toNat : Int) == 62) = false := by simp; omega
       have b99 : (((t[0]'hp0).toNat : Int) == 99) = false := by simp; omega
       have b43 : (((t[0]'hp0).toNat : Int) == 43) = false := by simp; omega
       have b45 : (((t[0]'hp0).toNat : Int) == 45) = false := by simp; omega
       have E : wordO (bl s) = none := by
        rw [wordO_rep hs1 hr1 hr2, ← hbt, plain_more hsz]
        rfl
       rw [E]
       clear E
       have hq1 : ¬ ((t.size : Nat) : Int) = 1 := by omega
       go_enter Try.func71, Try.ntmps71
       go_upto_region 5 with fail
       rw [← ht]
       have HT := Lib.hid ht
       clear ht hbt
       go_wp2
       refine bodyPost_ret (v := .tuple #[.agg #[.int .i64 (((s[0]'hs0).toNat : Int) - 48), .int .u8 ((t[0]'hp0).toNat : Int), .int .i64 0], .bool false]) (by simp [results, Try.results71, go_sem, *]) rfl ?_
       exact ⟨_, _, _, rfl, by repeat (first | (with_reducible exact ext_refl _) | (with_reducible refine ext_alloc ?_ _) | (with_reducible refine ext_set ?_ (by simp <;> omega) _))⟩
     · skip
       have b60 : (((t[0]'hp0).toNat : Int) == 60) = false := by simp; omega
       have b62 : (((t[0]'hp0).toNat : Int) == 62) = true := by simp; omega
       have b99 : (((t[0]'hp0).toNat : Int) == 99) = false := by simp; omega
       have b43 : (((t[0]'hp0).toNat : Int) == 43) = false := by simp; omega
       have b45 : (((t[0]'hp0).toNat : Int) == 45) = false := by simp; omega
       have E : wordO (bl s) = none := by
        rw [wordO_rep hs1 hr1 hr2, ← hbt, plain_more hsz]
        rfl
       rw [E]
       clear E
       have hq1 : ¬ ((t.size : Nat) : Int) = 1 := by omega
       go_enter Try.func71, Try.ntmps71
       go_upto_region 5 with fail
       rw [← ht]
       have HT := Lib.hid ht
       clear ht hbt
       go_wp2
       refine bodyPost_ret (v := .tuple #[.agg #[.int .i64 (((s[0]'hs0).toNat : Int) - 48), .int .u8 ((t[0]'hp0).toNat : Int), .int .i64 0], .bool false]) (by simp [results, Try.results71, go_sem, *]) rfl ?_
       exact ⟨_, _, _, rfl, by repeat (first | (with_reducible exact ext_refl _) | (with_reducible refine ext_alloc ?_ _) | (with_reducible refine ext_set ?_ (by simp <;> omega) _))⟩
     · skip
       have b60 : (((t[0]'hp0).toNat : Int) == 60) = false := by simp; omega
       have b62 : (((t[0]'hp0).toNat : Int) == 62) = false := by simp; omega
       have b99 : (((t[0]'hp0).toNat : Int) == 99) = true := by simp; omega
       have b43 : (((t[0]'hp0).toNat : Int) == 43) = false := by simp; omega
       have b45 : (((t[0]'hp0).toNat : Int) == 45) = false := by simp; omega
       have E : wordO (bl s) = none := by
        rw [wordO_rep hs1 hr1 hr2, ← hbt, plain_more hsz]
        rfl
       rw [E]
       clear E
       have hq1 : ¬ ((t.size : Nat) : Int) = 1 := by omega
       go_enter Try.func71, Try.ntmps71
       go_upto_region 5 with fail
       rw [← ht]
       have HT := Lib.hid ht
       clear ht hbt
       go_wp2
       refine bodyPost_ret (v := .tuple #[.agg #[.int .i64 (((s[0]'hs0).toNat : Int) - 48), .int .u8 ((t[0]'hp0).toNat : Int), .int .i64 0], .bool false]) (by simp [results, Try.results71, go_sem, *]) rfl ?_
       exact ⟨_, _, _, rfl, by repeat (first | (with_reducible exact ext_refl _) | (with_reducible refine ext_alloc ?_ _) | (with_reducible refine ext_set ?_ (by simp <;> omega) _))⟩
     · skip
       have b60 : (((t[0]'hp0).toNat : Int) == 60) = false := by simp; omega
       have b62 : (((t[0]'hp0).toNat : Int) == 62) = false := by simp; omega
       have b99 : (((t[0]'hp0).toNat : Int) == 99) = false := by simp; omega
       have b43 : (((t[0]'hp0).toNat : Int) == 43) = true := by simp; omega
       have b45 : (((t[0]'hp0).toNat : Int) == 45) = false := by simp; omega
       have E : wordO (bl s) = none := by
        rw [wordO_rep hs1 hr1 hr2, ← hbt, plain_more hsz]
        rfl
       rw [E]
       clear E
       have hq1 : ¬ ((t.size : Nat) : Int) = 1 := by omega
       go_enter Try.func71, Try.ntmps71
       go_upto_region 5 with fail
       rw [← ht]
       have HT := Lib.hid ht
       clear ht hbt
       go_wp2
       refine bodyPost_ret (v := .tuple #[.agg #[.int .i64 0, .int .u8 0, .int .i64 0], .bool false]) (by simp [results, Try.results71, go_sem, *]) rfl ?_
       exact ⟨_, _, _, rfl, by repeat (first | (with_reducible exact ext_refl _) | (with_reducible refine ext_alloc ?_ _) | (with_reducible refine ext_set ?_ (by simp <;> omega) _))⟩
     · skip
       have b60 : (((t[0]'hp0).toNat : Int) == 60) = false := by simp; omega
       have b62 : (((t[0]'hp0).toNat : Int) == 62) = false := by simp; omega
       have b99 : (((t[0]'hp0).toNat : Int) == 99) = false := by simp; omega
       have b43 : (((t[0]'hp0).toNat : Int) == 43) = false := by simp; omega
       have b45 : (((t[0]'hp0).toNat : Int) == 45) = true := by simp; omega
       have E : wordO (bl s) = none := by
        rw [wordO_rep hs1 hr1 hr2, ← hbt, plain_more hsz]
        rfl
       rw [E]
       clear E
       have hq1 : ¬ ((t.size : Nat) : Int) = 1 := by omega
       go_enter Try.func71, Try.ntmps71
       go_upto_region 5 with fail
       rw [← ht]
       have HT := Lib.hid ht
       clear ht hbt
       go_wp2
       refine bodyPost_ret (v := .tuple #[.agg #[.int .i64 0, .int .u8 0, .int .i64 0], .bool false]) (by simp [results, Try.results71, go_sem, *]) rfl ?_
       exact ⟨_, _, _, rfl, by repeat (first | (with_reducible exact ext_refl _) | (with_reducible refine ext_alloc ?_ _) | (with_reducible refine ext_set ?_ (by simp <;> omega) _))⟩
     · skip
       have b60 : (((t[0]'hp0).toNat : Int) == 60) = false := by simp; omega
       have b62 : (((t[0]'hp0).toNat : Int) == 62) = false := by simp; omega
       have b99 : (((t[0]'hp0).toNat : Int) == 99) = false := by simp; omega
       have b43 : (((t[0]'hp0).toNat : Int) == 43) = false := by simp; omega
       have b45 : (((t[0]'hp0).toNat : Int) == 45) = false := by simp; omega
       have E : wordO (bl s) = none := by
        rw [wordO_rep hs1 hr1 hr2, ← hbt, plain_more hsz]
        rfl
       rw [E]
       clear E
       have hq1 : ¬ ((t.size : Nat) : Int) = 1 := by omega
       go_enter Try.func71, Try.ntmps71
       go_upto_region 5 with fail
       rw [← ht]
       have HT := Lib.hid ht
       clear ht hbt
       go_wp2
       refine bodyPost_ret (v := .tuple #[.agg #[.int .i64 0, .int .u8 0, .int .i64 0], .bool false]) (by simp [results, Try.results71, go_sem, *]) rfl ?_
       exact ⟨_, _, _, rfl, by repeat (first | (with_reducible exact ext_refl _) | (with_reducible refine ext_alloc ?_ _) | (with_reducible refine ext_set ?_ (by simp <;> omega) _))⟩
 · have hp0 := hs0
   have hnr : ¬ ((50 ≤ (s[0]'hp0).toNat ∧ (s[0]'hp0).toNat ≤ 57) ∧ 1 < s.size) := by omega
   have hch : (s[0]'hp0).toNat ≠ 60 ∧ (s[0]'hp0).toNat ≠ 62 ∧ (s[0]'hp0).toNat ≠ 99 := by omega
   rcases (show s.size = 2 ∨ 3 ≤ s.size by omega) with hsz | hsz
   · skip
     rcases (show (s[0]'hp0).toNat = 43 ∨ (s[0]'hp0).toNat = 45 ∨ ((s[0]'hp0).toNat ≠ 60 ∧ (s[0]'hp0).toNat ≠ 62 ∧ (s[0]'hp0).toNat ≠ 99 ∧ (s[0]'hp0).toNat ≠ 43 ∧ (s[0]'hp0).toNat ≠ 45) by omega) with hc | hc | ⟨hc1, hc2, hc3, hc4, hc5⟩
     · skip
       rcases (show (49 ≤ (s[1]'(by omega)).toNat ∧ (s[1]'(by omega)).toNat ≤ 57) ∨ (s[1]'(by omega)).toNat < 49 ∨ 57 < (s[1]'(by omega)).toNat by omega) with ⟨hd1, hd2⟩ | hd1 | hd1
       · skip
         have b60 : (((s[0]'hp0).toNat : Int) == 60) = false := by simp; omega
         have b62 : (((s[0]'hp0).toNat : Int) == 62) = false := by simp; omega
         have b99 : (((s[0]'hp0).toNat : Int) == 99) = false := by simp; omega
         have b43 : (((s[0]'hp0).toNat : Int) == 43) = true := by simp; omega
         have b45 : (((s[0]'hp0).toNat : Int) == 45) = false := by simp; omega
         have E : wordO (bl s) = some ⟨1, s[0]'hp0, (s[1]'(by omega)).toNat - 48⟩ := by
          rw [wordO_one hp0 hnr, plain_two hsz hp0 (by omega)]
          simp [c60, c62, c99, c43, c45, digB, hc, hd1, hd2]
         rw [E]
         clear E
         have hq1 : ¬ ((s.size : Nat) : Int) = 1 := by omega
         go_enter Try.func71, Try.ntmps71
         go_wp2
         refine bodyPost_ret (v := .tuple #[.agg #[.int .i64 (1), .int .u8 ((s[0]'hp0).toNat : Int), .int .i64 (((s[1]'(by omega)).toNat : Int) - 48)], .bool true]) (by simp [results, Try.results71, go_sem, *]) rfl ?_
         refine ⟨?_, by repeat (first | (with_reducible exact ext_refl _) | (with_reducible refine ext_alloc ?_ _) | (with_reducible refine ext_set ?_ (by simp <;> omega) _))⟩
         simp only [RW.val, (show (((s[1]'(by omega)).toNat - 48 : Nat) : Int) = ((s[1]'(by omega)).toNat : Int) - 48 by omega)]
         rfl
       · skip
         have b60 : (((s[0]'hp0).toNat : Int) == 60) = false := by simp; omega
         have b62 : (((s[0]'hp0).toNat : Int) == 62) = false := by simp; omega
         have b99 : (((s[0]'hp0).toNat : Int) == 99) = false := by simp; omega
         have b43 : (((s[0]'hp0).toNat : Int) == 43) = true := by simp; omega
         have b45 : (((s[0]'hp0).toNat : Int) == 45) = false := by simp; omega
         have E : wordO (bl s) = none := by
          rw [wordO_one hp0 hnr, plain_two hsz hp0 (by omega)]
          simp [c60, c62, c99, c43, c45, digB, hc]
          try omega
         rw [E]
         clear E
         have hq1 : ¬ ((s.size : Nat) : Int) = 1 := by omega
         go_enter Try.func71, Try.ntmps71
         go_wp2
         refine bodyPost_ret (v := .tuple #[.agg #[.int .i64 0, .int .u8 0, .int .i64 0], .bool false]) (by simp [results, Try.results71, go_sem, *]) rfl ?_
         exact ⟨_, _, _, rfl, by repeat (first | (with_reducible exact ext_refl _) | (with_reducible refine ext_alloc ?_ _) | (with_reducible refine ext_set ?_ (by simp <;> omega) _))⟩
       · skip
         have b60 : (((s[0]'hp0).toNat : Int) == 60) = false := by simp; omega
         have b62 : (((s[0]'hp0).toNat : Int) == 62) = false := by simp; omega
         have b99 : (((s[0]'hp0).toNat : Int) == 99) = false := by simp; omega
         have b43 : (((s[0]'hp0).toNat : Int) == 43) = true := by simp; omega
         have b45 : (((s[0]'hp0).toNat : Int) == 45) = false := by simp; omega
         have E : wordO (bl s) = none := by
          rw [wordO_one hp0 hnr, plain_two hsz hp0 (by omega)]
          simp [c60, c62, c99, c43, c45, digB, hc]
          try omega
         rw [E]
         clear E
         have hq1 : ¬ ((s.size : Nat) : Int) = 1 := by omega
         go_enter Try.func71, Try.ntmps71
         go_wp2
         refine bodyPost_ret (v := .tuple #[.agg #[.int .i64 0, .int .u8 0, .int .i64 0], .bool false]) (by simp [results, Try.results71, go_sem, *]) rfl ?_
         exact ⟨_, _, _, rfl, by repeat (first | (with_reducible exact ext_refl _) | (with_reducible refine ext_alloc ?_ _) | (with_reducible refine ext_set ?_ (by simp <;> omega) _))⟩
     · skip
       rcases (show (49 ≤ (s[1]'(by omega)).toNat ∧ (s[1]'(by omega)).toNat ≤ 57) ∨ (s[1]'(by omega)).toNat < 49 ∨ 57 < (s[1]'(by omega)).toNat by omega) with ⟨hd1, hd2⟩ | hd1 | hd1
       · skip
         have b60 : (((s[0]'hp0).toNat : Int) == 60) = false := by simp; omega
         have b62 : (((s[0]'hp0).toNat : Int) == 62) = false := by simp; omega
         have b99 : (((s[0]'hp0).toNat : Int) == 99) = false := by simp; omega
         have b43 : (((s[0]'hp0).toNat : Int) == 43) = false := by simp; omega
         have b45 : (((s[0]'hp0).toNat : Int) == 45) = true := by simp; omega
         have E : wordO (bl s) = some ⟨1, s[0]'hp0, (s[1]'(by omega)).toNat - 48⟩ := by
          rw [wordO_one hp0 hnr, plain_two hsz hp0 (by omega)]
          simp [c60, c62, c99, c43, c45, digB, hc, hd1, hd2]
         rw [E]
         clear E
         have hq1 : ¬ ((s.size : Nat) : Int) = 1 := by omega
         go_enter Try.func71, Try.ntmps71
         go_wp2
         refine bodyPost_ret (v := .tuple #[.agg #[.int .i64 (1), .int .u8 ((s[0]'hp0).toNat : Int), .int .i64 (((s[1]'(by omega)).toNat : Int) - 48)], .bool true]) (by simp [results, Try.results71, go_sem, *]) rfl ?_
         refine ⟨?_, by repeat (first | (with_reducible exact ext_refl _) | (with_reducible refine ext_alloc ?_ _) | (with_reducible refine ext_set ?_ (by simp <;> omega) _))⟩
         simp only [RW.val, (show (((s[1]'(by omega)).toNat - 48 : Nat) : Int) = ((s[1]'(by omega)).toNat : Int) - 48 by omega)]
         rfl
       · skip
         have b60 : (((s[0]'hp0).toNat : Int) == 60) = false := by simp; omega
         have b62 : (((s[0]'hp0).toNat : Int) == 62) = false := by simp; omega
         have b99 : (((s[0]'hp0).toNat : Int) == 99) = false := by simp; omega
         have b43 : (((s[0]'hp0).toNat : Int) == 43) = false := by simp; omega
         have b45 : (((s[0]'hp0).toNat : Int) == 45) = true := by simp; omega
         have E : wordO (bl s) = none := by
          rw [wordO_one hp0 hnr, plain_two hsz hp0 (by omega)]
          simp [c60, c62, c99, c43, c45, digB, hc]
          try omega
         rw [E]
         clear E
         have hq1 : ¬ ((s.size : Nat) : Int) = 1 := by omega
         go_enter Try.func71, Try.ntmps71
         go_wp2
         refine bodyPost_ret (v := .tuple #[.agg #[.int .i64 0, .int .u8 0, .int .i64 0], .bool false]) (by simp [results, Try.results71, go_sem, *]) rfl ?_
         exact ⟨_, _, _, rfl, by repeat (first | (with_reducible exact ext_refl _) | (with_reducible refine ext_alloc ?_ _) | (with_reducible refine ext_set ?_ (by simp <;> omega) _))⟩
       · skip
         have b60 : (((s[0]'hp0).toNat : Int) == 60) = false := by simp; omega
         have b62 : (((s[0]'hp0).toNat : Int) == 62) = false := by simp; omega
         have b99 : (((s[0]'hp0).toNat : Int) == 99) = false := by simp; omega
         have b43 : (((s[0]'hp0).toNat : Int) == 43) = false := by simp; omega
         have b45 : (((s[0]'hp0).toNat : Int) == 45) = true := by simp; omega
         have E : wordO (bl s) = none := by
          rw [wordO_one hp0 hnr, plain_two hsz hp0 (by omega)]
          simp [c60, c62, c99, c43, c45, digB, hc]
          try omega
         rw [E]
         clear E
         have hq1 : ¬ ((s.size : Nat) : Int) = 1 := by omega
         go_enter Try.func71, Try.ntmps71
         go_wp2
         refine bodyPost_ret (v := .tuple #[.agg #[.int .i64 0, .int .u8 0, .int .i64 0], .bool false]) (by simp [results, Try.results71, go_sem, *]) rfl ?_
         exact ⟨_, _, _, rfl, by repeat (first | (with_reducible exact ext_refl _) | (with_reducible refine ext_alloc ?_ _) | (with_reducible refine ext_set ?_ (by simp <;> omega) _))⟩
     · skip
       have b60 : (((s[0]'hp0).toNat : Int) == 60) = false := by simp; omega
       have b62 : (((s[0]'hp0).toNat : Int) == 62) = false := by simp; omega
       have b99 : (((s[0]'hp0).toNat : Int) == 99) = false := by simp; omega
       have b43 : (((s[0]'hp0).toNat : Int) == 43) = false := by simp; omega
       have b45 : (((s[0]'hp0).toNat : Int) == 45) = false := by simp; omega
       have E : wordO (bl s) = none := by
        rw [wordO_one hp0 hnr, plain_two hsz hp0 (by omega)]
        simp [c60, c62, c99, c43, c45, digB, hc1, hc2, hc3, hc4, hc5]
       rw [E]
       clear E
       have hq1 : ¬ ((s.size : Nat) : Int) = 1 := by omega
       go_enter Try.func71, Try.ntmps71
       go_wp2
       refine bodyPost_ret (v := .tuple #[.agg #[.int .i64 0, .int .u8 0, .int .i64 0], .bool false]) (by simp [results, Try.results71, go_sem, *]) rfl ?_
       exact ⟨_, _, _, rfl, by repeat (first | (with_reducible exact ext_refl _) | (with_reducible refine ext_alloc ?_ _) | (with_reducible refine ext_set ?_ (by simp <;> omega) _))⟩
   · skip
     rcases (show (s[0]'hp0).toNat = 43 ∨ (s[0]'hp0).toNat = 45 ∨ ((s[0]'hp0).toNat ≠ 60 ∧ (s[0]'hp0).toNat ≠ 62 ∧ (s[0]'hp0).toNat ≠ 99 ∧ (s[0]'hp0).toNat ≠ 43 ∧ (s[0]'hp0).toNat ≠ 45) by omega) with hc | hc | ⟨hc1, hc2, hc3, hc4, hc5⟩
     · skip
       have b60 : (((s[0]'hp0).toNat : Int) == 60) = false := by simp; omega
       have b62 : (((s[0]'hp0).toNat : Int) == 62) = false := by simp; omega
       have b99 : (((s[0]'hp0).toNat : Int) == 99) = false := by simp; omega
       have b43 : (((s[0]'hp0).toNat : Int) == 43) = true := by simp; omega
       have b45 : (((s[0]'hp0).toNat : Int) == 45) = false := by simp; omega
       have E : wordO (bl s) = none := by
        rw [wordO_one hp0 hnr, plain_more hsz]
        rfl
       rw [E]
       clear E
       have hq1 : ¬ ((s.size : Nat) : Int) = 1 := by omega
       go_enter Try.func71, Try.ntmps71
       go_wp2
       refine bodyPost_ret (v := .tuple #[.agg #[.int .i64 0, .int .u8 0, .int .i64 0], .bool false]) (by simp [results, Try.results71, go_sem, *]) rfl ?_
       exact ⟨_, _, _, rfl, by repeat (first | (with_reducible exact ext_refl _) | (with_reducible refine ext_alloc ?_ _) | (with_reducible refine ext_set ?_ (by simp <;> omega) _))⟩
     · skip
       have b60 : (((s[0]'hp0).toNat : Int) == 60) = false := by simp; omega
       have b62 : (((s[0]'hp0).toNat : Int) == 62) = false := by simp; omega
       have b99 : (((s[0]'hp0).toNat : Int) == 99) = false := by simp; omega
       have b43 : (((s[0]'hp0).toNat : Int) == 43) = false := by simp; omega
       have b45 : (((s[0]'hp0).toNat : Int) == 45) = true := by simp; omega
       have E : wordO (bl s) = none := by
        rw [wordO_one hp0 hnr, plain_more hsz]
        rfl
       rw [E]
       clear E
       have hq1 : ¬ ((s.size : Nat) : Int) = 1 := by omega
       go_enter Try.func71, Try.ntmps71
       go_wp2
       refine bodyPost_ret (v := .tuple #[.agg #[.int .i64 0, .int .u8 0, .int .i64 0], .bool false]) (by simp [results, Try.results71, go_sem, *]) rfl ?_
       exact ⟨_, _, _, rfl, by repeat (first | (with_reducible exact ext_refl _) | (with_reducible refine ext_alloc ?_ _) | (with_reducible refine ext_set ?_ (by simp <;> omega) _))⟩
     · skip
       have b60 : (((s[0]'hp0).toNat : Int) == 60) = false := by simp; omega
       have b62 : (((s[0]'hp0).toNat : Int) == 62) = false := by simp; omega
       have b99 : (((s[0]'hp0).toNat : Int) == 99) = false := by simp; omega
       have b43 : (((s[0]'hp0).toNat : Int) == 43) = false := by simp; omega
       have b45 : (((s[0]'hp0).toNat : Int) == 45) = false := by simp; omega
       have E : wordO (bl s) = none := by
        rw [wordO_one hp0 hnr, plain_more hsz]
        rfl
       rw [E]
       clear E
       have hq1 : ¬ ((s.size : Nat) : Int) = 1 := by omega
       go_enter Try.func71, Try.ntmps71
       go_wp2
       refine bodyPost_ret (v := .tuple #[.agg #[.int .i64 0, .int .u8 0, .int .i64 0], .bool false]) (by simp [results, Try.results71, go_sem, *]) rfl ?_
       exact ⟨_, _, _, rfl, by repeat (first | (with_reducible exact ext_refl _) | (with_reducible refine ext_alloc ?_ _) | (with_reducible refine ext_set ?_ (by simp <;> omega) _))⟩
 · have hp0 := hs0
   have hnr : ¬ ((50 ≤ (s[0]'hp0).toNat ∧ (s[0]'hp0).toNat ≤ 57) ∧ 1 < s.size) := by omega
   have hch : (s[0]'hp0).toNat ≠ 43 ∧ (s[0]'hp0).toNat ≠ 45 := by omega
   rcases (show s.size = 2 ∨ 3 ≤ s.size by omega) with hsz | hsz
   · skip
     rcases (show (s[0]'hp0).toNat = 60 ∨ (s[0]'hp0).toNat = 62 ∨ (s[0]'hp0).toNat = 99 ∨ ((s[0]'hp0).toNat ≠ 60 ∧ (s[0]'hp0).toNat ≠ 62 ∧ (s[0]'hp0).toNat ≠ 99 ∧ (s[0]'hp0).toNat ≠ 43 ∧ (s[0]'hp0).toNat ≠ 45) by omega) with hc | hc | hc | ⟨hc1, hc2, hc3, hc4, hc5⟩
     · skip
       have b60 : (((s[0]'hp0).toNat : Int) == 60) = true := by simp; omega
       have b62 : (((s[0]'hp0).toNat : Int) == 62) = false := by simp; omega
       have b99 : (((s[0]'hp0).toNat : Int) == 99) = false := by simp; omega
       have b43 : (((s[0]'hp0).toNat : Int) == 43) = false := by simp; omega
       have b45 : (((s[0]'hp0).toNat : Int) == 45) = false := by simp; omega
       have E : wordO (bl s) = none := by
        rw [wordO_one hp0 hnr, plain_two hsz hp0 (by omega)]
        simp [c60, c62, c99, c43, c45, digB, hc]
       rw [E]
       clear E
       have hq1 : ¬ ((s.size : Nat) : Int) = 1 := by omega
       go_enter Try.func71, Try.ntmps71
       go_wp2
       refine bodyPost_ret (v := .tuple #[.agg #[.int .i64 (1), .int .u8 ((s[0]'hp0).toNat : Int), .int .i64 0], .bool false]) (by simp [results, Try.results71, go_sem, *]) rfl ?_
       exact ⟨_, _, _, rfl, by repeat (first | (with_reducible exact ext_refl _) | (with_reducible refine ext_alloc ?_ _) | (with_reducible refine ext_set ?_ (by simp <;> omega) _))⟩
     · skip
       have b60 : (((s[0]'hp0).toNat : Int) == 60) = false := by simp; omega
       have b62 : (((s[0]'hp0).toNat : Int) == 62) = true := by simp; omega
       have b99 : (((s[0]'hp0).toNat : Int) == 99) = false := by simp; omega
       have b43 : (((s[0]'hp0).toNat : Int) == 43) = false := by simp; omega
       have b45 : (((s[0]'hp0).toNat : Int) == 45) = false := by simp; omega
       have E : wordO (bl s) = none := by
        rw [wordO_one hp0 hnr, plain_two hsz hp0 (by omega)]
        simp [c60, c62, c99, c43, c45, digB, hc]
       rw [E]
       clear E
       have hq1 : ¬ ((s.size : Nat) : Int) = 1 := by omega
       go_enter Try.func71, Try.ntmps71
       go_wp2
       refine bodyPost_ret (v := .tuple #[.agg #[.int .i64 (1), .int .u8 ((s[0]'hp0).toNat : Int), .int .i64 0], .bool false]) (by simp [results, Try.results71, go_sem, *]) rfl ?_
       exact ⟨_, _, _, rfl, by repeat (first | (with_reducible exact ext_refl _) | (with_reducible refine ext_alloc ?_ _) | (with_reducible refine ext_set ?_ (by simp <;> omega) _))⟩
     · skip
       have b60 : (((s[0]'hp0).toNat : Int) == 60) = false := by simp; omega
       have b62 : (((s[0]'hp0).toNat : Int) == 62) = false := by simp; omega
       have b99 : (((s[0]'hp0).toNat : Int) == 99) = true := by simp; omega
       have b43 : (((s[0]'hp0).toNat : Int) == 43) = false := by simp; omega
       have b45 : (((s[0]'hp0).toNat : Int) == 45) = false := by simp; omega
       have E : wordO (bl s) = none := by
        rw [wordO_one hp0 hnr, plain_two hsz hp0 (by omega)]
        simp [c60, c62, c99, c43, c45, digB, hc]
       rw [E]
       clear E
       have hq1 : ¬ ((s.size : Nat) : Int) = 1 := by omega
       go_enter Try.func71, Try.ntmps71
       go_wp2
       refine bodyPost_ret (v := .tuple #[.agg #[.int .i64 (1), .int .u8 ((s[0]'hp0).toNat : Int), .int .i64 0], .bool false]) (by simp [results, Try.results71, go_sem, *]) rfl ?_
       exact ⟨_, _, _, rfl, by repeat (first | (with_reducible exact ext_refl _) | (with_reducible refine ext_alloc ?_ _) | (with_reducible refine ext_set ?_ (by simp <;> omega) _))⟩
     · skip
       have b60 : (((s[0]'hp0).toNat : Int) == 60) = false := by simp; omega
       have b62 : (((s[0]'hp0).toNat : Int) == 62) = false := by simp; omega
       have b99 : (((s[0]'hp0).toNat : Int) == 99) = false := by simp; omega
       have b43 : (((s[0]'hp0).toNat : Int) == 43) = false := by simp; omega
       have b45 : (((s[0]'hp0).toNat : Int) == 45) = false := by simp; omega
       have E : wordO (bl s) = none := by
        rw [wordO_one hp0 hnr, plain_two hsz hp0 (by omega)]
        simp [c60, c62, c99, c43, c45, digB, hc1, hc2, hc3, hc4, hc5]
       rw [E]
       clear E
       have hq1 : ¬ ((s.size : Nat) : Int) = 1 := by omega
       go_enter Try.func71, Try.ntmps71
       go_wp2
       refine bodyPost_ret (v := .tuple #[.agg #[.int .i64 0, .int .u8 0, .int .i64 0], .bool false]) (by simp [results, Try.results71, go_sem, *]) rfl ?_
       exact ⟨_, _, _, rfl, by repeat (first | (with_reducible exact ext_refl _) | (with_reducible refine ext_alloc ?_ _) | (with_reducible refine ext_set ?_ (by simp <;> omega) _))⟩
   · skip
     rcases (show (s[0]'hp0).toNat = 60 ∨ (s[0]'hp0).toNat = 62 ∨ (s[0]'hp0).toNat = 99 ∨ ((s[0]'hp0).toNat ≠ 60 ∧ (s[0]'hp0).toNat ≠ 62 ∧ (s[0]'hp0).toNat ≠ 99 ∧ (s[0]'hp0).toNat ≠ 43 ∧ (s[0]'hp0).toNat ≠ 45) by omega) with hc | hc | hc | ⟨hc1, hc2, hc3, hc4, hc5⟩
     · skip
       have b60 : (((s[0]'hp0).toNat : Int) == 60) = true := by simp; omega
       have b62 : (((s[0]'hp0).toNat : Int) == 62) = false := by simp; omega
       have b99 : (((s[0]'hp0).toNat : Int) == 99) = false := by simp; omega
       have b43 : (((s[0]'hp0).toNat : Int) == 43) = false := by simp; omega
       have b45 : (((s[0]'hp0).toNat : Int) == 45) = false := by simp; omega
       have E : wordO (bl s) = none := by
        rw [wordO_one hp0 hnr, plain_more hsz]
        rfl
       rw [E]
       clear E
       have hq1 : ¬ ((s.size : Nat) : Int) = 1 := by omega
       go_enter Try.func71, Try.ntmps71
       go_wp2
       refine bodyPost_ret (v := .tuple #[.agg #[.int .i64 (1), .int .u8 ((s[0]'hp0).toNat : Int), .int .i64 0], .bool false]) (by simp [results, Try.results71, go_sem, *]) rfl ?_
       exact ⟨_, _, _, rfl, by repeat (first | (with_reducible exact ext_refl _) | (with_reducible refine ext_alloc ?_ _) | (with_reducible refine ext_set ?_ (by simp <;> omega) _))⟩
     · skip
       have b60 : (((s[0]'hp0).toNat : Int) == 60) = false := by simp; omega
       have b62 : (((s[0]'hp0).toNat : Int) == 62) = true := by simp; omega
       have b99 : (((s[0]'hp0).toNat : Int) == 99) = false := by simp; omega
       have b43 : (((s[0]'hp0).toNat : Int) == 43) = false := by simp; omega
       have b45 : (((s[0]'hp0).toNat : Int) == 45) = false := by simp; omega
       have E : wordO (bl s) = none := by
        rw [wordO_one hp0 hnr, plain_more hsz]
        rfl
       rw [E]
       clear E
       have hq1 : ¬ ((s.size : Nat) : Int) = 1 := by omega
       go_enter Try.func71, Try.ntmps71
       go_wp2
       refine bodyPost_ret (v := .tuple #[.agg #[.int .i64 (1), .int .u8 ((s[0]'hp0).toNat : Int), .int .i64 0], .bool false]) (by simp [results, Try.results71, go_sem, *]) rfl ?_
       exact ⟨_, _, _, rfl, by repeat (first | (with_reducible exact ext_refl _) | (with_reducible refine ext_alloc ?_ _) | (with_reducible refine ext_set ?_ (by simp <;> omega) _))⟩
     · skip
       have b60 : (((s[0]'hp0).toNat : Int) == 60) = false := by simp; omega
       have b62 : (((s[0]'hp0).toNat : Int) == 62) = false := by simp; omega
       have b99 : (((s[0]'hp0).toNat : Int) == 99) = true := by simp; omega
       have b43 : (((s[0]'hp0).toNat : Int) == 43) = false := by simp; omega
       have b45 : (((s[0]'hp0).toNat : Int) == 45) = false := by simp; omega
       have E : wordO (bl s) = none := by
        rw [wordO_one hp0 hnr, plain_more hsz]
        rfl
       rw [E]
       clear E
       have hq1 : ¬ ((s.size : Nat) : Int) = 1 := by omega
       go_enter Try.func71, Try.ntmps71
       go_wp2
       refine bodyPost_ret (v := .tuple #[.agg #[.int .i64 (1), .int .u8 ((s[0]'hp0).toNat : Int), .int .i64 0], .bool false]) (by simp [results, Try.results71, go_sem, *]) rfl ?_
       exact ⟨_, _, _, rfl, by repeat (first | (with_reducible exact ext_refl _) | (with_reducible refine ext_alloc ?_ _) | (with_reducible refine ext_set ?_ (by simp <;> omega) _))⟩
     · skip
       have b60 : (((s[0]'hp0).toNat : Int) == 60) = false := by simp; omega
       have b62 : (((s[0]'hp0).toNat : Int) == 62) = false := by simp; omega
       have b99 : (((s[0]'hp0).toNat : Int) == 99) = false := by simp; omega
       have b43 : (((s[0]'hp0).toNat : Int) == 43) = false := by simp; omega
       have b45 : (((s[0]'hp0).toNat : Int) == 45) = false := by simp; omega
       have E : wordO (bl s) = none := by
        rw [wordO_one hp0 hnr, plain_more hsz]
        rfl
       rw [E]
       clear E
       have hq1 : ¬ ((s.size : Nat) : Int) = 1 := by omega
       go_enter Try.func71, Try.ntmps71
       go_wp2
       refine bodyPost_ret (v := .tuple #[.agg #[.int .i64 0, .int .u8 0, .int .i64 0], .bool false]) (by simp [results, Try.results71, go_sem, *]) rfl ?_
       exact ⟨_, _, _, rfl, by repeat (first | (with_reducible exact ext_refl _) | (with_reducible refine ext_alloc ?_ _) | (with_reducible refine ext_set ?_ (by simp <;> omega) _))⟩
end Go.Proofs.Ytihljhikhplegaa
