/- The reference's commands with one number and with two: l28One, l28Two. -/
import Derived.Test.YtkcbgiegoadkbaaGreatVSpM
namespace Go.Proofs.YtkcbgiegoadkbaaGreat
open Go.RowKit
set_option linter.unusedVariables false
set_option linter.unusedSimpArgs false
theorem l28Make_any (day pa le : Int) (d p : ByteArray) (z : Int) (A : Option Addr) (n c : Nat) (l : List R5) (k id v : Int) (w : World) (hn : n ≤ 8) (hnc : n ≤ c) (hA : SlOk A n c) (h : Reads w w.heap.size 5 A n (rowsV l)) (hs : schB day l pa le = true) :
 Calls Tryz.prog 95 #[conV day A n c pa le d p z, .agg #[.int .i64 k, .int .i64 id, .int .i64 v]] w (RetC A c l (day, l, pa, le) d p z (mkO (day, l, pa, le) k id v) w) := by
 by_cases h1 : k = 1
 · subst h1; exact l28Make_1 day pa le d p z A n c l w hn hnc hA h hs id v
 · by_cases h6 : k = 6
   · subst h6; exact l28Make_6 day pa le d p z A n c l w hn hnc hA h hs id v
   · exact l28Make_k day pa le d p z A n c l w hn hnc hA h hs k id v h1 h6 (beq_eq_false_iff_ne.2 h1) (beq_eq_false_iff_ne.2 h6)
set_option maxRecDepth 100000 in
set_option maxHeartbeats 4000000 in
theorem l28Two_2 (day pa le : Int) (d p : ByteArray) (z : Int) (A : Option Addr) (n c : Nat) (l : List R5) (w : World) (hn : n ≤ 8) (hnc : n ≤ c) (hA : SlOk A n c) (h : Reads w w.heap.size 5 A n (rowsV l)) (hs : schB day l pa le = true) (word : ByteArray) (id v : Int) (hw : word = ⟨#[101, 110, 114, 111, 108]⟩) :
 Calls Tryz.prog 76 #[conV day A n c pa le d p z, .string word, .int .i64 id, .int .i64 v] w (RetC A c l (day, l, pa, le) d p z (mkO (day, l, pa, le) 2 id v) w) := by
 subst hw
 have HM := Lib.hid (fun (w : World) h => l28Make_any day pa le d p z A n c l 2 id v w hn hnc hA h hs)
 have H := Lib.hid h
 clear h
 obtain ⟨q, hq⟩ : ∃ q, afQ (day, l, pa, le) (mkO (day, l, pa, le) 2 id v) = q := ⟨_, rfl⟩
 obtain ⟨tx, htx⟩ : ∃ tx, afT (mkO (day, l, pa, le) 2 id v) = tx := ⟨_, rfl⟩
 unfold RetC at HM ⊢
 rw [hq, htx] at HM ⊢
 clear hq htx
 go_enter Tryz.func76, Tryz.ntmps76
 go_wp2_with fail
 refine (HM.out _ ((H.out.ext (ext_alloc (ext_alloc (ext_refl _) _) _) (Nat.le_refl _)).more (by simp; omega))).mono ?_
 rintro e w1 ⟨A1, N1, c1, D, P, Q, L, rfl, rfl, rfl, hsl, hb1⟩
 have z0 : w.heap.size + 1 < w1.heap.size := by (have := hb1.size; simp at this; omega)
 have BR : Hid (Blk w1 (w.heap.size + 1) 34 #[.int .i64 0, .slice none 0 0, .int .i64 0, .int .i64 0, .string ⟨#[]⟩, .string ⟨#[]⟩, .int .i64 0]) := Lib.hid (by
  have := (Blk.new (w.alloc (.cells #[.int .i64 day, .slice A n c, .int .i64 pa, .int .i64 le, .string d, .string p, .int .i64 z] 34)) #[.int .i64 0, .slice none 0 0, .int .i64 0, .int .i64 0, .string ⟨#[]⟩, .string ⟨#[]⟩, .int .i64 0] 34).ext hb1
  simpa using this)
 have b1 := Lib.hid (ext_trans (ext_alloc (ext_alloc (ext_refl w) _) _) hb1)
 have SL := Lib.hid hsl
 clear hb1 hsl
 obtain ⟨r0, r1, r2, r3, r4, r5, r6⟩ := BR.out.q7
 obtain ⟨fr0, fr1, fr2, fr3, fr4, fr5, fr6⟩ := BR.out.z7
 go_wp2
 refine bodyPost_ret (v := .tuple #[conV D A1 L.length c1 P Q d p z, .string tx]) (by simp [results, Tryz.results76, go_sem, *]) rfl ?_
 refine ⟨A1, L.length, c1, D, P, Q, L, rfl, rfl, rfl, ?_, ?_⟩
 · rcases SL.out with ho | hx
   · have hne := own_nb ho BR.out (by decide)
     refine .inl ?_
     iterate 7 refine own_set_nb ?_ hne _
     exact own_base ho (by simp; omega)
   · exact .inr hx
 · iterate 7 refine ext_set ?_ (by show w.heap.size ≤ w.heap.size + 1; omega) _
   exact b1.out
set_option maxRecDepth 100000 in
set_option maxHeartbeats 4000000 in
theorem l28Two_3 (day pa le : Int) (d p : ByteArray) (z : Int) (A : Option Addr) (n c : Nat) (l : List R5) (w : World) (hn : n ≤ 8) (hnc : n ≤ c) (hA : SlOk A n c) (h : Reads w w.heap.size 5 A n (rowsV l)) (hs : schB day l pa le = true) (word : ByteArray) (id v : Int) (hw : word = ⟨#[112, 114, 97, 99, 116, 105, 115, 101]⟩) :
 Calls Tryz.prog 76 #[conV day A n c pa le d p z, .string word, .int .i64 id, .int .i64 v] w (RetC A c l (day, l, pa, le) d p z (mkO (day, l, pa, le) 3 id v) w) := by
 subst hw
 have HM := Lib.hid (fun (w : World) h => l28Make_any day pa le d p z A n c l 3 id v w hn hnc hA h hs)
 have H := Lib.hid h
 clear h
 obtain ⟨q, hq⟩ : ∃ q, afQ (day, l, pa, le) (mkO (day, l, pa, le) 3 id v) = q := ⟨_, rfl⟩
 obtain ⟨tx, htx⟩ : ∃ tx, afT (mkO (day, l, pa, le) 3 id v) = tx := ⟨_, rfl⟩
 unfold RetC at HM ⊢
 rw [hq, htx] at HM ⊢
 clear hq htx
 go_enter Tryz.func76, Tryz.ntmps76
 go_wp2_with fail
 refine (HM.out _ ((H.out.ext (ext_alloc (ext_alloc (ext_refl _) _) _) (Nat.le_refl _)).more (by simp; omega))).mono ?_
 rintro e w1 ⟨A1, N1, c1, D, P, Q, L, rfl, rfl, rfl, hsl, hb1⟩
 have z0 : w.heap.size + 1 < w1.heap.size := by (have := hb1.size; simp at this; omega)
 have BR : Hid (Blk w1 (w.heap.size + 1) 34 #[.int .i64 0, .slice none 0 0, .int .i64 0, .int .i64 0, .string ⟨#[]⟩, .string ⟨#[]⟩, .int .i64 0]) := Lib.hid (by
  have := (Blk.new (w.alloc (.cells #[.int .i64 day, .slice A n c, .int .i64 pa, .int .i64 le, .string d, .string p, .int .i64 z] 34)) #[.int .i64 0, .slice none 0 0, .int .i64 0, .int .i64 0, .string ⟨#[]⟩, .string ⟨#[]⟩, .int .i64 0] 34).ext hb1
  simpa using this)
 have b1 := Lib.hid (ext_trans (ext_alloc (ext_alloc (ext_refl w) _) _) hb1)
 have SL := Lib.hid hsl
 clear hb1 hsl
 obtain ⟨r0, r1, r2, r3, r4, r5, r6⟩ := BR.out.q7
 obtain ⟨fr0, fr1, fr2, fr3, fr4, fr5, fr6⟩ := BR.out.z7
 go_wp2
 refine bodyPost_ret (v := .tuple #[conV D A1 L.length c1 P Q d p z, .string tx]) (by simp [results, Tryz.results76, go_sem, *]) rfl ?_
 refine ⟨A1, L.length, c1, D, P, Q, L, rfl, rfl, rfl, ?_, ?_⟩
 · rcases SL.out with ho | hx
   · have hne := own_nb ho BR.out (by decide)
     refine .inl ?_
     iterate 7 refine own_set_nb ?_ hne _
     exact own_base ho (by simp; omega)
   · exact .inr hx
 · iterate 7 refine ext_set ?_ (by show w.heap.size ≤ w.heap.size + 1; omega) _
   exact b1.out
set_option maxRecDepth 100000 in
set_option maxHeartbeats 4000000 in
theorem l28Two_4 (day pa le : Int) (d p : ByteArray) (z : Int) (A : Option Addr) (n c : Nat) (l : List R5) (w : World) (hn : n ≤ 8) (hnc : n ≤ c) (hA : SlOk A n c) (h : Reads w w.heap.size 5 A n (rowsV l)) (hs : schB day l pa le = true) (word : ByteArray) (id v : Int) (hw : word = ⟨#[101, 120, 97, 109]⟩) :
 Calls Tryz.prog 76 #[conV day A n c pa le d p z, .string word, .int .i64 id, .int .i64 v] w (RetC A c l (day, l, pa, le) d p z (mkO (day, l, pa, le) 4 id v) w) := by
 subst hw
 have HM := Lib.hid (fun (w : World) h => l28Make_any day pa le d p z A n c l 4 id v w hn hnc hA h hs)
 have H := Lib.hid h
 clear h
 obtain ⟨q, hq⟩ : ∃ q, afQ (day, l, pa, le) (mkO (day, l, pa, le) 4 id v) = q := ⟨_, rfl⟩
 obtain ⟨tx, htx⟩ : ∃ tx, afT (mkO (day, l, pa, le) 4 id v) = tx := ⟨_, rfl⟩
 unfold RetC at HM ⊢
 rw [hq, htx] at HM ⊢
 clear hq htx
 go_enter Tryz.func76, Tryz.ntmps76
 go_wp2_with fail
 refine (HM.out _ ((H.out.ext (ext_alloc (ext_alloc (ext_refl _) _) _) (Nat.le_refl _)).more (by simp; omega))).mono ?_
 rintro e w1 ⟨A1, N1, c1, D, P, Q, L, rfl, rfl, rfl, hsl, hb1⟩
 have z0 : w.heap.size + 1 < w1.heap.size := by (have := hb1.size; simp at this; omega)
 have BR : Hid (Blk w1 (w.heap.size + 1) 34 #[.int .i64 0, .slice none 0 0, .int .i64 0, .int .i64 0, .string ⟨#[]⟩, .string ⟨#[]⟩, .int .i64 0]) := Lib.hid (by
  have := (Blk.new (w.alloc (.cells #[.int .i64 day, .slice A n c, .int .i64 pa, .int .i64 le, .string d, .string p, .int .i64 z] 34)) #[.int .i64 0, .slice none 0 0, .int .i64 0, .int .i64 0, .string ⟨#[]⟩, .string ⟨#[]⟩, .int .i64 0] 34).ext hb1
  simpa using this)
 have b1 := Lib.hid (ext_trans (ext_alloc (ext_alloc (ext_refl w) _) _) hb1)
 have SL := Lib.hid hsl
 clear hb1 hsl
 obtain ⟨r0, r1, r2, r3, r4, r5, r6⟩ := BR.out.q7
 obtain ⟨fr0, fr1, fr2, fr3, fr4, fr5, fr6⟩ := BR.out.z7
 go_wp2
 refine bodyPost_ret (v := .tuple #[conV D A1 L.length c1 P Q d p z, .string tx]) (by simp [results, Tryz.results76, go_sem, *]) rfl ?_
 refine ⟨A1, L.length, c1, D, P, Q, L, rfl, rfl, rfl, ?_, ?_⟩
 · rcases SL.out with ho | hx
   · have hne := own_nb ho BR.out (by decide)
     refine .inl ?_
     iterate 7 refine own_set_nb ?_ hne _
     exact own_base ho (by simp; omega)
   · exact .inr hx
 · iterate 7 refine ext_set ?_ (by show w.heap.size ≤ w.heap.size + 1; omega) _
   exact b1.out
set_option maxRecDepth 100000 in
set_option maxHeartbeats 4000000 in
theorem l28Two_5 (day pa le : Int) (d p : ByteArray) (z : Int) (A : Option Addr) (n c : Nat) (l : List R5) (w : World) (hn : n ≤ 8) (hnc : n ≤ c) (hA : SlOk A n c) (h : Reads w w.heap.size 5 A n (rowsV l)) (hs : schB day l pa le = true) (word : ByteArray) (id v : Int) (hw : word = ⟨#[112, 97, 121]⟩) :
 Calls Tryz.prog 76 #[conV day A n c pa le d p z, .string word, .int .i64 id, .int .i64 v] w (RetC A c l (day, l, pa, le) d p z (mkO (day, l, pa, le) 5 id v) w) := by
 subst hw
 have HM := Lib.hid (fun (w : World) h => l28Make_any day pa le d p z A n c l 5 id v w hn hnc hA h hs)
 have H := Lib.hid h
 clear h
 obtain ⟨q, hq⟩ : ∃ q, afQ (day, l, pa, le) (mkO (day, l, pa, le) 5 id v) = q := ⟨_, rfl⟩
 obtain ⟨tx, htx⟩ : ∃ tx, afT (mkO (day, l, pa, le) 5 id v) = tx := ⟨_, rfl⟩
 unfold RetC at HM ⊢
 rw [hq, htx] at HM ⊢
 clear hq htx
 go_enter Tryz.func76, Tryz.ntmps76
 go_wp2_with fail
 refine (HM.out _ ((H.out.ext (ext_alloc (ext_alloc (ext_refl _) _) _) (Nat.le_refl _)).more (by simp; omega))).mono ?_
 rintro e w1 ⟨A1, N1, c1, D, P, Q, L, rfl, rfl, rfl, hsl, hb1⟩
 have z0 : w.heap.size + 1 < w1.heap.size := by (have := hb1.size; simp at this; omega)
 have BR : Hid (Blk w1 (w.heap.size + 1) 34 #[.int .i64 0, .slice none 0 0, .int .i64 0, .int .i64 0, .string ⟨#[]⟩, .string ⟨#[]⟩, .int .i64 0]) := Lib.hid (by
  have := (Blk.new (w.alloc (.cells #[.int .i64 day, .slice A n c, .int .i64 pa, .int .i64 le, .string d, .string p, .int .i64 z] 34)) #[.int .i64 0, .slice none 0 0, .int .i64 0, .int .i64 0, .string ⟨#[]⟩, .string ⟨#[]⟩, .int .i64 0] 34).ext hb1
  simpa using this)
 have b1 := Lib.hid (ext_trans (ext_alloc (ext_alloc (ext_refl w) _) _) hb1)
 have SL := Lib.hid hsl
 clear hb1 hsl
 obtain ⟨r0, r1, r2, r3, r4, r5, r6⟩ := BR.out.q7
 obtain ⟨fr0, fr1, fr2, fr3, fr4, fr5, fr6⟩ := BR.out.z7
 go_wp2
 refine bodyPost_ret (v := .tuple #[conV D A1 L.length c1 P Q d p z, .string tx]) (by simp [results, Tryz.results76, go_sem, *]) rfl ?_
 refine ⟨A1, L.length, c1, D, P, Q, L, rfl, rfl, rfl, ?_, ?_⟩
 · rcases SL.out with ho | hx
   · have hne := own_nb ho BR.out (by decide)
     refine .inl ?_
     iterate 7 refine own_set_nb ?_ hne _
     exact own_base ho (by simp; omega)
   · exact .inr hx
 · iterate 7 refine ext_set ?_ (by show w.heap.size ≤ w.heap.size + 1; omega) _
   exact b1.out
set_option maxRecDepth 100000 in
set_option maxHeartbeats 4000000 in
theorem l28Two_no (day pa le : Int) (d p : ByteArray) (z : Int) (A : Option Addr) (n c : Nat) (l : List R5) (w : World) (hn : n ≤ 8) (hnc : n ≤ c) (hA : SlOk A n c) (h : Reads w w.heap.size 5 A n (rowsV l)) (hs : schB day l pa le = true) (word : ByteArray) (id v : Int) (hw0 : word ≠ ⟨#[101, 110, 114, 111, 108]⟩) (hw1 : word ≠ ⟨#[112, 114, 97, 99, 116, 105, 115, 101]⟩) (hw2 : word ≠ ⟨#[101, 120, 97, 109]⟩) (hw3 : word ≠ ⟨#[112, 97, 121]⟩) :
 Calls Tryz.prog 76 #[conV day A n c pa le d p z, .string word, .int .i64 id, .int .i64 v] w (RetC A c l (day, l, pa, le) d p z (none) w) := by
 have b0 : (word.toList == [101, 110, 114, 111, 108]) = false := lit_no hw0 rfl
 have b1 : (word.toList == [112, 114, 97, 99, 116, 105, 115, 101]) = false := lit_no hw1 rfl
 have b2 : (word.toList == [101, 120, 97, 109]) = false := lit_no hw2 rfl
 have b3 : (word.toList == [112, 97, 121]) = false := lit_no hw3 rfl
 have HLN := Lib.hid (rows_len h)
 clear hw0 hw1 hw2 hw3 h
 go_enter Tryz.func76, Tryz.ntmps76
 go_wp2
 refine bodyPost_ret (v := .tuple #[conV day A n c pa le d p z, .string (⟨#[63]⟩)]) (by simp [results, Tryz.results76, go_sem, *]) rfl ?_
 exact ⟨A, n, c, day, pa, le, l, rfl, rfl, HLN.out.symm, .inr ⟨rfl, rfl, rfl⟩, (by repeat (first | (with_reducible exact ext_refl _) | (with_reducible refine ext_set ?_ (by simp) _) | (with_reducible refine ext_alloc ?_ _)))⟩

set_option maxRecDepth 100000 in
set_option maxHeartbeats 4000000 in
theorem l28One_wait (day pa le : Int) (d p : ByteArray) (z : Int) (A : Option Addr) (n c : Nat) (l : List R5) (w : World) (hn : n ≤ 8) (hnc : n ≤ c) (hA : SlOk A n c) (h : Reads w w.heap.size 5 A n (rowsV l)) (hs : schB day l pa le = true) (word : ByteArray) (id : Int) (hw : word = ⟨#[119, 97, 105, 116]⟩) :
 Calls Tryz.prog 75 #[conV day A n c pa le d p z, .string word, .int .i64 id] w (RetC A c l (day, l, pa, le) d p z (mkO (day, l, pa, le) 1 0 id) w) := by
 subst hw
 have HM := Lib.hid (fun (w : World) h => l28Make_any day pa le d p z A n c l 1 0 id w hn hnc hA h hs)
 have H := Lib.hid h
 clear h
 obtain ⟨q, hq⟩ : ∃ q, afQ (day, l, pa, le) (mkO (day, l, pa, le) 1 0 id) = q := ⟨_, rfl⟩
 obtain ⟨tx, htx⟩ : ∃ tx, afT (mkO (day, l, pa, le) 1 0 id) = tx := ⟨_, rfl⟩
 unfold RetC at HM ⊢
 rw [hq, htx] at HM ⊢
 clear hq htx
 go_enter Tryz.func75, Tryz.ntmps75
 go_wp2_with fail
 refine (HM.out _ ((H.out.ext (ext_alloc (ext_alloc (ext_refl _) _) _) (Nat.le_refl _)).more (by simp; omega))).mono ?_
 rintro e w1 ⟨A1, N1, c1, D, P, Q, L, rfl, rfl, rfl, hsl, hb1⟩
 have z0 : w.heap.size + 1 < w1.heap.size := by (have := hb1.size; simp at this; omega)
 have BR : Hid (Blk w1 (w.heap.size + 1) 34 #[.int .i64 0, .slice none 0 0, .int .i64 0, .int .i64 0, .string ⟨#[]⟩, .string ⟨#[]⟩, .int .i64 0]) := Lib.hid (by
  have := (Blk.new (w.alloc (.cells #[.int .i64 day, .slice A n c, .int .i64 pa, .int .i64 le, .string d, .string p, .int .i64 z] 34)) #[.int .i64 0, .slice none 0 0, .int .i64 0, .int .i64 0, .string ⟨#[]⟩, .string ⟨#[]⟩, .int .i64 0] 34).ext hb1
  simpa using this)
 have b1 := Lib.hid (ext_trans (ext_alloc (ext_alloc (ext_refl w) _) _) hb1)
 have SL := Lib.hid hsl
 clear hb1 hsl
 obtain ⟨r0, r1, r2, r3, r4, r5, r6⟩ := BR.out.q7
 obtain ⟨fr0, fr1, fr2, fr3, fr4, fr5, fr6⟩ := BR.out.z7
 go_wp2
 refine bodyPost_ret (v := .tuple #[conV D A1 L.length c1 P Q d p z, .string tx]) (by simp [results, Tryz.results75, go_sem, *]) rfl ?_
 refine ⟨A1, L.length, c1, D, P, Q, L, rfl, rfl, rfl, ?_, ?_⟩
 · rcases SL.out with ho | hx
   · have hne := own_nb ho BR.out (by decide)
     refine .inl ?_
     iterate 7 refine own_set_nb ?_ hne _
     exact own_base ho (by simp; omega)
   · exact .inr hx
 · iterate 7 refine ext_set ?_ (by show w.heap.size ≤ w.heap.size + 1; omega) _
   exact b1.out
set_option maxRecDepth 100000 in
set_option maxHeartbeats 4000000 in
theorem l28One_leave (day pa le : Int) (d p : ByteArray) (z : Int) (A : Option Addr) (n c : Nat) (l : List R5) (w : World) (hn : n ≤ 8) (hnc : n ≤ c) (hA : SlOk A n c) (h : Reads w w.heap.size 5 A n (rowsV l)) (hs : schB day l pa le = true) (word : ByteArray) (id : Int) (hw : word = ⟨#[108, 101, 97, 118, 101]⟩) :
 Calls Tryz.prog 75 #[conV day A n c pa le d p z, .string word, .int .i64 id] w (RetC A c l (day, l, pa, le) d p z (mkO (day, l, pa, le) 6 id 0) w) := by
 subst hw
 have HM := Lib.hid (fun (w : World) h => l28Make_any day pa le d p z A n c l 6 id 0 w hn hnc hA h hs)
 have H := Lib.hid h
 clear h
 obtain ⟨q, hq⟩ : ∃ q, afQ (day, l, pa, le) (mkO (day, l, pa, le) 6 id 0) = q := ⟨_, rfl⟩
 obtain ⟨tx, htx⟩ : ∃ tx, afT (mkO (day, l, pa, le) 6 id 0) = tx := ⟨_, rfl⟩
 unfold RetC at HM ⊢
 rw [hq, htx] at HM ⊢
 clear hq htx
 go_enter Tryz.func75, Tryz.ntmps75
 go_wp2_with fail
 refine (HM.out _ ((H.out.ext (ext_alloc (ext_alloc (ext_refl _) _) _) (Nat.le_refl _)).more (by simp; omega))).mono ?_
 rintro e w1 ⟨A1, N1, c1, D, P, Q, L, rfl, rfl, rfl, hsl, hb1⟩
 have z0 : w.heap.size + 1 < w1.heap.size := by (have := hb1.size; simp at this; omega)
 have BR : Hid (Blk w1 (w.heap.size + 1) 34 #[.int .i64 0, .slice none 0 0, .int .i64 0, .int .i64 0, .string ⟨#[]⟩, .string ⟨#[]⟩, .int .i64 0]) := Lib.hid (by
  have := (Blk.new (w.alloc (.cells #[.int .i64 day, .slice A n c, .int .i64 pa, .int .i64 le, .string d, .string p, .int .i64 z] 34)) #[.int .i64 0, .slice none 0 0, .int .i64 0, .int .i64 0, .string ⟨#[]⟩, .string ⟨#[]⟩, .int .i64 0] 34).ext hb1
  simpa using this)
 have b1 := Lib.hid (ext_trans (ext_alloc (ext_alloc (ext_refl w) _) _) hb1)
 have SL := Lib.hid hsl
 clear hb1 hsl
 obtain ⟨r0, r1, r2, r3, r4, r5, r6⟩ := BR.out.q7
 obtain ⟨fr0, fr1, fr2, fr3, fr4, fr5, fr6⟩ := BR.out.z7
 go_wp2
 refine bodyPost_ret (v := .tuple #[conV D A1 L.length c1 P Q d p z, .string tx]) (by simp [results, Tryz.results75, go_sem, *]) rfl ?_
 refine ⟨A1, L.length, c1, D, P, Q, L, rfl, rfl, rfl, ?_, ?_⟩
 · rcases SL.out with ho | hx
   · have hne := own_nb ho BR.out (by decide)
     refine .inl ?_
     iterate 7 refine own_set_nb ?_ hne _
     exact own_base ho (by simp; omega)
   · exact .inr hx
 · iterate 7 refine ext_set ?_ (by show w.heap.size ≤ w.heap.size + 1; omega) _
   exact b1.out
set_option maxRecDepth 100000 in
set_option maxHeartbeats 4000000 in
theorem l28One_no (day pa le : Int) (d p : ByteArray) (z : Int) (A : Option Addr) (n c : Nat) (l : List R5) (w : World) (hn : n ≤ 8) (hnc : n ≤ c) (hA : SlOk A n c) (h : Reads w w.heap.size 5 A n (rowsV l)) (hs : schB day l pa le = true) (word : ByteArray) (id : Int) (hw0 : word ≠ ⟨#[119, 97, 105, 116]⟩) (hw1 : word ≠ ⟨#[108, 101, 97, 118, 101]⟩) (hw2 : word ≠ ⟨#[109, 105, 115, 115, 105, 110, 103]⟩) (hw3 : word ≠ ⟨#[116, 101, 120, 116]⟩) :
 Calls Tryz.prog 75 #[conV day A n c pa le d p z, .string word, .int .i64 id] w (RetC A c l (day, l, pa, le) d p z (none) w) := by
 have b0 : (word.toList == [119, 97, 105, 116]) = false := lit_no hw0 rfl
 have b1 : (word.toList == [108, 101, 97, 118, 101]) = false := lit_no hw1 rfl
 have b2 : (word.toList == [109, 105, 115, 115, 105, 110, 103]) = false := lit_no hw2 rfl
 have b3 : (word.toList == [116, 101, 120, 116]) = false := lit_no hw3 rfl
 have HLN := Lib.hid (rows_len h)
 clear hw0 hw1 hw2 hw3 h
 go_enter Tryz.func75, Tryz.ntmps75
 go_wp2
 refine bodyPost_ret (v := .tuple #[conV day A n c pa le d p z, .string (⟨#[63]⟩)]) (by simp [results, Tryz.results75, go_sem, *]) rfl ?_
 exact ⟨A, n, c, day, pa, le, l, rfl, rfl, HLN.out.symm, .inr ⟨rfl, rfl, rfl⟩, (by repeat (first | (with_reducible exact ext_refl _) | (with_reducible refine ext_set ?_ (by simp) _) | (with_reducible refine ext_alloc ?_ _)))⟩
set_option maxRecDepth 100000 in
set_option maxHeartbeats 4000000 in
theorem l28One_missing (day pa le : Int) (d p : ByteArray) (z : Int) (A : Option Addr) (n c : Nat) (l : List R5) (w : World) (hn : n ≤ 8) (hnc : n ≤ c) (hA : SlOk A n c) (h : Reads w w.heap.size 5 A n (rowsV l)) (hs : schB day l pa le = true) (word : ByteArray) (id : Int) (hw : word = ⟨#[109, 105, 115, 115, 105, 110, 103]⟩) :
 Calls Tryz.prog 75 #[conV day A n c pa le d p z, .string word, .int .i64 id] w (RetC A c l (day, l, pa, le) d p z ((hmO day pa le l id).map fun h => ((day, l, pa, le), decI h)) w) := by
 subst hw
 have HHM := Lib.hid (fun (w : World) h => specHours_any day pa le id A n c l w (by omega) h)
 have hbd := hm_bound day pa le l id
 have H := Lib.hid h
 have HLN := Lib.hid (rows_len h)
 clear h
 obtain ⟨O, hO⟩ : ∃ O, hmO day pa le l id = O := ⟨_, rfl⟩
 rw [hO] at HHM hbd ⊢
 clear hO
 rcases O with _ | v
 · go_enter Tryz.func75, Tryz.ntmps75
   go_wp2_with fail
   refine (HHM.out _ ((H.out.ext (ext_alloc (ext_alloc (ext_refl _) _) _) (Nat.le_refl _)).more (by simp; omega))).mono ?_
   rintro e w1 ⟨rfl, hb1⟩
   have hNone : (none : Option Int).isSome = false := rfl
   have BX : Hid (Blk w1 w.heap.size 34 #[.int .i64 day, .slice A n c, .int .i64 pa, .int .i64 le, .string d, .string p, .int .i64 z]) := Lib.hid ((((Blk.new w _ _).ext (ext_alloc (ext_refl _) _))).ext hb1)
   have BR : Hid (Blk w1 (w.heap.size + 1) 34 #[.int .i64 0, .slice none 0 0, .int .i64 0, .int .i64 0, .string ⟨#[]⟩, .string ⟨#[]⟩, .int .i64 0]) := Lib.hid (by
    have := (Blk.new (w.alloc (.cells #[.int .i64 day, .slice A n c, .int .i64 pa, .int .i64 le, .string d, .string p, .int .i64 z] 34)) #[.int .i64 0, .slice none 0 0, .int .i64 0, .int .i64 0, .string ⟨#[]⟩, .string ⟨#[]⟩, .int .i64 0] 34).ext hb1
    simpa using this)
   have b1 := Lib.hid (ext_trans (ext_alloc (ext_alloc (ext_refl w) _) _) hb1)
   have z0 : w.heap.size + 1 < w1.heap.size := by (have := hb1.size; simp at this; omega)
   have z1 : w.heap.size < w1.heap.size := by omega
   clear hb1
   obtain ⟨x0, x1, x2, x3, x4, x5, x6⟩ := BX.out.q7
   obtain ⟨r0, r1, r2, r3, r4, r5, r6⟩ := BR.out.q7
   obtain ⟨fr0, fr1, fr2, fr3, fr4, fr5, fr6⟩ := BR.out.z7
   go_wp2
   refine bodyPost_ret (v := .tuple #[conV day A n c pa le d p z, .string ⟨#[63]⟩]) (by simp [results, Tryz.results75, go_sem, *]) rfl ?_
   refine ⟨A, n, c, day, pa, le, l, rfl, rfl, HLN.out.symm, .inr ⟨rfl, rfl, rfl⟩, ?_⟩
   iterate 7 refine ext_set ?_ (by show w.heap.size ≤ w.heap.size + 1; omega) _
   exact b1.out
 · have hbd : 0 ≤ v ∧ v ≤ 1000 := hbd
   obtain ⟨hv0, hv1⟩ := hbd
   have hSome : (some v).isSome = true := rfl
   go_enter Tryz.func75, Tryz.ntmps75
   go_wp2_with fail
   refine (HHM.out _ ((H.out.ext (ext_alloc (ext_alloc (ext_refl _) _) _) (Nat.le_refl _)).more (by simp; omega))).mono ?_
   rintro e w1 ⟨rfl, hb1⟩
   have BX : Hid (Blk w1 w.heap.size 34 #[.int .i64 day, .slice A n c, .int .i64 pa, .int .i64 le, .string d, .string p, .int .i64 z]) := Lib.hid ((((Blk.new w _ _).ext (ext_alloc (ext_refl _) _))).ext hb1)
   have BR : Hid (Blk w1 (w.heap.size + 1) 34 #[.int .i64 0, .slice none 0 0, .int .i64 0, .int .i64 0, .string ⟨#[]⟩, .string ⟨#[]⟩, .int .i64 0]) := Lib.hid (by
    have := (Blk.new (w.alloc (.cells #[.int .i64 day, .slice A n c, .int .i64 pa, .int .i64 le, .string d, .string p, .int .i64 z] 34)) #[.int .i64 0, .slice none 0 0, .int .i64 0, .int .i64 0, .string ⟨#[]⟩, .string ⟨#[]⟩, .int .i64 0] 34).ext hb1
    simpa using this)
   have b1 := Lib.hid (ext_trans (ext_alloc (ext_alloc (ext_refl w) _) _) hb1)
   have z0 : w.heap.size + 1 < w1.heap.size := by (have := hb1.size; simp at this; omega)
   have z1 : w.heap.size < w1.heap.size := by omega
   clear hb1
   obtain ⟨x0, x1, x2, x3, x4, x5, x6⟩ := BX.out.q7
   obtain ⟨r0, r1, r2, r3, r4, r5, r6⟩ := BR.out.q7
   obtain ⟨fr0, fr1, fr2, fr3, fr4, fr5, fr6⟩ := BR.out.z7
   go_wp2_with fail
   go_region_held3 (fun w' => w'.cell? ⟨w.heap.size, 0, none⟩ = some (.int .i64 day) ∧ w'.cell? ⟨w.heap.size, 1, none⟩ = some (.slice A n c) ∧ w'.cell? ⟨w.heap.size, 2, none⟩ = some (.int .i64 pa) ∧ w'.cell? ⟨w.heap.size, 3, none⟩ = some (.int .i64 le) ∧ w'.cell? ⟨w.heap.size, 4, none⟩ = some (.string d) ∧ w'.cell? ⟨w.heap.size, 5, none⟩ = some (.string p) ∧ w'.cell? ⟨w.heap.size, 6, none⟩ = some (.int .i64 z)) (first | (go_split_ands; ((repeat' refine And.intro ?_ ?_) <;> with_reducible (repeat (first | assumption | refine cell_drew ?_ | refine cell_old ?_ _ | refine ext_cell hb8 ?_ | refine cell_set_far (by first | (show w.heap.size + 1 ≠ w.heap.size; omega)) ?_))))) (first | (go_at_call 45; refine (l1Num_any _ _ (by show -9223372036854775807 ≤ v; omega) (by show v ≤ 9223372036854775807; omega)).mono ?_; rintro e w8 ⟨rfl, hb8⟩; have HB8 := Lib.hid hb8; obtain ⟨hc8, hf8⟩ := bcell hb8; have zs8 := hb8.size; have zR8 : w.heap.size + 1 < w8.heap.size := (by (try simp at zs8); omega); (try (have R8 := (BR).out.ext (ext_trans (ext_drew (ext_refl _)) hb8); obtain ⟨z80, z81, z82, z83, z84, z85, z86⟩ := R8.q7; obtain ⟨fz80, fz81, fz82, fz83, fz84, fz85, fz86⟩ := R8.z7; clear R8)); (try (have R8 := (BR).out.ext (ext_trans (ext_alloc (ext_drew (ext_refl _)) _) hb8); obtain ⟨z80, z81, z82, z83, z84, z85, z86⟩ := R8.q7; obtain ⟨fz80, fz81, fz82, fz83, fz84, fz85, fz86⟩ := R8.z7; clear R8)); (try (have R8 := (BR).out.ext (ext_trans (ext_drew (ext_alloc (ext_refl _) _)) hb8); obtain ⟨z80, z81, z82, z83, z84, z85, z86⟩ := R8.q7; obtain ⟨fz80, fz81, fz82, fz83, fz84, fz85, fz86⟩ := R8.z7; clear R8))))

   all_goals go_wp2
   all_goals
    refine bodyPost_ret (v := .tuple #[conV day A n c pa le d p z, .string (decI v)]) (by simp [results, Tryz.results75, go_sem, *]) rfl ?_
    exact ⟨A, n, c, day, pa, le, l, rfl, rfl, HLN.out.symm, .inr ⟨rfl, rfl, rfl⟩, (by repeat (first | (with_reducible exact b1.out) | (with_reducible refine ext_drew ?_) | (with_reducible refine ext_alloc ?_ _) | (with_reducible refine ext_set ?_ (by show w.heap.size ≤ w.heap.size + 1; omega) _) | refine ext_trans ?_ HB8.out))⟩
set_option maxRecDepth 100000 in
set_option maxHeartbeats 4000000 in
theorem l28One_text (day pa le : Int) (d p : ByteArray) (z : Int) (A : Option Addr) (n c : Nat) (l : List R5) (w : World) (hn : n ≤ 8) (hnc : n ≤ c) (hA : SlOk A n c) (h : Reads w w.heap.size 5 A n (rowsV l)) (hs : schB day l pa le = true) (word : ByteArray) (id : Int) (hw : word = ⟨#[116, 101, 120, 116]⟩) :
 Calls Tryz.prog 75 #[conV day A n c pa le d p z, .string word, .int .i64 id] w (RetC A c l (day, l, pa, le) d p z ((stuO day pa le l id).map fun t => ((day, l, pa, le), t)) w) := by
 subst hw
 have HT := Lib.hid (fun (w : World) h => l28Student_any day pa le id A n c l w (by omega) h)
 have H := Lib.hid h
 have HLN := Lib.hid (rows_len h)
 clear h
 obtain ⟨O, hO⟩ : ∃ O, stuO day pa le l id = O := ⟨_, rfl⟩
 rw [hO] at HT ⊢
 obtain ⟨tx, htx⟩ : ∃ tx, O.getD ⟨#[63]⟩ = tx := ⟨_, rfl⟩
 rw [htx] at HT
 have hfin : afT (O.map fun t => (((day, l, pa, le), t) : Sch4 × ByteArray)) = tx ∧ afQ (day, l, pa, le) (O.map fun t => (((day, l, pa, le), t) : Sch4 × ByteArray)) = (day, l, pa, le) := by
  rw [← htx]
  rcases O with _ | t <;> exact ⟨rfl, rfl⟩
 unfold RetC
 rw [hfin.1, hfin.2]
 clear hO htx hfin
 obtain ⟨w1, hw1⟩ : ∃ w1, w1 = (w.alloc (.cells #[.int .i64 day, .slice A n c, .int .i64 pa, .int .i64 le, .string d, .string p, .int .i64 z] 34)).alloc (.cells #[.int .i64 0, .slice none 0 0, .int .i64 0, .int .i64 0, .string ⟨#[]⟩, .string ⟨#[]⟩, .int .i64 0] 34) := ⟨_, rfl⟩
 have hb1 : Below ((w.alloc (.cells #[.int .i64 day, .slice A n c, .int .i64 pa, .int .i64 le, .string d, .string p, .int .i64 z] 34)).alloc (.cells #[.int .i64 0, .slice none 0 0, .int .i64 0, .int .i64 0, .string ⟨#[]⟩, .string ⟨#[]⟩, .int .i64 0] 34)).heap.size ((w.alloc (.cells #[.int .i64 day, .slice A n c, .int .i64 pa, .int .i64 le, .string d, .string p, .int .i64 z] 34)).alloc (.cells #[.int .i64 0, .slice none 0 0, .int .i64 0, .int .i64 0, .string ⟨#[]⟩, .string ⟨#[]⟩, .int .i64 0] 34)) w1 := by rw [hw1]; exact ext_refl _
 have HW1 := Lib.hid hw1
 clear hw1
 have BX : Hid (Blk w1 w.heap.size 34 #[.int .i64 day, .slice A n c, .int .i64 pa, .int .i64 le, .string d, .string p, .int .i64 z]) := Lib.hid ((((Blk.new w _ _).ext (ext_alloc (ext_refl _) _))).ext hb1)
 have BR : Hid (Blk w1 (w.heap.size + 1) 34 #[.int .i64 0, .slice none 0 0, .int .i64 0, .int .i64 0, .string ⟨#[]⟩, .string ⟨#[]⟩, .int .i64 0]) := Lib.hid (by
  have := (Blk.new (w.alloc (.cells #[.int .i64 day, .slice A n c, .int .i64 pa, .int .i64 le, .string d, .string p, .int .i64 z] 34)) #[.int .i64 0, .slice none 0 0, .int .i64 0, .int .i64 0, .string ⟨#[]⟩, .string ⟨#[]⟩, .int .i64 0] 34).ext hb1
  simpa using this)
 have b1 := Lib.hid (ext_trans (ext_alloc (ext_alloc (ext_refl w) _) _) hb1)
 have z0 : w.heap.size + 1 < w1.heap.size := by (have := hb1.size; simp at this; omega)
 have z1 : w.heap.size < w1.heap.size := by omega
 clear hb1
 obtain ⟨x0, x1, x2, x3, x4, x5, x6⟩ := BX.out.q7
 obtain ⟨r0, r1, r2, r3, r4, r5, r6⟩ := BR.out.q7
 obtain ⟨fr0, fr1, fr2, fr3, fr4, fr5, fr6⟩ := BR.out.z7
 go_enter Tryz.func75, Tryz.ntmps75
 go_wp2_with fail
 rw [← HW1.out]
 go_region_held3 (fun w' => w'.cell? ⟨w.heap.size, 0, none⟩ = some (.int .i64 day) ∧ w'.cell? ⟨w.heap.size, 1, none⟩ = some (.slice A n c) ∧ w'.cell? ⟨w.heap.size, 2, none⟩ = some (.int .i64 pa) ∧ w'.cell? ⟨w.heap.size, 3, none⟩ = some (.int .i64 le) ∧ w'.cell? ⟨w.heap.size, 4, none⟩ = some (.string d) ∧ w'.cell? ⟨w.heap.size, 5, none⟩ = some (.string p) ∧ w'.cell? ⟨w.heap.size, 6, none⟩ = some (.int .i64 z)) (first | (go_split_ands; ((repeat' refine And.intro ?_ ?_) <;> with_reducible (repeat (first | assumption | refine cell_drew ?_ | refine cell_old ?_ _ | refine ext_cell hb8 ?_ | refine cell_set_far (by first | (show w.heap.size + 1 ≠ w.heap.size; omega)) ?_))))) (first | (go_at_call 97; refine (HT.out _ (by refine Reads.more (B := w.heap.size) (Reads.ext H.out (by repeat (first | (with_reducible exact b1.out) | (with_reducible refine ext_drew ?_) | (with_reducible refine ext_set ?_ (by show w.heap.size ≤ w.heap.size + 1; omega) _))) (Nat.le_refl _)) (by (try simp); omega))).mono ?_; rintro e w8 ⟨rfl, hb8⟩; have HB8 := Lib.hid hb8; obtain ⟨hc8, hf8⟩ := bcell hb8; have zs8 := hb8.size; have zR8 : w.heap.size + 1 < w8.heap.size := (by (try simp at zs8); omega); (try (have R8 := (BR).out.ext (ext_trans (ext_drew (ext_refl _)) hb8); obtain ⟨z80, z81, z82, z83, z84, z85, z86⟩ := R8.q7; obtain ⟨fz80, fz81, fz82, fz83, fz84, fz85, fz86⟩ := R8.z7; clear R8)); (try (have R8 := (BR).out.ext (ext_trans (ext_alloc (ext_drew (ext_refl _)) _) hb8); obtain ⟨z80, z81, z82, z83, z84, z85, z86⟩ := R8.q7; obtain ⟨fz80, fz81, fz82, fz83, fz84, fz85, fz86⟩ := R8.z7; clear R8)); (try (have R8 := (BR).out.ext (ext_trans (ext_drew (ext_alloc (ext_refl _) _)) hb8); obtain ⟨z80, z81, z82, z83, z84, z85, z86⟩ := R8.q7; obtain ⟨fz80, fz81, fz82, fz83, fz84, fz85, fz86⟩ := R8.z7; clear R8))))

 all_goals go_wp2
 all_goals
  refine bodyPost_ret (v := .tuple #[conV day A n c pa le d p z, .string (tx)]) (by simp [results, Tryz.results75, go_sem, *]) rfl ?_
  exact ⟨A, n, c, day, pa, le, l, rfl, rfl, HLN.out.symm, .inr ⟨rfl, rfl, rfl⟩, (by repeat (first | (with_reducible exact b1.out) | (with_reducible refine ext_drew ?_) | (with_reducible refine ext_alloc ?_ _) | (with_reducible refine ext_set ?_ (by show w.heap.size ≤ w.heap.size + 1; omega) _) | refine ext_trans ?_ HB8.out))⟩

end Go.Proofs.YtkcbgiegoadkbaaGreat
