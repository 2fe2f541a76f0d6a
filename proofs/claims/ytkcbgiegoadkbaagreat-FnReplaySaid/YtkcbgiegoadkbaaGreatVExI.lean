/- ExecuteCommand: the program, walked. -/
import Derived.Test.YtkcbgiegoadkbaaGreatVM11
import Derived.Test.YtkcbgiegoadkbaaGreatVM9
namespace Go.Proofs.YtkcbgiegoadkbaaGreat
open Go.RowKit
set_option linter.unusedVariables false
set_option linter.unusedSimpArgs false
set_option maxRecDepth 100000 in
set_option maxHeartbeats 4000000 in
theorem implEx_no (day pa le : Int) (d p : ByteArray) (z : Int) (A : Option Addr) (n c : Nat) (l : List R5) (line : ByteArray) (w : World) (hn : n ≤ 1048576) (hd : d.size ≤ 2000000) (hp : p.size ≤ 2000000) (hline : line.size ≤ 16000000) (hA : SlOk A n c) (h : Reads w w.heap.size 5 A n (rowsV l)) (hcon : conB day l pa le d p z = false) :
 Calls Tryz.prog 13 #[conV day A n c pa le d p z, .string line] w (RetEx (day, l, pa, le) d p z ⟨#[110, 111]⟩ w) := by
 have HO := Lib.hid (fun (w : World) h => own_any day pa le A n c l w hn hA h)
 have HI := Lib.hid (fun (A : Option Addr) (c : Nat) (w : World) h => implIsValidConsole_any day pa le d p z A n c l w hn hd hp h)
 rw [hcon] at HI
 have H := Lib.hid h
 have HLN := Lib.hid (rows_len h)
 have HCON := Lib.hid hcon
 clear h hcon
 go_enter Tryz.func13, Tryz.ntmps13
 go_wp2_with fail
 refine (HO.out _ ((H.out.ext (ext_alloc (ext_alloc (ext_refl _) _) _) (Nat.le_refl _)).more (by simp; omega))).mono ?_
 rintro e w1 ⟨A1, c1, rfl, ho1, hb1⟩
 have X1 : Hid (Blk w1 w.heap.size 34 #[.int .i64 day, .slice A n c, .int .i64 pa, .int .i64 le, .string d, .string p, .int .i64 z]) := Lib.hid ((((Blk.new w _ _).ext (ext_alloc (ext_refl _) _))).ext hb1)
 have R1 : Hid (Blk w1 (w.heap.size + 1) 34 #[.int .i64 0, .slice none 0 0, .int .i64 0, .int .i64 0, .string ⟨#[]⟩, .string ⟨#[]⟩, .int .i64 0]) := Lib.hid (by
  have := (Blk.new (w.alloc (.cells #[.int .i64 day, .slice A n c, .int .i64 pa, .int .i64 le, .string d, .string p, .int .i64 z] 34)) #[.int .i64 0, .slice none 0 0, .int .i64 0, .int .i64 0, .string ⟨#[]⟩, .string ⟨#[]⟩, .int .i64 0] 34).ext hb1
  simpa using this)
 have b1 := Lib.hid (ext_trans (ext_alloc (ext_alloc (ext_refl w) _) _) hb1)
 have O1 := Lib.hid (own_base (base' := w.heap.size) ho1 (by simp; omega))
 have sX1 := X1.out.lt
 have sR1 := R1.out.lt
 clear hb1 ho1
 obtain ⟨x10, x11, x12, x13, x14, x15, x16⟩ := X1.out.q7
 obtain ⟨fx10, fx11, fx12, fx13⟩ := X1.out.z4
 obtain ⟨r10, r11, r12, r13, r14, r15, r16⟩ := R1.out.q7
 obtain ⟨fr10, fr11, fr12, fr13, fr14, fr15, fr16⟩ := R1.out.z7
 obtain ⟨w2, hw2⟩ : ∃ w2, w2 = ((((w1.setCell ⟨w.heap.size, 0, none⟩ (.int .i64 day)).setCell ⟨w.heap.size, 1, none⟩ (.slice A1 n c1)).setCell ⟨w.heap.size, 2, none⟩ (.int .i64 pa)).setCell ⟨w.heap.size, 3, none⟩ (.int .i64 le)) := ⟨_, rfl⟩
 have hne1 := own_nb O1.out X1.out (by decide)
 have X2 : Hid (Blk w2 w.heap.size 34 #[.int .i64 day, .slice A1 n c1, .int .i64 pa, .int .i64 le, .string d, .string p, .int .i64 z]) := Lib.hid (by
  rw [hw2]
  have := (((X1.out.set_ 0 (.int .i64 day)).set_ 1 (.slice A1 n c1)).set_ 2 (.int .i64 pa)).set_ 3 (.int .i64 le)
  simpa using this)
 have R2 : Hid (Blk w2 (w.heap.size + 1) 34 #[.int .i64 0, .slice none 0 0, .int .i64 0, .int .i64 0, .string ⟨#[]⟩, .string ⟨#[]⟩, .int .i64 0]) := Lib.hid (by
  rw [hw2]
  iterate 4 refine Blk.set_far ?_ (by show w.heap.size ≠ w.heap.size + 1; omega) _
  exact R1.out)
 have O2 : Hid (w2.ownsRow w.heap.size 111 5 (.slice A1 n c1) n (rowsV l)) := Lib.hid (by
  rw [hw2]
  iterate 4 refine own_set_nb ?_ hne1 _
  exact O1.out)
 have b2 : Hid (Below w.heap.size w w2) := Lib.hid (by
  rw [hw2]
  iterate 4 refine ext_set ?_ (Nat.le_refl _) _
  exact b1.out)
 have sX2 := X2.out.lt
 have sR2 := R2.out.lt
 go_wp2_with fail
 rw [← hw2]
 clear hw2 hne1 x10 x11 x12 x13 x14 x15 x16 r10 r11 r12 r13 r14 r15 r16 fr10 fr11 fr12 fr13 fr14 fr15 fr16 fx10 fx11 fx12 fx13
 obtain ⟨x20, x21, x22, x23, x24, x25, x26⟩ := X2.out.q7
 obtain ⟨r20, r21, r22, r23, r24, r25, r26⟩ := R2.out.q7
 obtain ⟨fr20, fr21, fr22, fr23, fr24, fr25, fr26⟩ := R2.out.z7
 with_reducible refine (HI.out A1 c1 _ (Reads.of_own O2.out)).mono ?_
 rintro e w3 ⟨rfl, hb3⟩
 have X3 := Lib.hid (X2.out.ext hb3)
 have R3 := Lib.hid (R2.out.ext hb3)
 have O3 := Lib.hid (own_ext O2.out hb3)
 have b3 := Lib.hid (ext_trans b2.out hb3)
 have sX3 := X3.out.lt
 have sR3 := R3.out.lt
 clear hb3
 clear x20 x21 x22 x23 x24 x25 x26 r20 r21 r22 r23 r24 r25 r26 fr20 fr21 fr22 fr23 fr24 fr25 fr26
 obtain ⟨x30, x31, x32, x33, x34, x35, x36⟩ := X3.out.q7
 obtain ⟨r30, r31, r32, r33, r34, r35, r36⟩ := R3.out.q7
 obtain ⟨fr30, fr31, fr32, fr33, fr34, fr35, fr36⟩ := R3.out.z7
 go_wp2
 refine bodyPost_ret (v := .tuple #[conV day A1 n c1 pa le d p z, .string ⟨#[110, 111]⟩]) (by simp [results, Tryz.results13, go_sem, *]) rfl ?_
 have hne := own_nb O3.out R3.out (by decide)
 have hl := HLN.out
 subst hl
 refine ⟨A1, c1, rfl, ?_, ?_⟩
 · iterate 7 refine own_set_nb ?_ hne _
   exact O3.out
 · iterate 7 refine ext_set ?_ (by show w.heap.size ≤ w.heap.size + 1; omega) _
   exact b3.out
set_option maxRecDepth 100000 in
set_option maxHeartbeats 4000000 in
theorem implEx_bad (day pa le : Int) (d p : ByteArray) (z : Int) (A : Option Addr) (n c : Nat) (l : List R5) (line : ByteArray) (w : World) (hn : n ≤ 1048576) (hd : d.size ≤ 2000000) (hp : p.size ≤ 2000000) (hline : line.size ≤ 16000000) (hA : SlOk A n c) (h : Reads w w.heap.size 5 A n (rowsV l)) (hcon : conB day l pa le d p z = true) (hrec : recB line ⟨#[]⟩ = false) :
 Calls Tryz.prog 13 #[conV day A n c pa le d p z, .string line] w (RetEx (day, l, pa, le) d p z ⟨#[98, 97, 100]⟩ w) := by
 have HR := Lib.hid (fun (w : World) => isValidRecord_any line ⟨#[]⟩ w (by omega) (by simp [lit_size]))
 rw [hrec] at HR
 clear hrec
 have HO := Lib.hid (fun (w : World) h => own_any day pa le A n c l w hn hA h)
 have HI := Lib.hid (fun (A : Option Addr) (c : Nat) (w : World) h => implIsValidConsole_any day pa le d p z A n c l w hn hd hp h)
 rw [hcon] at HI
 have H := Lib.hid h
 have HLN := Lib.hid (rows_len h)
 have HCON := Lib.hid hcon
 clear h hcon
 go_enter Tryz.func13, Tryz.ntmps13
 go_wp2_with fail
 refine (HO.out _ ((H.out.ext (ext_alloc (ext_alloc (ext_refl _) _) _) (Nat.le_refl _)).more (by simp; omega))).mono ?_
 rintro e w1 ⟨A1, c1, rfl, ho1, hb1⟩
 have X1 : Hid (Blk w1 w.heap.size 34 #[.int .i64 day, .slice A n c, .int .i64 pa, .int .i64 le, .string d, .string p, .int .i64 z]) := Lib.hid ((((Blk.new w _ _).ext (ext_alloc (ext_refl _) _))).ext hb1)
 have R1 : Hid (Blk w1 (w.heap.size + 1) 34 #[.int .i64 0, .slice none 0 0, .int .i64 0, .int .i64 0, .string ⟨#[]⟩, .string ⟨#[]⟩, .int .i64 0]) := Lib.hid (by
  have := (Blk.new (w.alloc (.cells #[.int .i64 day, .slice A n c, .int .i64 pa, .int .i64 le, .string d, .string p, .int .i64 z] 34)) #[.int .i64 0, .slice none 0 0, .int .i64 0, .int .i64 0, .string ⟨#[]⟩, .string ⟨#[]⟩, .int .i64 0] 34).ext hb1
  simpa using this)
 have b1 := Lib.hid (ext_trans (ext_alloc (ext_alloc (ext_refl w) _) _) hb1)
 have O1 := Lib.hid (own_base (base' := w.heap.size) ho1 (by simp; omega))
 have sX1 := X1.out.lt
 have sR1 := R1.out.lt
 clear hb1 ho1
 obtain ⟨x10, x11, x12, x13, x14, x15, x16⟩ := X1.out.q7
 obtain ⟨fx10, fx11, fx12, fx13⟩ := X1.out.z4
 obtain ⟨r10, r11, r12, r13, r14, r15, r16⟩ := R1.out.q7
 obtain ⟨fr10, fr11, fr12, fr13, fr14, fr15, fr16⟩ := R1.out.z7
 obtain ⟨w2, hw2⟩ : ∃ w2, w2 = ((((w1.setCell ⟨w.heap.size, 0, none⟩ (.int .i64 day)).setCell ⟨w.heap.size, 1, none⟩ (.slice A1 n c1)).setCell ⟨w.heap.size, 2, none⟩ (.int .i64 pa)).setCell ⟨w.heap.size, 3, none⟩ (.int .i64 le)) := ⟨_, rfl⟩
 have hne1 := own_nb O1.out X1.out (by decide)
 have X2 : Hid (Blk w2 w.heap.size 34 #[.int .i64 day, .slice A1 n c1, .int .i64 pa, .int .i64 le, .string d, .string p, .int .i64 z]) := Lib.hid (by
  rw [hw2]
  have := (((X1.out.set_ 0 (.int .i64 day)).set_ 1 (.slice A1 n c1)).set_ 2 (.int .i64 pa)).set_ 3 (.int .i64 le)
  simpa using this)
 have R2 : Hid (Blk w2 (w.heap.size + 1) 34 #[.int .i64 0, .slice none 0 0, .int .i64 0, .int .i64 0, .string ⟨#[]⟩, .string ⟨#[]⟩, .int .i64 0]) := Lib.hid (by
  rw [hw2]
  iterate 4 refine Blk.set_far ?_ (by show w.heap.size ≠ w.heap.size + 1; omega) _
  exact R1.out)
 have O2 : Hid (w2.ownsRow w.heap.size 111 5 (.slice A1 n c1) n (rowsV l)) := Lib.hid (by
  rw [hw2]
  iterate 4 refine own_set_nb ?_ hne1 _
  exact O1.out)
 have b2 : Hid (Below w.heap.size w w2) := Lib.hid (by
  rw [hw2]
  iterate 4 refine ext_set ?_ (Nat.le_refl _) _
  exact b1.out)
 have sX2 := X2.out.lt
 have sR2 := R2.out.lt
 go_wp2_with fail
 rw [← hw2]
 clear hw2 hne1 x10 x11 x12 x13 x14 x15 x16 r10 r11 r12 r13 r14 r15 r16 fr10 fr11 fr12 fr13 fr14 fr15 fr16 fx10 fx11 fx12 fx13
 obtain ⟨x20, x21, x22, x23, x24, x25, x26⟩ := X2.out.q7
 obtain ⟨r20, r21, r22, r23, r24, r25, r26⟩ := R2.out.q7
 obtain ⟨fr20, fr21, fr22, fr23, fr24, fr25, fr26⟩ := R2.out.z7
 with_reducible refine (HI.out A1 c1 _ (Reads.of_own O2.out)).mono ?_
 rintro e w3 ⟨rfl, hb3⟩
 have X3 := Lib.hid (X2.out.ext hb3)
 have R3 := Lib.hid (R2.out.ext hb3)
 have O3 := Lib.hid (own_ext O2.out hb3)
 have b3 := Lib.hid (ext_trans b2.out hb3)
 have sX3 := X3.out.lt
 have sR3 := R3.out.lt
 clear hb3
 clear x20 x21 x22 x23 x24 x25 x26 r20 r21 r22 r23 r24 r25 r26 fr20 fr21 fr22 fr23 fr24 fr25 fr26
 obtain ⟨x30, x31, x32, x33, x34, x35, x36⟩ := X3.out.q7
 obtain ⟨r30, r31, r32, r33, r34, r35, r36⟩ := R3.out.q7
 obtain ⟨fr30, fr31, fr32, fr33, fr34, fr35, fr36⟩ := R3.out.z7
 go_wp2_with fail
 refine (HR.out _).mono ?_
 rintro e w4 ⟨rfl, hb4⟩
 have X4 := Lib.hid (X3.out.ext hb4)
 have R4 := Lib.hid (R3.out.ext hb4)
 have O4 := Lib.hid (own_ext O3.out hb4)
 have b4 := Lib.hid (ext_trans b3.out hb4)
 have sX4 := X4.out.lt
 have sR4 := R4.out.lt
 clear hb4
 clear x30 x31 x32 x33 x34 x35 x36 r30 r31 r32 r33 r34 r35 r36 fr30 fr31 fr32 fr33 fr34 fr35 fr36
 obtain ⟨x40, x41, x42, x43, x44, x45, x46⟩ := X4.out.q7
 obtain ⟨r40, r41, r42, r43, r44, r45, r46⟩ := R4.out.q7
 obtain ⟨fr40, fr41, fr42, fr43, fr44, fr45, fr46⟩ := R4.out.z7
 go_wp2
 refine bodyPost_ret (v := .tuple #[conV day A1 n c1 pa le d p z, .string ⟨#[98, 97, 100]⟩]) (by simp [results, Tryz.results13, go_sem, *]) rfl ?_
 have hne := own_nb O4.out R4.out (by decide)
 have hl := HLN.out
 subst hl
 refine ⟨A1, c1, rfl, ?_, ?_⟩
 · iterate 7 refine own_set_nb ?_ hne _
   exact O4.out
 · iterate 7 refine ext_set ?_ (by show w.heap.size ≤ w.heap.size + 1; omega) _
   exact b4.out
set_option maxRecDepth 100000 in
set_option maxHeartbeats 4000000 in
theorem implEx_full (day pa le : Int) (d p : ByteArray) (z : Int) (A : Option Addr) (n c : Nat) (l : List R5) (line : ByteArray) (w : World) (hn : n ≤ 1048576) (hd : d.size ≤ 2000000) (hp : p.size ≤ 2000000) (hline : line.size ≤ 16000000) (hA : SlOk A n c) (h : Reads w w.heap.size 5 A n (rowsV l)) (hcon : conB day l pa le d p z = true) (hrec : recB line ⟨#[]⟩ = true) (hz : 60 ≤ z) :
 Calls Tryz.prog 13 #[conV day A n c pa le d p z, .string line] w (RetEx (day, l, pa, le) d p z ⟨#[102, 117, 108, 108]⟩ w) := by
 have HR := Lib.hid (fun (w : World) => isValidRecord_any line ⟨#[]⟩ w (by omega) (by simp [lit_size]))
 rw [hrec] at HR
 clear hrec
 have HO := Lib.hid (fun (w : World) h => own_any day pa le A n c l w hn hA h)
 have HI := Lib.hid (fun (A : Option Addr) (c : Nat) (w : World) h => implIsValidConsole_any day pa le d p z A n c l w hn hd hp h)
 rw [hcon] at HI
 have H := Lib.hid h
 have HLN := Lib.hid (rows_len h)
 have HCON := Lib.hid hcon
 clear h hcon
 go_enter Tryz.func13, Tryz.ntmps13
 go_wp2_with fail
 refine (HO.out _ ((H.out.ext (ext_alloc (ext_alloc (ext_refl _) _) _) (Nat.le_refl _)).more (by simp; omega))).mono ?_
 rintro e w1 ⟨A1, c1, rfl, ho1, hb1⟩
 have X1 : Hid (Blk w1 w.heap.size 34 #[.int .i64 day, .slice A n c, .int .i64 pa, .int .i64 le, .string d, .string p, .int .i64 z]) := Lib.hid ((((Blk.new w _ _).ext (ext_alloc (ext_refl _) _))).ext hb1)
 have R1 : Hid (Blk w1 (w.heap.size + 1) 34 #[.int .i64 0, .slice none 0 0, .int .i64 0, .int .i64 0, .string ⟨#[]⟩, .string ⟨#[]⟩, .int .i64 0]) := Lib.hid (by
  have := (Blk.new (w.alloc (.cells #[.int .i64 day, .slice A n c, .int .i64 pa, .int .i64 le, .string d, .string p, .int .i64 z] 34)) #[.int .i64 0, .slice none 0 0, .int .i64 0, .int .i64 0, .string ⟨#[]⟩, .string ⟨#[]⟩, .int .i64 0] 34).ext hb1
  simpa using this)
 have b1 := Lib.hid (ext_trans (ext_alloc (ext_alloc (ext_refl w) _) _) hb1)
 have O1 := Lib.hid (own_base (base' := w.heap.size) ho1 (by simp; omega))
 have sX1 := X1.out.lt
 have sR1 := R1.out.lt
 clear hb1 ho1
 obtain ⟨x10, x11, x12, x13, x14, x15, x16⟩ := X1.out.q7
 obtain ⟨fx10, fx11, fx12, fx13⟩ := X1.out.z4
 obtain ⟨r10, r11, r12, r13, r14, r15, r16⟩ := R1.out.q7
 obtain ⟨fr10, fr11, fr12, fr13, fr14, fr15, fr16⟩ := R1.out.z7
 obtain ⟨w2, hw2⟩ : ∃ w2, w2 = ((((w1.setCell ⟨w.heap.size, 0, none⟩ (.int .i64 day)).setCell ⟨w.heap.size, 1, none⟩ (.slice A1 n c1)).setCell ⟨w.heap.size, 2, none⟩ (.int .i64 pa)).setCell ⟨w.heap.size, 3, none⟩ (.int .i64 le)) := ⟨_, rfl⟩
 have hne1 := own_nb O1.out X1.out (by decide)
 have X2 : Hid (Blk w2 w.heap.size 34 #[.int .i64 day, .slice A1 n c1, .int .i64 pa, .int .i64 le, .string d, .string p, .int .i64 z]) := Lib.hid (by
  rw [hw2]
  have := (((X1.out.set_ 0 (.int .i64 day)).set_ 1 (.slice A1 n c1)).set_ 2 (.int .i64 pa)).set_ 3 (.int .i64 le)
  simpa using this)
 have R2 : Hid (Blk w2 (w.heap.size + 1) 34 #[.int .i64 0, .slice none 0 0, .int .i64 0, .int .i64 0, .string ⟨#[]⟩, .string ⟨#[]⟩, .int .i64 0]) := Lib.hid (by
  rw [hw2]
  iterate 4 refine Blk.set_far ?_ (by show w.heap.size ≠ w.heap.size + 1; omega) _
  exact R1.out)
 have O2 : Hid (w2.ownsRow w.heap.size 111 5 (.slice A1 n c1) n (rowsV l)) := Lib.hid (by
  rw [hw2]
  iterate 4 refine own_set_nb ?_ hne1 _
  exact O1.out)
 have b2 : Hid (Below w.heap.size w w2) := Lib.hid (by
  rw [hw2]
  iterate 4 refine ext_set ?_ (Nat.le_refl _) _
  exact b1.out)
 have sX2 := X2.out.lt
 have sR2 := R2.out.lt
 go_wp2_with fail
 rw [← hw2]
 clear hw2 hne1 x10 x11 x12 x13 x14 x15 x16 r10 r11 r12 r13 r14 r15 r16 fr10 fr11 fr12 fr13 fr14 fr15 fr16 fx10 fx11 fx12 fx13
 obtain ⟨x20, x21, x22, x23, x24, x25, x26⟩ := X2.out.q7
 obtain ⟨r20, r21, r22, r23, r24, r25, r26⟩ := R2.out.q7
 obtain ⟨fr20, fr21, fr22, fr23, fr24, fr25, fr26⟩ := R2.out.z7
 with_reducible refine (HI.out A1 c1 _ (Reads.of_own O2.out)).mono ?_
 rintro e w3 ⟨rfl, hb3⟩
 have X3 := Lib.hid (X2.out.ext hb3)
 have R3 := Lib.hid (R2.out.ext hb3)
 have O3 := Lib.hid (own_ext O2.out hb3)
 have b3 := Lib.hid (ext_trans b2.out hb3)
 have sX3 := X3.out.lt
 have sR3 := R3.out.lt
 clear hb3
 clear x20 x21 x22 x23 x24 x25 x26 r20 r21 r22 r23 r24 r25 r26 fr20 fr21 fr22 fr23 fr24 fr25 fr26
 obtain ⟨x30, x31, x32, x33, x34, x35, x36⟩ := X3.out.q7
 obtain ⟨r30, r31, r32, r33, r34, r35, r36⟩ := R3.out.q7
 obtain ⟨fr30, fr31, fr32, fr33, fr34, fr35, fr36⟩ := R3.out.z7
 go_wp2_with fail
 refine (HR.out _).mono ?_
 rintro e w4 ⟨rfl, hb4⟩
 have X4 := Lib.hid (X3.out.ext hb4)
 have R4 := Lib.hid (R3.out.ext hb4)
 have O4 := Lib.hid (own_ext O3.out hb4)
 have b4 := Lib.hid (ext_trans b3.out hb4)
 have sX4 := X4.out.lt
 have sR4 := R4.out.lt
 clear hb4
 clear x30 x31 x32 x33 x34 x35 x36 r30 r31 r32 r33 r34 r35 r36 fr30 fr31 fr32 fr33 fr34 fr35 fr36
 obtain ⟨x40, x41, x42, x43, x44, x45, x46⟩ := X4.out.q7
 obtain ⟨r40, r41, r42, r43, r44, r45, r46⟩ := R4.out.q7
 obtain ⟨fr40, fr41, fr42, fr43, fr44, fr45, fr46⟩ := R4.out.z7
 go_wp2
 refine bodyPost_ret (v := .tuple #[conV day A1 n c1 pa le d p z, .string ⟨#[102, 117, 108, 108]⟩]) (by simp [results, Tryz.results13, go_sem, *]) rfl ?_
 have hne := own_nb O4.out R4.out (by decide)
 have hl := HLN.out
 subst hl
 refine ⟨A1, c1, rfl, ?_, ?_⟩
 · iterate 7 refine own_set_nb ?_ hne _
   exact O4.out
 · iterate 7 refine ext_set ?_ (by show w.heap.size ≤ w.heap.size + 1; omega) _
   exact b4.out
set_option maxRecDepth 100000 in
set_option maxHeartbeats 4000000 in
theorem implEx_go (day pa le : Int) (d p : ByteArray) (z : Int) (A : Option Addr) (n c : Nat) (l : List R5) (line : ByteArray) (w : World) (hn : n ≤ 1048576) (hd : d.size ≤ 2000000) (hp : p.size ≤ 2000000) (hline : line.size ≤ 16000000) (hA : SlOk A n c) (h : Reads w w.heap.size 5 A n (rowsV l)) (hcon : conB day l pa le d p z = true) (hrec : recB line ⟨#[]⟩ = true) (hz : z < 60) :
 Calls Tryz.prog 13 #[conV day A n c pa le d p z, .string line] w (RetEx (afQ (day, l, pa, le) (repO (day, l, pa, le) line)) d (appP d p z line (cutT (afT (repO (day, l, pa, le) line)))) (appZ d p z line (cutT (afT (repO (day, l, pa, le) line)))) (cutT (afT (repO (day, l, pa, le) line))) w) := by
 have HR := Lib.hid (fun (w : World) => isValidRecord_any line ⟨#[]⟩ w (by omega) (by simp [lit_size]))
 rw [hrec] at HR
 have hrs := rec_parts hrec
 have hsch : schB day l pa le = true := by simp only [conB, Bool.and_eq_true] at hcon; exact hcon.1
 have HRP := Lib.hid (fun (A : Option Addr) (c : Nat) (w : World) hA h => reply_any day pa le A n c l line w hA h hsch (by omega))
 obtain ⟨o, ho⟩ : ∃ o, repO (day, l, pa, le) line = o := ⟨_, rfl⟩
 rw [ho] at HRP ⊢
 obtain ⟨tx, hT⟩ : ∃ tx, cutT (afT o) = tx := ⟨_, rfl⟩
 have hTs : tx.size ≤ 200 := by rw [← hT]; exact cutT_size _
 rw [hT]
 have HAP := Lib.hid (fun (w : World) => implAppend_any d p z line tx w hd hp (by omega) (by omega))
 obtain ⟨P2, hP2⟩ : ∃ P2, appP d p z line tx = P2 := ⟨_, rfl⟩
 obtain ⟨Z2, hZ2⟩ : ∃ Z2, appZ d p z line tx = Z2 := ⟨_, rfl⟩
 rw [hP2, hZ2] at HAP ⊢
 have HT := Lib.hid hT
 obtain ⟨qx, hqx⟩ : ∃ qx, afQ (day, l, pa, le) o = qx := ⟨_, rfl⟩
 rw [hqx]
 have HQX := Lib.hid hqx
 clear hrec hrs hsch ho hT hP2 hZ2 hqx
 have HO := Lib.hid (fun (w : World) h => own_any day pa le A n c l w hn hA h)
 have HI := Lib.hid (fun (A : Option Addr) (c : Nat) (w : World) h => implIsValidConsole_any day pa le d p z A n c l w hn hd hp h)
 rw [hcon] at HI
 have H := Lib.hid h
 have HLN := Lib.hid (rows_len h)
 have HCON := Lib.hid hcon
 clear h hcon
 go_enter Tryz.func13, Tryz.ntmps13
 go_wp2_with fail
 refine (HO.out _ ((H.out.ext (ext_alloc (ext_alloc (ext_refl _) _) _) (Nat.le_refl _)).more (by simp; omega))).mono ?_
 rintro e w1 ⟨A1, c1, rfl, ho1, hb1⟩
 have X1 : Hid (Blk w1 w.heap.size 34 #[.int .i64 day, .slice A n c, .int .i64 pa, .int .i64 le, .string d, .string p, .int .i64 z]) := Lib.hid ((((Blk.new w _ _).ext (ext_alloc (ext_refl _) _))).ext hb1)
 have R1 : Hid (Blk w1 (w.heap.size + 1) 34 #[.int .i64 0, .slice none 0 0, .int .i64 0, .int .i64 0, .string ⟨#[]⟩, .string ⟨#[]⟩, .int .i64 0]) := Lib.hid (by
  have := (Blk.new (w.alloc (.cells #[.int .i64 day, .slice A n c, .int .i64 pa, .int .i64 le, .string d, .string p, .int .i64 z] 34)) #[.int .i64 0, .slice none 0 0, .int .i64 0, .int .i64 0, .string ⟨#[]⟩, .string ⟨#[]⟩, .int .i64 0] 34).ext hb1
  simpa using this)
 have b1 := Lib.hid (ext_trans (ext_alloc (ext_alloc (ext_refl w) _) _) hb1)
 have O1 := Lib.hid (own_base (base' := w.heap.size) ho1 (by simp; omega))
 have sX1 := X1.out.lt
 have sR1 := R1.out.lt
 clear hb1 ho1
 obtain ⟨x10, x11, x12, x13, x14, x15, x16⟩ := X1.out.q7
 obtain ⟨fx10, fx11, fx12, fx13⟩ := X1.out.z4
 obtain ⟨r10, r11, r12, r13, r14, r15, r16⟩ := R1.out.q7
 obtain ⟨fr10, fr11, fr12, fr13, fr14, fr15, fr16⟩ := R1.out.z7
 obtain ⟨w2, hw2⟩ : ∃ w2, w2 = ((((w1.setCell ⟨w.heap.size, 0, none⟩ (.int .i64 day)).setCell ⟨w.heap.size, 1, none⟩ (.slice A1 n c1)).setCell ⟨w.heap.size, 2, none⟩ (.int .i64 pa)).setCell ⟨w.heap.size, 3, none⟩ (.int .i64 le)) := ⟨_, rfl⟩
 have hne1 := own_nb O1.out X1.out (by decide)
 have X2 : Hid (Blk w2 w.heap.size 34 #[.int .i64 day, .slice A1 n c1, .int .i64 pa, .int .i64 le, .string d, .string p, .int .i64 z]) := Lib.hid (by
  rw [hw2]
  have := (((X1.out.set_ 0 (.int .i64 day)).set_ 1 (.slice A1 n c1)).set_ 2 (.int .i64 pa)).set_ 3 (.int .i64 le)
  simpa using this)
 have R2 : Hid (Blk w2 (w.heap.size + 1) 34 #[.int .i64 0, .slice none 0 0, .int .i64 0, .int .i64 0, .string ⟨#[]⟩, .string ⟨#[]⟩, .int .i64 0]) := Lib.hid (by
  rw [hw2]
  iterate 4 refine Blk.set_far ?_ (by show w.heap.size ≠ w.heap.size + 1; omega) _
  exact R1.out)
 have O2 : Hid (w2.ownsRow w.heap.size 111 5 (.slice A1 n c1) n (rowsV l)) := Lib.hid (by
  rw [hw2]
  iterate 4 refine own_set_nb ?_ hne1 _
  exact O1.out)
 have b2 : Hid (Below w.heap.size w w2) := Lib.hid (by
  rw [hw2]
  iterate 4 refine ext_set ?_ (Nat.le_refl _) _
  exact b1.out)
 have sX2 := X2.out.lt
 have sR2 := R2.out.lt
 go_wp2_with fail
 rw [← hw2]
 clear hw2 hne1 x10 x11 x12 x13 x14 x15 x16 r10 r11 r12 r13 r14 r15 r16 fr10 fr11 fr12 fr13 fr14 fr15 fr16 fx10 fx11 fx12 fx13
 obtain ⟨x20, x21, x22, x23, x24, x25, x26⟩ := X2.out.q7
 obtain ⟨r20, r21, r22, r23, r24, r25, r26⟩ := R2.out.q7
 obtain ⟨fr20, fr21, fr22, fr23, fr24, fr25, fr26⟩ := R2.out.z7
 with_reducible refine (HI.out A1 c1 _ (Reads.of_own O2.out)).mono ?_
 rintro e w3 ⟨rfl, hb3⟩
 have X3 := Lib.hid (X2.out.ext hb3)
 have R3 := Lib.hid (R2.out.ext hb3)
 have O3 := Lib.hid (own_ext O2.out hb3)
 have b3 := Lib.hid (ext_trans b2.out hb3)
 have sX3 := X3.out.lt
 have sR3 := R3.out.lt
 clear hb3
 clear x20 x21 x22 x23 x24 x25 x26 r20 r21 r22 r23 r24 r25 r26 fr20 fr21 fr22 fr23 fr24 fr25 fr26
 obtain ⟨x30, x31, x32, x33, x34, x35, x36⟩ := X3.out.q7
 obtain ⟨r30, r31, r32, r33, r34, r35, r36⟩ := R3.out.q7
 obtain ⟨fr30, fr31, fr32, fr33, fr34, fr35, fr36⟩ := R3.out.z7
 go_wp2_with fail
 refine (HR.out _).mono ?_
 rintro e w4 ⟨rfl, hb4⟩
 have X4 := Lib.hid (X3.out.ext hb4)
 have R4 := Lib.hid (R3.out.ext hb4)
 have O4 := Lib.hid (own_ext O3.out hb4)
 have b4 := Lib.hid (ext_trans b3.out hb4)
 have sX4 := X4.out.lt
 have sR4 := R4.out.lt
 clear hb4
 clear x30 x31 x32 x33 x34 x35 x36 r30 r31 r32 r33 r34 r35 r36 fr30 fr31 fr32 fr33 fr34 fr35 fr36
 obtain ⟨x40, x41, x42, x43, x44, x45, x46⟩ := X4.out.q7
 obtain ⟨r40, r41, r42, r43, r44, r45, r46⟩ := R4.out.q7
 obtain ⟨fr40, fr41, fr42, fr43, fr44, fr45, fr46⟩ := R4.out.z7
 go_wp2_with fail
 refine (HRP.out A1 c1 _ (slOk_own O4.out) (Reads.of_own O4.out)).mono ?_
 rintro e w5 ⟨A5, N5, c5, D, P, Q, L, t5, rfl, hy5, hb5⟩
 have X5 := Lib.hid (X4.out.ext hb5)
 have R5 := Lib.hid (R4.out.ext hb5)
 have O5 := Lib.hid (own_ext O4.out hb5)
 have b5 := Lib.hid (ext_trans b4.out hb5)
 have sX5 := X5.out.lt
 have sR5 := R5.out.lt
 have HY5 := Lib.hid hy5
 clear hb5 hy5
 clear x40 x41 x42 x43 x44 x45 x46 r40 r41 r42 r43 r44 r45 r46 fr40 fr41 fr42 fr43 fr44 fr45 fr46
 obtain ⟨x50, x51, x52, x53, x54, x55, x56⟩ := X5.out.q7
 obtain ⟨r50, r51, r52, r53, r54, r55, r56⟩ := R5.out.q7
 obtain ⟨fr50, fr51, fr52, fr53, fr54, fr55, fr56⟩ := R5.out.z7
 rcases o with _ | y
 · have hNone : (none : Option (Sch4 × ByteArray)).isSome = false := rfl
   have hT : ⟨#[63]⟩ = tx := HT.out
   subst hT
   have hqx : (day, l, pa, le) = qx := HQX.out
   subst hqx
   have T6 : Hid (Blk (w5.alloc (.cells #[.int .i64 day, .slice A1 n c1, .int .i64 pa, .int .i64 le] 32)) w5.heap.size 32 #[.int .i64 day, .slice A1 n c1, .int .i64 pa, .int .i64 le]) := Lib.hid (Blk.new _ _ _)
   have X6 := Lib.hid (X5.out.ext (ext_alloc (ext_refl _) (.cells #[.int .i64 day, .slice A1 n c1, .int .i64 pa, .int .i64 le] 32)))
   have R6 := Lib.hid (R5.out.ext (ext_alloc (ext_refl _) (.cells #[.int .i64 day, .slice A1 n c1, .int .i64 pa, .int .i64 le] 32)))
   have O6 := Lib.hid (World.ownsRow.alloc O5.out (.cells #[.int .i64 day, .slice A1 n c1, .int .i64 pa, .int .i64 le] 32))
   have b6 := Lib.hid (ext_alloc b5.out (.cells #[.int .i64 day, .slice A1 n c1, .int .i64 pa, .int .i64 le] 32))
   go_wp2_with fail
   refine (HAP.out _).mono ?_
   rintro e w7 ⟨rfl, hb7⟩
   have T7 := Lib.hid (T6.out.ext hb7)
   have R7 := Lib.hid (R6.out.ext hb7)
   have O7 := Lib.hid (own_ext O6.out hb7)
   have b7 := Lib.hid (ext_trans b6.out hb7)
   have sT7 := T7.out.lt
   have sR7 := R7.out.lt
   clear hb7
   clear x50 x51 x52 x53 x54 x55 x56 r50 r51 r52 r53 r54 r55 r56 fr50 fr51 fr52 fr53 fr54 fr55 fr56
   obtain ⟨t70, t71, t72, t73⟩ := T7.out.q4
   obtain ⟨r70, r71, r72, r73, r74, r75, r76⟩ := R7.out.q7
   obtain ⟨fr70, fr71, fr72, fr73, fr74, fr75, fr76⟩ := R7.out.z7
   have hne7 := own_nb O7.out R7.out (by decide)
   have HNE7 := Lib.hid hne7
   clear hne7
   go_wp2
   refine bodyPost_ret (v := .tuple #[conV day A1 (n) c1 pa le d P2 Z2, .string ⟨#[63]⟩]) (by simp [results, Tryz.results13, go_sem, *]) rfl ?_
   have hl := HLN.out
   subst hl
   refine ⟨A1, c1, rfl, ?_, ?_⟩
   · with_reducible refine World.ownsRow.alloc ?_ _
     iterate 7 with_reducible refine own_set_nb ?_ HNE7.out _
     exact O7.out
   · with_reducible refine ext_alloc ?_ _
     iterate 7 with_reducible refine ext_set ?_ (by show w.heap.size ≤ w.heap.size + 1; omega) _
     exact b7.out
 · have hSome : (some y : Option (Sch4 × ByteArray)).isSome = true := rfl
   obtain ⟨hy, rfl, hsl⟩ := HY5.out _ rfl
   subst hy
   have hcut : cutT t5 = tx := HT.out
   have hqx : (D, L, P, Q) = qx := HQX.out
   subst hqx
   have O5' : Hid (w5.ownsRow w.heap.size 111 5 (.slice A5 L.length c5) L.length (rowsV L)) := Lib.hid (by
    rcases hsl with h1 | ⟨h1, h2, h3, h4⟩
    · exact own_base h1 b4.out.size
    · rw [h1, h2, h4]; have := O5.out; rw [← HLN.out] at this; exact this)
   clear hsl HY5
   by_cases hlong : (200 : Int) < (t5.size : Int)
   · have hT : ⟨#[108, 111, 110, 103]⟩ = tx := by rw [← hcut]; unfold cutT; rw [if_pos (by omega)]
     subst hT
     clear hcut
     have T6 : Hid (Blk (w5.alloc (.cells #[.int .i64 D, .slice A5 L.length c5, .int .i64 P, .int .i64 Q] 32)) w5.heap.size 32 #[.int .i64 D, .slice A5 L.length c5, .int .i64 P, .int .i64 Q]) := Lib.hid (Blk.new _ _ _)
     have X6 := Lib.hid (X5.out.ext (ext_alloc (ext_refl _) (.cells #[.int .i64 D, .slice A5 L.length c5, .int .i64 P, .int .i64 Q] 32)))
     have R6 := Lib.hid (R5.out.ext (ext_alloc (ext_refl _) (.cells #[.int .i64 D, .slice A5 L.length c5, .int .i64 P, .int .i64 Q] 32)))
     have O6 := Lib.hid (World.ownsRow.alloc O5'.out (.cells #[.int .i64 D, .slice A5 L.length c5, .int .i64 P, .int .i64 Q] 32))
     have b6 := Lib.hid (ext_alloc b5.out (.cells #[.int .i64 D, .slice A5 L.length c5, .int .i64 P, .int .i64 Q] 32))
     go_wp2_with fail
     refine (HAP.out _).mono ?_
     rintro e w7 ⟨rfl, hb7⟩
     have T7 := Lib.hid (T6.out.ext hb7)
     have R7 := Lib.hid (R6.out.ext hb7)
     have O7 := Lib.hid (own_ext O6.out hb7)
     have b7 := Lib.hid (ext_trans b6.out hb7)
     have sT7 := T7.out.lt
     have sR7 := R7.out.lt
     clear hb7
     clear x50 x51 x52 x53 x54 x55 x56 r50 r51 r52 r53 r54 r55 r56 fr50 fr51 fr52 fr53 fr54 fr55 fr56
     obtain ⟨t70, t71, t72, t73⟩ := T7.out.q4
     obtain ⟨r70, r71, r72, r73, r74, r75, r76⟩ := R7.out.q7
     obtain ⟨fr70, fr71, fr72, fr73, fr74, fr75, fr76⟩ := R7.out.z7
     have hne7 := own_nb O7.out R7.out (by decide)
     have HNE7 := Lib.hid hne7
     clear hne7
     go_wp2
     refine bodyPost_ret (v := .tuple #[conV D A5 (L.length) c5 P Q d P2 Z2, .string ⟨#[108, 111, 110, 103]⟩]) (by simp [results, Tryz.results13, go_sem, *]) rfl ?_
     have hl := HLN.out
     subst hl
     refine ⟨A5, c5, rfl, ?_, ?_⟩
     · with_reducible refine World.ownsRow.alloc ?_ _
       iterate 7 with_reducible refine own_set_nb ?_ HNE7.out _
       exact O7.out
     · with_reducible refine ext_alloc ?_ _
       iterate 7 with_reducible refine ext_set ?_ (by show w.heap.size ≤ w.heap.size + 1; omega) _
       exact b7.out
   · have hT : t5 = tx := by rw [← hcut]; unfold cutT; rw [if_neg (by omega)]
     subst hT
     clear hcut
     have T6 : Hid (Blk (w5.alloc (.cells #[.int .i64 D, .slice A5 L.length c5, .int .i64 P, .int .i64 Q] 32)) w5.heap.size 32 #[.int .i64 D, .slice A5 L.length c5, .int .i64 P, .int .i64 Q]) := Lib.hid (Blk.new _ _ _)
     have X6 := Lib.hid (X5.out.ext (ext_alloc (ext_refl _) (.cells #[.int .i64 D, .slice A5 L.length c5, .int .i64 P, .int .i64 Q] 32)))
     have R6 := Lib.hid (R5.out.ext (ext_alloc (ext_refl _) (.cells #[.int .i64 D, .slice A5 L.length c5, .int .i64 P, .int .i64 Q] 32)))
     have O6 := Lib.hid (World.ownsRow.alloc O5'.out (.cells #[.int .i64 D, .slice A5 L.length c5, .int .i64 P, .int .i64 Q] 32))
     have b6 := Lib.hid (ext_alloc b5.out (.cells #[.int .i64 D, .slice A5 L.length c5, .int .i64 P, .int .i64 Q] 32))
     go_wp2_with fail
     refine (HAP.out _).mono ?_
     rintro e w7 ⟨rfl, hb7⟩
     have T7 := Lib.hid (T6.out.ext hb7)
     have R7 := Lib.hid (R6.out.ext hb7)
     have O7 := Lib.hid (own_ext O6.out hb7)
     have b7 := Lib.hid (ext_trans b6.out hb7)
     have sT7 := T7.out.lt
     have sR7 := R7.out.lt
     clear hb7
     clear x50 x51 x52 x53 x54 x55 x56 r50 r51 r52 r53 r54 r55 r56 fr50 fr51 fr52 fr53 fr54 fr55 fr56
     obtain ⟨t70, t71, t72, t73⟩ := T7.out.q4
     obtain ⟨r70, r71, r72, r73, r74, r75, r76⟩ := R7.out.q7
     obtain ⟨fr70, fr71, fr72, fr73, fr74, fr75, fr76⟩ := R7.out.z7
     have hne7 := own_nb O7.out R7.out (by decide)
     have HNE7 := Lib.hid hne7
     clear hne7
     go_wp2
     refine bodyPost_ret (v := .tuple #[conV D A5 (L.length) c5 P Q d P2 Z2, .string t5]) (by simp [results, Tryz.results13, go_sem, *]) rfl ?_
     have hl := HLN.out
     subst hl
     refine ⟨A5, c5, rfl, ?_, ?_⟩
     · with_reducible refine World.ownsRow.alloc ?_ _
       iterate 7 with_reducible refine own_set_nb ?_ HNE7.out _
       exact O7.out
     · with_reducible refine ext_alloc ?_ _
       iterate 7 with_reducible refine ext_set ?_ (by show w.heap.size ≤ w.heap.size + 1; omega) _
       exact b7.out
end Go.Proofs.YtkcbgiegoadkbaaGreat
