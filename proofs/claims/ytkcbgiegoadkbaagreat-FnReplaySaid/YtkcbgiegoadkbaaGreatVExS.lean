/- ExecuteCommand: the reference, walked. -/
import Derived.Test.YtkcbgiegoadkbaaGreatVM11
namespace Go.Proofs.YtkcbgiegoadkbaaGreat
open Go.RowKit
set_option linter.unusedVariables false
set_option linter.unusedSimpArgs false
theorem repO_ok {q : Sch4} (hq : schB q.1 q.2.1 q.2.2.1 q.2.2.2 = true) {line : ByteArray} {y : Sch4 × ByteArray} (h : repO q line = some y) : schB y.1.1 y.1.2.1 y.1.2.2.1 y.1.2.2.2 = true := by
 have hm : ∀ {α : Type} (o : Option α) (f : α → Sch4 × ByteArray), (∀ a, o = some a → schB (f a).1.1 (f a).1.2.1 (f a).1.2.2.1 (f a).1.2.2.2 = true) → o.map f = some y → schB y.1.1 y.1.2.1 y.1.2.2.1 y.1.2.2.2 = true := by
  intro α o f hf hy
  rcases o with _ | a
  · cases hy
  · injection hy with hy
    rw [← hy]
    exact hf a rfl
 unfold repO at h
 split at h
 · unfold rep0 at h
   repeat' split at h
   all_goals first | (injection h with h; rw [← h]; exact hq) | cases h
 · unfold rep1 at h
   split at h
   · exact hm _ _ (fun s hs => stpQ_ok hs) h
   split at h
   · exact hm _ _ (fun s hs => stpQ_ok hs) h
   split at h
   · exact hm _ _ (fun s _ => hq) h
   split at h
   · exact hm _ _ (fun s _ => hq) h
   · cases h
 · unfold rep2 at h
   split at h
   · split at h
     · cases h
     · rename_i s hs
       injection h with h
       rw [← h]
       exact stpQ_ok hs
   · cases h
 · cases h
theorem afQ_ok {q : Sch4} (hq : schB q.1 q.2.1 q.2.2.1 q.2.2.2 = true) (line : ByteArray) : schB (afQ q (repO q line)).1 (afQ q (repO q line)).2.1 (afQ q (repO q line)).2.2.1 (afQ q (repO q line)).2.2.2 = true := by
 rcases h : repO q line with _ | y
 · exact hq
 · exact repO_ok hq h
set_option maxRecDepth 100000 in
set_option maxHeartbeats 4000000 in
theorem specEx_no (day pa le : Int) (d p : ByteArray) (z : Int) (A : Option Addr) (n c : Nat) (l : List R5) (line : ByteArray) (w : World) (hn : n ≤ 1048576) (hd : d.size ≤ 2000000) (hp : p.size ≤ 2000000) (hline : line.size ≤ 16000000) (hA : SlOk A n c) (h : Reads w w.heap.size 5 A n (rowsV l)) (hcon : conB day l pa le d p z = false) :
 Calls Tryz.prog 18 #[conV day A n c pa le d p z, .string line] w (RetEx (day, l, pa, le) d p z ⟨#[110, 111]⟩ w) := by
 have HO := Lib.hid (fun (w : World) h => l28Own_any day pa le d p z A n c l w hn hA h)
 have HI := Lib.hid (fun (w : World) h => l28Good_any day pa le d p z A n c l w hn hd hp h)
 rw [hcon] at HI
 have H := Lib.hid h
 have HLN := Lib.hid (rows_len h)
 have HCON := Lib.hid hcon
 clear h hcon
 go_enter Tryz.func18, Tryz.ntmps18
 go_wp2_with fail
 refine (HO.out _ ((H.out.ext (ext_alloc (ext_alloc (ext_refl _) _) _) (Nat.le_refl _)).more (by simp; omega))).mono ?_
 rintro e w1 ⟨A1, c1, rfl, ho1, hb1⟩
 have X1 : Hid (Blk w1 w.heap.size 34 #[.int .i64 day, .slice A n c, .int .i64 pa, .int .i64 le, .string d, .string p, .int .i64 z]) := Lib.hid ((((Blk.new w _ _).ext (ext_alloc (ext_refl _) _))).ext hb1)
 have R1 : Hid (Blk w1 (w.heap.size + 1) 34 #[.int .i64 0, .slice none 0 0, .int .i64 0, .int .i64 0, .string ⟨#[]⟩, .string ⟨#[]⟩, .int .i64 0]) := Lib.hid (by
  have := (Blk.new (w.alloc (.cells #[.int .i64 day, .slice A n c, .int .i64 pa, .int .i64 le, .string d, .string p, .int .i64 z] 34)) #[.int .i64 0, .slice none 0 0, .int .i64 0, .int .i64 0, .string ⟨#[]⟩, .string ⟨#[]⟩, .int .i64 0] 34).ext hb1
  simpa using this)
 have b1 := Lib.hid (ext_trans (ext_alloc (ext_alloc (ext_refl w) _) _) hb1)
 have O1 := Lib.hid (own_base (base' := w.heap.size) ho1 (by simp; omega))
 have sX1 := X1.out.lt
 have sR1 := R1.out.lt
 clear hb1 ho1
 obtain ⟨x10, x11, x12, x13, x14, x15, x16⟩ := X1.out.q7
 obtain ⟨r10, r11, r12, r13, r14, r15, r16⟩ := R1.out.q7
 obtain ⟨fr10, fr11, fr12, fr13, fr14, fr15, fr16⟩ := R1.out.z7
 obtain ⟨w2, hw2⟩ : ∃ w2, w2 = w1.alloc (.cells #[.int .i64 day, .slice A1 n c1, .int .i64 pa, .int .i64 le, .string d, .string p, .int .i64 z] 34) := ⟨_, rfl⟩
 have e2 : Below w1.heap.size w1 w2 := by rw [hw2]; exact ext_alloc (ext_refl _) _
 have X2 := Lib.hid (X1.out.ext e2)
 have R2 := Lib.hid (R1.out.ext e2)
 have G2 : Hid (Blk w2 w1.heap.size 34 #[.int .i64 day, .slice A1 n c1, .int .i64 pa, .int .i64 le, .string d, .string p, .int .i64 z]) := Lib.hid (by rw [hw2]; exact Blk.new _ _ _)
 have O2 := Lib.hid (own_ext O1.out e2)
 have b2 := Lib.hid (ext_trans b1.out e2)
 clear e2
 go_wp2_with fail
 rw [← hw2]
 clear hw2 x10 x11 x12 x13 x14 x15 x16 r10 r11 r12 r13 r14 r15 r16 fr10 fr11 fr12 fr13 fr14 fr15 fr16
 with_reducible refine (HI.out _ ((H.out.ext b2.out (Nat.le_refl _)).more b2.out.size)).mono ?_
 rintro e w3 ⟨rfl, hb3⟩
 have X3 := Lib.hid (X2.out.ext hb3)
 have R3 := Lib.hid (R2.out.ext hb3)
 have G3 := Lib.hid (G2.out.ext hb3)
 have O3 := Lib.hid (own_ext O2.out hb3)
 have b3 := Lib.hid (ext_trans b2.out hb3)
 have sX3 := X3.out.lt
 have sR3 := R3.out.lt
 have sG3 := G3.out.lt
 clear hb3
 obtain ⟨x30, x31, x32, x33, x34, x35, x36⟩ := X3.out.q7
 obtain ⟨r30, r31, r32, r33, r34, r35, r36⟩ := R3.out.q7
 obtain ⟨fr30, fr31, fr32, fr33, fr34, fr35, fr36⟩ := R3.out.z7
 obtain ⟨g30, g31, g32, g33, g34, g35, g36⟩ := G3.out.q7
 obtain ⟨fg30, fg31, fg32, fg33, fg34, fg35, fg36⟩ := G3.out.z7
 go_wp2
 refine bodyPost_ret (v := .tuple #[conV day A1 n c1 pa le d p z, .string ⟨#[110, 111]⟩]) (by simp [results, Tryz.results18, go_sem, *]) rfl ?_
 have hne := own_nb O3.out R3.out (by decide)
 have hl := HLN.out
 subst hl
 refine ⟨A1, c1, rfl, ?_, ?_⟩
 · iterate 7 with_reducible refine own_set_nb ?_ hne _
   exact O3.out
 · iterate 7 with_reducible refine ext_set ?_ (by show w.heap.size ≤ w.heap.size + 1; omega) _
   exact b3.out
set_option maxRecDepth 100000 in
set_option maxHeartbeats 4000000 in
theorem specEx_bad (day pa le : Int) (d p : ByteArray) (z : Int) (A : Option Addr) (n c : Nat) (l : List R5) (line : ByteArray) (w : World) (hn : n ≤ 1048576) (hd : d.size ≤ 2000000) (hp : p.size ≤ 2000000) (hline : line.size ≤ 16000000) (hA : SlOk A n c) (h : Reads w w.heap.size 5 A n (rowsV l)) (hcon : conB day l pa le d p z = true) (hrec : recB line ⟨#[]⟩ = false) :
 Calls Tryz.prog 18 #[conV day A n c pa le d p z, .string line] w (RetEx (day, l, pa, le) d p z ⟨#[98, 97, 100]⟩ w) := by
 have HR := Lib.hid (fun (w : World) => l27Good_any line ⟨#[]⟩ w (by omega) (by simp [lit_size]))
 rw [hrec] at HR
 clear hrec
 have HO := Lib.hid (fun (w : World) h => l28Own_any day pa le d p z A n c l w hn hA h)
 have HI := Lib.hid (fun (w : World) h => l28Good_any day pa le d p z A n c l w hn hd hp h)
 rw [hcon] at HI
 have H := Lib.hid h
 have HLN := Lib.hid (rows_len h)
 have HCON := Lib.hid hcon
 clear h hcon
 go_enter Tryz.func18, Tryz.ntmps18
 go_wp2_with fail
 refine (HO.out _ ((H.out.ext (ext_alloc (ext_alloc (ext_refl _) _) _) (Nat.le_refl _)).more (by simp; omega))).mono ?_
 rintro e w1 ⟨A1, c1, rfl, ho1, hb1⟩
 have X1 : Hid (Blk w1 w.heap.size 34 #[.int .i64 day, .slice A n c, .int .i64 pa, .int .i64 le, .string d, .string p, .int .i64 z]) := Lib.hid ((((Blk.new w _ _).ext (ext_alloc (ext_refl _) _))).ext hb1)
 have R1 : Hid (Blk w1 (w.heap.size + 1) 34 #[.int .i64 0, .slice none 0 0, .int .i64 0, .int .i64 0, .string ⟨#[]⟩, .string ⟨#[]⟩, .int .i64 0]) := Lib.hid (by
  have := (Blk.new (w.alloc (.cells #[.int .i64 day, .slice A n c, .int .i64 pa, .int .i64 le, .string d, .string p, .int .i64 z] 34)) #[.int .i64 0, .slice none 0 0, .int .i64 0, .int .i64 0, .string ⟨#[]⟩, .string ⟨#[]⟩, .int .i64 0] 34).ext hb1
  simpa using this)
 have b1 := Lib.hid (ext_trans (ext_alloc (ext_alloc (ext_refl w) _) _) hb1)
 have O1 := Lib.hid (own_base (base' := w.heap.size) ho1 (by simp; omega))
 have sX1 := X1.out.lt
 have sR1 := R1.out.lt
 clear hb1 ho1
 obtain ⟨x10, x11, x12, x13, x14, x15, x16⟩ := X1.out.q7
 obtain ⟨r10, r11, r12, r13, r14, r15, r16⟩ := R1.out.q7
 obtain ⟨fr10, fr11, fr12, fr13, fr14, fr15, fr16⟩ := R1.out.z7
 obtain ⟨w2, hw2⟩ : ∃ w2, w2 = w1.alloc (.cells #[.int .i64 day, .slice A1 n c1, .int .i64 pa, .int .i64 le, .string d, .string p, .int .i64 z] 34) := ⟨_, rfl⟩
 have e2 : Below w1.heap.size w1 w2 := by rw [hw2]; exact ext_alloc (ext_refl _) _
 have X2 := Lib.hid (X1.out.ext e2)
 have R2 := Lib.hid (R1.out.ext e2)
 have G2 : Hid (Blk w2 w1.heap.size 34 #[.int .i64 day, .slice A1 n c1, .int .i64 pa, .int .i64 le, .string d, .string p, .int .i64 z]) := Lib.hid (by rw [hw2]; exact Blk.new _ _ _)
 have O2 := Lib.hid (own_ext O1.out e2)
 have b2 := Lib.hid (ext_trans b1.out e2)
 clear e2
 go_wp2_with fail
 rw [← hw2]
 clear hw2 x10 x11 x12 x13 x14 x15 x16 r10 r11 r12 r13 r14 r15 r16 fr10 fr11 fr12 fr13 fr14 fr15 fr16
 with_reducible refine (HI.out _ ((H.out.ext b2.out (Nat.le_refl _)).more b2.out.size)).mono ?_
 rintro e w3 ⟨rfl, hb3⟩
 have X3 := Lib.hid (X2.out.ext hb3)
 have R3 := Lib.hid (R2.out.ext hb3)
 have G3 := Lib.hid (G2.out.ext hb3)
 have O3 := Lib.hid (own_ext O2.out hb3)
 have b3 := Lib.hid (ext_trans b2.out hb3)
 have sX3 := X3.out.lt
 have sR3 := R3.out.lt
 have sG3 := G3.out.lt
 clear hb3
 obtain ⟨x30, x31, x32, x33, x34, x35, x36⟩ := X3.out.q7
 obtain ⟨r30, r31, r32, r33, r34, r35, r36⟩ := R3.out.q7
 obtain ⟨fr30, fr31, fr32, fr33, fr34, fr35, fr36⟩ := R3.out.z7
 obtain ⟨g30, g31, g32, g33, g34, g35, g36⟩ := G3.out.q7
 obtain ⟨fg30, fg31, fg32, fg33, fg34, fg35, fg36⟩ := G3.out.z7
 go_wp2_with fail
 with_reducible refine (HR.out _).mono ?_
 rintro e w4 ⟨rfl, hb4⟩
 have X4 := Lib.hid (X3.out.ext hb4)
 have R4 := Lib.hid (R3.out.ext hb4)
 have G4 := Lib.hid (G3.out.ext hb4)
 have O4 := Lib.hid (own_ext O3.out hb4)
 have b4 := Lib.hid (ext_trans b3.out hb4)
 have sX4 := X4.out.lt
 have sR4 := R4.out.lt
 have sG4 := G4.out.lt
 clear hb4
 clear x30 x31 x32 x33 x34 x35 x36 r30 r31 r32 r33 r34 r35 r36 fr30 fr31 fr32 fr33 fr34 fr35 fr36 g30 g31 g32 g33 g34 g35 g36 fg30 fg31 fg32 fg33 fg34 fg35 fg36
 obtain ⟨x40, x41, x42, x43, x44, x45, x46⟩ := X4.out.q7
 obtain ⟨r40, r41, r42, r43, r44, r45, r46⟩ := R4.out.q7
 obtain ⟨fr40, fr41, fr42, fr43, fr44, fr45, fr46⟩ := R4.out.z7
 obtain ⟨g40, g41, g42, g43, g44, g45, g46⟩ := G4.out.q7
 obtain ⟨fg40, fg41, fg42, fg43, fg44, fg45, fg46⟩ := G4.out.z7
 go_wp2
 refine bodyPost_ret (v := .tuple #[conV day A1 n c1 pa le d p z, .string ⟨#[98, 97, 100]⟩]) (by simp [results, Tryz.results18, go_sem, *]) rfl ?_
 have hne := own_nb O4.out R4.out (by decide)
 have hl := HLN.out
 subst hl
 refine ⟨A1, c1, rfl, ?_, ?_⟩
 · iterate 7 with_reducible refine own_set_nb ?_ hne _
   exact O4.out
 · iterate 7 with_reducible refine ext_set ?_ (by show w.heap.size ≤ w.heap.size + 1; omega) _
   exact b4.out
set_option maxRecDepth 100000 in
set_option maxHeartbeats 4000000 in
theorem specEx_full (day pa le : Int) (d p : ByteArray) (z : Int) (A : Option Addr) (n c : Nat) (l : List R5) (line : ByteArray) (w : World) (hn : n ≤ 1048576) (hd : d.size ≤ 2000000) (hp : p.size ≤ 2000000) (hline : line.size ≤ 16000000) (hA : SlOk A n c) (h : Reads w w.heap.size 5 A n (rowsV l)) (hcon : conB day l pa le d p z = true) (hrec : recB line ⟨#[]⟩ = true) (hz : 60 ≤ z) :
 Calls Tryz.prog 18 #[conV day A n c pa le d p z, .string line] w (RetEx (day, l, pa, le) d p z ⟨#[102, 117, 108, 108]⟩ w) := by
 have hz60 : (z == 60) = true := by
  simp only [conB, Bool.and_eq_true] at hcon
  have := logB_sixty hcon.2
  rw [beq_iff_eq]; omega
 have HR := Lib.hid (fun (w : World) => l27Good_any line ⟨#[]⟩ w (by omega) (by simp [lit_size]))
 rw [hrec] at HR
 clear hrec
 have HO := Lib.hid (fun (w : World) h => l28Own_any day pa le d p z A n c l w hn hA h)
 have HI := Lib.hid (fun (w : World) h => l28Good_any day pa le d p z A n c l w hn hd hp h)
 rw [hcon] at HI
 have H := Lib.hid h
 have HLN := Lib.hid (rows_len h)
 have HCON := Lib.hid hcon
 clear h hcon
 go_enter Tryz.func18, Tryz.ntmps18
 go_wp2_with fail
 refine (HO.out _ ((H.out.ext (ext_alloc (ext_alloc (ext_refl _) _) _) (Nat.le_refl _)).more (by simp; omega))).mono ?_
 rintro e w1 ⟨A1, c1, rfl, ho1, hb1⟩
 have X1 : Hid (Blk w1 w.heap.size 34 #[.int .i64 day, .slice A n c, .int .i64 pa, .int .i64 le, .string d, .string p, .int .i64 z]) := Lib.hid ((((Blk.new w _ _).ext (ext_alloc (ext_refl _) _))).ext hb1)
 have R1 : Hid (Blk w1 (w.heap.size + 1) 34 #[.int .i64 0, .slice none 0 0, .int .i64 0, .int .i64 0, .string ⟨#[]⟩, .string ⟨#[]⟩, .int .i64 0]) := Lib.hid (by
  have := (Blk.new (w.alloc (.cells #[.int .i64 day, .slice A n c, .int .i64 pa, .int .i64 le, .string d, .string p, .int .i64 z] 34)) #[.int .i64 0, .slice none 0 0, .int .i64 0, .int .i64 0, .string ⟨#[]⟩, .string ⟨#[]⟩, .int .i64 0] 34).ext hb1
  simpa using this)
 have b1 := Lib.hid (ext_trans (ext_alloc (ext_alloc (ext_refl w) _) _) hb1)
 have O1 := Lib.hid (own_base (base' := w.heap.size) ho1 (by simp; omega))
 have sX1 := X1.out.lt
 have sR1 := R1.out.lt
 clear hb1 ho1
 obtain ⟨x10, x11, x12, x13, x14, x15, x16⟩ := X1.out.q7
 obtain ⟨r10, r11, r12, r13, r14, r15, r16⟩ := R1.out.q7
 obtain ⟨fr10, fr11, fr12, fr13, fr14, fr15, fr16⟩ := R1.out.z7
 obtain ⟨w2, hw2⟩ : ∃ w2, w2 = w1.alloc (.cells #[.int .i64 day, .slice A1 n c1, .int .i64 pa, .int .i64 le, .string d, .string p, .int .i64 z] 34) := ⟨_, rfl⟩
 have e2 : Below w1.heap.size w1 w2 := by rw [hw2]; exact ext_alloc (ext_refl _) _
 have X2 := Lib.hid (X1.out.ext e2)
 have R2 := Lib.hid (R1.out.ext e2)
 have G2 : Hid (Blk w2 w1.heap.size 34 #[.int .i64 day, .slice A1 n c1, .int .i64 pa, .int .i64 le, .string d, .string p, .int .i64 z]) := Lib.hid (by rw [hw2]; exact Blk.new _ _ _)
 have O2 := Lib.hid (own_ext O1.out e2)
 have b2 := Lib.hid (ext_trans b1.out e2)
 clear e2
 go_wp2_with fail
 rw [← hw2]
 clear hw2 x10 x11 x12 x13 x14 x15 x16 r10 r11 r12 r13 r14 r15 r16 fr10 fr11 fr12 fr13 fr14 fr15 fr16
 with_reducible refine (HI.out _ ((H.out.ext b2.out (Nat.le_refl _)).more b2.out.size)).mono ?_
 rintro e w3 ⟨rfl, hb3⟩
 have X3 := Lib.hid (X2.out.ext hb3)
 have R3 := Lib.hid (R2.out.ext hb3)
 have G3 := Lib.hid (G2.out.ext hb3)
 have O3 := Lib.hid (own_ext O2.out hb3)
 have b3 := Lib.hid (ext_trans b2.out hb3)
 have sX3 := X3.out.lt
 have sR3 := R3.out.lt
 have sG3 := G3.out.lt
 clear hb3
 obtain ⟨x30, x31, x32, x33, x34, x35, x36⟩ := X3.out.q7
 obtain ⟨r30, r31, r32, r33, r34, r35, r36⟩ := R3.out.q7
 obtain ⟨fr30, fr31, fr32, fr33, fr34, fr35, fr36⟩ := R3.out.z7
 obtain ⟨g30, g31, g32, g33, g34, g35, g36⟩ := G3.out.q7
 obtain ⟨fg30, fg31, fg32, fg33, fg34, fg35, fg36⟩ := G3.out.z7
 go_wp2_with fail
 with_reducible refine (HR.out _).mono ?_
 rintro e w4 ⟨rfl, hb4⟩
 have X4 := Lib.hid (X3.out.ext hb4)
 have R4 := Lib.hid (R3.out.ext hb4)
 have G4 := Lib.hid (G3.out.ext hb4)
 have O4 := Lib.hid (own_ext O3.out hb4)
 have b4 := Lib.hid (ext_trans b3.out hb4)
 have sX4 := X4.out.lt
 have sR4 := R4.out.lt
 have sG4 := G4.out.lt
 clear hb4
 clear x30 x31 x32 x33 x34 x35 x36 r30 r31 r32 r33 r34 r35 r36 fr30 fr31 fr32 fr33 fr34 fr35 fr36 g30 g31 g32 g33 g34 g35 g36 fg30 fg31 fg32 fg33 fg34 fg35 fg36
 obtain ⟨x40, x41, x42, x43, x44, x45, x46⟩ := X4.out.q7
 obtain ⟨r40, r41, r42, r43, r44, r45, r46⟩ := R4.out.q7
 obtain ⟨fr40, fr41, fr42, fr43, fr44, fr45, fr46⟩ := R4.out.z7
 obtain ⟨g40, g41, g42, g43, g44, g45, g46⟩ := G4.out.q7
 obtain ⟨fg40, fg41, fg42, fg43, fg44, fg45, fg46⟩ := G4.out.z7
 go_wp2
 refine bodyPost_ret (v := .tuple #[conV day A1 n c1 pa le d p z, .string ⟨#[102, 117, 108, 108]⟩]) (by simp [results, Tryz.results18, go_sem, *]) rfl ?_
 have hne := own_nb O4.out R4.out (by decide)
 have hl := HLN.out
 subst hl
 refine ⟨A1, c1, rfl, ?_, ?_⟩
 · iterate 7 with_reducible refine own_set_nb ?_ hne _
   exact O4.out
 · iterate 7 with_reducible refine ext_set ?_ (by show w.heap.size ≤ w.heap.size + 1; omega) _
   exact b4.out
set_option maxRecDepth 100000 in
set_option maxHeartbeats 4000000 in
theorem specEx_go (day pa le : Int) (d p : ByteArray) (z : Int) (A : Option Addr) (n c : Nat) (l : List R5) (line : ByteArray) (w : World) (hn : n ≤ 1048576) (hd : d.size ≤ 2000000) (hp : p.size ≤ 2000000) (hline : line.size ≤ 16000000) (hA : SlOk A n c) (h : Reads w w.heap.size 5 A n (rowsV l)) (hcon : conB day l pa le d p z = true) (hrec : recB line ⟨#[]⟩ = true) (hz : z < 60) :
 Calls Tryz.prog 18 #[conV day A n c pa le d p z, .string line] w (RetEx (afQ (day, l, pa, le) (repO (day, l, pa, le) line)) d (appP d p z line (cutT (afT (repO (day, l, pa, le) line)))) (appZ d p z line (cutT (afT (repO (day, l, pa, le) line)))) (cutT (afT (repO (day, l, pa, le) line))) w) := by
 have HR := Lib.hid (fun (w : World) => l27Good_any line ⟨#[]⟩ w (by omega) (by simp [lit_size]))
 rw [hrec] at HR
 have hrs := rec_parts hrec
 have hz60 : (z == 60) = false := by rw [beq_eq_false_iff_ne]; omega
 have hsch : schB day l pa le = true := by simp only [conB, Bool.and_eq_true] at hcon; exact hcon.1
 have HRP := Lib.hid (fun (A : Option Addr) (c : Nat) (w : World) hnc hA h => l28Run_any day pa le d p z A n c l line w hnc hA h hsch (by omega))
 have hqok := afQ_ok (q := (day, l, pa, le)) hsch line
 obtain ⟨o, ho⟩ : ∃ o, repO (day, l, pa, le) line = o := ⟨_, rfl⟩
 rw [ho] at HRP hqok ⊢
 obtain ⟨ra, hra⟩ : ∃ ra, afT o = ra := ⟨_, rfl⟩
 obtain ⟨tx, hT⟩ : ∃ tx, cutT ra = tx := ⟨_, rfl⟩
 have hTs : tx.size ≤ 200 := by rw [← hT]; exact cutT_size _
 unfold RetC at HRP
 rw [hra] at HRP ⊢
 rw [hT]
 have HAP := Lib.hid (fun (w : World) => specAppend_any d p z line tx w hd hp (by omega) (by omega))
 obtain ⟨P2, hP2⟩ : ∃ P2, appP d p z line tx = P2 := ⟨_, rfl⟩
 obtain ⟨Z2, hZ2⟩ : ∃ Z2, appZ d p z line tx = Z2 := ⟨_, rfl⟩
 rw [hP2, hZ2] at HAP ⊢
 have HT := Lib.hid hT
 obtain ⟨qx, hqx⟩ : ∃ qx, afQ (day, l, pa, le) o = qx := ⟨_, rfl⟩
 rw [hqx] at HRP hqok ⊢
 have HQOK := Lib.hid (schB_len hqok)
 clear hrec hrs hsch ho hT hP2 hZ2 hqx hra hqok
 have HO := Lib.hid (fun (w : World) h => l28Own_any day pa le d p z A n c l w hn hA h)
 have HI := Lib.hid (fun (w : World) h => l28Good_any day pa le d p z A n c l w hn hd hp h)
 rw [hcon] at HI
 have H := Lib.hid h
 have HLN := Lib.hid (rows_len h)
 have HCON := Lib.hid hcon
 clear h hcon
 go_enter Tryz.func18, Tryz.ntmps18
 go_wp2_with fail
 refine (HO.out _ ((H.out.ext (ext_alloc (ext_alloc (ext_refl _) _) _) (Nat.le_refl _)).more (by simp; omega))).mono ?_
 rintro e w1 ⟨A1, c1, rfl, ho1, hb1⟩
 have X1 : Hid (Blk w1 w.heap.size 34 #[.int .i64 day, .slice A n c, .int .i64 pa, .int .i64 le, .string d, .string p, .int .i64 z]) := Lib.hid ((((Blk.new w _ _).ext (ext_alloc (ext_refl _) _))).ext hb1)
 have R1 : Hid (Blk w1 (w.heap.size + 1) 34 #[.int .i64 0, .slice none 0 0, .int .i64 0, .int .i64 0, .string ⟨#[]⟩, .string ⟨#[]⟩, .int .i64 0]) := Lib.hid (by
  have := (Blk.new (w.alloc (.cells #[.int .i64 day, .slice A n c, .int .i64 pa, .int .i64 le, .string d, .string p, .int .i64 z] 34)) #[.int .i64 0, .slice none 0 0, .int .i64 0, .int .i64 0, .string ⟨#[]⟩, .string ⟨#[]⟩, .int .i64 0] 34).ext hb1
  simpa using this)
 have b1 := Lib.hid (ext_trans (ext_alloc (ext_alloc (ext_refl w) _) _) hb1)
 have O1 := Lib.hid (own_base (base' := w.heap.size) ho1 (by simp; omega))
 have sX1 := X1.out.lt
 have sR1 := R1.out.lt
 clear hb1 ho1
 obtain ⟨x10, x11, x12, x13, x14, x15, x16⟩ := X1.out.q7
 obtain ⟨r10, r11, r12, r13, r14, r15, r16⟩ := R1.out.q7
 obtain ⟨fr10, fr11, fr12, fr13, fr14, fr15, fr16⟩ := R1.out.z7
 obtain ⟨w2, hw2⟩ : ∃ w2, w2 = w1.alloc (.cells #[.int .i64 day, .slice A1 n c1, .int .i64 pa, .int .i64 le, .string d, .string p, .int .i64 z] 34) := ⟨_, rfl⟩
 have e2 : Below w1.heap.size w1 w2 := by rw [hw2]; exact ext_alloc (ext_refl _) _
 have X2 := Lib.hid (X1.out.ext e2)
 have R2 := Lib.hid (R1.out.ext e2)
 have G2 : Hid (Blk w2 w1.heap.size 34 #[.int .i64 day, .slice A1 n c1, .int .i64 pa, .int .i64 le, .string d, .string p, .int .i64 z]) := Lib.hid (by rw [hw2]; exact Blk.new _ _ _)
 have O2 := Lib.hid (own_ext O1.out e2)
 have b2 := Lib.hid (ext_trans b1.out e2)
 clear e2
 go_wp2_with fail
 rw [← hw2]
 clear hw2 x10 x11 x12 x13 x14 x15 x16 r10 r11 r12 r13 r14 r15 r16 fr10 fr11 fr12 fr13 fr14 fr15 fr16
 with_reducible refine (HI.out _ ((H.out.ext b2.out (Nat.le_refl _)).more b2.out.size)).mono ?_
 rintro e w3 ⟨rfl, hb3⟩
 have X3 := Lib.hid (X2.out.ext hb3)
 have R3 := Lib.hid (R2.out.ext hb3)
 have G3 := Lib.hid (G2.out.ext hb3)
 have O3 := Lib.hid (own_ext O2.out hb3)
 have b3 := Lib.hid (ext_trans b2.out hb3)
 have sX3 := X3.out.lt
 have sR3 := R3.out.lt
 have sG3 := G3.out.lt
 clear hb3
 obtain ⟨x30, x31, x32, x33, x34, x35, x36⟩ := X3.out.q7
 obtain ⟨r30, r31, r32, r33, r34, r35, r36⟩ := R3.out.q7
 obtain ⟨fr30, fr31, fr32, fr33, fr34, fr35, fr36⟩ := R3.out.z7
 obtain ⟨g30, g31, g32, g33, g34, g35, g36⟩ := G3.out.q7
 obtain ⟨fg30, fg31, fg32, fg33, fg34, fg35, fg36⟩ := G3.out.z7
 go_wp2_with fail
 with_reducible refine (HR.out _).mono ?_
 rintro e w4 ⟨rfl, hb4⟩
 have X4 := Lib.hid (X3.out.ext hb4)
 have R4 := Lib.hid (R3.out.ext hb4)
 have G4 := Lib.hid (G3.out.ext hb4)
 have O4 := Lib.hid (own_ext O3.out hb4)
 have b4 := Lib.hid (ext_trans b3.out hb4)
 have sX4 := X4.out.lt
 have sR4 := R4.out.lt
 have sG4 := G4.out.lt
 clear hb4
 clear x30 x31 x32 x33 x34 x35 x36 r30 r31 r32 r33 r34 r35 r36 fr30 fr31 fr32 fr33 fr34 fr35 fr36 g30 g31 g32 g33 g34 g35 g36 fg30 fg31 fg32 fg33 fg34 fg35 fg36
 obtain ⟨x40, x41, x42, x43, x44, x45, x46⟩ := X4.out.q7
 obtain ⟨r40, r41, r42, r43, r44, r45, r46⟩ := R4.out.q7
 obtain ⟨fr40, fr41, fr42, fr43, fr44, fr45, fr46⟩ := R4.out.z7
 obtain ⟨g40, g41, g42, g43, g44, g45, g46⟩ := G4.out.q7
 obtain ⟨fg40, fg41, fg42, fg43, fg44, fg45, fg46⟩ := G4.out.z7
 go_wp2_with fail
 with_reducible refine (HRP.out A1 c1 _ (own_cap3 O4.out) (slOk_own O4.out) (Reads.of_own O4.out)).mono ?_
 rintro e w5 ⟨A5, N5, c5, D, P, Q, L, rfl, rfl, rfl, hsl, hb5⟩
 have O5' : Hid (w5.ownsRow w.heap.size 111 5 (.slice A5 L.length c5) L.length (rowsV L)) := Lib.hid (by
  rcases hsl with h1 | ⟨h1, h2, h4⟩
  · exact own_base h1 b4.out.size
  · have := own_ext O4.out hb5; rw [← HLN.out] at this; rw [h1, h2, h4]; exact this)
 have X5 := Lib.hid (X4.out.ext hb5)
 have R5 := Lib.hid (R4.out.ext hb5)
 have G5 := Lib.hid (G4.out.ext hb5)
 have O5 := Lib.hid (own_ext O4.out hb5)
 have b5 := Lib.hid (ext_trans b4.out hb5)
 have sX5 := X5.out.lt
 have sR5 := R5.out.lt
 have sG5 := G5.out.lt
 clear hb5 hsl
 clear x40 x41 x42 x43 x44 x45 x46 r40 r41 r42 r43 r44 r45 r46 fr40 fr41 fr42 fr43 fr44 fr45 fr46 g40 g41 g42 g43 g44 g45 g46 fg40 fg41 fg42 fg43 fg44 fg45 fg46
 obtain ⟨x50, x51, x52, x53, x54, x55, x56⟩ := X5.out.q7
 obtain ⟨r50, r51, r52, r53, r54, r55, r56⟩ := R5.out.q7
 obtain ⟨fr50, fr51, fr52, fr53, fr54, fr55, fr56⟩ := R5.out.z7
 obtain ⟨g50, g51, g52, g53, g54, g55, g56⟩ := G5.out.q7
 obtain ⟨fg50, fg51, fg52, fg53, fg54, fg55, fg56⟩ := G5.out.z7
 obtain ⟨w6, hw6⟩ : ∃ w6, w6 = w5.alloc (.cells #[.int .i64 D, .slice A5 L.length c5, .int .i64 P, .int .i64 Q, .string d, .string p, .int .i64 z] 34) := ⟨_, rfl⟩
 have e6 : Below w5.heap.size w5 w6 := by rw [hw6]; exact ext_alloc (ext_refl _) _
 have X6 := Lib.hid (X5.out.ext e6)
 have R6 := Lib.hid (R5.out.ext e6)
 have G6 := Lib.hid (G5.out.ext e6)
 have O6 := Lib.hid (own_ext O5.out e6)
 have b6 := Lib.hid (ext_trans b5.out e6)
 have sX6 := X6.out.lt
 have sR6 := R6.out.lt
 have sG6 := G6.out.lt
 have O6' := Lib.hid (own_ext O5'.out e6)
 clear e6
 go_wp2_with fail
 rw [← hw6]
 clear hw6
 clear x50 x51 x52 x53 x54 x55 x56 r50 r51 r52 r53 r54 r55 r56 fr50 fr51 fr52 fr53 fr54 fr55 fr56 g50 g51 g52 g53 g54 g55 g56 fg50 fg51 fg52 fg53 fg54 fg55 fg56
 with_reducible refine (l28Own_any D P Q d p z A5 L.length c5 L _ (by have := HQOK.out; omega) (slOk_own O6'.out) (Reads.of_own O6'.out)).mono ?_
 rintro e w7 ⟨A7, c7, rfl, ho7, hb7⟩
 have X7 := Lib.hid (X6.out.ext hb7)
 have R7 := Lib.hid (R6.out.ext hb7)
 have G7 := Lib.hid (G6.out.ext hb7)
 have O7 := Lib.hid (own_ext O6.out hb7)
 have b7 := Lib.hid (ext_trans b6.out hb7)
 have sX7 := X7.out.lt
 have sR7 := R7.out.lt
 have sG7 := G7.out.lt
 have O7' := Lib.hid (own_base (base' := w.heap.size) ho7 b6.out.size)
 clear hb7 ho7
 obtain ⟨x70, x71, x72, x73, x74, x75, x76⟩ := X7.out.q7
 obtain ⟨r70, r71, r72, r73, r74, r75, r76⟩ := R7.out.q7
 obtain ⟨fr70, fr71, fr72, fr73, fr74, fr75, fr76⟩ := R7.out.z7
 obtain ⟨g70, g71, g72, g73, g74, g75, g76⟩ := G7.out.q7
 obtain ⟨fg70, fg71, fg72, fg73, fg74, fg75, fg76⟩ := G7.out.z7
 obtain ⟨w8, hw8⟩ : ∃ w8, w8 = (((((((w7.setCell ⟨w1.heap.size, 0, none⟩ (.int .i64 D)).setCell ⟨w1.heap.size, 1, none⟩ (.slice A7 L.length c7)).setCell ⟨w1.heap.size, 2, none⟩ (.int .i64 P)).setCell ⟨w1.heap.size, 3, none⟩ (.int .i64 Q)).setCell ⟨w1.heap.size, 4, none⟩ (.string d)).setCell ⟨w1.heap.size, 5, none⟩ (.string p)).setCell ⟨w1.heap.size, 6, none⟩ (.int .i64 z)) := ⟨_, rfl⟩
 have hne7 := own_nb O7'.out G7.out (by decide)
 have X8 : Hid (Blk w8 w.heap.size 34 #[.int .i64 day, .slice A n c, .int .i64 pa, .int .i64 le, .string d, .string p, .int .i64 z]) := Lib.hid (by
  rw [hw8]
  iterate 7 with_reducible refine Blk.set_far ?_ (by show w1.heap.size ≠ w.heap.size; omega) _
  exact X7.out)
 have R8 : Hid (Blk w8 (w.heap.size + 1) 34 #[.int .i64 0, .slice none 0 0, .int .i64 0, .int .i64 0, .string ⟨#[]⟩, .string ⟨#[]⟩, .int .i64 0]) := Lib.hid (by
  rw [hw8]
  iterate 7 with_reducible refine Blk.set_far ?_ (by show w1.heap.size ≠ w.heap.size + 1; omega) _
  exact R7.out)
 have G8 : Hid (Blk w8 w1.heap.size 34 #[.int .i64 D, .slice A7 L.length c7, .int .i64 P, .int .i64 Q, .string d, .string p, .int .i64 z]) := Lib.hid (by
  rw [hw8]
  have := ((((((G7.out.set_ 0 (.int .i64 D)).set_ 1 (.slice A7 L.length c7)).set_ 2 (.int .i64 P)).set_ 3 (.int .i64 Q)).set_ 4 (.string d)).set_ 5 (.string p)).set_ 6 (.int .i64 z)
  simpa using this)
 have O8 : Hid (w8.ownsRow w.heap.size 111 5 (.slice A7 L.length c7) L.length (rowsV L)) := Lib.hid (by
  rw [hw8]
  iterate 7 with_reducible refine own_set_nb ?_ hne7 _
  exact O7'.out)
 have b8 : Hid (Below w.heap.size w w8) := Lib.hid (by
  rw [hw8]
  iterate 7 with_reducible refine ext_set ?_ (by show w.heap.size ≤ w1.heap.size; omega) _
  exact b7.out)
 have sX8 := X8.out.lt
 have sR8 := R8.out.lt
 have sG8 := G8.out.lt
 clear hne7
 by_cases hlong : (200 : Int) < (ra.size : Int)
 · have hT : ⟨#[108, 111, 110, 103]⟩ = tx := by have := HT.out; rw [← this]; unfold cutT; rw [if_pos (by omega)]
   subst hT
   go_wp2_with fail
   rw [← hw8]
   clear hw8
   clear x70 x71 x72 x73 x74 x75 x76 r70 r71 r72 r73 r74 r75 r76 fr70 fr71 fr72 fr73 fr74 fr75 fr76 g70 g71 g72 g73 g74 g75 g76 fg70 fg71 fg72 fg73 fg74 fg75 fg76
   obtain ⟨x80, x81, x82, x83, x84, x85, x86⟩ := X8.out.q7
   obtain ⟨r80, r81, r82, r83, r84, r85, r86⟩ := R8.out.q7
   obtain ⟨fr80, fr81, fr82, fr83, fr84, fr85, fr86⟩ := R8.out.z7
   obtain ⟨g80, g81, g82, g83, g84, g85, g86⟩ := G8.out.q7
   obtain ⟨fg80, fg81, fg82, fg83, fg84, fg85, fg86⟩ := G8.out.z7
   with_reducible refine (HAP.out _).mono ?_
   rintro e w9 ⟨rfl, hb9⟩
   have X9 := Lib.hid (X8.out.ext hb9)
   have R9 := Lib.hid (R8.out.ext hb9)
   have G9 := Lib.hid (G8.out.ext hb9)
   have O9 := Lib.hid (own_ext O8.out hb9)
   have b9 := Lib.hid (ext_trans b8.out hb9)
   have sX9 := X9.out.lt
   have sR9 := R9.out.lt
   have sG9 := G9.out.lt
   clear hb9
   clear x80 x81 x82 x83 x84 x85 x86 r80 r81 r82 r83 r84 r85 r86 fr80 fr81 fr82 fr83 fr84 fr85 fr86 g80 g81 g82 g83 g84 g85 g86 fg80 fg81 fg82 fg83 fg84 fg85 fg86
   obtain ⟨x90, x91, x92, x93, x94, x95, x96⟩ := X9.out.q7
   obtain ⟨r90, r91, r92, r93, r94, r95, r96⟩ := R9.out.q7
   obtain ⟨fr90, fr91, fr92, fr93, fr94, fr95, fr96⟩ := R9.out.z7
   obtain ⟨g90, g91, g92, g93, g94, g95, g96⟩ := G9.out.q7
   obtain ⟨fg90, fg91, fg92, fg93, fg94, fg95, fg96⟩ := G9.out.z7
   obtain ⟨wa, hwa⟩ : ∃ wa, wa = (((w9.setCell ⟨w1.heap.size, 4, none⟩ (.string d)).setCell ⟨w1.heap.size, 5, none⟩ (.string P2)).setCell ⟨w1.heap.size, 6, none⟩ (.int .i64 Z2)) := ⟨_, rfl⟩
   have hne9 := own_nb O9.out G9.out (by decide)
   have Ra : Hid (Blk wa (w.heap.size + 1) 34 #[.int .i64 0, .slice none 0 0, .int .i64 0, .int .i64 0, .string ⟨#[]⟩, .string ⟨#[]⟩, .int .i64 0]) := Lib.hid (by
    rw [hwa]
    iterate 3 with_reducible refine Blk.set_far ?_ (by show w1.heap.size ≠ w.heap.size + 1; omega) _
    exact R9.out)
   have Ga : Hid (Blk wa w1.heap.size 34 #[.int .i64 D, .slice A7 L.length c7, .int .i64 P, .int .i64 Q, .string d, .string P2, .int .i64 Z2]) := Lib.hid (by
    rw [hwa]
    have := ((G9.out.set_ 4 (.string d)).set_ 5 (.string P2)).set_ 6 (.int .i64 Z2)
    simpa using this)
   have Oa : Hid (wa.ownsRow w.heap.size 111 5 (.slice A7 L.length c7) L.length (rowsV L)) := Lib.hid (by
    rw [hwa]
    iterate 3 with_reducible refine own_set_nb ?_ hne9 _
    exact O9.out)
   have ba : Hid (Below w.heap.size w wa) := Lib.hid (by
    rw [hwa]
    iterate 3 with_reducible refine ext_set ?_ (by show w.heap.size ≤ w1.heap.size; omega) _
    exact b9.out)
   go_upto_region 13 with fail
   rw [← hwa]
   clear hwa hne9
   clear x90 x91 x92 x93 x94 x95 x96 r90 r91 r92 r93 r94 r95 r96 fr90 fr91 fr92 fr93 fr94 fr95 fr96 g90 g91 g92 g93 g94 g95 g96 fg90 fg91 fg92 fg93 fg94 fg95 fg96
   obtain ⟨ra0, ra1, ra2, ra3, ra4, ra5, ra6⟩ := Ra.out.q7
   obtain ⟨fra0, fra1, fra2, fra3, fra4, fra5, fra6⟩ := Ra.out.z7
   obtain ⟨ga0, ga1, ga2, ga3, ga4, ga5, ga6⟩ := Ga.out.q7
   have hnea := Lib.hid (own_nb Oa.out Ra.out (by decide))
   go_wp2
   refine bodyPost_ret (v := .tuple #[conV D A7 L.length c7 P Q d P2 Z2, .string (⟨#[108, 111, 110, 103]⟩)]) (by simp [results, Tryz.results18, go_sem, *]) rfl ?_
   refine ⟨A7, c7, rfl, ?_, ?_⟩
   · iterate 7 with_reducible refine own_set_nb ?_ hnea.out _
     exact Oa.out
   · iterate 7 with_reducible refine ext_set ?_ (by show w.heap.size ≤ w.heap.size + 1; omega) _
     exact ba.out
 · have hT : ra = tx := by have := HT.out; rw [← this]; unfold cutT; rw [if_neg (by omega)]
   subst hT
   go_wp2_with fail
   rw [← hw8]
   clear hw8
   clear x70 x71 x72 x73 x74 x75 x76 r70 r71 r72 r73 r74 r75 r76 fr70 fr71 fr72 fr73 fr74 fr75 fr76 g70 g71 g72 g73 g74 g75 g76 fg70 fg71 fg72 fg73 fg74 fg75 fg76
   obtain ⟨x80, x81, x82, x83, x84, x85, x86⟩ := X8.out.q7
   obtain ⟨r80, r81, r82, r83, r84, r85, r86⟩ := R8.out.q7
   obtain ⟨fr80, fr81, fr82, fr83, fr84, fr85, fr86⟩ := R8.out.z7
   obtain ⟨g80, g81, g82, g83, g84, g85, g86⟩ := G8.out.q7
   obtain ⟨fg80, fg81, fg82, fg83, fg84, fg85, fg86⟩ := G8.out.z7
   with_reducible refine (HAP.out _).mono ?_
   rintro e w9 ⟨rfl, hb9⟩
   have X9 := Lib.hid (X8.out.ext hb9)
   have R9 := Lib.hid (R8.out.ext hb9)
   have G9 := Lib.hid (G8.out.ext hb9)
   have O9 := Lib.hid (own_ext O8.out hb9)
   have b9 := Lib.hid (ext_trans b8.out hb9)
   have sX9 := X9.out.lt
   have sR9 := R9.out.lt
   have sG9 := G9.out.lt
   clear hb9
   clear x80 x81 x82 x83 x84 x85 x86 r80 r81 r82 r83 r84 r85 r86 fr80 fr81 fr82 fr83 fr84 fr85 fr86 g80 g81 g82 g83 g84 g85 g86 fg80 fg81 fg82 fg83 fg84 fg85 fg86
   obtain ⟨x90, x91, x92, x93, x94, x95, x96⟩ := X9.out.q7
   obtain ⟨r90, r91, r92, r93, r94, r95, r96⟩ := R9.out.q7
   obtain ⟨fr90, fr91, fr92, fr93, fr94, fr95, fr96⟩ := R9.out.z7
   obtain ⟨g90, g91, g92, g93, g94, g95, g96⟩ := G9.out.q7
   obtain ⟨fg90, fg91, fg92, fg93, fg94, fg95, fg96⟩ := G9.out.z7
   obtain ⟨wa, hwa⟩ : ∃ wa, wa = (((w9.setCell ⟨w1.heap.size, 4, none⟩ (.string d)).setCell ⟨w1.heap.size, 5, none⟩ (.string P2)).setCell ⟨w1.heap.size, 6, none⟩ (.int .i64 Z2)) := ⟨_, rfl⟩
   have hne9 := own_nb O9.out G9.out (by decide)
   have Ra : Hid (Blk wa (w.heap.size + 1) 34 #[.int .i64 0, .slice none 0 0, .int .i64 0, .int .i64 0, .string ⟨#[]⟩, .string ⟨#[]⟩, .int .i64 0]) := Lib.hid (by
    rw [hwa]
    iterate 3 with_reducible refine Blk.set_far ?_ (by show w1.heap.size ≠ w.heap.size + 1; omega) _
    exact R9.out)
   have Ga : Hid (Blk wa w1.heap.size 34 #[.int .i64 D, .slice A7 L.length c7, .int .i64 P, .int .i64 Q, .string d, .string P2, .int .i64 Z2]) := Lib.hid (by
    rw [hwa]
    have := ((G9.out.set_ 4 (.string d)).set_ 5 (.string P2)).set_ 6 (.int .i64 Z2)
    simpa using this)
   have Oa : Hid (wa.ownsRow w.heap.size 111 5 (.slice A7 L.length c7) L.length (rowsV L)) := Lib.hid (by
    rw [hwa]
    iterate 3 with_reducible refine own_set_nb ?_ hne9 _
    exact O9.out)
   have ba : Hid (Below w.heap.size w wa) := Lib.hid (by
    rw [hwa]
    iterate 3 with_reducible refine ext_set ?_ (by show w.heap.size ≤ w1.heap.size; omega) _
    exact b9.out)
   go_upto_region 13 with fail
   rw [← hwa]
   clear hwa hne9
   clear x90 x91 x92 x93 x94 x95 x96 r90 r91 r92 r93 r94 r95 r96 fr90 fr91 fr92 fr93 fr94 fr95 fr96 g90 g91 g92 g93 g94 g95 g96 fg90 fg91 fg92 fg93 fg94 fg95 fg96
   obtain ⟨ra0, ra1, ra2, ra3, ra4, ra5, ra6⟩ := Ra.out.q7
   obtain ⟨fra0, fra1, fra2, fra3, fra4, fra5, fra6⟩ := Ra.out.z7
   obtain ⟨ga0, ga1, ga2, ga3, ga4, ga5, ga6⟩ := Ga.out.q7
   have hnea := Lib.hid (own_nb Oa.out Ra.out (by decide))
   go_wp2
   refine bodyPost_ret (v := .tuple #[conV D A7 L.length c7 P Q d P2 Z2, .string (ra)]) (by simp [results, Tryz.results18, go_sem, *]) rfl ?_
   refine ⟨A7, c7, rfl, ?_, ?_⟩
   · iterate 7 with_reducible refine own_set_nb ?_ hnea.out _
     exact Oa.out
   · iterate 7 with_reducible refine ext_set ?_ (by show w.heap.size ≤ w.heap.size + 1; omega) _
     exact ba.out
end Go.Proofs.YtkcbgiegoadkbaaGreat
