/- ExecuteCommand: the reference, walked. -/
import Derived.Test.YtclihlihaigddaaVExP
namespace Go.Proofs.Ytclihlihaigddaa
open Go.RowKit
set_option linter.unusedVariables false
set_option linter.unusedSimpArgs false
theorem repO_ok {q : Sch4} (hq : schB q.1 q.2.1 q.2.2.1 q.2.2.2 = true) {line : ByteArray} {y : Sch4 × ByteArray} (h : repO q line = some y) : schB y.1.1 y.1.2.1 y.1.2.2.1 y.1.2.2.2 = true := by
  have hm : ∀ {α : Type} (o : Option α) (f : α → Sch4 × ByteArray), (∀ a, o = some a → schB (f a).1.1 (f a).1.2.1 (f a).1.2.2.1 (f a).1.2.2.2 = true) → o.map f = some y → schB y.1.1 y.1.2.1 y.1.2.2.1 y.1.2.2.2 = true := by
    intro α o f hf hy
    rcases o with _ | a
    · cases hy
    · injection hy with hy
      rw [← hy]
      exact hf a rfl
  unfold repO at h
  split at h
  · unfold rep0 at h
    repeat' split at h
    all_goals first | (injection h with h; rw [← h]; exact hq) | cases h
  · unfold rep1 at h
    split at h
    · exact hm _ _ (fun s hs => stpQ_ok hs) h
    split at h
    · exact hm _ _ (fun s hs => stpQ_ok hs) h
    split at h
    · exact hm _ _ (fun s _ => hq) h
    split at h
    · exact hm _ _ (fun s _ => hq) h
    · cases h
  · unfold rep2 at h
    split at h
    · split at h
      · cases h
      · rename_i s hs
        injection h with h
        rw [← h]
        exact stpQ_ok hs
    · cases h
  · cases h
theorem afQ_ok {q : Sch4} (hq : schB q.1 q.2.1 q.2.2.1 q.2.2.2 = true) (line : ByteArray) : schB (afQ q (repO q line)).1 (afQ q (repO q line)).2.1 (afQ q (repO q line)).2.2.1 (afQ q (repO q line)).2.2.2 = true := by
  rcases h : repO q line with _ | y
  · exact hq
  · exact repO_ok hq h
set_option maxRecDepth 100000 in
set_option maxHeartbeats 4000000 in
theorem specEx_no (day pa le : Int) (d p : ByteArray) (z : Int) (A : Option Addr) (n c : Nat) (l : List R5) (line : ByteArray) (w : World) (hn : n ≤ 1048576) (hd : d.size ≤ 2000000) (hp : p.size ≤ 2000000) (hline : line.size ≤ 16000000) (hA : SlOk A n c) (h : Reads w w.heap.size 5 A n (rowsV l)) (hcon : conB day l pa le d p z = false) :
    Calls Try.prog 30 #[conV day A n c pa le d p z, .string line] w (RetEx (day, l, pa, le) d p z ⟨#[110, 111]⟩ w) := by
  have HO := Lib.hid (fun (w : World) h => l28Own_any day pa le d p z A n c l w hn hA h)
  have HI := Lib.hid (fun (w : World) h => l28Good_any day pa le d p z A n c l w hn hd hp h)
  rw [hcon] at HI
  have H := Lib.hid h
  have HLN := Lib.hid (rows_len h)
  have HCON := Lib.hid hcon
  clear h hcon
  go_enter Try.func30, Try.ntmps30
  go_wp2_with fail
  refine (HO.out _ ((H.out.ext (ext_alloc (ext_alloc (ext_refl _) _) _) (Nat.le_refl _)).more (by simp; omega))).mono ?_
  rintro e w1 ⟨A1, c1, rfl, ho1, hb1⟩
  have X1 : Hid (Blk w1 w.heap.size 28 #[.int .i64 day, .slice A n c, .int .i64 pa, .int .i64 le, .string d, .string p, .int .i64 z]) := Lib.hid ((((Blk.new w _ _).ext (ext_alloc (ext_refl _) _))).ext hb1)
  have R1 : Hid (Blk w1 (w.heap.size + 1) 28 #[.int .i64 0, .slice none 0 0, .int .i64 0, .int .i64 0, .string ⟨#[]⟩, .string ⟨#[]⟩, .int .i64 0]) := Lib.hid (by
    have := (Blk.new (w.alloc (.cells #[.int .i64 day, .slice A n c, .int .i64 pa, .int .i64 le, .string d, .string p, .int .i64 z] 28)) #[.int .i64 0, .slice none 0 0, .int .i64 0, .int .i64 0, .string ⟨#[]⟩, .string ⟨#[]⟩, .int .i64 0] 28).ext hb1
    simpa using this)
  have b1 := Lib.hid (ext_trans (ext_alloc (ext_alloc (ext_refl w) _) _) hb1)
  have O1 := Lib.hid (own_base (base' := w.heap.size) ho1 (by simp; omega))
  have sX1 := X1.out.lt
  have sR1 := R1.out.lt
  clear hb1 ho1
  have x10 : w1.cell? ⟨w.heap.size, 0, none⟩ = some (.int .i64 day) := X1.out.cell 0
  have x11 : w1.cell? ⟨w.heap.size, 1, none⟩ = some (.slice A n c) := X1.out.cell 1
  have x12 : w1.cell? ⟨w.heap.size, 2, none⟩ = some (.int .i64 pa) := X1.out.cell 2
  have x13 : w1.cell? ⟨w.heap.size, 3, none⟩ = some (.int .i64 le) := X1.out.cell 3
  have x14 : w1.cell? ⟨w.heap.size, 4, none⟩ = some (.string d) := X1.out.cell 4
  have x15 : w1.cell? ⟨w.heap.size, 5, none⟩ = some (.string p) := X1.out.cell 5
  have x16 : w1.cell? ⟨w.heap.size, 6, none⟩ = some (.int .i64 z) := X1.out.cell 6
  have r10 : w1.cell? ⟨w.heap.size + 1, 0, none⟩ = some (.int .i64 0) := R1.out.cell 0
  have r11 : w1.cell? ⟨w.heap.size + 1, 1, none⟩ = some (.slice none 0 0) := R1.out.cell 1
  have r12 : w1.cell? ⟨w.heap.size + 1, 2, none⟩ = some (.int .i64 0) := R1.out.cell 2
  have r13 : w1.cell? ⟨w.heap.size + 1, 3, none⟩ = some (.int .i64 0) := R1.out.cell 3
  have r14 : w1.cell? ⟨w.heap.size + 1, 4, none⟩ = some (.string ⟨#[]⟩) := R1.out.cell 4
  have r15 : w1.cell? ⟨w.heap.size + 1, 5, none⟩ = some (.string ⟨#[]⟩) := R1.out.cell 5
  have r16 : w1.cell? ⟨w.heap.size + 1, 6, none⟩ = some (.int .i64 0) := R1.out.cell 6
  have fr10 := R1.out.frozen 0
  have fr11 := R1.out.frozen 1
  have fr12 := R1.out.frozen 2
  have fr13 := R1.out.frozen 3
  have fr14 := R1.out.frozen 4
  have fr15 := R1.out.frozen 5
  have fr16 := R1.out.frozen 6
  obtain ⟨w2, hw2⟩ : ∃ w2, w2 = w1.alloc (.cells #[.int .i64 day, .slice A1 n c1, .int .i64 pa, .int .i64 le, .string d, .string p, .int .i64 z] 28) := ⟨_, rfl⟩
  have e2 : Below w1.heap.size w1 w2 := by rw [hw2]; exact ext_alloc (ext_refl _) _
  have X2 := Lib.hid (X1.out.ext e2)
  have R2 := Lib.hid (R1.out.ext e2)
  have G2 : Hid (Blk w2 w1.heap.size 28 #[.int .i64 day, .slice A1 n c1, .int .i64 pa, .int .i64 le, .string d, .string p, .int .i64 z]) := Lib.hid (by rw [hw2]; exact Blk.new _ _ _)
  have O2 := Lib.hid (own_ext O1.out e2)
  have b2 := Lib.hid (ext_trans b1.out e2)
  clear e2
  go_wp2_with fail
  rw [← hw2]
  clear hw2 x10 x11 x12 x13 x14 x15 x16 r10 r11 r12 r13 r14 r15 r16 fr10 fr11 fr12 fr13 fr14 fr15 fr16
  with_reducible refine (HI.out _ ((H.out.ext b2.out (Nat.le_refl _)).more b2.out.size)).mono ?_
  rintro e w3 ⟨rfl, hb3⟩
  have X3 := Lib.hid (X2.out.ext hb3)
  have R3 := Lib.hid (R2.out.ext hb3)
  have G3 := Lib.hid (G2.out.ext hb3)
  have O3 := Lib.hid (own_ext O2.out hb3)
  have b3 := Lib.hid (ext_trans b2.out hb3)
  have sX3 := X3.out.lt
  have sR3 := R3.out.lt
  have sG3 := G3.out.lt
  clear hb3
  have x30 : w3.cell? ⟨w.heap.size, 0, none⟩ = some (.int .i64 day) := X3.out.cell 0
  have x31 : w3.cell? ⟨w.heap.size, 1, none⟩ = some (.slice A n c) := X3.out.cell 1
  have x32 : w3.cell? ⟨w.heap.size, 2, none⟩ = some (.int .i64 pa) := X3.out.cell 2
  have x33 : w3.cell? ⟨w.heap.size, 3, none⟩ = some (.int .i64 le) := X3.out.cell 3
  have x34 : w3.cell? ⟨w.heap.size, 4, none⟩ = some (.string d) := X3.out.cell 4
  have x35 : w3.cell? ⟨w.heap.size, 5, none⟩ = some (.string p) := X3.out.cell 5
  have x36 : w3.cell? ⟨w.heap.size, 6, none⟩ = some (.int .i64 z) := X3.out.cell 6
  have r30 : w3.cell? ⟨w.heap.size + 1, 0, none⟩ = some (.int .i64 0) := R3.out.cell 0
  have r31 : w3.cell? ⟨w.heap.size + 1, 1, none⟩ = some (.slice none 0 0) := R3.out.cell 1
  have r32 : w3.cell? ⟨w.heap.size + 1, 2, none⟩ = some (.int .i64 0) := R3.out.cell 2
  have r33 : w3.cell? ⟨w.heap.size + 1, 3, none⟩ = some (.int .i64 0) := R3.out.cell 3
  have r34 : w3.cell? ⟨w.heap.size + 1, 4, none⟩ = some (.string ⟨#[]⟩) := R3.out.cell 4
  have r35 : w3.cell? ⟨w.heap.size + 1, 5, none⟩ = some (.string ⟨#[]⟩) := R3.out.cell 5
  have r36 : w3.cell? ⟨w.heap.size + 1, 6, none⟩ = some (.int .i64 0) := R3.out.cell 6
  have fr30 := R3.out.frozen 0
  have fr31 := R3.out.frozen 1
  have fr32 := R3.out.frozen 2
  have fr33 := R3.out.frozen 3
  have fr34 := R3.out.frozen 4
  have fr35 := R3.out.frozen 5
  have fr36 := R3.out.frozen 6
  have g30 : w3.cell? ⟨w1.heap.size, 0, none⟩ = some (.int .i64 day) := G3.out.cell 0
  have g31 : w3.cell? ⟨w1.heap.size, 1, none⟩ = some (.slice A1 n c1) := G3.out.cell 1
  have g32 : w3.cell? ⟨w1.heap.size, 2, none⟩ = some (.int .i64 pa) := G3.out.cell 2
  have g33 : w3.cell? ⟨w1.heap.size, 3, none⟩ = some (.int .i64 le) := G3.out.cell 3
  have g34 : w3.cell? ⟨w1.heap.size, 4, none⟩ = some (.string d) := G3.out.cell 4
  have g35 : w3.cell? ⟨w1.heap.size, 5, none⟩ = some (.string p) := G3.out.cell 5
  have g36 : w3.cell? ⟨w1.heap.size, 6, none⟩ = some (.int .i64 z) := G3.out.cell 6
  have fg30 := G3.out.frozen 0
  have fg31 := G3.out.frozen 1
  have fg32 := G3.out.frozen 2
  have fg33 := G3.out.frozen 3
  have fg34 := G3.out.frozen 4
  have fg35 := G3.out.frozen 5
  have fg36 := G3.out.frozen 6
  go_wp2
  refine bodyPost_ret (v := .tuple #[conV day A1 n c1 pa le d p z, .string ⟨#[110, 111]⟩]) (by simp [results, Try.results30, go_sem, *]) rfl ?_
  have hne := own_nb O3.out R3.out (by decide)
  have hl := HLN.out
  subst hl
  refine ⟨A1, c1, rfl, ?_, ?_⟩
  · iterate 7 with_reducible refine own_set_nb ?_ hne _
    exact O3.out
  · iterate 7 with_reducible refine ext_set ?_ (by show w.heap.size ≤ w.heap.size + 1; omega) _
    exact b3.out
set_option maxRecDepth 100000 in
set_option maxHeartbeats 4000000 in
theorem specEx_bad (day pa le : Int) (d p : ByteArray) (z : Int) (A : Option Addr) (n c : Nat) (l : List R5) (line : ByteArray) (w : World) (hn : n ≤ 1048576) (hd : d.size ≤ 2000000) (hp : p.size ≤ 2000000) (hline : line.size ≤ 16000000) (hA : SlOk A n c) (h : Reads w w.heap.size 5 A n (rowsV l)) (hcon : conB day l pa le d p z = true) (hrec : recB line ⟨#[]⟩ = false) :
    Calls Try.prog 30 #[conV day A n c pa le d p z, .string line] w (RetEx (day, l, pa, le) d p z ⟨#[98, 97, 100]⟩ w) := by
  have HR := Lib.hid (fun (w : World) => l27Good_any line ⟨#[]⟩ w (by omega) (by simp [lit_size]))
  rw [hrec] at HR
  clear hrec
  have HO := Lib.hid (fun (w : World) h => l28Own_any day pa le d p z A n c l w hn hA h)
  have HI := Lib.hid (fun (w : World) h => l28Good_any day pa le d p z A n c l w hn hd hp h)
  rw [hcon] at HI
  have H := Lib.hid h
  have HLN := Lib.hid (rows_len h)
  have HCON := Lib.hid hcon
  clear h hcon
  go_enter Try.func30, Try.ntmps30
  go_wp2_with fail
  refine (HO.out _ ((H.out.ext (ext_alloc (ext_alloc (ext_refl _) _) _) (Nat.le_refl _)).more (by simp; omega))).mono ?_
  rintro e w1 ⟨A1, c1, rfl, ho1, hb1⟩
  have X1 : Hid (Blk w1 w.heap.size 28 #[.int .i64 day, .slice A n c, .int .i64 pa, .int .i64 le, .string d, .string p, .int .i64 z]) := Lib.hid ((((Blk.new w _ _).ext (ext_alloc (ext_refl _) _))).ext hb1)
  have R1 : Hid (Blk w1 (w.heap.size + 1) 28 #[.int .i64 0, .slice none 0 0, .int .i64 0, .int .i64 0, .string ⟨#[]⟩, .string ⟨#[]⟩, .int .i64 0]) := Lib.hid (by
    have := (Blk.new (w.alloc (.cells #[.int .i64 day, .slice A n c, .int .i64 pa, .int .i64 le, .string d, .string p, .int .i64 z] 28)) #[.int .i64 0, .slice none 0 0, .int .i64 0, .int .i64 0, .string ⟨#[]⟩, .string ⟨#[]⟩, .int .i64 0] 28).ext hb1
    simpa using this)
  have b1 := Lib.hid (ext_trans (ext_alloc (ext_alloc (ext_refl w) _) _) hb1)
  have O1 := Lib.hid (own_base (base' := w.heap.size) ho1 (by simp; omega))
  have sX1 := X1.out.lt
  have sR1 := R1.out.lt
  clear hb1 ho1
  have x10 : w1.cell? ⟨w.heap.size, 0, none⟩ = some (.int .i64 day) := X1.out.cell 0
  have x11 : w1.cell? ⟨w.heap.size, 1, none⟩ = some (.slice A n c) := X1.out.cell 1
  have x12 : w1.cell? ⟨w.heap.size, 2, none⟩ = some (.int .i64 pa) := X1.out.cell 2
  have x13 : w1.cell? ⟨w.heap.size, 3, none⟩ = some (.int .i64 le) := X1.out.cell 3
  have x14 : w1.cell? ⟨w.heap.size, 4, none⟩ = some (.string d) := X1.out.cell 4
  have x15 : w1.cell? ⟨w.heap.size, 5, none⟩ = some (.string p) := X1.out.cell 5
  have x16 : w1.cell? ⟨w.heap.size, 6, none⟩ = some (.int .i64 z) := X1.out.cell 6
  have r10 : w1.cell? ⟨w.heap.size + 1, 0, none⟩ = some (.int .i64 0) := R1.out.cell 0
  have r11 : w1.cell? ⟨w.heap.size + 1, 1, none⟩ = some (.slice none 0 0) := R1.out.cell 1
  have r12 : w1.cell? ⟨w.heap.size + 1, 2, none⟩ = some (.int .i64 0) := R1.out.cell 2
  have r13 : w1.cell? ⟨w.heap.size + 1, 3, none⟩ = some (.int .i64 0) := R1.out.cell 3
  have r14 : w1.cell? ⟨w.heap.size + 1, 4, none⟩ = some (.string ⟨#[]⟩) := R1.out.cell 4
  have r15 : w1.cell? ⟨w.heap.size + 1, 5, none⟩ = some (.string ⟨#[]⟩) := R1.out.cell 5
  have r16 : w1.cell? ⟨w.heap.size + 1, 6, none⟩ = some (.int .i64 0) := R1.out.cell 6
  have fr10 := R1.out.frozen 0
  have fr11 := R1.out.frozen 1
  have fr12 := R1.out.frozen 2
  have fr13 := R1.out.frozen 3
  have fr14 := R1.out.frozen 4
  have fr15 := R1.out.frozen 5
  have fr16 := R1.out.frozen 6
  obtain ⟨w2, hw2⟩ : ∃ w2, w2 = w1.alloc (.cells #[.int .i64 day, .slice A1 n c1, .int .i64 pa, .int .i64 le, .string d, .string p, .int .i64 z] 28) := ⟨_, rfl⟩
  have e2 : Below w1.heap.size w1 w2 := by rw [hw2]; exact ext_alloc (ext_refl _) _
  have X2 := Lib.hid (X1.out.ext e2)
  have R2 := Lib.hid (R1.out.ext e2)
  have G2 : Hid (Blk w2 w1.heap.size 28 #[.int .i64 day, .slice A1 n c1, .int .i64 pa, .int .i64 le, .string d, .string p, .int .i64 z]) := Lib.hid (by rw [hw2]; exact Blk.new _ _ _)
  have O2 := Lib.hid (own_ext O1.out e2)
  have b2 := Lib.hid (ext_trans b1.out e2)
  clear e2
  go_wp2_with fail
  rw [← hw2]
  clear hw2 x10 x11 x12 x13 x14 x15 x16 r10 r11 r12 r13 r14 r15 r16 fr10 fr11 fr12 fr13 fr14 fr15 fr16
  with_reducible refine (HI.out _ ((H.out.ext b2.out (Nat.le_refl _)).more b2.out.size)).mono ?_
  rintro e w3 ⟨rfl, hb3⟩
  have X3 := Lib.hid (X2.out.ext hb3)
  have R3 := Lib.hid (R2.out.ext hb3)
  have G3 := Lib.hid (G2.out.ext hb3)
  have O3 := Lib.hid (own_ext O2.out hb3)
  have b3 := Lib.hid (ext_trans b2.out hb3)
  have sX3 := X3.out.lt
  have sR3 := R3.out.lt
  have sG3 := G3.out.lt
  clear hb3
  have x30 : w3.cell? ⟨w.heap.size, 0, none⟩ = some (.int .i64 day) := X3.out.cell 0
  have x31 : w3.cell? ⟨w.heap.size, 1, none⟩ = some (.slice A n c) := X3.out.cell 1
  have x32 : w3.cell? ⟨w.heap.size, 2, none⟩ = some (.int .i64 pa) := X3.out.cell 2
  have x33 : w3.cell? ⟨w.heap.size, 3, none⟩ = some (.int .i64 le) := X3.out.cell 3
  have x34 : w3.cell? ⟨w.heap.size, 4, none⟩ = some (.string d) := X3.out.cell 4
  have x35 : w3.cell? ⟨w.heap.size, 5, none⟩ = some (.string p) := X3.out.cell 5
  have x36 : w3.cell? ⟨w.heap.size, 6, none⟩ = some (.int .i64 z) := X3.out.cell 6
  have r30 : w3.cell? ⟨w.heap.size + 1, 0, none⟩ = some (.int .i64 0) := R3.out.cell 0
  have r31 : w3.cell? ⟨w.heap.size + 1, 1, none⟩ = some (.slice none 0 0) := R3.out.cell 1
  have r32 : w3.cell? ⟨w.heap.size + 1, 2, none⟩ = some (.int .i64 0) := R3.out.cell 2
  have r33 : w3.cell? ⟨w.heap.size + 1, 3, none⟩ = some (.int .i64 0) := R3.out.cell 3
  have r34 : w3.cell? ⟨w.heap.size + 1, 4, none⟩ = some (.string ⟨#[]⟩) := R3.out.cell 4
  have r35 : w3.cell? ⟨w.heap.size + 1, 5, none⟩ = some (.string ⟨#[]⟩) := R3.out.cell 5
  have r36 : w3.cell? ⟨w.heap.size + 1, 6, none⟩ = some (.int .i64 0) := R3.out.cell 6
  have fr30 := R3.out.frozen 0
  have fr31 := R3.out.frozen 1
  have fr32 := R3.out.frozen 2
  have fr33 := R3.out.frozen 3
  have fr34 := R3.out.frozen 4
  have fr35 := R3.out.frozen 5
  have fr36 := R3.out.frozen 6
  have g30 : w3.cell? ⟨w1.heap.size, 0, none⟩ = some (.int .i64 day) := G3.out.cell 0
  have g31 : w3.cell? ⟨w1.heap.size, 1, none⟩ = some (.slice A1 n c1) := G3.out.cell 1
  have g32 : w3.cell? ⟨w1.heap.size, 2, none⟩ = some (.int .i64 pa) := G3.out.cell 2
  have g33 : w3.cell? ⟨w1.heap.size, 3, none⟩ = some (.int .i64 le) := G3.out.cell 3
  have g34 : w3.cell? ⟨w1.heap.size, 4, none⟩ = some (.string d) := G3.out.cell 4
  have g35 : w3.cell? ⟨w1.heap.size, 5, none⟩ = some (.string p) := G3.out.cell 5
  have g36 : w3.cell? ⟨w1.heap.size, 6, none⟩ = some (.int .i64 z) := G3.out.cell 6
  have fg30 := G3.out.frozen 0
  have fg31 := G3.out.frozen 1
  have fg32 := G3.out.frozen 2
  have fg33 := G3.out.frozen 3
  have fg34 := G3.out.frozen 4
  have fg35 := G3.out.frozen 5
  have fg36 := G3.out.frozen 6
  go_wp2_with fail
  with_reducible refine (HR.out _).mono ?_
  rintro e w4 ⟨rfl, hb4⟩
  have X4 := Lib.hid (X3.out.ext hb4)
  have R4 := Lib.hid (R3.out.ext hb4)
  have G4 := Lib.hid (G3.out.ext hb4)
  have O4 := Lib.hid (own_ext O3.out hb4)
  have b4 := Lib.hid (ext_trans b3.out hb4)
  have sX4 := X4.out.lt
  have sR4 := R4.out.lt
  have sG4 := G4.out.lt
  clear hb4
  clear x30 x31 x32 x33 x34 x35 x36 r30 r31 r32 r33 r34 r35 r36 fr30 fr31 fr32 fr33 fr34 fr35 fr36 g30 g31 g32 g33 g34 g35 g36 fg30 fg31 fg32 fg33 fg34 fg35 fg36
  have x40 : w4.cell? ⟨w.heap.size, 0, none⟩ = some (.int .i64 day) := X4.out.cell 0
  have x41 : w4.cell? ⟨w.heap.size, 1, none⟩ = some (.slice A n c) := X4.out.cell 1
  have x42 : w4.cell? ⟨w.heap.size, 2, none⟩ = some (.int .i64 pa) := X4.out.cell 2
  have x43 : w4.cell? ⟨w.heap.size, 3, none⟩ = some (.int .i64 le) := X4.out.cell 3
  have x44 : w4.cell? ⟨w.heap.size, 4, none⟩ = some (.string d) := X4.out.cell 4
  have x45 : w4.cell? ⟨w.heap.size, 5, none⟩ = some (.string p) := X4.out.cell 5
  have x46 : w4.cell? ⟨w.heap.size, 6, none⟩ = some (.int .i64 z) := X4.out.cell 6
  have r40 : w4.cell? ⟨w.heap.size + 1, 0, none⟩ = some (.int .i64 0) := R4.out.cell 0
  have r41 : w4.cell? ⟨w.heap.size + 1, 1, none⟩ = some (.slice none 0 0) := R4.out.cell 1
  have r42 : w4.cell? ⟨w.heap.size + 1, 2, none⟩ = some (.int .i64 0) := R4.out.cell 2
  have r43 : w4.cell? ⟨w.heap.size + 1, 3, none⟩ = some (.int .i64 0) := R4.out.cell 3
  have r44 : w4.cell? ⟨w.heap.size + 1, 4, none⟩ = some (.string ⟨#[]⟩) := R4.out.cell 4
  have r45 : w4.cell? ⟨w.heap.size + 1, 5, none⟩ = some (.string ⟨#[]⟩) := R4.out.cell 5
  have r46 : w4.cell? ⟨w.heap.size + 1, 6, none⟩ = some (.int .i64 0) := R4.out.cell 6
  have fr40 := R4.out.frozen 0
  have fr41 := R4.out.frozen 1
  have fr42 := R4.out.frozen 2
  have fr43 := R4.out.frozen 3
  have fr44 := R4.out.frozen 4
  have fr45 := R4.out.frozen 5
  have fr46 := R4.out.frozen 6
  have g40 : w4.cell? ⟨w1.heap.size, 0, none⟩ = some (.int .i64 day) := G4.out.cell 0
  have g41 : w4.cell? ⟨w1.heap.size, 1, none⟩ = some (.slice A1 n c1) := G4.out.cell 1
  have g42 : w4.cell? ⟨w1.heap.size, 2, none⟩ = some (.int .i64 pa) := G4.out.cell 2
  have g43 : w4.cell? ⟨w1.heap.size, 3, none⟩ = some (.int .i64 le) := G4.out.cell 3
  have g44 : w4.cell? ⟨w1.heap.size, 4, none⟩ = some (.string d) := G4.out.cell 4
  have g45 : w4.cell? ⟨w1.heap.size, 5, none⟩ = some (.string p) := G4.out.cell 5
  have g46 : w4.cell? ⟨w1.heap.size, 6, none⟩ = some (.int .i64 z) := G4.out.cell 6
  have fg40 := G4.out.frozen 0
  have fg41 := G4.out.frozen 1
  have fg42 := G4.out.frozen 2
  have fg43 := G4.out.frozen 3
  have fg44 := G4.out.frozen 4
  have fg45 := G4.out.frozen 5
  have fg46 := G4.out.frozen 6
  go_wp2
  refine bodyPost_ret (v := .tuple #[conV day A1 n c1 pa le d p z, .string ⟨#[98, 97, 100]⟩]) (by simp [results, Try.results30, go_sem, *]) rfl ?_
  have hne := own_nb O4.out R4.out (by decide)
  have hl := HLN.out
  subst hl
  refine ⟨A1, c1, rfl, ?_, ?_⟩
  · iterate 7 with_reducible refine own_set_nb ?_ hne _
    exact O4.out
  · iterate 7 with_reducible refine ext_set ?_ (by show w.heap.size ≤ w.heap.size + 1; omega) _
    exact b4.out
set_option maxRecDepth 100000 in
set_option maxHeartbeats 4000000 in
theorem specEx_full (day pa le : Int) (d p : ByteArray) (z : Int) (A : Option Addr) (n c : Nat) (l : List R5) (line : ByteArray) (w : World) (hn : n ≤ 1048576) (hd : d.size ≤ 2000000) (hp : p.size ≤ 2000000) (hline : line.size ≤ 16000000) (hA : SlOk A n c) (h : Reads w w.heap.size 5 A n (rowsV l)) (hcon : conB day l pa le d p z = true) (hrec : recB line ⟨#[]⟩ = true) (hz : 60 ≤ z) :
    Calls Try.prog 30 #[conV day A n c pa le d p z, .string line] w (RetEx (day, l, pa, le) d p z ⟨#[102, 117, 108, 108]⟩ w) := by
  have hz60 : (z == 60) = true := by
    simp only [conB, Bool.and_eq_true] at hcon
    have := logB_sixty hcon.2
    rw [beq_iff_eq]; omega
  have HR := Lib.hid (fun (w : World) => l27Good_any line ⟨#[]⟩ w (by omega) (by simp [lit_size]))
  rw [hrec] at HR
  clear hrec
  have HO := Lib.hid (fun (w : World) h => l28Own_any day pa le d p z A n c l w hn hA h)
  have HI := Lib.hid (fun (w : World) h => l28Good_any day pa le d p z A n c l w hn hd hp h)
  rw [hcon] at HI
  have H := Lib.hid h
  have HLN := Lib.hid (rows_len h)
  have HCON := Lib.hid hcon
  clear h hcon
  go_enter Try.func30, Try.ntmps30
  go_wp2_with fail
  refine (HO.out _ ((H.out.ext (ext_alloc (ext_alloc (ext_refl _) _) _) (Nat.le_refl _)).more (by simp; omega))).mono ?_
  rintro e w1 ⟨A1, c1, rfl, ho1, hb1⟩
  have X1 : Hid (Blk w1 w.heap.size 28 #[.int .i64 day, .slice A n c, .int .i64 pa, .int .i64 le, .string d, .string p, .int .i64 z]) := Lib.hid ((((Blk.new w _ _).ext (ext_alloc (ext_refl _) _))).ext hb1)
  have R1 : Hid (Blk w1 (w.heap.size + 1) 28 #[.int .i64 0, .slice none 0 0, .int .i64 0, .int .i64 0, .string ⟨#[]⟩, .string ⟨#[]⟩, .int .i64 0]) := Lib.hid (by
    have := (Blk.new (w.alloc (.cells #[.int .i64 day, .slice A n c, .int .i64 pa, .int .i64 le, .string d, .string p, .int .i64 z] 28)) #[.int .i64 0, .slice none 0 0, .int .i64 0, .int .i64 0, .string ⟨#[]⟩, .string ⟨#[]⟩, .int .i64 0] 28).ext hb1
    simpa using this)
  have b1 := Lib.hid (ext_trans (ext_alloc (ext_alloc (ext_refl w) _) _) hb1)
  have O1 := Lib.hid (own_base (base' := w.heap.size) ho1 (by simp; omega))
  have sX1 := X1.out.lt
  have sR1 := R1.out.lt
  clear hb1 ho1
  have x10 : w1.cell? ⟨w.heap.size, 0, none⟩ = some (.int .i64 day) := X1.out.cell 0
  have x11 : w1.cell? ⟨w.heap.size, 1, none⟩ = some (.slice A n c) := X1.out.cell 1
  have x12 : w1.cell? ⟨w.heap.size, 2, none⟩ = some (.int .i64 pa) := X1.out.cell 2
  have x13 : w1.cell? ⟨w.heap.size, 3, none⟩ = some (.int .i64 le) := X1.out.cell 3
  have x14 : w1.cell? ⟨w.heap.size, 4, none⟩ = some (.string d) := X1.out.cell 4
  have x15 : w1.cell? ⟨w.heap.size, 5, none⟩ = some (.string p) := X1.out.cell 5
  have x16 : w1.cell? ⟨w.heap.size, 6, none⟩ = some (.int .i64 z) := X1.out.cell 6
  have r10 : w1.cell? ⟨w.heap.size + 1, 0, none⟩ = some (.int .i64 0) := R1.out.cell 0
  have r11 : w1.cell? ⟨w.heap.size + 1, 1, none⟩ = some (.slice none 0 0) := R1.out.cell 1
  have r12 : w1.cell? ⟨w.heap.size + 1, 2, none⟩ = some (.int .i64 0) := R1.out.cell 2
  have r13 : w1.cell? ⟨w.heap.size + 1, 3, none⟩ = some (.int .i64 0) := R1.out.cell 3
  have r14 : w1.cell? ⟨w.heap.size + 1, 4, none⟩ = some (.string ⟨#[]⟩) := R1.out.cell 4
  have r15 : w1.cell? ⟨w.heap.size + 1, 5, none⟩ = some (.string ⟨#[]⟩) := R1.out.cell 5
  have r16 : w1.cell? ⟨w.heap.size + 1, 6, none⟩ = some (.int .i64 0) := R1.out.cell 6
  have fr10 := R1.out.frozen 0
  have fr11 := R1.out.frozen 1
  have fr12 := R1.out.frozen 2
  have fr13 := R1.out.frozen 3
  have fr14 := R1.out.frozen 4
  have fr15 := R1.out.frozen 5
  have fr16 := R1.out.frozen 6
  obtain ⟨w2, hw2⟩ : ∃ w2, w2 = w1.alloc (.cells #[.int .i64 day, .slice A1 n c1, .int .i64 pa, .int .i64 le, .string d, .string p, .int .i64 z] 28) := ⟨_, rfl⟩
  have e2 : Below w1.heap.size w1 w2 := by rw [hw2]; exact ext_alloc (ext_refl _) _
  have X2 := Lib.hid (X1.out.ext e2)
  have R2 := Lib.hid (R1.out.ext e2)
  have G2 : Hid (Blk w2 w1.heap.size 28 #[.int .i64 day, .slice A1 n c1, .int .i64 pa, .int .i64 le, .string d, .string p, .int .i64 z]) := Lib.hid (by rw [hw2]; exact Blk.new _ _ _)
  have O2 := Lib.hid (own_ext O1.out e2)
  have b2 := Lib.hid (ext_trans b1.out e2)
  clear e2
  go_wp2_with fail
  rw [← hw2]
  clear hw2 x10 x11 x12 x13 x14 x15 x16 r10 r11 r12 r13 r14 r15 r16 fr10 fr11 fr12 fr13 fr14 fr15 fr16
  with_reducible refine (HI.out _ ((H.out.ext b2.out (Nat.le_refl _)).more b2.out.size)).mono ?_
  rintro e w3 ⟨rfl, hb3⟩
  have X3 := Lib.hid (X2.out.ext hb3)
  have R3 := Lib.hid (R2.out.ext hb3)
  have G3 := Lib.hid (G2.out.ext hb3)
  have O3 := Lib.hid (own_ext O2.out hb3)
  have b3 := Lib.hid (ext_trans b2.out hb3)
  have sX3 := X3.out.lt
  have sR3 := R3.out.lt
  have sG3 := G3.out.lt
  clear hb3
  have x30 : w3.cell? ⟨w.heap.size, 0, none⟩ = some (.int .i64 day) := X3.out.cell 0
  have x31 : w3.cell? ⟨w.heap.size, 1, none⟩ = some (.slice A n c) := X3.out.cell 1
  have x32 : w3.cell? ⟨w.heap.size, 2, none⟩ = some (.int .i64 pa) := X3.out.cell 2
  have x33 : w3.cell? ⟨w.heap.size, 3, none⟩ = some (.int .i64 le) := X3.out.cell 3
  have x34 : w3.cell? ⟨w.heap.size, 4, none⟩ = some (.string d) := X3.out.cell 4
  have x35 : w3.cell? ⟨w.heap.size, 5, none⟩ = some (.string p) := X3.out.cell 5
  have x36 : w3.cell? ⟨w.heap.size, 6, none⟩ = some (.int .i64 z) := X3.out.cell 6
  have r30 : w3.cell? ⟨w.heap.size + 1, 0, none⟩ = some (.int .i64 0) := R3.out.cell 0
  have r31 : w3.cell? ⟨w.heap.size + 1, 1, none⟩ = some (.slice none 0 0) := R3.out.cell 1
  have r32 : w3.cell? ⟨w.heap.size + 1, 2, none⟩ = some (.int .i64 0) := R3.out.cell 2
  have r33 : w3.cell? ⟨w.heap.size + 1, 3, none⟩ = some (.int .i64 0) := R3.out.cell 3
  have r34 : w3.cell? ⟨w.heap.size + 1, 4, none⟩ = some (.string ⟨#[]⟩) := R3.out.cell 4
  have r35 : w3.cell? ⟨w.heap.size + 1, 5, none⟩ = some (.string ⟨#[]⟩) := R3.out.cell 5
  have r36 : w3.cell? ⟨w.heap.size + 1, 6, none⟩ = some (.int .i64 0) := R3.out.cell 6
  have fr30 := R3.out.frozen 0
  have fr31 := R3.out.frozen 1
  have fr32 := R3.out.frozen 2
  have fr33 := R3.out.frozen 3
  have fr34 := R3.out.frozen 4
  have fr35 := R3.out.frozen 5
  have fr36 := R3.out.frozen 6
  have g30 : w3.cell? ⟨w1.heap.size, 0, none⟩ = some (.int .i64 day) := G3.out.cell 0
  have g31 : w3.cell? ⟨w1.heap.size, 1, none⟩ = some (.slice A1 n c1) := G3.out.cell 1
  have g32 : w3.cell? ⟨w1.heap.size, 2, none⟩ = some (.int .i64 pa) := G3.out.cell 2
  have g33 : w3.cell? ⟨w1.heap.size, 3, none⟩ = some (.int .i64 le) := G3.out.cell 3
  have g34 : w3.cell? ⟨w1.heap.size, 4, none⟩ = some (.string d) := G3.out.cell 4
  have g35 : w3.cell? ⟨w1.heap.size, 5, none⟩ = some (.string p) := G3.out.cell 5
  have g36 : w3.cell? ⟨w1.heap.size, 6, none⟩ = some (.int .i64 z) := G3.out.cell 6
  have fg30 := G3.out.frozen 0
  have fg31 := G3.out.frozen 1
  have fg32 := G3.out.frozen 2
  have fg33 := G3.out.frozen 3
  have fg34 := G3.out.frozen 4
  have fg35 := G3.out.frozen 5
  have fg36 := G3.out.frozen 6
  go_wp2_with fail
  with_reducible refine (HR.out _).mono ?_
  rintro e w4 ⟨rfl, hb4⟩
  have X4 := Lib.hid (X3.out.ext hb4)
  have R4 := Lib.hid (R3.out.ext hb4)
  have G4 := Lib.hid (G3.out.ext hb4)
  have O4 := Lib.hid (own_ext O3.out hb4)
  have b4 := Lib.hid (ext_trans b3.out hb4)
  have sX4 := X4.out.lt
  have sR4 := R4.out.lt
  have sG4 := G4.out.lt
  clear hb4
  clear x30 x31 x32 x33 x34 x35 x36 r30 r31 r32 r33 r34 r35 r36 fr30 fr31 fr32 fr33 fr34 fr35 fr36 g30 g31 g32 g33 g34 g35 g36 fg30 fg31 fg32 fg33 fg34 fg35 fg36
  have x40 : w4.cell? ⟨w.heap.size, 0, none⟩ = some (.int .i64 day) := X4.out.cell 0
  have x41 : w4.cell? ⟨w.heap.size, 1, none⟩ = some (.slice A n c) := X4.out.cell 1
  have x42 : w4.cell? ⟨w.heap.size, 2, none⟩ = some (.int .i64 pa) := X4.out.cell 2
  have x43 : w4.cell? ⟨w.heap.size, 3, none⟩ = some (.int .i64 le) := X4.out.cell 3
  have x44 : w4.cell? ⟨w.heap.size, 4, none⟩ = some (.string d) := X4.out.cell 4
  have x45 : w4.cell? ⟨w.heap.size, 5, none⟩ = some (.string p) := X4.out.cell 5
  have x46 : w4.cell? ⟨w.heap.size, 6, none⟩ = some (.int .i64 z) := X4.out.cell 6
  have r40 : w4.cell? ⟨w.heap.size + 1, 0, none⟩ = some (.int .i64 0) := R4.out.cell 0
  have r41 : w4.cell? ⟨w.heap.size + 1, 1, none⟩ = some (.slice none 0 0) := R4.out.cell 1
  have r42 : w4.cell? ⟨w.heap.size + 1, 2, none⟩ = some (.int .i64 0) := R4.out.cell 2
  have r43 : w4.cell? ⟨w.heap.size + 1, 3, none⟩ = some (.int .i64 0) := R4.out.cell 3
  have r44 : w4.cell? ⟨w.heap.size + 1, 4, none⟩ = some (.string ⟨#[]⟩) := R4.out.cell 4
  have r45 : w4.cell? ⟨w.heap.size + 1, 5, none⟩ = some (.string ⟨#[]⟩) := R4.out.cell 5
  have r46 : w4.cell? ⟨w.heap.size + 1, 6, none⟩ = some (.int .i64 0) := R4.out.cell 6
  have fr40 := R4.out.frozen 0
  have fr41 := R4.out.frozen 1
  have fr42 := R4.out.frozen 2
  have fr43 := R4.out.frozen 3
  have fr44 := R4.out.frozen 4
  have fr45 := R4.out.frozen 5
  have fr46 := R4.out.frozen 6
  have g40 : w4.cell? ⟨w1.heap.size, 0, none⟩ = some (.int .i64 day) := G4.out.cell 0
  have g41 : w4.cell? ⟨w1.heap.size, 1, none⟩ = some (.slice A1 n c1) := G4.out.cell 1
  have g42 : w4.cell? ⟨w1.heap.size, 2, none⟩ = some (.int .i64 pa) := G4.out.cell 2
  have g43 : w4.cell? ⟨w1.heap.size, 3, none⟩ = some (.int .i64 le) := G4.out.cell 3
  have g44 : w4.cell? ⟨w1.heap.size, 4, none⟩ = some (.string d) := G4.out.cell 4
  have g45 : w4.cell? ⟨w1.heap.size, 5, none⟩ = some (.string p) := G4.out.cell 5
  have g46 : w4.cell? ⟨w1.heap.size, 6, none⟩ = some (.int .i64 z) := G4.out.cell 6
  have fg40 := G4.out.frozen 0
  have fg41 := G4.out.frozen 1
  have fg42 := G4.out.frozen 2
  have fg43 := G4.out.frozen 3
  have fg44 := G4.out.frozen 4
  have fg45 := G4.out.frozen 5
  have fg46 := G4.out.frozen 6
  go_wp2
  refine bodyPost_ret (v := .tuple #[conV day A1 n c1 pa le d p z, .string ⟨#[102, 117, 108, 108]⟩]) (by simp [results, Try.results30, go_sem, *]) rfl ?_
  have hne := own_nb O4.out R4.out (by decide)
  have hl := HLN.out
  subst hl
  refine ⟨A1, c1, rfl, ?_, ?_⟩
  · iterate 7 with_reducible refine own_set_nb ?_ hne _
    exact O4.out
  · iterate 7 with_reducible refine ext_set ?_ (by show w.heap.size ≤ w.heap.size + 1; omega) _
    exact b4.out
set_option maxRecDepth 100000 in
set_option maxHeartbeats 4000000 in
theorem specEx_go (day pa le : Int) (d p : ByteArray) (z : Int) (A : Option Addr) (n c : Nat) (l : List R5) (line : ByteArray) (w : World) (hn : n ≤ 1048576) (hd : d.size ≤ 2000000) (hp : p.size ≤ 2000000) (hline : line.size ≤ 16000000) (hA : SlOk A n c) (h : Reads w w.heap.size 5 A n (rowsV l)) (hcon : conB day l pa le d p z = true) (hrec : recB line ⟨#[]⟩ = true) (hz : z < 60) :
    Calls Try.prog 30 #[conV day A n c pa le d p z, .string line] w (RetEx (afQ (day, l, pa, le) (repO (day, l, pa, le) line)) d (appP d p z line (cutT (afT (repO (day, l, pa, le) line)))) (appZ d p z line (cutT (afT (repO (day, l, pa, le) line)))) (cutT (afT (repO (day, l, pa, le) line))) w) := by
  have HR := Lib.hid (fun (w : World) => l27Good_any line ⟨#[]⟩ w (by omega) (by simp [lit_size]))
  rw [hrec] at HR
  have hrs := rec_parts hrec
  have hz60 : (z == 60) = false := by rw [beq_eq_false_iff_ne]; omega
  have hsch : schB day l pa le = true := by simp only [conB, Bool.and_eq_true] at hcon; exact hcon.1
  have HRP := Lib.hid (fun (A : Option Addr) (c : Nat) (w : World) hnc hA h => l28Run_any day pa le d p z A n c l line w hnc hA h hsch (by omega))
  have hqok := afQ_ok (q := (day, l, pa, le)) hsch line
  obtain ⟨o, ho⟩ : ∃ o, repO (day, l, pa, le) line = o := ⟨_, rfl⟩
  rw [ho] at HRP hqok ⊢
  obtain ⟨ra, hra⟩ : ∃ ra, afT o = ra := ⟨_, rfl⟩
  obtain ⟨tx, hT⟩ : ∃ tx, cutT ra = tx := ⟨_, rfl⟩
  have hTs : tx.size ≤ 200 := by rw [← hT]; exact cutT_size _
  unfold RetC at HRP
  rw [hra] at HRP ⊢
  rw [hT]
  have HAP := Lib.hid (fun (w : World) => specAppend_any d p z line tx w hd hp (by omega) (by omega))
  obtain ⟨P2, hP2⟩ : ∃ P2, appP d p z line tx = P2 := ⟨_, rfl⟩
  obtain ⟨Z2, hZ2⟩ : ∃ Z2, appZ d p z line tx = Z2 := ⟨_, rfl⟩
  rw [hP2, hZ2] at HAP ⊢
  have HT := Lib.hid hT
  obtain ⟨qx, hqx⟩ : ∃ qx, afQ (day, l, pa, le) o = qx := ⟨_, rfl⟩
  rw [hqx] at HRP hqok ⊢
  have HQOK := Lib.hid (schB_len hqok)
  clear hrec hrs hsch ho hT hP2 hZ2 hqx hra hqok
  have HO := Lib.hid (fun (w : World) h => l28Own_any day pa le d p z A n c l w hn hA h)
  have HI := Lib.hid (fun (w : World) h => l28Good_any day pa le d p z A n c l w hn hd hp h)
  rw [hcon] at HI
  have H := Lib.hid h
  have HLN := Lib.hid (rows_len h)
  have HCON := Lib.hid hcon
  clear h hcon
  go_enter Try.func30, Try.ntmps30
  go_wp2_with fail
  refine (HO.out _ ((H.out.ext (ext_alloc (ext_alloc (ext_refl _) _) _) (Nat.le_refl _)).more (by simp; omega))).mono ?_
  rintro e w1 ⟨A1, c1, rfl, ho1, hb1⟩
  have X1 : Hid (Blk w1 w.heap.size 28 #[.int .i64 day, .slice A n c, .int .i64 pa, .int .i64 le, .string d, .string p, .int .i64 z]) := Lib.hid ((((Blk.new w _ _).ext (ext_alloc (ext_refl _) _))).ext hb1)
  have R1 : Hid (Blk w1 (w.heap.size + 1) 28 #[.int .i64 0, .slice none 0 0, .int .i64 0, .int .i64 0, .string ⟨#[]⟩, .string ⟨#[]⟩, .int .i64 0]) := Lib.hid (by
    have := (Blk.new (w.alloc (.cells #[.int .i64 day, .slice A n c, .int .i64 pa, .int .i64 le, .string d, .string p, .int .i64 z] 28)) #[.int .i64 0, .slice none 0 0, .int .i64 0, .int .i64 0, .string ⟨#[]⟩, .string ⟨#[]⟩, .int .i64 0] 28).ext hb1
    simpa using this)
  have b1 := Lib.hid (ext_trans (ext_alloc (ext_alloc (ext_refl w) _) _) hb1)
  have O1 := Lib.hid (own_base (base' := w.heap.size) ho1 (by simp; omega))
  have sX1 := X1.out.lt
  have sR1 := R1.out.lt
  clear hb1 ho1
  have x10 : w1.cell? ⟨w.heap.size, 0, none⟩ = some (.int .i64 day) := X1.out.cell 0
  have x11 : w1.cell? ⟨w.heap.size, 1, none⟩ = some (.slice A n c) := X1.out.cell 1
  have x12 : w1.cell? ⟨w.heap.size, 2, none⟩ = some (.int .i64 pa) := X1.out.cell 2
  have x13 : w1.cell? ⟨w.heap.size, 3, none⟩ = some (.int .i64 le) := X1.out.cell 3
  have x14 : w1.cell? ⟨w.heap.size, 4, none⟩ = some (.string d) := X1.out.cell 4
  have x15 : w1.cell? ⟨w.heap.size, 5, none⟩ = some (.string p) := X1.out.cell 5
  have x16 : w1.cell? ⟨w.heap.size, 6, none⟩ = some (.int .i64 z) := X1.out.cell 6
  have r10 : w1.cell? ⟨w.heap.size + 1, 0, none⟩ = some (.int .i64 0) := R1.out.cell 0
  have r11 : w1.cell? ⟨w.heap.size + 1, 1, none⟩ = some (.slice none 0 0) := R1.out.cell 1
  have r12 : w1.cell? ⟨w.heap.size + 1, 2, none⟩ = some (.int .i64 0) := R1.out.cell 2
  have r13 : w1.cell? ⟨w.heap.size + 1, 3, none⟩ = some (.int .i64 0) := R1.out.cell 3
  have r14 : w1.cell? ⟨w.heap.size + 1, 4, none⟩ = some (.string ⟨#[]⟩) := R1.out.cell 4
  have r15 : w1.cell? ⟨w.heap.size + 1, 5, none⟩ = some (.string ⟨#[]⟩) := R1.out.cell 5
  have r16 : w1.cell? ⟨w.heap.size + 1, 6, none⟩ = some (.int .i64 0) := R1.out.cell 6
  have fr10 := R1.out.frozen 0
  have fr11 := R1.out.frozen 1
  have fr12 := R1.out.frozen 2
  have fr13 := R1.out.frozen 3
  have fr14 := R1.out.frozen 4
  have fr15 := R1.out.frozen 5
  have fr16 := R1.out.frozen 6
  obtain ⟨w2, hw2⟩ : ∃ w2, w2 = w1.alloc (.cells #[.int .i64 day, .slice A1 n c1, .int .i64 pa, .int .i64 le, .string d, .string p, .int .i64 z] 28) := ⟨_, rfl⟩
  have e2 : Below w1.heap.size w1 w2 := by rw [hw2]; exact ext_alloc (ext_refl _) _
  have X2 := Lib.hid (X1.out.ext e2)
  have R2 := Lib.hid (R1.out.ext e2)
  have G2 : Hid (Blk w2 w1.heap.size 28 #[.int .i64 day, .slice A1 n c1, .int .i64 pa, .int .i64 le, .string d, .string p, .int .i64 z]) := Lib.hid (by rw [hw2]; exact Blk.new _ _ _)
  have O2 := Lib.hid (own_ext O1.out e2)
  have b2 := Lib.hid (ext_trans b1.out e2)
  clear e2
  go_wp2_with fail
  rw [← hw2]
  clear hw2 x10 x11 x12 x13 x14 x15 x16 r10 r11 r12 r13 r14 r15 r16 fr10 fr11 fr12 fr13 fr14 fr15 fr16
  with_reducible refine (HI.out _ ((H.out.ext b2.out (Nat.le_refl _)).more b2.out.size)).mono ?_
  rintro e w3 ⟨rfl, hb3⟩
  have X3 := Lib.hid (X2.out.ext hb3)
  have R3 := Lib.hid (R2.out.ext hb3)
  have G3 := Lib.hid (G2.out.ext hb3)
  have O3 := Lib.hid (own_ext O2.out hb3)
  have b3 := Lib.hid (ext_trans b2.out hb3)
  have sX3 := X3.out.lt
  have sR3 := R3.out.lt
  have sG3 := G3.out.lt
  clear hb3
  have x30 : w3.cell? ⟨w.heap.size, 0, none⟩ = some (.int .i64 day) := X3.out.cell 0
  have x31 : w3.cell? ⟨w.heap.size, 1, none⟩ = some (.slice A n c) := X3.out.cell 1
  have x32 : w3.cell? ⟨w.heap.size, 2, none⟩ = some (.int .i64 pa) := X3.out.cell 2
  have x33 : w3.cell? ⟨w.heap.size, 3, none⟩ = some (.int .i64 le) := X3.out.cell 3
  have x34 : w3.cell? ⟨w.heap.size, 4, none⟩ = some (.string d) := X3.out.cell 4
  have x35 : w3.cell? ⟨w.heap.size, 5, none⟩ = some (.string p) := X3.out.cell 5
  have x36 : w3.cell? ⟨w.heap.size, 6, none⟩ = some (.int .i64 z) := X3.out.cell 6
  have r30 : w3.cell? ⟨w.heap.size + 1, 0, none⟩ = some (.int .i64 0) := R3.out.cell 0
  have r31 : w3.cell? ⟨w.heap.size + 1, 1, none⟩ = some (.slice none 0 0) := R3.out.cell 1
  have r32 : w3.cell? ⟨w.heap.size + 1, 2, none⟩ = some (.int .i64 0) := R3.out.cell 2
  have r33 : w3.cell? ⟨w.heap.size + 1, 3, none⟩ = some (.int .i64 0) := R3.out.cell 3
  have r34 : w3.cell? ⟨w.heap.size + 1, 4, none⟩ = some (.string ⟨#[]⟩) := R3.out.cell 4
  have r35 : w3.cell? ⟨w.heap.size + 1, 5, none⟩ = some (.string ⟨#[]⟩) := R3.out.cell 5
  have r36 : w3.cell? ⟨w.heap.size + 1, 6, none⟩ = some (.int .i64 0) := R3.out.cell 6
  have fr30 := R3.out.frozen 0
  have fr31 := R3.out.frozen 1
  have fr32 := R3.out.frozen 2
  have fr33 := R3.out.frozen 3
  have fr34 := R3.out.frozen 4
  have fr35 := R3.out.frozen 5
  have fr36 := R3.out.frozen 6
  have g30 : w3.cell? ⟨w1.heap.size, 0, none⟩ = some (.int .i64 day) := G3.out.cell 0
  have g31 : w3.cell? ⟨w1.heap.size, 1, none⟩ = some (.slice A1 n c1) := G3.out.cell 1
  have g32 : w3.cell? ⟨w1.heap.size, 2, none⟩ = some (.int .i64 pa) := G3.out.cell 2
  have g33 : w3.cell? ⟨w1.heap.size, 3, none⟩ = some (.int .i64 le) := G3.out.cell 3
  have g34 : w3.cell? ⟨w1.heap.size, 4, none⟩ = some (.string d) := G3.out.cell 4
  have g35 : w3.cell? ⟨w1.heap.size, 5, none⟩ = some (.string p) := G3.out.cell 5
  have g36 : w3.cell? ⟨w1.heap.size, 6, none⟩ = some (.int .i64 z) := G3.out.cell 6
  have fg30 := G3.out.frozen 0
  have fg31 := G3.out.frozen 1
  have fg32 := G3.out.frozen 2
  have fg33 := G3.out.frozen 3
  have fg34 := G3.out.frozen 4
  have fg35 := G3.out.frozen 5
  have fg36 := G3.out.frozen 6
  go_wp2_with fail
  with_reducible refine (HR.out _).mono ?_
  rintro e w4 ⟨rfl, hb4⟩
  have X4 := Lib.hid (X3.out.ext hb4)
  have R4 := Lib.hid (R3.out.ext hb4)
  have G4 := Lib.hid (G3.out.ext hb4)
  have O4 := Lib.hid (own_ext O3.out hb4)
  have b4 := Lib.hid (ext_trans b3.out hb4)
  have sX4 := X4.out.lt
  have sR4 := R4.out.lt
  have sG4 := G4.out.lt
  clear hb4
  clear x30 x31 x32 x33 x34 x35 x36 r30 r31 r32 r33 r34 r35 r36 fr30 fr31 fr32 fr33 fr34 fr35 fr36 g30 g31 g32 g33 g34 g35 g36 fg30 fg31 fg32 fg33 fg34 fg35 fg36
  have x40 : w4.cell? ⟨w.heap.size, 0, none⟩ = some (.int .i64 day) := X4.out.cell 0
  have x41 : w4.cell? ⟨w.heap.size, 1, none⟩ = some (.slice A n c) := X4.out.cell 1
  have x42 : w4.cell? ⟨w.heap.size, 2, none⟩ = some (.int .i64 pa) := X4.out.cell 2
  have x43 : w4.cell? ⟨w.heap.size, 3, none⟩ = some (.int .i64 le) := X4.out.cell 3
  have x44 : w4.cell? ⟨w.heap.size, 4, none⟩ = some (.string d) := X4.out.cell 4
  have x45 : w4.cell? ⟨w.heap.size, 5, none⟩ = some (.string p) := X4.out.cell 5
  have x46 : w4.cell? ⟨w.heap.size, 6, none⟩ = some (.int .i64 z) := X4.out.cell 6
  have r40 : w4.cell? ⟨w.heap.size + 1, 0, none⟩ = some (.int .i64 0) := R4.out.cell 0
  have r41 : w4.cell? ⟨w.heap.size + 1, 1, none⟩ = some (.slice none 0 0) := R4.out.cell 1
  have r42 : w4.cell? ⟨w.heap.size + 1, 2, none⟩ = some (.int .i64 0) := R4.out.cell 2
  have r43 : w4.cell? ⟨w.heap.size + 1, 3, none⟩ = some (.int .i64 0) := R4.out.cell 3
  have r44 : w4.cell? ⟨w.heap.size + 1, 4, none⟩ = some (.string ⟨#[]⟩) := R4.out.cell 4
  have r45 : w4.cell? ⟨w.heap.size + 1, 5, none⟩ = some (.string ⟨#[]⟩) := R4.out.cell 5
  have r46 : w4.cell? ⟨w.heap.size + 1, 6, none⟩ = some (.int .i64 0) := R4.out.cell 6
  have fr40 := R4.out.frozen 0
  have fr41 := R4.out.frozen 1
  have fr42 := R4.out.frozen 2
  have fr43 := R4.out.frozen 3
  have fr44 := R4.out.frozen 4
  have fr45 := R4.out.frozen 5
  have fr46 := R4.out.frozen 6
  have g40 : w4.cell? ⟨w1.heap.size, 0, none⟩ = some (.int .i64 day) := G4.out.cell 0
  have g41 : w4.cell? ⟨w1.heap.size, 1, none⟩ = some (.slice A1 n c1) := G4.out.cell 1
  have g42 : w4.cell? ⟨w1.heap.size, 2, none⟩ = some (.int .i64 pa) := G4.out.cell 2
  have g43 : w4.cell? ⟨w1.heap.size, 3, none⟩ = some (.int .i64 le) := G4.out.cell 3
  have g44 : w4.cell? ⟨w1.heap.size, 4, none⟩ = some (.string d) := G4.out.cell 4
  have g45 : w4.cell? ⟨w1.heap.size, 5, none⟩ = some (.string p) := G4.out.cell 5
  have g46 : w4.cell? ⟨w1.heap.size, 6, none⟩ = some (.int .i64 z) := G4.out.cell 6
  have fg40 := G4.out.frozen 0
  have fg41 := G4.out.frozen 1
  have fg42 := G4.out.frozen 2
  have fg43 := G4.out.frozen 3
  have fg44 := G4.out.frozen 4
  have fg45 := G4.out.frozen 5
  have fg46 := G4.out.frozen 6
  go_wp2_with fail
  with_reducible refine (HRP.out A1 c1 _ (own_cap3 O4.out) (slOk_own O4.out) (Reads.of_own O4.out)).mono ?_
  rintro e w5 ⟨A5, N5, c5, D, P, Q, L, rfl, rfl, rfl, hsl, hb5⟩
  have O5' : Hid (w5.ownsRow w.heap.size 109 5 (.slice A5 L.length c5) L.length (rowsV L)) := Lib.hid (by
    rcases hsl with h1 | ⟨h1, h2, h4⟩
    · exact own_base h1 b4.out.size
    · have := own_ext O4.out hb5; rw [← HLN.out] at this; rw [h1, h2, h4]; exact this)
  have X5 := Lib.hid (X4.out.ext hb5)
  have R5 := Lib.hid (R4.out.ext hb5)
  have G5 := Lib.hid (G4.out.ext hb5)
  have O5 := Lib.hid (own_ext O4.out hb5)
  have b5 := Lib.hid (ext_trans b4.out hb5)
  have sX5 := X5.out.lt
  have sR5 := R5.out.lt
  have sG5 := G5.out.lt
  clear hb5 hsl
  clear x40 x41 x42 x43 x44 x45 x46 r40 r41 r42 r43 r44 r45 r46 fr40 fr41 fr42 fr43 fr44 fr45 fr46 g40 g41 g42 g43 g44 g45 g46 fg40 fg41 fg42 fg43 fg44 fg45 fg46
  have x50 : w5.cell? ⟨w.heap.size, 0, none⟩ = some (.int .i64 day) := X5.out.cell 0
  have x51 : w5.cell? ⟨w.heap.size, 1, none⟩ = some (.slice A n c) := X5.out.cell 1
  have x52 : w5.cell? ⟨w.heap.size, 2, none⟩ = some (.int .i64 pa) := X5.out.cell 2
  have x53 : w5.cell? ⟨w.heap.size, 3, none⟩ = some (.int .i64 le) := X5.out.cell 3
  have x54 : w5.cell? ⟨w.heap.size, 4, none⟩ = some (.string d) := X5.out.cell 4
  have x55 : w5.cell? ⟨w.heap.size, 5, none⟩ = some (.string p) := X5.out.cell 5
  have x56 : w5.cell? ⟨w.heap.size, 6, none⟩ = some (.int .i64 z) := X5.out.cell 6
  have r50 : w5.cell? ⟨w.heap.size + 1, 0, none⟩ = some (.int .i64 0) := R5.out.cell 0
  have r51 : w5.cell? ⟨w.heap.size + 1, 1, none⟩ = some (.slice none 0 0) := R5.out.cell 1
  have r52 : w5.cell? ⟨w.heap.size + 1, 2, none⟩ = some (.int .i64 0) := R5.out.cell 2
  have r53 : w5.cell? ⟨w.heap.size + 1, 3, none⟩ = some (.int .i64 0) := R5.out.cell 3
  have r54 : w5.cell? ⟨w.heap.size + 1, 4, none⟩ = some (.string ⟨#[]⟩) := R5.out.cell 4
  have r55 : w5.cell? ⟨w.heap.size + 1, 5, none⟩ = some (.string ⟨#[]⟩) := R5.out.cell 5
  have r56 : w5.cell? ⟨w.heap.size + 1, 6, none⟩ = some (.int .i64 0) := R5.out.cell 6
  have fr50 := R5.out.frozen 0
  have fr51 := R5.out.frozen 1
  have fr52 := R5.out.frozen 2
  have fr53 := R5.out.frozen 3
  have fr54 := R5.out.frozen 4
  have fr55 := R5.out.frozen 5
  have fr56 := R5.out.frozen 6
  have g50 : w5.cell? ⟨w1.heap.size, 0, none⟩ = some (.int .i64 day) := G5.out.cell 0
  have g51 : w5.cell? ⟨w1.heap.size, 1, none⟩ = some (.slice A1 n c1) := G5.out.cell 1
  have g52 : w5.cell? ⟨w1.heap.size, 2, none⟩ = some (.int .i64 pa) := G5.out.cell 2
  have g53 : w5.cell? ⟨w1.heap.size, 3, none⟩ = some (.int .i64 le) := G5.out.cell 3
  have g54 : w5.cell? ⟨w1.heap.size, 4, none⟩ = some (.string d) := G5.out.cell 4
  have g55 : w5.cell? ⟨w1.heap.size, 5, none⟩ = some (.string p) := G5.out.cell 5
  have g56 : w5.cell? ⟨w1.heap.size, 6, none⟩ = some (.int .i64 z) := G5.out.cell 6
  have fg50 := G5.out.frozen 0
  have fg51 := G5.out.frozen 1
  have fg52 := G5.out.frozen 2
  have fg53 := G5.out.frozen 3
  have fg54 := G5.out.frozen 4
  have fg55 := G5.out.frozen 5
  have fg56 := G5.out.frozen 6
  obtain ⟨w6, hw6⟩ : ∃ w6, w6 = w5.alloc (.cells #[.int .i64 D, .slice A5 L.length c5, .int .i64 P, .int .i64 Q, .string d, .string p, .int .i64 z] 28) := ⟨_, rfl⟩
  have e6 : Below w5.heap.size w5 w6 := by rw [hw6]; exact ext_alloc (ext_refl _) _
  have X6 := Lib.hid (X5.out.ext e6)
  have R6 := Lib.hid (R5.out.ext e6)
  have G6 := Lib.hid (G5.out.ext e6)
  have O6 := Lib.hid (own_ext O5.out e6)
  have b6 := Lib.hid (ext_trans b5.out e6)
  have sX6 := X6.out.lt
  have sR6 := R6.out.lt
  have sG6 := G6.out.lt
  have O6' := Lib.hid (own_ext O5'.out e6)
  clear e6
  go_wp2_with fail
  rw [← hw6]
  clear hw6
  clear x50 x51 x52 x53 x54 x55 x56 r50 r51 r52 r53 r54 r55 r56 fr50 fr51 fr52 fr53 fr54 fr55 fr56 g50 g51 g52 g53 g54 g55 g56 fg50 fg51 fg52 fg53 fg54 fg55 fg56
  with_reducible refine (l28Own_any D P Q d p z A5 L.length c5 L _ (by have := HQOK.out; omega) (slOk_own O6'.out) (Reads.of_own O6'.out)).mono ?_
  rintro e w7 ⟨A7, c7, rfl, ho7, hb7⟩
  have X7 := Lib.hid (X6.out.ext hb7)
  have R7 := Lib.hid (R6.out.ext hb7)
  have G7 := Lib.hid (G6.out.ext hb7)
  have O7 := Lib.hid (own_ext O6.out hb7)
  have b7 := Lib.hid (ext_trans b6.out hb7)
  have sX7 := X7.out.lt
  have sR7 := R7.out.lt
  have sG7 := G7.out.lt
  have O7' := Lib.hid (own_base (base' := w.heap.size) ho7 b6.out.size)
  clear hb7 ho7
  have x70 : w7.cell? ⟨w.heap.size, 0, none⟩ = some (.int .i64 day) := X7.out.cell 0
  have x71 : w7.cell? ⟨w.heap.size, 1, none⟩ = some (.slice A n c) := X7.out.cell 1
  have x72 : w7.cell? ⟨w.heap.size, 2, none⟩ = some (.int .i64 pa) := X7.out.cell 2
  have x73 : w7.cell? ⟨w.heap.size, 3, none⟩ = some (.int .i64 le) := X7.out.cell 3
  have x74 : w7.cell? ⟨w.heap.size, 4, none⟩ = some (.string d) := X7.out.cell 4
  have x75 : w7.cell? ⟨w.heap.size, 5, none⟩ = some (.string p) := X7.out.cell 5
  have x76 : w7.cell? ⟨w.heap.size, 6, none⟩ = some (.int .i64 z) := X7.out.cell 6
  have r70 : w7.cell? ⟨w.heap.size + 1, 0, none⟩ = some (.int .i64 0) := R7.out.cell 0
  have r71 : w7.cell? ⟨w.heap.size + 1, 1, none⟩ = some (.slice none 0 0) := R7.out.cell 1
  have r72 : w7.cell? ⟨w.heap.size + 1, 2, none⟩ = some (.int .i64 0) := R7.out.cell 2
  have r73 : w7.cell? ⟨w.heap.size + 1, 3, none⟩ = some (.int .i64 0) := R7.out.cell 3
  have r74 : w7.cell? ⟨w.heap.size + 1, 4, none⟩ = some (.string ⟨#[]⟩) := R7.out.cell 4
  have r75 : w7.cell? ⟨w.heap.size + 1, 5, none⟩ = some (.string ⟨#[]⟩) := R7.out.cell 5
  have r76 : w7.cell? ⟨w.heap.size + 1, 6, none⟩ = some (.int .i64 0) := R7.out.cell 6
  have fr70 := R7.out.frozen 0
  have fr71 := R7.out.frozen 1
  have fr72 := R7.out.frozen 2
  have fr73 := R7.out.frozen 3
  have fr74 := R7.out.frozen 4
  have fr75 := R7.out.frozen 5
  have fr76 := R7.out.frozen 6
  have g70 : w7.cell? ⟨w1.heap.size, 0, none⟩ = some (.int .i64 day) := G7.out.cell 0
  have g71 : w7.cell? ⟨w1.heap.size, 1, none⟩ = some (.slice A1 n c1) := G7.out.cell 1
  have g72 : w7.cell? ⟨w1.heap.size, 2, none⟩ = some (.int .i64 pa) := G7.out.cell 2
  have g73 : w7.cell? ⟨w1.heap.size, 3, none⟩ = some (.int .i64 le) := G7.out.cell 3
  have g74 : w7.cell? ⟨w1.heap.size, 4, none⟩ = some (.string d) := G7.out.cell 4
  have g75 : w7.cell? ⟨w1.heap.size, 5, none⟩ = some (.string p) := G7.out.cell 5
  have g76 : w7.cell? ⟨w1.heap.size, 6, none⟩ = some (.int .i64 z) := G7.out.cell 6
  have fg70 := G7.out.frozen 0
  have fg71 := G7.out.frozen 1
  have fg72 := G7.out.frozen 2
  have fg73 := G7.out.frozen 3
  have fg74 := G7.out.frozen 4
  have fg75 := G7.out.frozen 5
  have fg76 := G7.out.frozen 6
  obtain ⟨w8, hw8⟩ : ∃ w8, w8 = (((((((w7.setCell ⟨w1.heap.size, 0, none⟩ (.int .i64 D)).setCell ⟨w1.heap.size, 1, none⟩ (.slice A7 L.length c7)).setCell ⟨w1.heap.size, 2, none⟩ (.int .i64 P)).setCell ⟨w1.heap.size, 3, none⟩ (.int .i64 Q)).setCell ⟨w1.heap.size, 4, none⟩ (.string d)).setCell ⟨w1.heap.size, 5, none⟩ (.string p)).setCell ⟨w1.heap.size, 6, none⟩ (.int .i64 z)) := ⟨_, rfl⟩
  have hne7 := own_nb O7'.out G7.out (by decide)
  have X8 : Hid (Blk w8 w.heap.size 28 #[.int .i64 day, .slice A n c, .int .i64 pa, .int .i64 le, .string d, .string p, .int .i64 z]) := Lib.hid (by
    rw [hw8]
    iterate 7 with_reducible refine Blk.set_far ?_ (by show w1.heap.size ≠ w.heap.size; omega) _
    exact X7.out)
  have R8 : Hid (Blk w8 (w.heap.size + 1) 28 #[.int .i64 0, .slice none 0 0, .int .i64 0, .int .i64 0, .string ⟨#[]⟩, .string ⟨#[]⟩, .int .i64 0]) := Lib.hid (by
    rw [hw8]
    iterate 7 with_reducible refine Blk.set_far ?_ (by show w1.heap.size ≠ w.heap.size + 1; omega) _
    exact R7.out)
  have G8 : Hid (Blk w8 w1.heap.size 28 #[.int .i64 D, .slice A7 L.length c7, .int .i64 P, .int .i64 Q, .string d, .string p, .int .i64 z]) := Lib.hid (by
    rw [hw8]
    have := ((((((G7.out.set_ 0 (.int .i64 D)).set_ 1 (.slice A7 L.length c7)).set_ 2 (.int .i64 P)).set_ 3 (.int .i64 Q)).set_ 4 (.string d)).set_ 5 (.string p)).set_ 6 (.int .i64 z)
    simpa using this)
  have O8 : Hid (w8.ownsRow w.heap.size 109 5 (.slice A7 L.length c7) L.length (rowsV L)) := Lib.hid (by
    rw [hw8]
    iterate 7 with_reducible refine own_set_nb ?_ hne7 _
    exact O7'.out)
  have b8 : Hid (Below w.heap.size w w8) := Lib.hid (by
    rw [hw8]
    iterate 7 with_reducible refine ext_set ?_ (by show w.heap.size ≤ w1.heap.size; omega) _
    exact b7.out)
  have sX8 := X8.out.lt
  have sR8 := R8.out.lt
  have sG8 := G8.out.lt
  clear hne7
  by_cases hlong : (200 : Int) < (ra.size : Int)
  · have hT : ⟨#[108, 111, 110, 103]⟩ = tx := by have := HT.out; rw [← this]; unfold cutT; rw [if_pos (by omega)]
    subst hT
    go_wp2_with fail
    rw [← hw8]
    clear hw8
    clear x70 x71 x72 x73 x74 x75 x76 r70 r71 r72 r73 r74 r75 r76 fr70 fr71 fr72 fr73 fr74 fr75 fr76 g70 g71 g72 g73 g74 g75 g76 fg70 fg71 fg72 fg73 fg74 fg75 fg76
    have x80 : w8.cell? ⟨w.heap.size, 0, none⟩ = some (.int .i64 day) := X8.out.cell 0
    have x81 : w8.cell? ⟨w.heap.size, 1, none⟩ = some (.slice A n c) := X8.out.cell 1
    have x82 : w8.cell? ⟨w.heap.size, 2, none⟩ = some (.int .i64 pa) := X8.out.cell 2
    have x83 : w8.cell? ⟨w.heap.size, 3, none⟩ = some (.int .i64 le) := X8.out.cell 3
    have x84 : w8.cell? ⟨w.heap.size, 4, none⟩ = some (.string d) := X8.out.cell 4
    have x85 : w8.cell? ⟨w.heap.size, 5, none⟩ = some (.string p) := X8.out.cell 5
    have x86 : w8.cell? ⟨w.heap.size, 6, none⟩ = some (.int .i64 z) := X8.out.cell 6
    have r80 : w8.cell? ⟨w.heap.size + 1, 0, none⟩ = some (.int .i64 0) := R8.out.cell 0
    have r81 : w8.cell? ⟨w.heap.size + 1, 1, none⟩ = some (.slice none 0 0) := R8.out.cell 1
    have r82 : w8.cell? ⟨w.heap.size + 1, 2, none⟩ = some (.int .i64 0) := R8.out.cell 2
    have r83 : w8.cell? ⟨w.heap.size + 1, 3, none⟩ = some (.int .i64 0) := R8.out.cell 3
    have r84 : w8.cell? ⟨w.heap.size + 1, 4, none⟩ = some (.string ⟨#[]⟩) := R8.out.cell 4
    have r85 : w8.cell? ⟨w.heap.size + 1, 5, none⟩ = some (.string ⟨#[]⟩) := R8.out.cell 5
    have r86 : w8.cell? ⟨w.heap.size + 1, 6, none⟩ = some (.int .i64 0) := R8.out.cell 6
    have fr80 := R8.out.frozen 0
    have fr81 := R8.out.frozen 1
    have fr82 := R8.out.frozen 2
    have fr83 := R8.out.frozen 3
    have fr84 := R8.out.frozen 4
    have fr85 := R8.out.frozen 5
    have fr86 := R8.out.frozen 6
    have g80 : w8.cell? ⟨w1.heap.size, 0, none⟩ = some (.int .i64 D) := G8.out.cell 0
    have g81 : w8.cell? ⟨w1.heap.size, 1, none⟩ = some (.slice A7 L.length c7) := G8.out.cell 1
    have g82 : w8.cell? ⟨w1.heap.size, 2, none⟩ = some (.int .i64 P) := G8.out.cell 2
    have g83 : w8.cell? ⟨w1.heap.size, 3, none⟩ = some (.int .i64 Q) := G8.out.cell 3
    have g84 : w8.cell? ⟨w1.heap.size, 4, none⟩ = some (.string d) := G8.out.cell 4
    have g85 : w8.cell? ⟨w1.heap.size, 5, none⟩ = some (.string p) := G8.out.cell 5
    have g86 : w8.cell? ⟨w1.heap.size, 6, none⟩ = some (.int .i64 z) := G8.out.cell 6
    have fg80 := G8.out.frozen 0
    have fg81 := G8.out.frozen 1
    have fg82 := G8.out.frozen 2
    have fg83 := G8.out.frozen 3
    have fg84 := G8.out.frozen 4
    have fg85 := G8.out.frozen 5
    have fg86 := G8.out.frozen 6
    with_reducible refine (HAP.out _).mono ?_
    rintro e w9 ⟨rfl, hb9⟩
    have X9 := Lib.hid (X8.out.ext hb9)
    have R9 := Lib.hid (R8.out.ext hb9)
    have G9 := Lib.hid (G8.out.ext hb9)
    have O9 := Lib.hid (own_ext O8.out hb9)
    have b9 := Lib.hid (ext_trans b8.out hb9)
    have sX9 := X9.out.lt
    have sR9 := R9.out.lt
    have sG9 := G9.out.lt
    clear hb9
    clear x80 x81 x82 x83 x84 x85 x86 r80 r81 r82 r83 r84 r85 r86 fr80 fr81 fr82 fr83 fr84 fr85 fr86 g80 g81 g82 g83 g84 g85 g86 fg80 fg81 fg82 fg83 fg84 fg85 fg86
    have x90 : w9.cell? ⟨w.heap.size, 0, none⟩ = some (.int .i64 day) := X9.out.cell 0
    have x91 : w9.cell? ⟨w.heap.size, 1, none⟩ = some (.slice A n c) := X9.out.cell 1
    have x92 : w9.cell? ⟨w.heap.size, 2, none⟩ = some (.int .i64 pa) := X9.out.cell 2
    have x93 : w9.cell? ⟨w.heap.size, 3, none⟩ = some (.int .i64 le) := X9.out.cell 3
    have x94 : w9.cell? ⟨w.heap.size, 4, none⟩ = some (.string d) := X9.out.cell 4
    have x95 : w9.cell? ⟨w.heap.size, 5, none⟩ = some (.string p) := X9.out.cell 5
    have x96 : w9.cell? ⟨w.heap.size, 6, none⟩ = some (.int .i64 z) := X9.out.cell 6
    have r90 : w9.cell? ⟨w.heap.size + 1, 0, none⟩ = some (.int .i64 0) := R9.out.cell 0
    have r91 : w9.cell? ⟨w.heap.size + 1, 1, none⟩ = some (.slice none 0 0) := R9.out.cell 1
    have r92 : w9.cell? ⟨w.heap.size + 1, 2, none⟩ = some (.int .i64 0) := R9.out.cell 2
    have r93 : w9.cell? ⟨w.heap.size + 1, 3, none⟩ = some (.int .i64 0) := R9.out.cell 3
    have r94 : w9.cell? ⟨w.heap.size + 1, 4, none⟩ = some (.string ⟨#[]⟩) := R9.out.cell 4
    have r95 : w9.cell? ⟨w.heap.size + 1, 5, none⟩ = some (.string ⟨#[]⟩) := R9.out.cell 5
    have r96 : w9.cell? ⟨w.heap.size + 1, 6, none⟩ = some (.int .i64 0) := R9.out.cell 6
    have fr90 := R9.out.frozen 0
    have fr91 := R9.out.frozen 1
    have fr92 := R9.out.frozen 2
    have fr93 := R9.out.frozen 3
    have fr94 := R9.out.frozen 4
    have fr95 := R9.out.frozen 5
    have fr96 := R9.out.frozen 6
    have g90 : w9.cell? ⟨w1.heap.size, 0, none⟩ = some (.int .i64 D) := G9.out.cell 0
    have g91 : w9.cell? ⟨w1.heap.size, 1, none⟩ = some (.slice A7 L.length c7) := G9.out.cell 1
    have g92 : w9.cell? ⟨w1.heap.size, 2, none⟩ = some (.int .i64 P) := G9.out.cell 2
    have g93 : w9.cell? ⟨w1.heap.size, 3, none⟩ = some (.int .i64 Q) := G9.out.cell 3
    have g94 : w9.cell? ⟨w1.heap.size, 4, none⟩ = some (.string d) := G9.out.cell 4
    have g95 : w9.cell? ⟨w1.heap.size, 5, none⟩ = some (.string p) := G9.out.cell 5
    have g96 : w9.cell? ⟨w1.heap.size, 6, none⟩ = some (.int .i64 z) := G9.out.cell 6
    have fg90 := G9.out.frozen 0
    have fg91 := G9.out.frozen 1
    have fg92 := G9.out.frozen 2
    have fg93 := G9.out.frozen 3
    have fg94 := G9.out.frozen 4
    have fg95 := G9.out.frozen 5
    have fg96 := G9.out.frozen 6
    obtain ⟨wa, hwa⟩ : ∃ wa, wa = (((w9.setCell ⟨w1.heap.size, 4, none⟩ (.string d)).setCell ⟨w1.heap.size, 5, none⟩ (.string P2)).setCell ⟨w1.heap.size, 6, none⟩ (.int .i64 Z2)) := ⟨_, rfl⟩
    have hne9 := own_nb O9.out G9.out (by decide)
    have Ra : Hid (Blk wa (w.heap.size + 1) 28 #[.int .i64 0, .slice none 0 0, .int .i64 0, .int .i64 0, .string ⟨#[]⟩, .string ⟨#[]⟩, .int .i64 0]) := Lib.hid (by
      rw [hwa]
      iterate 3 with_reducible refine Blk.set_far ?_ (by show w1.heap.size ≠ w.heap.size + 1; omega) _
      exact R9.out)
    have Ga : Hid (Blk wa w1.heap.size 28 #[.int .i64 D, .slice A7 L.length c7, .int .i64 P, .int .i64 Q, .string d, .string P2, .int .i64 Z2]) := Lib.hid (by
      rw [hwa]
      have := ((G9.out.set_ 4 (.string d)).set_ 5 (.string P2)).set_ 6 (.int .i64 Z2)
      simpa using this)
    have Oa : Hid (wa.ownsRow w.heap.size 109 5 (.slice A7 L.length c7) L.length (rowsV L)) := Lib.hid (by
      rw [hwa]
      iterate 3 with_reducible refine own_set_nb ?_ hne9 _
      exact O9.out)
    have ba : Hid (Below w.heap.size w wa) := Lib.hid (by
      rw [hwa]
      iterate 3 with_reducible refine ext_set ?_ (by show w.heap.size ≤ w1.heap.size; omega) _
      exact b9.out)
    go_upto_region 13 with fail
    rw [← hwa]
    clear hwa hne9
    clear x90 x91 x92 x93 x94 x95 x96 r90 r91 r92 r93 r94 r95 r96 fr90 fr91 fr92 fr93 fr94 fr95 fr96 g90 g91 g92 g93 g94 g95 g96 fg90 fg91 fg92 fg93 fg94 fg95 fg96
    have ra0 : wa.cell? ⟨w.heap.size + 1, 0, none⟩ = some (.int .i64 0) := Ra.out.cell 0
    have ra1 : wa.cell? ⟨w.heap.size + 1, 1, none⟩ = some (.slice none 0 0) := Ra.out.cell 1
    have ra2 : wa.cell? ⟨w.heap.size + 1, 2, none⟩ = some (.int .i64 0) := Ra.out.cell 2
    have ra3 : wa.cell? ⟨w.heap.size + 1, 3, none⟩ = some (.int .i64 0) := Ra.out.cell 3
    have ra4 : wa.cell? ⟨w.heap.size + 1, 4, none⟩ = some (.string ⟨#[]⟩) := Ra.out.cell 4
    have ra5 : wa.cell? ⟨w.heap.size + 1, 5, none⟩ = some (.string ⟨#[]⟩) := Ra.out.cell 5
    have ra6 : wa.cell? ⟨w.heap.size + 1, 6, none⟩ = some (.int .i64 0) := Ra.out.cell 6
    have fra0 := Ra.out.frozen 0
    have fra1 := Ra.out.frozen 1
    have fra2 := Ra.out.frozen 2
    have fra3 := Ra.out.frozen 3
    have fra4 := Ra.out.frozen 4
    have fra5 := Ra.out.frozen 5
    have fra6 := Ra.out.frozen 6
    have ga0 : wa.cell? ⟨w1.heap.size, 0, none⟩ = some (.int .i64 D) := Ga.out.cell 0
    have ga1 : wa.cell? ⟨w1.heap.size, 1, none⟩ = some (.slice A7 L.length c7) := Ga.out.cell 1
    have ga2 : wa.cell? ⟨w1.heap.size, 2, none⟩ = some (.int .i64 P) := Ga.out.cell 2
    have ga3 : wa.cell? ⟨w1.heap.size, 3, none⟩ = some (.int .i64 Q) := Ga.out.cell 3
    have ga4 : wa.cell? ⟨w1.heap.size, 4, none⟩ = some (.string d) := Ga.out.cell 4
    have ga5 : wa.cell? ⟨w1.heap.size, 5, none⟩ = some (.string P2) := Ga.out.cell 5
    have ga6 : wa.cell? ⟨w1.heap.size, 6, none⟩ = some (.int .i64 Z2) := Ga.out.cell 6
    have hnea := Lib.hid (own_nb Oa.out Ra.out (by decide))
    go_wp2
    refine bodyPost_ret (v := .tuple #[conV D A7 L.length c7 P Q d P2 Z2, .string (⟨#[108, 111, 110, 103]⟩)]) (by simp [results, Try.results30, go_sem, *]) rfl ?_
    refine ⟨A7, c7, rfl, ?_, ?_⟩
    · iterate 7 with_reducible refine own_set_nb ?_ hnea.out _
      exact Oa.out
    · iterate 7 with_reducible refine ext_set ?_ (by show w.heap.size ≤ w.heap.size + 1; omega) _
      exact ba.out
  · have hT : ra = tx := by have := HT.out; rw [← this]; unfold cutT; rw [if_neg (by omega)]
    subst hT
    go_wp2_with fail
    rw [← hw8]
    clear hw8
    clear x70 x71 x72 x73 x74 x75 x76 r70 r71 r72 r73 r74 r75 r76 fr70 fr71 fr72 fr73 fr74 fr75 fr76 g70 g71 g72 g73 g74 g75 g76 fg70 fg71 fg72 fg73 fg74 fg75 fg76
    have x80 : w8.cell? ⟨w.heap.size, 0, none⟩ = some (.int .i64 day) := X8.out.cell 0
    have x81 : w8.cell? ⟨w.heap.size, 1, none⟩ = some (.slice A n c) := X8.out.cell 1
    have x82 : w8.cell? ⟨w.heap.size, 2, none⟩ = some (.int .i64 pa) := X8.out.cell 2
    have x83 : w8.cell? ⟨w.heap.size, 3, none⟩ = some (.int .i64 le) := X8.out.cell 3
    have x84 : w8.cell? ⟨w.heap.size, 4, none⟩ = some (.string d) := X8.out.cell 4
    have x85 : w8.cell? ⟨w.heap.size, 5, none⟩ = some (.string p) := X8.out.cell 5
    have x86 : w8.cell? ⟨w.heap.size, 6, none⟩ = some (.int .i64 z) := X8.out.cell 6
    have r80 : w8.cell? ⟨w.heap.size + 1, 0, none⟩ = some (.int .i64 0) := R8.out.cell 0
    have r81 : w8.cell? ⟨w.heap.size + 1, 1, none⟩ = some (.slice none 0 0) := R8.out.cell 1
    have r82 : w8.cell? ⟨w.heap.size + 1, 2, none⟩ = some (.int .i64 0) := R8.out.cell 2
    have r83 : w8.cell? ⟨w.heap.size + 1, 3, none⟩ = some (.int .i64 0) := R8.out.cell 3
    have r84 : w8.cell? ⟨w.heap.size + 1, 4, none⟩ = some (.string ⟨#[]⟩) := R8.out.cell 4
    have r85 : w8.cell? ⟨w.heap.size + 1, 5, none⟩ = some (.string ⟨#[]⟩) := R8.out.cell 5
    have r86 : w8.cell? ⟨w.heap.size + 1, 6, none⟩ = some (.int .i64 0) := R8.out.cell 6
    have fr80 := R8.out.frozen 0
    have fr81 := R8.out.frozen 1
    have fr82 := R8.out.frozen 2
    have fr83 := R8.out.frozen 3
    have fr84 := R8.out.frozen 4
    have fr85 := R8.out.frozen 5
    have fr86 := R8.out.frozen 6
    have g80 : w8.cell? ⟨w1.heap.size, 0, none⟩ = some (.int .i64 D) := G8.out.cell 0
    have g81 : w8.cell? ⟨w1.heap.size, 1, none⟩ = some (.slice A7 L.length c7) := G8.out.cell 1
    have g82 : w8.cell? ⟨w1.heap.size, 2, none⟩ = some (.int .i64 P) := G8.out.cell 2
    have g83 : w8.cell? ⟨w1.heap.size, 3, none⟩ = some (.int .i64 Q) := G8.out.cell 3
    have g84 : w8.cell? ⟨w1.heap.size, 4, none⟩ = some (.string d) := G8.out.cell 4
    have g85 : w8.cell? ⟨w1.heap.size, 5, none⟩ = some (.string p) := G8.out.cell 5
    have g86 : w8.cell? ⟨w1.heap.size, 6, none⟩ = some (.int .i64 z) := G8.out.cell 6
    have fg80 := G8.out.frozen 0
    have fg81 := G8.out.frozen 1
    have fg82 := G8.out.frozen 2
    have fg83 := G8.out.frozen 3
    have fg84 := G8.out.frozen 4
    have fg85 := G8.out.frozen 5
    have fg86 := G8.out.frozen 6
    with_reducible refine (HAP.out _).mono ?_
    rintro e w9 ⟨rfl, hb9⟩
    have X9 := Lib.hid (X8.out.ext hb9)
    have R9 := Lib.hid (R8.out.ext hb9)
    have G9 := Lib.hid (G8.out.ext hb9)
    have O9 := Lib.hid (own_ext O8.out hb9)
    have b9 := Lib.hid (ext_trans b8.out hb9)
    have sX9 := X9.out.lt
    have sR9 := R9.out.lt
    have sG9 := G9.out.lt
    clear hb9
    clear x80 x81 x82 x83 x84 x85 x86 r80 r81 r82 r83 r84 r85 r86 fr80 fr81 fr82 fr83 fr84 fr85 fr86 g80 g81 g82 g83 g84 g85 g86 fg80 fg81 fg82 fg83 fg84 fg85 fg86
    have x90 : w9.cell? ⟨w.heap.size, 0, none⟩ = some (.int .i64 day) := X9.out.cell 0
    have x91 : w9.cell? ⟨w.heap.size, 1, none⟩ = some (.slice A n c) := X9.out.cell 1
    have x92 : w9.cell? ⟨w.heap.size, 2, none⟩ = some (.int .i64 pa) := X9.out.cell 2
    have x93 : w9.cell? ⟨w.heap.size, 3, none⟩ = some (.int .i64 le) := X9.out.cell 3
    have x94 : w9.cell? ⟨w.heap.size, 4, none⟩ = some (.string d) := X9.out.cell 4
    have x95 : w9.cell? ⟨w.heap.size, 5, none⟩ = some (.string p) := X9.out.cell 5
    have x96 : w9.cell? ⟨w.heap.size, 6, none⟩ = some (.int .i64 z) := X9.out.cell 6
    have r90 : w9.cell? ⟨w.heap.size + 1, 0, none⟩ = some (.int .i64 0) := R9.out.cell 0
    have r91 : w9.cell? ⟨w.heap.size + 1, 1, none⟩ = some (.slice none 0 0) := R9.out.cell 1
    have r92 : w9.cell? ⟨w.heap.size + 1, 2, none⟩ = some (.int .i64 0) := R9.out.cell 2
    have r93 : w9.cell? ⟨w.heap.size + 1, 3, none⟩ = some (.int .i64 0) := R9.out.cell 3
    have r94 : w9.cell? ⟨w.heap.size + 1, 4, none⟩ = some (.string ⟨#[]⟩) := R9.out.cell 4
    have r95 : w9.cell? ⟨w.heap.size + 1, 5, none⟩ = some (.string ⟨#[]⟩) := R9.out.cell 5
    have r96 : w9.cell? ⟨w.heap.size + 1, 6, none⟩ = some (.int .i64 0) := R9.out.cell 6
    have fr90 := R9.out.frozen 0
    have fr91 := R9.out.frozen 1
    have fr92 := R9.out.frozen 2
    have fr93 := R9.out.frozen 3
    have fr94 := R9.out.frozen 4
    have fr95 := R9.out.frozen 5
    have fr96 := R9.out.frozen 6
    have g90 : w9.cell? ⟨w1.heap.size, 0, none⟩ = some (.int .i64 D) := G9.out.cell 0
    have g91 : w9.cell? ⟨w1.heap.size, 1, none⟩ = some (.slice A7 L.length c7) := G9.out.cell 1
    have g92 : w9.cell? ⟨w1.heap.size, 2, none⟩ = some (.int .i64 P) := G9.out.cell 2
    have g93 : w9.cell? ⟨w1.heap.size, 3, none⟩ = some (.int .i64 Q) := G9.out.cell 3
    have g94 : w9.cell? ⟨w1.heap.size, 4, none⟩ = some (.string d) := G9.out.cell 4
    have g95 : w9.cell? ⟨w1.heap.size, 5, none⟩ = some (.string p) := G9.out.cell 5
    have g96 : w9.cell? ⟨w1.heap.size, 6, none⟩ = some (.int .i64 z) := G9.out.cell 6
    have fg90 := G9.out.frozen 0
    have fg91 := G9.out.frozen 1
    have fg92 := G9.out.frozen 2
    have fg93 := G9.out.frozen 3
    have fg94 := G9.out.frozen 4
    have fg95 := G9.out.frozen 5
    have fg96 := G9.out.frozen 6
    obtain ⟨wa, hwa⟩ : ∃ wa, wa = (((w9.setCell ⟨w1.heap.size, 4, none⟩ (.string d)).setCell ⟨w1.heap.size, 5, none⟩ (.string P2)).setCell ⟨w1.heap.size, 6, none⟩ (.int .i64 Z2)) := ⟨_, rfl⟩
    have hne9 := own_nb O9.out G9.out (by decide)
    have Ra : Hid (Blk wa (w.heap.size + 1) 28 #[.int .i64 0, .slice none 0 0, .int .i64 0, .int .i64 0, .string ⟨#[]⟩, .string ⟨#[]⟩, .int .i64 0]) := Lib.hid (by
      rw [hwa]
      iterate 3 with_reducible refine Blk.set_far ?_ (by show w1.heap.size ≠ w.heap.size + 1; omega) _
      exact R9.out)
    have Ga : Hid (Blk wa w1.heap.size 28 #[.int .i64 D, .slice A7 L.length c7, .int .i64 P, .int .i64 Q, .string d, .string P2, .int .i64 Z2]) := Lib.hid (by
      rw [hwa]
      have := ((G9.out.set_ 4 (.string d)).set_ 5 (.string P2)).set_ 6 (.int .i64 Z2)
      simpa using this)
    have Oa : Hid (wa.ownsRow w.heap.size 109 5 (.slice A7 L.length c7) L.length (rowsV L)) := Lib.hid (by
      rw [hwa]
      iterate 3 with_reducible refine own_set_nb ?_ hne9 _
      exact O9.out)
    have ba : Hid (Below w.heap.size w wa) := Lib.hid (by
      rw [hwa]
      iterate 3 with_reducible refine ext_set ?_ (by show w.heap.size ≤ w1.heap.size; omega) _
      exact b9.out)
    go_upto_region 13 with fail
    rw [← hwa]
    clear hwa hne9
    clear x90 x91 x92 x93 x94 x95 x96 r90 r91 r92 r93 r94 r95 r96 fr90 fr91 fr92 fr93 fr94 fr95 fr96 g90 g91 g92 g93 g94 g95 g96 fg90 fg91 fg92 fg93 fg94 fg95 fg96
    have ra0 : wa.cell? ⟨w.heap.size + 1, 0, none⟩ = some (.int .i64 0) := Ra.out.cell 0
    have ra1 : wa.cell? ⟨w.heap.size + 1, 1, none⟩ = some (.slice none 0 0) := Ra.out.cell 1
    have ra2 : wa.cell? ⟨w.heap.size + 1, 2, none⟩ = some (.int .i64 0) := Ra.out.cell 2
    have ra3 : wa.cell? ⟨w.heap.size + 1, 3, none⟩ = some (.int .i64 0) := Ra.out.cell 3
    have ra4 : wa.cell? ⟨w.heap.size + 1, 4, none⟩ = some (.string ⟨#[]⟩) := Ra.out.cell 4
    have ra5 : wa.cell? ⟨w.heap.size + 1, 5, none⟩ = some (.string ⟨#[]⟩) := Ra.out.cell 5
    have ra6 : wa.cell? ⟨w.heap.size + 1, 6, none⟩ = some (.int .i64 0) := Ra.out.cell 6
    have fra0 := Ra.out.frozen 0
    have fra1 := Ra.out.frozen 1
    have fra2 := Ra.out.frozen 2
    have fra3 := Ra.out.frozen 3
    have fra4 := Ra.out.frozen 4
    have fra5 := Ra.out.frozen 5
    have fra6 := Ra.out.frozen 6
    have ga0 : wa.cell? ⟨w1.heap.size, 0, none⟩ = some (.int .i64 D) := Ga.out.cell 0
    have ga1 : wa.cell? ⟨w1.heap.size, 1, none⟩ = some (.slice A7 L.length c7) := Ga.out.cell 1
    have ga2 : wa.cell? ⟨w1.heap.size, 2, none⟩ = some (.int .i64 P) := Ga.out.cell 2
    have ga3 : wa.cell? ⟨w1.heap.size, 3, none⟩ = some (.int .i64 Q) := Ga.out.cell 3
    have ga4 : wa.cell? ⟨w1.heap.size, 4, none⟩ = some (.string d) := Ga.out.cell 4
    have ga5 : wa.cell? ⟨w1.heap.size, 5, none⟩ = some (.string P2) := Ga.out.cell 5
    have ga6 : wa.cell? ⟨w1.heap.size, 6, none⟩ = some (.int .i64 Z2) := Ga.out.cell 6
    have hnea := Lib.hid (own_nb Oa.out Ra.out (by decide))
    go_wp2
    refine bodyPost_ret (v := .tuple #[conV D A7 L.length c7 P Q d P2 Z2, .string (ra)]) (by simp [results, Try.results30, go_sem, *]) rfl ?_
    refine ⟨A7, c7, rfl, ?_, ?_⟩
    · iterate 7 with_reducible refine own_set_nb ?_ hnea.out _
      exact Oa.out
    · iterate 7 with_reducible refine ext_set ?_ (by show w.heap.size ≤ w.heap.size + 1; omega) _
      exact ba.out
end Go.Proofs.Ytclihlihaigddaa
