/- The reference makes a step for a console: l28Make. -/
import Derived.Test.YtkcbgiegoadkbaaGreatVM8
import Derived.Test.YtkcbgiegoadkbaaGreatVM3
namespace Go.Proofs.YtkcbgiegoadkbaaGreat
open Go.RowKit
set_option linter.unusedVariables false
set_option linter.unusedSimpArgs false
/-- the console behind a command, and the reply -/
def afQ (q : Sch4) (o : Option (Sch4 × ByteArray)) : Sch4 := match o with | none => q | some y => y.1
def afT (o : Option (Sch4 × ByteArray)) : ByteArray := match o with | none => ⟨#[63]⟩ | some y => y.2
def RetC (A : Option Addr) (c : Nat) (l : List R5) (q : Sch4) (d p : ByteArray) (z : Int) (o : Option (Sch4 × ByteArray)) (w : World) (e : Ending) (w' : World) : Prop :=
 ∃ (A' : Option Addr) (N c' : Nat) (D P Q : Int) (L : List R5), e = .returned (.tuple #[conV D A' N c' P Q d p z, .string (afT o)]) ∧ afQ q o = (D, L, P, Q) ∧ N = L.length ∧ (w'.ownsRow w.heap.size 111 5 (.slice A' N c') N (rowsV L) ∨ (A' = A ∧ c' = c ∧ L = l)) ∧ Below w.heap.size w w'
/-- a step by a console -/
def mkO (q : Sch4) (k id v : Int) : Option (Sch4 × ByteArray) :=
 (stpQ q k id v).map fun s => (s, if k = 1 then decI s.1 else if k = 6 then listT [s.2.2.1, s.2.2.2] else (stuQ s id).getD ⟨#[63]⟩)
theorem l28List_yes (A : Option Addr) (n c : Nat) (ns : List Int) (w : World) (hn : n ≤ 64) (hz : smallI ns) (h : Reads w w.heap.size 1 A n (intsV ns)) :
 Calls Tryz.prog 93 #[.slice A n c, .bool true] w fun e w' => e = .returned (.string (listT ns)) ∧ Below w.heap.size w w' := by
 have := l28List_any A n c ns true w hn hz h
 rwa [if_pos rfl] at this
set_option maxRecDepth 100000 in
set_option maxHeartbeats 4000000 in
theorem l28Make_1 (day pa le : Int) (d p : ByteArray) (z : Int) (A : Option Addr) (n c : Nat) (l : List R5) (w : World) (hn : n ≤ 8) (hnc : n ≤ c) (hA : SlOk A n c) (h : Reads w w.heap.size 5 A n (rowsV l)) (hs : schB day l pa le = true) (id v : Int) :
 Calls Tryz.prog 95 #[conV day A n c pa le d p z, .agg #[.int .i64 1, .int .i64 id, .int .i64 v]] w (RetC A c l (day, l, pa, le) d p z (mkO (day, l, pa, le) 1 id v) w) := by
 have hHL := rows_len h
 have HST := Lib.hid (fun (w : World) h => (specStep_any day pa le 1 id v A n c l w (by omega) hnc hA h).mono (retUni _ w))
 have hstp : stpB day pa le l 1 id v = stepS day pa le l 1 id v := by unfold stpB; rw [if_pos hs]
 rw [hstp] at HST
 obtain ⟨O, hO⟩ : ∃ O, stepS day pa le l 1 id v = O := ⟨_, rfl⟩
 have hOK : ∀ s, O = some s → schB s.1 s.2.1 s.2.2.1 s.2.2.2 = true := fun s h => stpQ_ok (show stpQ (day, l, pa, le) 1 id v = some s from by rw [← h]; exact hO)
 have hmk : mkO (day, l, pa, le) 1 id v = O.map fun s => (s, decI s.1) := by
  unfold mkO stpQ
  rw [← hO]
  rfl
 rw [hO] at HST
 rw [hmk]
 have H := Lib.hid h
 have HLN := Lib.hid hHL
 clear h hstp hO hmk hHL
 rcases O with _ | ⟨D, L, P, Q⟩
 · go_enter Tryz.func95, Tryz.ntmps95
   go_wp2_with fail
   refine (HST.out _ ((H.out.ext (ext_alloc (ext_alloc (ext_alloc (ext_refl _) _) _) _) (Nat.le_refl _)).more (by simp; omega))).mono ?_
   rintro e w4 ⟨A4, c4, rfl, ho4, hb4⟩
   have z0 : w.heap.size + 1 + 1 < w4.heap.size := by (have := hb4.size; simp at this; omega)
   have z1 : w.heap.size + 1 < w4.heap.size := by omega
   have z2 : w.heap.size < w4.heap.size := by omega
   have BX : Hid (Blk w4 w.heap.size 34 #[.int .i64 day, .slice A n c, .int .i64 pa, .int .i64 le, .string d, .string p, .int .i64 z]) := Lib.hid (((Blk.new w _ _).ext (ext_alloc (ext_alloc (ext_refl _) _) _)).ext hb4)
   have BY : Hid (Blk w4 (w.heap.size + 1) 82 #[.int .i64 1, .int .i64 id, .int .i64 v]) := Lib.hid (by
    have := ((Blk.new (w.alloc (.cells #[.int .i64 day, .slice A n c, .int .i64 pa, .int .i64 le, .string d, .string p, .int .i64 z] 34)) #[.int .i64 1, .int .i64 id, .int .i64 v] 82).ext (ext_alloc (ext_refl _) (.cells #[.int .i64 0, .slice none 0 0, .int .i64 0, .int .i64 0, .string ⟨#[]⟩, .string ⟨#[]⟩, .int .i64 0] 34))).ext hb4
    simpa using this)
   have BR : Hid (Blk w4 (w.heap.size + 1 + 1) 34 #[.int .i64 0, .slice none 0 0, .int .i64 0, .int .i64 0, .string ⟨#[]⟩, .string ⟨#[]⟩, .int .i64 0]) := Lib.hid (by
    have := (Blk.new ((w.alloc (.cells #[.int .i64 day, .slice A n c, .int .i64 pa, .int .i64 le, .string d, .string p, .int .i64 z] 34)).alloc (.cells #[.int .i64 1, .int .i64 id, .int .i64 v] 82)) #[.int .i64 0, .slice none 0 0, .int .i64 0, .int .i64 0, .string ⟨#[]⟩, .string ⟨#[]⟩, .int .i64 0] 34).ext hb4
    simpa using this)
   have b4 := Lib.hid (ext_trans (ext_alloc (ext_alloc (ext_alloc (ext_refl w) _) _) _) hb4)
   have O4 := Lib.hid (own_base (base' := w.heap.size) ho4 (by simp; omega))
   clear hb4 ho4
   obtain ⟨x0, x1, x2, x3, x4, x5, x6⟩ := BX.out.q7
   obtain ⟨r0, r1, r2, r3, r4, r5, r6⟩ := BR.out.q7
   obtain ⟨fr0, fr1, fr2, fr3, fr4, fr5, fr6⟩ := BR.out.z7
   go_wp2
   refine bodyPost_ret (v := .tuple #[conV day A n c pa le d p z, .string ⟨#[63]⟩]) (by simp [results, Tryz.results95, go_sem, *]) rfl ?_
   refine ⟨A, n, c, day, pa, le, l, rfl, rfl, HLN.out.symm, .inr ⟨rfl, rfl, rfl⟩, ?_⟩
   repeat (first | (with_reducible exact b4.out) | (with_reducible refine ext_set ?_ (by show w.heap.size ≤ w.heap.size + 1 + 1; omega) _) | (with_reducible refine ext_alloc ?_ _))
 · have hsL := hOK _ rfl
   obtain ⟨hD0, hD1⟩ := schB_day hsL
   obtain ⟨⟨hP0, hP1⟩, ⟨hQ0, hQ1⟩⟩ := schB_pa hsL
   have hL8 := schB_len hsL
   have hL8 : L.length ≤ 8 := hL8
   clear hsL hOK
   have hSome : (some ((D, L, P, Q) : Sch4)).isSome = true := rfl
   simp only [oD, oL, oP, oQ] at HST
   go_enter Tryz.func95, Tryz.ntmps95
   go_wp2_with fail
   refine (HST.out _ ((H.out.ext (ext_alloc (ext_alloc (ext_alloc (ext_refl _) _) _) _) (Nat.le_refl _)).more (by simp; omega))).mono ?_
   rintro e w4 ⟨A4, c4, rfl, ho4, hb4⟩
   have z0 : w.heap.size + 1 + 1 < w4.heap.size := by (have := hb4.size; simp at this; omega)
   have z1 : w.heap.size + 1 < w4.heap.size := by omega
   have z2 : w.heap.size < w4.heap.size := by omega
   have BX : Hid (Blk w4 w.heap.size 34 #[.int .i64 day, .slice A n c, .int .i64 pa, .int .i64 le, .string d, .string p, .int .i64 z]) := Lib.hid (((Blk.new w _ _).ext (ext_alloc (ext_alloc (ext_refl _) _) _)).ext hb4)
   have BY : Hid (Blk w4 (w.heap.size + 1) 82 #[.int .i64 1, .int .i64 id, .int .i64 v]) := Lib.hid (by
    have := ((Blk.new (w.alloc (.cells #[.int .i64 day, .slice A n c, .int .i64 pa, .int .i64 le, .string d, .string p, .int .i64 z] 34)) #[.int .i64 1, .int .i64 id, .int .i64 v] 82).ext (ext_alloc (ext_refl _) (.cells #[.int .i64 0, .slice none 0 0, .int .i64 0, .int .i64 0, .string ⟨#[]⟩, .string ⟨#[]⟩, .int .i64 0] 34))).ext hb4
    simpa using this)
   have BR : Hid (Blk w4 (w.heap.size + 1 + 1) 34 #[.int .i64 0, .slice none 0 0, .int .i64 0, .int .i64 0, .string ⟨#[]⟩, .string ⟨#[]⟩, .int .i64 0]) := Lib.hid (by
    have := (Blk.new ((w.alloc (.cells #[.int .i64 day, .slice A n c, .int .i64 pa, .int .i64 le, .string d, .string p, .int .i64 z] 34)).alloc (.cells #[.int .i64 1, .int .i64 id, .int .i64 v] 82)) #[.int .i64 0, .slice none 0 0, .int .i64 0, .int .i64 0, .string ⟨#[]⟩, .string ⟨#[]⟩, .int .i64 0] 34).ext hb4
    simpa using this)
   have b4 := Lib.hid (ext_trans (ext_alloc (ext_alloc (ext_alloc (ext_refl w) _) _) _) hb4)
   have O4 := Lib.hid (own_base (base' := w.heap.size) ho4 (by simp; omega))
   clear hb4 ho4
   obtain ⟨x0, x1, x2, x3, x4, x5, x6⟩ := BX.out.q7
   obtain ⟨y0, y1, y2⟩ := BY.out.q3
   obtain ⟨w5, hw5⟩ : ∃ w5, w5 = ((w4.alloc (.cells #[.int .i64 D, .slice A4 L.length c4, .int .i64 P, .int .i64 Q] 32)).alloc (.cells #[.int .i64 D, .slice A4 L.length c4, .int .i64 P, .int .i64 Q, .string d, .string p, .int .i64 z] 34)) := ⟨_, rfl⟩
   have e5 : Below w4.heap.size w4 w5 := by rw [hw5]; exact ext_alloc (ext_alloc (ext_refl _) _) _
   have G6 : Hid (Blk w5 w4.heap.size 32 #[.int .i64 D, .slice A4 L.length c4, .int .i64 P, .int .i64 Q]) := Lib.hid (by rw [hw5]; exact (Blk.new w4 _ _).ext (ext_alloc (ext_refl _) _))
   have G8 : Hid (Blk w5 (w4.heap.size + 1) 34 #[.int .i64 D, .slice A4 L.length c4, .int .i64 P, .int .i64 Q, .string d, .string p, .int .i64 z]) := Lib.hid (by
    rw [hw5]
    have := Blk.new (w4.alloc (.cells #[.int .i64 D, .slice A4 L.length c4, .int .i64 P, .int .i64 Q] 32)) #[.int .i64 D, .slice A4 L.length c4, .int .i64 P, .int .i64 Q, .string d, .string p, .int .i64 z] 34
    simpa using this)
   have R5 := Lib.hid (BR.out.ext e5)
   have Y5 := Lib.hid (BY.out.ext e5)
   have b5 := Lib.hid (ext_trans b4.out e5)
   have O5 := Lib.hid (own_ext O4.out e5)
   have hne5 := Lib.hid (own_nb O5.out R5.out (by decide))
   have s5 : w4.heap.size + 1 < w5.heap.size := by rw [hw5]; simp
   clear e5
   go_wp2_with fail
   rw [← hw5]
   clear hw5 x0 x1 x2 x3 x4 x5 x6 y0 y1 y2
   obtain ⟨g0, g1, g2, g3⟩ := G6.out.q4
   obtain ⟨q0, q1, q2, q3, q4, q5, q6⟩ := G8.out.q7
   obtain ⟨y0, y1, y2⟩ := Y5.out.q3
   have sg0 : w4.heap.size < w5.heap.size := by omega
   have sy0 : w.heap.size + 1 < w5.heap.size := by omega
   have sr0 : w.heap.size + 1 + 1 < w5.heap.size := by omega
   go_region_held3 (fun w' => w'.cell? ⟨w4.heap.size + 1, 0, none⟩ = some (.int .i64 D) ∧ w'.cell? ⟨w4.heap.size + 1, 1, none⟩ = some (.slice A4 L.length c4) ∧ w'.cell? ⟨w4.heap.size + 1, 2, none⟩ = some (.int .i64 P) ∧ w'.cell? ⟨w4.heap.size + 1, 3, none⟩ = some (.int .i64 Q) ∧ w'.cell? ⟨w4.heap.size + 1, 4, none⟩ = some (.string d) ∧ w'.cell? ⟨w4.heap.size + 1, 5, none⟩ = some (.string p) ∧ w'.cell? ⟨w4.heap.size + 1, 6, none⟩ = some (.int .i64 z) ∧ w'.cell? ⟨w4.heap.size, 0, none⟩ = some (.int .i64 D) ∧ w'.cell? ⟨w4.heap.size, 1, none⟩ = some (.slice A4 L.length c4) ∧ w'.cell? ⟨w4.heap.size, 2, none⟩ = some (.int .i64 P) ∧ w'.cell? ⟨w4.heap.size, 3, none⟩ = some (.int .i64 Q) ∧ w'.cell? ⟨w.heap.size + 1, 0, none⟩ = some (.int .i64 1) ∧ w'.cell? ⟨w.heap.size + 1, 1, none⟩ = some (.int .i64 id) ∧ w'.cell? ⟨w.heap.size + 1, 2, none⟩ = some (.int .i64 v)) (first | (go_split_ands; ((repeat' refine And.intro ?_ ?_) <;> with_reducible (repeat (first | assumption | refine cell_drew ?_ | refine cell_old ?_ _ | refine ext_cell hb8 ?_ | refine cell_set_far (by first | (show w.heap.size + 1 + 1 ≠ w4.heap.size + 1; omega) | (show w.heap.size + 1 + 1 ≠ w4.heap.size; omega) | (show w.heap.size + 1 + 1 ≠ w.heap.size + 1; omega)) ?_))))) (first | (go_at_call 45; refine (l1Num_any D _ (by omega) (by omega)).mono ?_; rintro e w8 ⟨rfl, hb8⟩; have HB8 := Lib.hid hb8; obtain ⟨hc8, hf8⟩ := bcell hb8; have zs8 := hb8.size; have zR8 : w.heap.size + 1 + 1 < w8.heap.size := (by (try simp at zs8); omega); (try (have R8 := (R5).out.ext (ext_trans (ext_drew (ext_refl _)) hb8); obtain ⟨z80, z81, z82, z83, z84, z85, z86⟩ := R8.q7; obtain ⟨fz80, fz81, fz82, fz83, fz84, fz85, fz86⟩ := R8.z7; clear R8)); (try (have R8 := (R5).out.ext (ext_trans (ext_alloc (ext_drew (ext_refl _)) _) hb8); obtain ⟨z80, z81, z82, z83, z84, z85, z86⟩ := R8.q7; obtain ⟨fz80, fz81, fz82, fz83, fz84, fz85, fz86⟩ := R8.z7; clear R8)); (try (have R8 := (R5).out.ext (ext_trans (ext_drew (ext_alloc (ext_refl _) _)) hb8); obtain ⟨z80, z81, z82, z83, z84, z85, z86⟩ := R8.q7; obtain ⟨fz80, fz81, fz82, fz83, fz84, fz85, fz86⟩ := R8.z7; clear R8))))
   all_goals go_wp2
   all_goals
    refine bodyPost_ret (v := .tuple #[conV D A4 L.length c4 P Q d p z, .string (decI D)]) (by simp [results, Tryz.results95, go_sem, *]) rfl ?_
    refine ⟨A4, L.length, c4, D, P, Q, L, rfl, rfl, rfl, .inl ?_, ?_⟩
    · exact (by (repeat (first | (with_reducible exact O5.out) | (with_reducible refine World.ownsRow.drew ?_) | (with_reducible refine World.ownsRow.alloc ?_ _) | (with_reducible refine own_set_nb ?_ hne5.out _) | refine own_ext ?_ HB8.out)))
    · exact (by repeat (first | (with_reducible exact b5.out) | (with_reducible refine ext_drew ?_) | (with_reducible refine ext_alloc ?_ _) | (with_reducible refine ext_set ?_ (by show w.heap.size ≤ w.heap.size + 1 + 1; omega) _) | refine ext_trans ?_ HB8.out))
set_option maxRecDepth 100000 in
set_option maxHeartbeats 4000000 in
theorem l28Make_6 (day pa le : Int) (d p : ByteArray) (z : Int) (A : Option Addr) (n c : Nat) (l : List R5) (w : World) (hn : n ≤ 8) (hnc : n ≤ c) (hA : SlOk A n c) (h : Reads w w.heap.size 5 A n (rowsV l)) (hs : schB day l pa le = true) (id v : Int) :
 Calls Tryz.prog 95 #[conV day A n c pa le d p z, .agg #[.int .i64 6, .int .i64 id, .int .i64 v]] w (RetC A c l (day, l, pa, le) d p z (mkO (day, l, pa, le) 6 id v) w) := by
 have hHL := rows_len h
 have HST := Lib.hid (fun (w : World) h => (specStep_any day pa le 6 id v A n c l w (by omega) hnc hA h).mono (retUni _ w))
 have hstp : stpB day pa le l 6 id v = stepS day pa le l 6 id v := by unfold stpB; rw [if_pos hs]
 rw [hstp] at HST
 obtain ⟨O, hO⟩ : ∃ O, stepS day pa le l 6 id v = O := ⟨_, rfl⟩
 have hOK : ∀ s, O = some s → schB s.1 s.2.1 s.2.2.1 s.2.2.2 = true := fun s h => stpQ_ok (show stpQ (day, l, pa, le) 6 id v = some s from by rw [← h]; exact hO)
 have hmk : mkO (day, l, pa, le) 6 id v = O.map fun s => (s, listT [s.2.2.1, s.2.2.2]) := by
  unfold mkO stpQ
  rw [← hO]
  rfl
 rw [hO] at HST
 rw [hmk]
 have H := Lib.hid h
 have HLN := Lib.hid hHL
 clear h hstp hO hmk hHL
 rcases O with _ | ⟨D, L, P, Q⟩
 · go_enter Tryz.func95, Tryz.ntmps95
   go_wp2_with fail
   refine (HST.out _ ((H.out.ext (ext_alloc (ext_alloc (ext_alloc (ext_refl _) _) _) _) (Nat.le_refl _)).more (by simp; omega))).mono ?_
   rintro e w4 ⟨A4, c4, rfl, ho4, hb4⟩
   have z0 : w.heap.size + 1 + 1 < w4.heap.size := by (have := hb4.size; simp at this; omega)
   have z1 : w.heap.size + 1 < w4.heap.size := by omega
   have z2 : w.heap.size < w4.heap.size := by omega
   have BX : Hid (Blk w4 w.heap.size 34 #[.int .i64 day, .slice A n c, .int .i64 pa, .int .i64 le, .string d, .string p, .int .i64 z]) := Lib.hid (((Blk.new w _ _).ext (ext_alloc (ext_alloc (ext_refl _) _) _)).ext hb4)
   have BY : Hid (Blk w4 (w.heap.size + 1) 82 #[.int .i64 6, .int .i64 id, .int .i64 v]) := Lib.hid (by
    have := ((Blk.new (w.alloc (.cells #[.int .i64 day, .slice A n c, .int .i64 pa, .int .i64 le, .string d, .string p, .int .i64 z] 34)) #[.int .i64 6, .int .i64 id, .int .i64 v] 82).ext (ext_alloc (ext_refl _) (.cells #[.int .i64 0, .slice none 0 0, .int .i64 0, .int .i64 0, .string ⟨#[]⟩, .string ⟨#[]⟩, .int .i64 0] 34))).ext hb4
    simpa using this)
   have BR : Hid (Blk w4 (w.heap.size + 1 + 1) 34 #[.int .i64 0, .slice none 0 0, .int .i64 0, .int .i64 0, .string ⟨#[]⟩, .string ⟨#[]⟩, .int .i64 0]) := Lib.hid (by
    have := (Blk.new ((w.alloc (.cells #[.int .i64 day, .slice A n c, .int .i64 pa, .int .i64 le, .string d, .string p, .int .i64 z] 34)).alloc (.cells #[.int .i64 6, .int .i64 id, .int .i64 v] 82)) #[.int .i64 0, .slice none 0 0, .int .i64 0, .int .i64 0, .string ⟨#[]⟩, .string ⟨#[]⟩, .int .i64 0] 34).ext hb4
    simpa using this)
   have b4 := Lib.hid (ext_trans (ext_alloc (ext_alloc (ext_alloc (ext_refl w) _) _) _) hb4)
   have O4 := Lib.hid (own_base (base' := w.heap.size) ho4 (by simp; omega))
   clear hb4 ho4
   obtain ⟨x0, x1, x2, x3, x4, x5, x6⟩ := BX.out.q7
   obtain ⟨r0, r1, r2, r3, r4, r5, r6⟩ := BR.out.q7
   obtain ⟨fr0, fr1, fr2, fr3, fr4, fr5, fr6⟩ := BR.out.z7
   go_wp2
   refine bodyPost_ret (v := .tuple #[conV day A n c pa le d p z, .string ⟨#[63]⟩]) (by simp [results, Tryz.results95, go_sem, *]) rfl ?_
   refine ⟨A, n, c, day, pa, le, l, rfl, rfl, HLN.out.symm, .inr ⟨rfl, rfl, rfl⟩, ?_⟩
   repeat (first | (with_reducible exact b4.out) | (with_reducible refine ext_set ?_ (by show w.heap.size ≤ w.heap.size + 1 + 1; omega) _) | (with_reducible refine ext_alloc ?_ _))
 · have hsL := hOK _ rfl
   obtain ⟨hD0, hD1⟩ := schB_day hsL
   obtain ⟨⟨hP0, hP1⟩, ⟨hQ0, hQ1⟩⟩ := schB_pa hsL
   have hL8 := schB_len hsL
   have hL8 : L.length ≤ 8 := hL8
   clear hsL hOK
   have hSome : (some ((D, L, P, Q) : Sch4)).isSome = true := rfl
   simp only [oD, oL, oP, oQ] at HST
   go_enter Tryz.func95, Tryz.ntmps95
   go_wp2_with fail
   refine (HST.out _ ((H.out.ext (ext_alloc (ext_alloc (ext_alloc (ext_refl _) _) _) _) (Nat.le_refl _)).more (by simp; omega))).mono ?_
   rintro e w4 ⟨A4, c4, rfl, ho4, hb4⟩
   have z0 : w.heap.size + 1 + 1 < w4.heap.size := by (have := hb4.size; simp at this; omega)
   have z1 : w.heap.size + 1 < w4.heap.size := by omega
   have z2 : w.heap.size < w4.heap.size := by omega
   have BX : Hid (Blk w4 w.heap.size 34 #[.int .i64 day, .slice A n c, .int .i64 pa, .int .i64 le, .string d, .string p, .int .i64 z]) := Lib.hid (((Blk.new w _ _).ext (ext_alloc (ext_alloc (ext_refl _) _) _)).ext hb4)
   have BY : Hid (Blk w4 (w.heap.size + 1) 82 #[.int .i64 6, .int .i64 id, .int .i64 v]) := Lib.hid (by
    have := ((Blk.new (w.alloc (.cells #[.int .i64 day, .slice A n c, .int .i64 pa, .int .i64 le, .string d, .string p, .int .i64 z] 34)) #[.int .i64 6, .int .i64 id, .int .i64 v] 82).ext (ext_alloc (ext_refl _) (.cells #[.int .i64 0, .slice none 0 0, .int .i64 0, .int .i64 0, .string ⟨#[]⟩, .string ⟨#[]⟩, .int .i64 0] 34))).ext hb4
    simpa using this)
   have BR : Hid (Blk w4 (w.heap.size + 1 + 1) 34 #[.int .i64 0, .slice none 0 0, .int .i64 0, .int .i64 0, .string ⟨#[]⟩, .string ⟨#[]⟩, .int .i64 0]) := Lib.hid (by
    have := (Blk.new ((w.alloc (.cells #[.int .i64 day, .slice A n c, .int .i64 pa, .int .i64 le, .string d, .string p, .int .i64 z] 34)).alloc (.cells #[.int .i64 6, .int .i64 id, .int .i64 v] 82)) #[.int .i64 0, .slice none 0 0, .int .i64 0, .int .i64 0, .string ⟨#[]⟩, .string ⟨#[]⟩, .int .i64 0] 34).ext hb4
    simpa using this)
   have b4 := Lib.hid (ext_trans (ext_alloc (ext_alloc (ext_alloc (ext_refl w) _) _) _) hb4)
   have O4 := Lib.hid (own_base (base' := w.heap.size) ho4 (by simp; omega))
   clear hb4 ho4
   obtain ⟨x0, x1, x2, x3, x4, x5, x6⟩ := BX.out.q7
   obtain ⟨y0, y1, y2⟩ := BY.out.q3
   obtain ⟨w5, hw5⟩ : ∃ w5, w5 = ((w4.alloc (.cells #[.int .i64 D, .slice A4 L.length c4, .int .i64 P, .int .i64 Q] 32)).alloc (.cells #[.int .i64 D, .slice A4 L.length c4, .int .i64 P, .int .i64 Q, .string d, .string p, .int .i64 z] 34)) := ⟨_, rfl⟩
   have e5 : Below w4.heap.size w4 w5 := by rw [hw5]; exact ext_alloc (ext_alloc (ext_refl _) _) _
   have G6 : Hid (Blk w5 w4.heap.size 32 #[.int .i64 D, .slice A4 L.length c4, .int .i64 P, .int .i64 Q]) := Lib.hid (by rw [hw5]; exact (Blk.new w4 _ _).ext (ext_alloc (ext_refl _) _))
   have G8 : Hid (Blk w5 (w4.heap.size + 1) 34 #[.int .i64 D, .slice A4 L.length c4, .int .i64 P, .int .i64 Q, .string d, .string p, .int .i64 z]) := Lib.hid (by
    rw [hw5]
    have := Blk.new (w4.alloc (.cells #[.int .i64 D, .slice A4 L.length c4, .int .i64 P, .int .i64 Q] 32)) #[.int .i64 D, .slice A4 L.length c4, .int .i64 P, .int .i64 Q, .string d, .string p, .int .i64 z] 34
    simpa using this)
   have R5 := Lib.hid (BR.out.ext e5)
   have Y5 := Lib.hid (BY.out.ext e5)
   have b5 := Lib.hid (ext_trans b4.out e5)
   have O5 := Lib.hid (own_ext O4.out e5)
   have hne5 := Lib.hid (own_nb O5.out R5.out (by decide))
   have s5 : w4.heap.size + 1 < w5.heap.size := by rw [hw5]; simp
   clear e5
   go_wp2_with fail
   rw [← hw5]
   clear hw5 x0 x1 x2 x3 x4 x5 x6 y0 y1 y2
   obtain ⟨g0, g1, g2, g3⟩ := G6.out.q4
   obtain ⟨q0, q1, q2, q3, q4, q5, q6⟩ := G8.out.q7
   obtain ⟨y0, y1, y2⟩ := Y5.out.q3
   have sg0 : w4.heap.size < w5.heap.size := by omega
   have sy0 : w.heap.size + 1 < w5.heap.size := by omega
   have sr0 : w.heap.size + 1 + 1 < w5.heap.size := by omega
   go_region_held3 (fun w' => w'.cell? ⟨w4.heap.size + 1, 0, none⟩ = some (.int .i64 D) ∧ w'.cell? ⟨w4.heap.size + 1, 1, none⟩ = some (.slice A4 L.length c4) ∧ w'.cell? ⟨w4.heap.size + 1, 2, none⟩ = some (.int .i64 P) ∧ w'.cell? ⟨w4.heap.size + 1, 3, none⟩ = some (.int .i64 Q) ∧ w'.cell? ⟨w4.heap.size + 1, 4, none⟩ = some (.string d) ∧ w'.cell? ⟨w4.heap.size + 1, 5, none⟩ = some (.string p) ∧ w'.cell? ⟨w4.heap.size + 1, 6, none⟩ = some (.int .i64 z) ∧ w'.cell? ⟨w4.heap.size, 0, none⟩ = some (.int .i64 D) ∧ w'.cell? ⟨w4.heap.size, 1, none⟩ = some (.slice A4 L.length c4) ∧ w'.cell? ⟨w4.heap.size, 2, none⟩ = some (.int .i64 P) ∧ w'.cell? ⟨w4.heap.size, 3, none⟩ = some (.int .i64 Q) ∧ w'.cell? ⟨w.heap.size + 1, 0, none⟩ = some (.int .i64 6) ∧ w'.cell? ⟨w.heap.size + 1, 1, none⟩ = some (.int .i64 id) ∧ w'.cell? ⟨w.heap.size + 1, 2, none⟩ = some (.int .i64 v)) (first | (go_split_ands; ((repeat' refine And.intro ?_ ?_) <;> with_reducible (repeat (first | assumption | refine cell_drew ?_ | refine cell_old ?_ _ | refine ext_cell hb8 ?_ | refine cell_set_far (by first | (show w.heap.size + 1 + 1 ≠ w4.heap.size + 1; omega) | (show w.heap.size + 1 + 1 ≠ w4.heap.size; omega) | (show w.heap.size + 1 + 1 ≠ w.heap.size + 1; omega)) ?_))))) (first | (go_at_call 93; refine (l28List_yes _ 2 2 [P, Q] _ (by omega) (small2 (by omega) (by omega)) (reads_two (by first | (with_reducible exact Blk.new _ _ _) | (iterate 7 with_reducible refine Blk.set_far ?_ (by (try simp); omega) _; exact Blk.new _ _ _) | (refine Blk.ext ?_ (ext_drew (ext_refl _)); with_reducible exact Blk.new _ _ _)))).mono ?_; rintro e w8 ⟨rfl, hb8⟩; have HB8 := Lib.hid hb8; have zs8 := hb8.size; have zR8 : w.heap.size + 1 + 1 < w8.heap.size := (by (try simp at zs8); omega); (try (have R8 := (R5).out.ext (ext_trans (ext_drew (ext_refl _)) hb8); obtain ⟨z80, z81, z82, z83, z84, z85, z86⟩ := R8.q7; obtain ⟨fz80, fz81, fz82, fz83, fz84, fz85, fz86⟩ := R8.z7; clear R8)); (try (have R8 := (R5).out.ext (ext_trans (ext_alloc (ext_drew (ext_refl _)) _) hb8); obtain ⟨z80, z81, z82, z83, z84, z85, z86⟩ := R8.q7; obtain ⟨fz80, fz81, fz82, fz83, fz84, fz85, fz86⟩ := R8.z7; clear R8)); (try (have R8 := (R5).out.ext (ext_trans (ext_drew (ext_alloc (ext_refl _) _)) hb8); obtain ⟨z80, z81, z82, z83, z84, z85, z86⟩ := R8.q7; obtain ⟨fz80, fz81, fz82, fz83, fz84, fz85, fz86⟩ := R8.z7; clear R8))))
   all_goals go_wp2
   all_goals
    refine bodyPost_ret (v := .tuple #[conV D A4 L.length c4 P Q d p z, .string (listT [P, Q])]) (by simp [results, Tryz.results95, go_sem, *]) rfl ?_
    refine ⟨A4, L.length, c4, D, P, Q, L, rfl, rfl, rfl, .inl ?_, ?_⟩
    · exact (by (repeat (first | (with_reducible exact O5.out) | (with_reducible refine World.ownsRow.drew ?_) | (with_reducible refine World.ownsRow.alloc ?_ _) | (with_reducible refine own_set_nb ?_ hne5.out _) | refine own_ext ?_ HB8.out)))
    · exact (by repeat (first | (with_reducible exact b5.out) | (with_reducible refine ext_drew ?_) | (with_reducible refine ext_alloc ?_ _) | (with_reducible refine ext_set ?_ (by show w.heap.size ≤ w.heap.size + 1 + 1; omega) _) | refine ext_trans ?_ HB8.out))
set_option maxRecDepth 100000 in
set_option maxHeartbeats 4000000 in
theorem l28Make_k (day pa le : Int) (d p : ByteArray) (z : Int) (A : Option Addr) (n c : Nat) (l : List R5) (w : World) (hn : n ≤ 8) (hnc : n ≤ c) (hA : SlOk A n c) (h : Reads w w.heap.size 5 A n (rowsV l)) (hs : schB day l pa le = true) (k id v : Int) (hk1 : ¬ k = 1) (hk6 : ¬ k = 6) (hk1' : (k == 1) = false) (hk6' : (k == 6) = false) :
 Calls Tryz.prog 95 #[conV day A n c pa le d p z, .agg #[.int .i64 k, .int .i64 id, .int .i64 v]] w (RetC A c l (day, l, pa, le) d p z (mkO (day, l, pa, le) k id v) w) := by
 have hHL := rows_len h
 have HST := Lib.hid (fun (w : World) h => (specStep_any day pa le k id v A n c l w (by omega) hnc hA h).mono (retUni _ w))
 have hstp : stpB day pa le l k id v = stepS day pa le l k id v := by unfold stpB; rw [if_pos hs]
 rw [hstp] at HST
 obtain ⟨O, hO⟩ : ∃ O, stepS day pa le l k id v = O := ⟨_, rfl⟩
 have hOK : ∀ s, O = some s → schB s.1 s.2.1 s.2.2.1 s.2.2.2 = true := fun s h => stpQ_ok (show stpQ (day, l, pa, le) k id v = some s from by rw [← h]; exact hO)
 have hmk : mkO (day, l, pa, le) k id v = O.map fun s => (s, (stuO s.1 s.2.2.1 s.2.2.2 s.2.1 id).getD ⟨#[63]⟩) := by
  unfold mkO stpQ
  rw [← hO]
  simp only [if_neg hk1, if_neg hk6]; rfl
 rw [hO] at HST
 rw [hmk]
 have H := Lib.hid h
 have HLN := Lib.hid hHL
 clear h hstp hO hmk hHL
 rcases O with _ | ⟨D, L, P, Q⟩
 · go_enter Tryz.func95, Tryz.ntmps95
   go_wp2_with fail
   refine (HST.out _ ((H.out.ext (ext_alloc (ext_alloc (ext_alloc (ext_refl _) _) _) _) (Nat.le_refl _)).more (by simp; omega))).mono ?_
   rintro e w4 ⟨A4, c4, rfl, ho4, hb4⟩
   have z0 : w.heap.size + 1 + 1 < w4.heap.size := by (have := hb4.size; simp at this; omega)
   have z1 : w.heap.size + 1 < w4.heap.size := by omega
   have z2 : w.heap.size < w4.heap.size := by omega
   have BX : Hid (Blk w4 w.heap.size 34 #[.int .i64 day, .slice A n c, .int .i64 pa, .int .i64 le, .string d, .string p, .int .i64 z]) := Lib.hid (((Blk.new w _ _).ext (ext_alloc (ext_alloc (ext_refl _) _) _)).ext hb4)
   have BY : Hid (Blk w4 (w.heap.size + 1) 82 #[.int .i64 k, .int .i64 id, .int .i64 v]) := Lib.hid (by
    have := ((Blk.new (w.alloc (.cells #[.int .i64 day, .slice A n c, .int .i64 pa, .int .i64 le, .string d, .string p, .int .i64 z] 34)) #[.int .i64 k, .int .i64 id, .int .i64 v] 82).ext (ext_alloc (ext_refl _) (.cells #[.int .i64 0, .slice none 0 0, .int .i64 0, .int .i64 0, .string ⟨#[]⟩, .string ⟨#[]⟩, .int .i64 0] 34))).ext hb4
    simpa using this)
   have BR : Hid (Blk w4 (w.heap.size + 1 + 1) 34 #[.int .i64 0, .slice none 0 0, .int .i64 0, .int .i64 0, .string ⟨#[]⟩, .string ⟨#[]⟩, .int .i64 0]) := Lib.hid (by
    have := (Blk.new ((w.alloc (.cells #[.int .i64 day, .slice A n c, .int .i64 pa, .int .i64 le, .string d, .string p, .int .i64 z] 34)).alloc (.cells #[.int .i64 k, .int .i64 id, .int .i64 v] 82)) #[.int .i64 0, .slice none 0 0, .int .i64 0, .int .i64 0, .string ⟨#[]⟩, .string ⟨#[]⟩, .int .i64 0] 34).ext hb4
    simpa using this)
   have b4 := Lib.hid (ext_trans (ext_alloc (ext_alloc (ext_alloc (ext_refl w) _) _) _) hb4)
   have O4 := Lib.hid (own_base (base' := w.heap.size) ho4 (by simp; omega))
   clear hb4 ho4
   obtain ⟨x0, x1, x2, x3, x4, x5, x6⟩ := BX.out.q7
   obtain ⟨r0, r1, r2, r3, r4, r5, r6⟩ := BR.out.q7
   obtain ⟨fr0, fr1, fr2, fr3, fr4, fr5, fr6⟩ := BR.out.z7
   go_wp2
   refine bodyPost_ret (v := .tuple #[conV day A n c pa le d p z, .string ⟨#[63]⟩]) (by simp [results, Tryz.results95, go_sem, *]) rfl ?_
   refine ⟨A, n, c, day, pa, le, l, rfl, rfl, HLN.out.symm, .inr ⟨rfl, rfl, rfl⟩, ?_⟩
   repeat (first | (with_reducible exact b4.out) | (with_reducible refine ext_set ?_ (by show w.heap.size ≤ w.heap.size + 1 + 1; omega) _) | (with_reducible refine ext_alloc ?_ _))
 · have hsL := hOK _ rfl
   obtain ⟨hD0, hD1⟩ := schB_day hsL
   obtain ⟨⟨hP0, hP1⟩, ⟨hQ0, hQ1⟩⟩ := schB_pa hsL
   have hL8 := schB_len hsL
   have hL8 : L.length ≤ 8 := hL8
   clear hsL hOK
   have hSome : (some ((D, L, P, Q) : Sch4)).isSome = true := rfl
   simp only [oD, oL, oP, oQ] at HST
   go_enter Tryz.func95, Tryz.ntmps95
   go_wp2_with fail
   refine (HST.out _ ((H.out.ext (ext_alloc (ext_alloc (ext_alloc (ext_refl _) _) _) _) (Nat.le_refl _)).more (by simp; omega))).mono ?_
   rintro e w4 ⟨A4, c4, rfl, ho4, hb4⟩
   have z0 : w.heap.size + 1 + 1 < w4.heap.size := by (have := hb4.size; simp at this; omega)
   have z1 : w.heap.size + 1 < w4.heap.size := by omega
   have z2 : w.heap.size < w4.heap.size := by omega
   have BX : Hid (Blk w4 w.heap.size 34 #[.int .i64 day, .slice A n c, .int .i64 pa, .int .i64 le, .string d, .string p, .int .i64 z]) := Lib.hid (((Blk.new w _ _).ext (ext_alloc (ext_alloc (ext_refl _) _) _)).ext hb4)
   have BY : Hid (Blk w4 (w.heap.size + 1) 82 #[.int .i64 k, .int .i64 id, .int .i64 v]) := Lib.hid (by
    have := ((Blk.new (w.alloc (.cells #[.int .i64 day, .slice A n c, .int .i64 pa, .int .i64 le, .string d, .string p, .int .i64 z] 34)) #[.int .i64 k, .int .i64 id, .int .i64 v] 82).ext (ext_alloc (ext_refl _) (.cells #[.int .i64 0, .slice none 0 0, .int .i64 0, .int .i64 0, .string ⟨#[]⟩, .string ⟨#[]⟩, .int .i64 0] 34))).ext hb4
    simpa using this)
   have BR : Hid (Blk w4 (w.heap.size + 1 + 1) 34 #[.int .i64 0, .slice none 0 0, .int .i64 0, .int .i64 0, .string ⟨#[]⟩, .string ⟨#[]⟩, .int .i64 0]) := Lib.hid (by
    have := (Blk.new ((w.alloc (.cells #[.int .i64 day, .slice A n c, .int .i64 pa, .int .i64 le, .string d, .string p, .int .i64 z] 34)).alloc (.cells #[.int .i64 k, .int .i64 id, .int .i64 v] 82)) #[.int .i64 0, .slice none 0 0, .int .i64 0, .int .i64 0, .string ⟨#[]⟩, .string ⟨#[]⟩, .int .i64 0] 34).ext hb4
    simpa using this)
   have b4 := Lib.hid (ext_trans (ext_alloc (ext_alloc (ext_alloc (ext_refl w) _) _) _) hb4)
   have O4 := Lib.hid (own_base (base' := w.heap.size) ho4 (by simp; omega))
   clear hb4 ho4
   obtain ⟨x0, x1, x2, x3, x4, x5, x6⟩ := BX.out.q7
   obtain ⟨y0, y1, y2⟩ := BY.out.q3
   obtain ⟨w5, hw5⟩ : ∃ w5, w5 = ((w4.alloc (.cells #[.int .i64 D, .slice A4 L.length c4, .int .i64 P, .int .i64 Q] 32)).alloc (.cells #[.int .i64 D, .slice A4 L.length c4, .int .i64 P, .int .i64 Q, .string d, .string p, .int .i64 z] 34)) := ⟨_, rfl⟩
   have e5 : Below w4.heap.size w4 w5 := by rw [hw5]; exact ext_alloc (ext_alloc (ext_refl _) _) _
   have G6 : Hid (Blk w5 w4.heap.size 32 #[.int .i64 D, .slice A4 L.length c4, .int .i64 P, .int .i64 Q]) := Lib.hid (by rw [hw5]; exact (Blk.new w4 _ _).ext (ext_alloc (ext_refl _) _))
   have G8 : Hid (Blk w5 (w4.heap.size + 1) 34 #[.int .i64 D, .slice A4 L.length c4, .int .i64 P, .int .i64 Q, .string d, .string p, .int .i64 z]) := Lib.hid (by
    rw [hw5]
    have := Blk.new (w4.alloc (.cells #[.int .i64 D, .slice A4 L.length c4, .int .i64 P, .int .i64 Q] 32)) #[.int .i64 D, .slice A4 L.length c4, .int .i64 P, .int .i64 Q, .string d, .string p, .int .i64 z] 34
    simpa using this)
   have R5 := Lib.hid (BR.out.ext e5)
   have Y5 := Lib.hid (BY.out.ext e5)
   have b5 := Lib.hid (ext_trans b4.out e5)
   have O5 := Lib.hid (own_ext O4.out e5)
   have hne5 := Lib.hid (own_nb O5.out R5.out (by decide))
   have s5 : w4.heap.size + 1 < w5.heap.size := by rw [hw5]; simp
   clear e5
   go_wp2_with fail
   rw [← hw5]
   clear hw5 x0 x1 x2 x3 x4 x5 x6 y0 y1 y2
   obtain ⟨g0, g1, g2, g3⟩ := G6.out.q4
   obtain ⟨q0, q1, q2, q3, q4, q5, q6⟩ := G8.out.q7
   obtain ⟨y0, y1, y2⟩ := Y5.out.q3
   have sg0 : w4.heap.size < w5.heap.size := by omega
   have sy0 : w.heap.size + 1 < w5.heap.size := by omega
   have sr0 : w.heap.size + 1 + 1 < w5.heap.size := by omega
   go_region_held3 (fun w' => w'.cell? ⟨w4.heap.size + 1, 0, none⟩ = some (.int .i64 D) ∧ w'.cell? ⟨w4.heap.size + 1, 1, none⟩ = some (.slice A4 L.length c4) ∧ w'.cell? ⟨w4.heap.size + 1, 2, none⟩ = some (.int .i64 P) ∧ w'.cell? ⟨w4.heap.size + 1, 3, none⟩ = some (.int .i64 Q) ∧ w'.cell? ⟨w4.heap.size + 1, 4, none⟩ = some (.string d) ∧ w'.cell? ⟨w4.heap.size + 1, 5, none⟩ = some (.string p) ∧ w'.cell? ⟨w4.heap.size + 1, 6, none⟩ = some (.int .i64 z) ∧ w'.cell? ⟨w4.heap.size, 0, none⟩ = some (.int .i64 D) ∧ w'.cell? ⟨w4.heap.size, 1, none⟩ = some (.slice A4 L.length c4) ∧ w'.cell? ⟨w4.heap.size, 2, none⟩ = some (.int .i64 P) ∧ w'.cell? ⟨w4.heap.size, 3, none⟩ = some (.int .i64 Q) ∧ w'.cell? ⟨w.heap.size + 1, 0, none⟩ = some (.int .i64 k) ∧ w'.cell? ⟨w.heap.size + 1, 1, none⟩ = some (.int .i64 id) ∧ w'.cell? ⟨w.heap.size + 1, 2, none⟩ = some (.int .i64 v)) (first | (go_split_ands; ((repeat' refine And.intro ?_ ?_) <;> with_reducible (repeat (first | assumption | refine cell_drew ?_ | refine cell_old ?_ _ | refine ext_cell hb8 ?_ | refine cell_set_far (by first | (show w.heap.size + 1 + 1 ≠ w4.heap.size + 1; omega) | (show w.heap.size + 1 + 1 ≠ w4.heap.size; omega) | (show w.heap.size + 1 + 1 ≠ w.heap.size + 1; omega)) ?_))))) (first | (go_at_call 97; refine (l28Student_any D P Q id A4 L.length c4 L _ (by omega) (Reads.of_own (base := w.heap.size) (e := 111) (c := c4) (by repeat (first | (with_reducible exact O5.out) | (with_reducible refine World.ownsRow.drew ?_) | (with_reducible refine own_set_nb ?_ hne5.out _))))).mono ?_; rintro e w8 ⟨rfl, hb8⟩; have HB8 := Lib.hid hb8; obtain ⟨hc8, hf8⟩ := bcell hb8; have zs8 := hb8.size; have zR8 : w.heap.size + 1 + 1 < w8.heap.size := (by (try simp at zs8); omega); (try (have R8 := (R5).out.ext (ext_trans (ext_drew (ext_refl _)) hb8); obtain ⟨z80, z81, z82, z83, z84, z85, z86⟩ := R8.q7; obtain ⟨fz80, fz81, fz82, fz83, fz84, fz85, fz86⟩ := R8.z7; clear R8)); (try (have R8 := (R5).out.ext (ext_trans (ext_alloc (ext_drew (ext_refl _)) _) hb8); obtain ⟨z80, z81, z82, z83, z84, z85, z86⟩ := R8.q7; obtain ⟨fz80, fz81, fz82, fz83, fz84, fz85, fz86⟩ := R8.z7; clear R8)); (try (have R8 := (R5).out.ext (ext_trans (ext_drew (ext_alloc (ext_refl _) _)) hb8); obtain ⟨z80, z81, z82, z83, z84, z85, z86⟩ := R8.q7; obtain ⟨fz80, fz81, fz82, fz83, fz84, fz85, fz86⟩ := R8.z7; clear R8))))
   all_goals go_wp2
   all_goals
    refine bodyPost_ret (v := .tuple #[conV D A4 L.length c4 P Q d p z, .string ((stuO D P Q L id).getD ⟨#[63]⟩)]) (by simp [results, Tryz.results95, go_sem, *]) rfl ?_
    refine ⟨A4, L.length, c4, D, P, Q, L, rfl, rfl, rfl, .inl ?_, ?_⟩
    · exact (by (repeat (first | (with_reducible exact O5.out) | (with_reducible refine World.ownsRow.drew ?_) | (with_reducible refine World.ownsRow.alloc ?_ _) | (with_reducible refine own_set_nb ?_ hne5.out _) | refine own_ext ?_ HB8.out)))
    · exact (by repeat (first | (with_reducible exact b5.out) | (with_reducible refine ext_drew ?_) | (with_reducible refine ext_alloc ?_ _) | (with_reducible refine ext_set ?_ (by show w.heap.size ≤ w.heap.size + 1 + 1; omega) _) | refine ext_trans ?_ HB8.out))

end Go.Proofs.YtkcbgiegoadkbaaGreat
