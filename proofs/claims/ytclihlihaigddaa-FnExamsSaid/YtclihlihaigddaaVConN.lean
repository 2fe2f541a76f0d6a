/- NewSchool, NewConsole: program and reference; the law of NewConsole. -/
import Derived.Test.YtclihlihaigddaaVM3
namespace Go.Proofs.Ytclihlihaigddaa
open Go.RowKit
set_option linter.unusedVariables false
set_option linter.unusedSimpArgs false
/-- a console of the call's own comes back beside a bool -/
def RetConB (D pa le : Int) (d p : ByteArray) (z : Int) (n : Nat) (l : List R5) (ok : Bool) (w : World) (e : Ending) (w' : World) : Prop :=
 ∃ A c, e = .returned (.tuple #[conV D A n c pa le d p z, .bool ok]) ∧ w'.ownsRow w.heap.size 109 5 (.slice A n c) n (rowsV l) ∧ Below w.heap.size w w'
def newD (day : Int) : Int := if inB day 0 4000 = true then day else 0
def RetNew (day : Int) (w : World) (e : Ending) (w' : World) : Prop :=
 ∃ A c, e = .returned (.tuple #[schV (newD day) A 0 c 0 0, .bool (inB day 0 4000)]) ∧ w'.ownsRow w.heap.size 109 5 (.slice A 0 c) 0 [] ∧ SlOk A 0 c ∧ Below w.heap.size w w'
theorem implNewSchool_any (day : Int) (w : World) : Calls Try.prog 64 #[.int .i64 day] w (RetNew day w) := by
 unfold RetNew newD
 have HC := Lib.hid (fun w => isDay_any day w)
 rcases hb : inB day 0 4000 with _ | _
 all_goals
  rw [hb] at HC
  clear hb
  go_enter Try.func64, Try.ntmps64
  go_wp2_with (go_at_call 121; refine (HC.out _).mono ?_; rintro e w' ⟨rfl, rfl⟩)
 · refine bodyPost_ret (v := .tuple #[schV 0 none 0 0 0 0, .bool false]) (by simp [results, Try.results64, go_sem]) rfl ⟨none, 0, rfl, World.ownsRow_nil _ _ _ _, fun _ => ⟨rfl, rfl⟩, ext_alloc (ext_refl _) _⟩
 · refine bodyPost_ret (v := .tuple #[schV day none 0 0 0 0, .bool true]) (by simp [results, Try.results64, go_sem]) rfl ⟨none, 0, rfl, World.ownsRow_nil _ _ _ _, fun _ => ⟨rfl, rfl⟩, ext_alloc (ext_refl _) _⟩
theorem specNewSchool_any (day : Int) (w : World) : Calls Try.prog 65 #[.int .i64 day] w (RetNew day w) := by
 unfold RetNew newD
 have HC := Lib.hid (fun w => l2Day_any day w)
 rcases hb : inB day 0 4000 with _ | _
 all_goals
  rw [hb] at HC
  clear hb
  go_enter Try.func65, Try.ntmps65
  go_wp2_with (go_at_call 127; refine (HC.out _).mono ?_; rintro e w' ⟨rfl, rfl⟩)
 · refine bodyPost_ret (v := .tuple #[schV 0 none 0 0 0 0, .bool false]) (by simp [results, Try.results65, go_sem]) rfl ⟨none, 0, rfl, World.ownsRow_nil _ _ _ _, fun _ => ⟨rfl, rfl⟩, ext_alloc (ext_refl _) _⟩
 · refine bodyPost_ret (v := .tuple #[schV day (some ⟨w.heap.size + 1, 0, none⟩) 0 0 0 0, .bool true]) (by simp [results, Try.results65, go_sem]) rfl ⟨_, _, rfl, own_base (base := w.heap.size + 1) (by have := own_lit0 (w.alloc (.cells #[.int .i64 day, .slice (some ⟨w.heap.size + 1, 0, none⟩) 0 0, .int .i64 0, .int .i64 0] 24)) 109 5; simpa using this) (by omega), (fun h => by cases h), ext_alloc (ext_alloc (ext_refl _) _) _⟩

theorem implNewConsole_any (day : Int) (w : World) : Calls Try.prog 16 #[.int .i64 day] w (RetConB (newD day) 0 0 ⟨#[]⟩ ⟨#[]⟩ 0 0 [] (inB day 0 4000) w) := by
 have HN := Lib.hid (fun w => implNewSchool_any day w)
 unfold RetConB
 unfold RetNew at HN
 obtain ⟨D, hD⟩ : ∃ D, newD day = D := ⟨_, rfl⟩
 have hno : inB day 0 4000 = false → D = 0 := fun h => by rw [← hD, newD, h]; rfl
 rw [hD] at HN
 rw [hD]
 clear hD
 rcases hb : inB day 0 4000 with _ | _
 all_goals
  rw [hb] at HN
  have hno := hno
  go_enter Try.func16, Try.ntmps16
  go_wp2_with fail
  refine (HN.out _).mono ?_
  rintro e w1 ⟨A1, c1, rfl, ho, _, hb1⟩
  obtain ⟨hc1, hf1⟩ := bcell hb1
  have z0 : w.heap.size < w1.heap.size := by (have := hb1.size; simp at this; omega)
  have b1 := Lib.hid (ext_trans (ext_alloc (ext_refl w) _) hb1)
  have ho := Lib.hid (show w1.ownsRow (w.heap.size + 1) 109 5 (.slice A1 0 c1) 0 (rowsV []) from own_base ho (by simp))
  have hno := Lib.hid hno
  clear hb1
  go_wp2
 · refine bodyPost_ret (v := .tuple #[conV D A1 0 c1 0 0 ⟨#[]⟩ ⟨#[]⟩ 0, .bool false]) (by simp [results, Try.results16, go_sem, *]) rfl ?_
   refine ⟨A1, c1, rfl, own_base (base := w.heap.size + 1) ?_ (by omega), ?_⟩
   · repeat (first | (with_reducible exact ho.out) | (with_reducible refine own_set ?_ (by show w.heap.size < w.heap.size + 1; omega) _) | refine own_ext ?_ (ext_alloc (ext_refl _) _))
   · repeat (first | (with_reducible exact b1.out) | (with_reducible refine ext_set ?_ (by simp <;> omega) _) | refine ext_alloc ?_ _)
 · refine bodyPost_ret (v := .tuple #[conV D A1 0 c1 0 0 ⟨#[]⟩ ⟨#[]⟩ 0, .bool true]) (by simp [results, Try.results16, go_sem, *]) rfl ?_
   refine ⟨A1, c1, rfl, own_base (base := w.heap.size + 1) ?_ (by omega), ?_⟩
   · repeat (first | (with_reducible exact ho.out) | (with_reducible refine own_set ?_ (by show w.heap.size < w.heap.size + 1; omega) _) | refine own_ext ?_ (ext_alloc (ext_refl _) _))
   · repeat (first | (with_reducible exact b1.out) | (with_reducible refine ext_set ?_ (by simp <;> omega) _) | refine ext_alloc ?_ _)

theorem specNewConsole_any (day : Int) (w : World) : Calls Try.prog 15 #[.int .i64 day] w (RetConB (newD day) 0 0 ⟨#[]⟩ ⟨#[]⟩ 0 0 [] (inB day 0 4000) w) := by
 have HN := Lib.hid (fun w => specNewSchool_any day w)
 unfold RetConB
 unfold RetNew at HN
 obtain ⟨D, hD⟩ : ∃ D, newD day = D := ⟨_, rfl⟩
 have hno : inB day 0 4000 = false → D = 0 := fun h => by rw [← hD, newD, h]; rfl
 rw [hD] at HN
 rw [hD]
 clear hD
 rcases hb : inB day 0 4000 with _ | _
 all_goals
  rw [hb] at HN
  have hno := hno
  go_enter Try.func15, Try.ntmps15
  go_wp2_with fail
  refine (HN.out _).mono ?_
  rintro e w1 ⟨A1, c1, rfl, ho, _, hb1⟩
  obtain ⟨hc1, hf1⟩ := bcell hb1
  have z0 : w.heap.size < w1.heap.size := by (have := hb1.size; simp at this; omega)
  have b1 := Lib.hid (ext_trans (ext_alloc (ext_refl w) _) hb1)
  have ho := Lib.hid (show w1.ownsRow (w.heap.size + 1) 109 5 (.slice A1 0 c1) 0 (rowsV []) from own_base ho (by simp))
  have hno := Lib.hid hno
  clear hb1
  go_wp2
 · refine bodyPost_ret (v := .tuple #[conV 0 none 0 0 0 0 ⟨#[]⟩ ⟨#[]⟩ 0, .bool false]) (by simp [results, Try.results15, go_sem, *]) rfl ?_
   rw [hno.out hb]
   refine ⟨none, 0, rfl, World.ownsRow_nil _ _ _ _, ?_⟩
   repeat (first | (with_reducible exact b1.out) | (with_reducible refine ext_set ?_ (by simp <;> omega) _) | refine ext_alloc ?_ _)
 · refine bodyPost_ret (v := .tuple #[conV D A1 0 c1 0 0 ⟨#[]⟩ ⟨#[]⟩ 0, .bool true]) (by simp [results, Try.results15, go_sem, *]) rfl ?_
   refine ⟨A1, c1, rfl, own_base (base := w.heap.size + 1) ?_ (by omega), ?_⟩
   · repeat (first | (with_reducible exact ho.out) | (with_reducible refine own_set ?_ (by show w.heap.size < w.heap.size + 1; omega) _) | refine own_ext ?_ (ext_alloc (ext_refl _) _))
   · repeat (first | (with_reducible exact b1.out) | (with_reducible refine ext_set ?_ (by simp <;> omega) _) | refine ext_alloc ?_ _)
set_option maxHeartbeats 2000000 in
theorem law_NewConsole (day : Int) (w : World) :
 Calls Try.prog 3 #[.int .i64 day] w fun e w' => e = .returned (.bool true) ∧ Below w.heap.size w w' := by
 have HA := Lib.hid (fun w => specNewConsole_any day w)
 have HB := Lib.hid (fun w => implNewConsole_any day w)
 unfold RetConB at HA HB
 obtain ⟨D, hD⟩ : ∃ D, newD day = D := ⟨_, rfl⟩
 obtain ⟨ok, hok⟩ : ∃ ok, inB day 0 4000 = ok := ⟨_, rfl⟩
 rw [hD, hok] at HA HB
 clear hD hok
 go_enter Try.func3, Try.ntmps3
 go_wp2_with fail
 refine (HA.out _).mono ?_
 rintro e w1 ⟨Aw, cw, rfl, ho_w, hb⟩
 have s1 : w.heap.size ≤ w1.heap.size := (by have := hb.size; (try simp at this); omega)
 have b1 := Lib.hid (ext_trans (ext_refl w) hb)
 have t1 : w.heap.size ≤ w1.heap.size := b1.out.size
 have oc_w := Lib.hid (own_base (base' := w.heap.size + 0) ho_w (by simp))
 clear ho_w
 clear hb
 go_wp2_with fail
 refine (HB.out _).mono ?_
 rintro e w2 ⟨Ag, cg, rfl, ho_g, hb⟩
 have s2 : w1.heap.size + 1 ≤ w2.heap.size := (by have := hb.size; (try simp at this); omega)
 have z2_0 : w1.heap.size < w2.heap.size := (by omega)
 have q2_0 : w2.cell? ⟨w1.heap.size, 0, none⟩ = some (.int .i64 D) := ext_cell hb (by simp [go_sem])
 have q2_1 : w2.cell? ⟨w1.heap.size, 1, none⟩ = some (.slice Aw 0 cw) := ext_cell hb (by simp [go_sem])
 have q2_2 : w2.cell? ⟨w1.heap.size, 2, none⟩ = some (.int .i64 0) := ext_cell hb (by simp [go_sem])
 have q2_3 : w2.cell? ⟨w1.heap.size, 3, none⟩ = some (.int .i64 0) := ext_cell hb (by simp [go_sem])
 have q2_4 : w2.cell? ⟨w1.heap.size, 4, none⟩ = some (.string ⟨#[]⟩) := ext_cell hb (by simp [go_sem])
 have q2_5 : w2.cell? ⟨w1.heap.size, 5, none⟩ = some (.string ⟨#[]⟩) := ext_cell hb (by simp [go_sem])
 have q2_6 : w2.cell? ⟨w1.heap.size, 6, none⟩ = some (.int .i64 0) := ext_cell hb (by simp [go_sem])
 have b2 := Lib.hid (ext_trans (ext_alloc b1.out _) hb)
 have t2 : w.heap.size ≤ w2.heap.size := b2.out.size
 have o2_w := Lib.hid (own_ext (oc_w.out.alloc _) hb)
 have oc_g := Lib.hid (own_base (base' := w1.heap.size + 1) ho_g (by simp))
 clear ho_g
 clear hb
 go_wp2_with fail
 refine (eqConsole_same D 0 0 ⟨#[]⟩ ⟨#[]⟩ 0 Ag Aw 0 cg cw [] _ (by omega) (Reads.of_own (oc_g.out.alloc _)) (Reads.of_own (o2_w.out.alloc _))).mono ?_
 rintro e w3 ⟨rfl, hb⟩
 have s3 : w2.heap.size + 1 ≤ w3.heap.size := (by have := hb.size; (try simp at this); omega)
 have z3_0 : w1.heap.size < w3.heap.size := (by omega)
 have z3_1 : w2.heap.size < w3.heap.size := (by omega)
 have q3_0 : w3.cell? ⟨w1.heap.size, 0, none⟩ = some (.int .i64 D) := ext_cell hb (cell_old q2_0 _)
 have q3_1 : w3.cell? ⟨w1.heap.size, 1, none⟩ = some (.slice Aw 0 cw) := ext_cell hb (cell_old q2_1 _)
 have q3_2 : w3.cell? ⟨w1.heap.size, 2, none⟩ = some (.int .i64 0) := ext_cell hb (cell_old q2_2 _)
 have q3_3 : w3.cell? ⟨w1.heap.size, 3, none⟩ = some (.int .i64 0) := ext_cell hb (cell_old q2_3 _)
 have q3_4 : w3.cell? ⟨w1.heap.size, 4, none⟩ = some (.string ⟨#[]⟩) := ext_cell hb (cell_old q2_4 _)
 have q3_5 : w3.cell? ⟨w1.heap.size, 5, none⟩ = some (.string ⟨#[]⟩) := ext_cell hb (cell_old q2_5 _)
 have q3_6 : w3.cell? ⟨w1.heap.size, 6, none⟩ = some (.int .i64 0) := ext_cell hb (cell_old q2_6 _)
 have q3_7 : w3.cell? ⟨w2.heap.size, 0, none⟩ = some (.int .i64 D) := ext_cell hb (by simp [go_sem])
 have q3_8 : w3.cell? ⟨w2.heap.size, 1, none⟩ = some (.slice Ag 0 cg) := ext_cell hb (by simp [go_sem])
 have q3_9 : w3.cell? ⟨w2.heap.size, 2, none⟩ = some (.int .i64 0) := ext_cell hb (by simp [go_sem])
 have q3_10 : w3.cell? ⟨w2.heap.size, 3, none⟩ = some (.int .i64 0) := ext_cell hb (by simp [go_sem])
 have q3_11 : w3.cell? ⟨w2.heap.size, 4, none⟩ = some (.string ⟨#[]⟩) := ext_cell hb (by simp [go_sem])
 have q3_12 : w3.cell? ⟨w2.heap.size, 5, none⟩ = some (.string ⟨#[]⟩) := ext_cell hb (by simp [go_sem])
 have q3_13 : w3.cell? ⟨w2.heap.size, 6, none⟩ = some (.int .i64 0) := ext_cell hb (by simp [go_sem])
 have b3 := Lib.hid (ext_trans (ext_alloc b2.out _) hb)
 have t3 : w.heap.size ≤ w3.heap.size := b3.out.size
 have o3_w := Lib.hid (own_ext (o2_w.out.alloc _) hb)
 have o3_g := Lib.hid (own_ext (oc_g.out.alloc _) hb)
 clear q2_0 q2_1 q2_2 q2_3 q2_4 q2_5 q2_6
 clear hb
 go_wp2_with fail
 refine (markConsole_any D 0 0 ⟨#[]⟩ ⟨#[]⟩ 0 Ag 0 cg _ _ 1 _ (by omega) (by omega) (by omega) o3_g.out).mono ?_
 rintro e w4 ⟨rfl, ho, hg⟩
 have s4 : w3.heap.size ≤ w4.heap.size := (by have := hg.size; (try simp at this); omega)
 have z4_0 : w1.heap.size < w4.heap.size := (by omega)
 have z4_1 : w2.heap.size < w4.heap.size := (by omega)
 have q4_0 : w4.cell? ⟨w1.heap.size, 0, none⟩ = some (.int .i64 D) := cell_far_grown hg (own_far_lt (b := w1.heap.size) oc_g.out (by omega)) q3_0
 have q4_1 : w4.cell? ⟨w1.heap.size, 1, none⟩ = some (.slice Aw 0 cw) := cell_far_grown hg (own_far_lt (b := w1.heap.size) oc_g.out (by omega)) q3_1
 have q4_2 : w4.cell? ⟨w1.heap.size, 2, none⟩ = some (.int .i64 0) := cell_far_grown hg (own_far_lt (b := w1.heap.size) oc_g.out (by omega)) q3_2
 have q4_3 : w4.cell? ⟨w1.heap.size, 3, none⟩ = some (.int .i64 0) := cell_far_grown hg (own_far_lt (b := w1.heap.size) oc_g.out (by omega)) q3_3
 have q4_4 : w4.cell? ⟨w1.heap.size, 4, none⟩ = some (.string ⟨#[]⟩) := cell_far_grown hg (own_far_lt (b := w1.heap.size) oc_g.out (by omega)) q3_4
 have q4_5 : w4.cell? ⟨w1.heap.size, 5, none⟩ = some (.string ⟨#[]⟩) := cell_far_grown hg (own_far_lt (b := w1.heap.size) oc_g.out (by omega)) q3_5
 have q4_6 : w4.cell? ⟨w1.heap.size, 6, none⟩ = some (.int .i64 0) := cell_far_grown hg (own_far_lt (b := w1.heap.size) oc_g.out (by omega)) q3_6
 have q4_7 : w4.cell? ⟨w2.heap.size, 0, none⟩ = some (.int .i64 D) := cell_far_grown hg (own_far_ge (b := w2.heap.size) oc_g.out (by omega)) q3_7
 have q4_8 : w4.cell? ⟨w2.heap.size, 1, none⟩ = some (.slice Ag 0 cg) := cell_far_grown hg (own_far_ge (b := w2.heap.size) oc_g.out (by omega)) q3_8
 have q4_9 : w4.cell? ⟨w2.heap.size, 2, none⟩ = some (.int .i64 0) := cell_far_grown hg (own_far_ge (b := w2.heap.size) oc_g.out (by omega)) q3_9
 have q4_10 : w4.cell? ⟨w2.heap.size, 3, none⟩ = some (.int .i64 0) := cell_far_grown hg (own_far_ge (b := w2.heap.size) oc_g.out (by omega)) q3_10
 have q4_11 : w4.cell? ⟨w2.heap.size, 4, none⟩ = some (.string ⟨#[]⟩) := cell_far_grown hg (own_far_ge (b := w2.heap.size) oc_g.out (by omega)) q3_11
 have q4_12 : w4.cell? ⟨w2.heap.size, 5, none⟩ = some (.string ⟨#[]⟩) := cell_far_grown hg (own_far_ge (b := w2.heap.size) oc_g.out (by omega)) q3_12
 have q4_13 : w4.cell? ⟨w2.heap.size, 6, none⟩ = some (.int .i64 0) := cell_far_grown hg (own_far_ge (b := w2.heap.size) oc_g.out (by omega)) q3_13
 have b4 := Lib.hid (below_grown' o3_g.out (by omega) b3.out hg)
 have t4 : w.heap.size ≤ w4.heap.size := b4.out.size
 have o4_w := Lib.hid (o3_w.out.kept hg (own_ne' oc_w.out oc_g.out (by omega)))
 clear q3_0 q3_1 q3_2 q3_3 q3_4 q3_5 q3_6 q3_7 q3_8 q3_9 q3_10 q3_11 q3_12 q3_13
 have o4_g := Lib.hid ho
 clear ho hg
 go_wp2_with fail
 refine (heldConsole_any D 0 0 ⟨#[]⟩ ⟨#[]⟩ 0 Ag 0 cg 1 _ (by omega) (by omega) (by omega) (Reads.of_own o4_g.out)).mono ?_
 rintro e w5 ⟨rfl, hb⟩
 have s5 : w4.heap.size ≤ w5.heap.size := (by have := hb.size; (try simp at this); omega)
 have z5_0 : w1.heap.size < w5.heap.size := (by omega)
 have z5_1 : w2.heap.size < w5.heap.size := (by omega)
 have q5_0 : w5.cell? ⟨w1.heap.size, 0, none⟩ = some (.int .i64 D) := ext_cell hb q4_0
 have q5_1 : w5.cell? ⟨w1.heap.size, 1, none⟩ = some (.slice Aw 0 cw) := ext_cell hb q4_1
 have q5_2 : w5.cell? ⟨w1.heap.size, 2, none⟩ = some (.int .i64 0) := ext_cell hb q4_2
 have q5_3 : w5.cell? ⟨w1.heap.size, 3, none⟩ = some (.int .i64 0) := ext_cell hb q4_3
 have q5_4 : w5.cell? ⟨w1.heap.size, 4, none⟩ = some (.string ⟨#[]⟩) := ext_cell hb q4_4
 have q5_5 : w5.cell? ⟨w1.heap.size, 5, none⟩ = some (.string ⟨#[]⟩) := ext_cell hb q4_5
 have q5_6 : w5.cell? ⟨w1.heap.size, 6, none⟩ = some (.int .i64 0) := ext_cell hb q4_6
 have q5_7 : w5.cell? ⟨w2.heap.size, 0, none⟩ = some (.int .i64 D) := ext_cell hb q4_7
 have q5_8 : w5.cell? ⟨w2.heap.size, 1, none⟩ = some (.slice Ag 0 cg) := ext_cell hb q4_8
 have q5_9 : w5.cell? ⟨w2.heap.size, 2, none⟩ = some (.int .i64 0) := ext_cell hb q4_9
 have q5_10 : w5.cell? ⟨w2.heap.size, 3, none⟩ = some (.int .i64 0) := ext_cell hb q4_10
 have q5_11 : w5.cell? ⟨w2.heap.size, 4, none⟩ = some (.string ⟨#[]⟩) := ext_cell hb q4_11
 have q5_12 : w5.cell? ⟨w2.heap.size, 5, none⟩ = some (.string ⟨#[]⟩) := ext_cell hb q4_12
 have q5_13 : w5.cell? ⟨w2.heap.size, 6, none⟩ = some (.int .i64 0) := ext_cell hb q4_13
 have b5 := Lib.hid (ext_trans b4.out hb)
 have t5 : w.heap.size ≤ w5.heap.size := b5.out.size
 have o5_w := Lib.hid (own_ext o4_w.out hb)
 have o5_g := Lib.hid (own_ext o4_g.out hb)
 clear q4_0 q4_1 q4_2 q4_3 q4_4 q4_5 q4_6 q4_7 q4_8 q4_9 q4_10 q4_11 q4_12 q4_13
 clear hb
 go_wp2_with fail
 refine (HB.out _).mono ?_
 rintro e w6 ⟨Ah, ch, rfl, ho_h, hb⟩
 have s6 : w5.heap.size ≤ w6.heap.size := (by have := hb.size; (try simp at this); omega)
 have z6_0 : w1.heap.size < w6.heap.size := (by omega)
 have z6_1 : w2.heap.size < w6.heap.size := (by omega)
 have q6_0 : w6.cell? ⟨w1.heap.size, 0, none⟩ = some (.int .i64 D) := ext_cell hb q5_0
 have q6_1 : w6.cell? ⟨w1.heap.size, 1, none⟩ = some (.slice Aw 0 cw) := ext_cell hb q5_1
 have q6_2 : w6.cell? ⟨w1.heap.size, 2, none⟩ = some (.int .i64 0) := ext_cell hb q5_2
 have q6_3 : w6.cell? ⟨w1.heap.size, 3, none⟩ = some (.int .i64 0) := ext_cell hb q5_3
 have q6_4 : w6.cell? ⟨w1.heap.size, 4, none⟩ = some (.string ⟨#[]⟩) := ext_cell hb q5_4
 have q6_5 : w6.cell? ⟨w1.heap.size, 5, none⟩ = some (.string ⟨#[]⟩) := ext_cell hb q5_5
 have q6_6 : w6.cell? ⟨w1.heap.size, 6, none⟩ = some (.int .i64 0) := ext_cell hb q5_6
 have q6_7 : w6.cell? ⟨w2.heap.size, 0, none⟩ = some (.int .i64 D) := ext_cell hb q5_7
 have q6_8 : w6.cell? ⟨w2.heap.size, 1, none⟩ = some (.slice Ag 0 cg) := ext_cell hb q5_8
 have q6_9 : w6.cell? ⟨w2.heap.size, 2, none⟩ = some (.int .i64 0) := ext_cell hb q5_9
 have q6_10 : w6.cell? ⟨w2.heap.size, 3, none⟩ = some (.int .i64 0) := ext_cell hb q5_10
 have q6_11 : w6.cell? ⟨w2.heap.size, 4, none⟩ = some (.string ⟨#[]⟩) := ext_cell hb q5_11
 have q6_12 : w6.cell? ⟨w2.heap.size, 5, none⟩ = some (.string ⟨#[]⟩) := ext_cell hb q5_12
 have q6_13 : w6.cell? ⟨w2.heap.size, 6, none⟩ = some (.int .i64 0) := ext_cell hb q5_13
 have b6 := Lib.hid (ext_trans b5.out hb)
 have t6 : w.heap.size ≤ w6.heap.size := b6.out.size
 have o6_w := Lib.hid (own_ext o5_w.out hb)
 have o6_g := Lib.hid (own_ext o5_g.out hb)
 clear q5_0 q5_1 q5_2 q5_3 q5_4 q5_5 q5_6 q5_7 q5_8 q5_9 q5_10 q5_11 q5_12 q5_13
 have oc_h := Lib.hid (own_base (base' := w5.heap.size + 0) ho_h (by simp))
 clear ho_h
 clear hb
 go_wp2_with fail
 refine (eqConsole_same D 0 0 ⟨#[]⟩ ⟨#[]⟩ 0 Ah Aw 0 ch cw [] _ (by omega) (Reads.of_own (oc_h.out.alloc _)) (Reads.of_own (o6_w.out.alloc _))).mono ?_
 rintro e w7 ⟨rfl, hb⟩
 have s7 : w6.heap.size + 1 ≤ w7.heap.size := (by have := hb.size; (try simp at this); omega)
 have z7_0 : w1.heap.size < w7.heap.size := (by omega)
 have z7_1 : w2.heap.size < w7.heap.size := (by omega)
 have z7_2 : w6.heap.size < w7.heap.size := (by omega)
 have q7_0 : w7.cell? ⟨w1.heap.size, 0, none⟩ = some (.int .i64 D) := ext_cell hb (cell_old q6_0 _)
 have q7_1 : w7.cell? ⟨w1.heap.size, 1, none⟩ = some (.slice Aw 0 cw) := ext_cell hb (cell_old q6_1 _)
 have q7_2 : w7.cell? ⟨w1.heap.size, 2, none⟩ = some (.int .i64 0) := ext_cell hb (cell_old q6_2 _)
 have q7_3 : w7.cell? ⟨w1.heap.size, 3, none⟩ = some (.int .i64 0) := ext_cell hb (cell_old q6_3 _)
 have q7_4 : w7.cell? ⟨w1.heap.size, 4, none⟩ = some (.string ⟨#[]⟩) := ext_cell hb (cell_old q6_4 _)
 have q7_5 : w7.cell? ⟨w1.heap.size, 5, none⟩ = some (.string ⟨#[]⟩) := ext_cell hb (cell_old q6_5 _)
 have q7_6 : w7.cell? ⟨w1.heap.size, 6, none⟩ = some (.int .i64 0) := ext_cell hb (cell_old q6_6 _)
 have q7_7 : w7.cell? ⟨w2.heap.size, 0, none⟩ = some (.int .i64 D) := ext_cell hb (cell_old q6_7 _)
 have q7_8 : w7.cell? ⟨w2.heap.size, 1, none⟩ = some (.slice Ag 0 cg) := ext_cell hb (cell_old q6_8 _)
 have q7_9 : w7.cell? ⟨w2.heap.size, 2, none⟩ = some (.int .i64 0) := ext_cell hb (cell_old q6_9 _)
 have q7_10 : w7.cell? ⟨w2.heap.size, 3, none⟩ = some (.int .i64 0) := ext_cell hb (cell_old q6_10 _)
 have q7_11 : w7.cell? ⟨w2.heap.size, 4, none⟩ = some (.string ⟨#[]⟩) := ext_cell hb (cell_old q6_11 _)
 have q7_12 : w7.cell? ⟨w2.heap.size, 5, none⟩ = some (.string ⟨#[]⟩) := ext_cell hb (cell_old q6_12 _)
 have q7_13 : w7.cell? ⟨w2.heap.size, 6, none⟩ = some (.int .i64 0) := ext_cell hb (cell_old q6_13 _)
 have q7_14 : w7.cell? ⟨w6.heap.size, 0, none⟩ = some (.int .i64 D) := ext_cell hb (by simp [go_sem])
 have q7_15 : w7.cell? ⟨w6.heap.size, 1, none⟩ = some (.slice Ah 0 ch) := ext_cell hb (by simp [go_sem])
 have q7_16 : w7.cell? ⟨w6.heap.size, 2, none⟩ = some (.int .i64 0) := ext_cell hb (by simp [go_sem])
 have q7_17 : w7.cell? ⟨w6.heap.size, 3, none⟩ = some (.int .i64 0) := ext_cell hb (by simp [go_sem])
 have q7_18 : w7.cell? ⟨w6.heap.size, 4, none⟩ = some (.string ⟨#[]⟩) := ext_cell hb (by simp [go_sem])
 have q7_19 : w7.cell? ⟨w6.heap.size, 5, none⟩ = some (.string ⟨#[]⟩) := ext_cell hb (by simp [go_sem])
 have q7_20 : w7.cell? ⟨w6.heap.size, 6, none⟩ = some (.int .i64 0) := ext_cell hb (by simp [go_sem])
 have b7 := Lib.hid (ext_trans (ext_alloc b6.out _) hb)
 have t7 : w.heap.size ≤ w7.heap.size := b7.out.size
 have o7_w := Lib.hid (own_ext (o6_w.out.alloc _) hb)
 have o7_g := Lib.hid (own_ext (o6_g.out.alloc _) hb)
 have o7_h := Lib.hid (own_ext (oc_h.out.alloc _) hb)
 clear q6_0 q6_1 q6_2 q6_3 q6_4 q6_5 q6_6 q6_7 q6_8 q6_9 q6_10 q6_11 q6_12 q6_13
 clear hb
 go_wp2_with fail
 refine (heldConsole_any D 0 0 ⟨#[]⟩ ⟨#[]⟩ 0 Ag 0 cg 1 _ (by omega) (by omega) (by omega) (Reads.of_own o7_g.out)).mono ?_
 rintro e w8 ⟨rfl, hb⟩
 have s8 : w7.heap.size ≤ w8.heap.size := (by have := hb.size; (try simp at this); omega)
 have z8_0 : w1.heap.size < w8.heap.size := (by omega)
 have z8_1 : w2.heap.size < w8.heap.size := (by omega)
 have z8_2 : w6.heap.size < w8.heap.size := (by omega)
 have q8_0 : w8.cell? ⟨w1.heap.size, 0, none⟩ = some (.int .i64 D) := ext_cell hb q7_0
 have q8_1 : w8.cell? ⟨w1.heap.size, 1, none⟩ = some (.slice Aw 0 cw) := ext_cell hb q7_1
 have q8_2 : w8.cell? ⟨w1.heap.size, 2, none⟩ = some (.int .i64 0) := ext_cell hb q7_2
 have q8_3 : w8.cell? ⟨w1.heap.size, 3, none⟩ = some (.int .i64 0) := ext_cell hb q7_3
 have q8_4 : w8.cell? ⟨w1.heap.size, 4, none⟩ = some (.string ⟨#[]⟩) := ext_cell hb q7_4
 have q8_5 : w8.cell? ⟨w1.heap.size, 5, none⟩ = some (.string ⟨#[]⟩) := ext_cell hb q7_5
 have q8_6 : w8.cell? ⟨w1.heap.size, 6, none⟩ = some (.int .i64 0) := ext_cell hb q7_6
 have q8_7 : w8.cell? ⟨w2.heap.size, 0, none⟩ = some (.int .i64 D) := ext_cell hb q7_7
 have q8_8 : w8.cell? ⟨w2.heap.size, 1, none⟩ = some (.slice Ag 0 cg) := ext_cell hb q7_8
 have q8_9 : w8.cell? ⟨w2.heap.size, 2, none⟩ = some (.int .i64 0) := ext_cell hb q7_9
 have q8_10 : w8.cell? ⟨w2.heap.size, 3, none⟩ = some (.int .i64 0) := ext_cell hb q7_10
 have q8_11 : w8.cell? ⟨w2.heap.size, 4, none⟩ = some (.string ⟨#[]⟩) := ext_cell hb q7_11
 have q8_12 : w8.cell? ⟨w2.heap.size, 5, none⟩ = some (.string ⟨#[]⟩) := ext_cell hb q7_12
 have q8_13 : w8.cell? ⟨w2.heap.size, 6, none⟩ = some (.int .i64 0) := ext_cell hb q7_13
 have q8_14 : w8.cell? ⟨w6.heap.size, 0, none⟩ = some (.int .i64 D) := ext_cell hb q7_14
 have q8_15 : w8.cell? ⟨w6.heap.size, 1, none⟩ = some (.slice Ah 0 ch) := ext_cell hb q7_15
 have q8_16 : w8.cell? ⟨w6.heap.size, 2, none⟩ = some (.int .i64 0) := ext_cell hb q7_16
 have q8_17 : w8.cell? ⟨w6.heap.size, 3, none⟩ = some (.int .i64 0) := ext_cell hb q7_17
 have q8_18 : w8.cell? ⟨w6.heap.size, 4, none⟩ = some (.string ⟨#[]⟩) := ext_cell hb q7_18
 have q8_19 : w8.cell? ⟨w6.heap.size, 5, none⟩ = some (.string ⟨#[]⟩) := ext_cell hb q7_19
 have q8_20 : w8.cell? ⟨w6.heap.size, 6, none⟩ = some (.int .i64 0) := ext_cell hb q7_20
 have b8 := Lib.hid (ext_trans b7.out hb)
 have t8 : w.heap.size ≤ w8.heap.size := b8.out.size
 have o8_w := Lib.hid (own_ext o7_w.out hb)
 have o8_g := Lib.hid (own_ext o7_g.out hb)
 have o8_h := Lib.hid (own_ext o7_h.out hb)
 clear q7_0 q7_1 q7_2 q7_3 q7_4 q7_5 q7_6 q7_7 q7_8 q7_9 q7_10 q7_11 q7_12 q7_13 q7_14 q7_15 q7_16 q7_17 q7_18 q7_19 q7_20
 clear hb
 go_wp2
 go_ret
 exact ⟨rfl, b8.out⟩
end Go.Proofs.Ytclihlihaigddaa
