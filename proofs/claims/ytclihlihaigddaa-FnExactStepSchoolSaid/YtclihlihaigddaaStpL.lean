
/- The law of StepSchool, walked. -/
import Derived.Test.YtclihlihaigddaaScVm
import Derived.Test.YtclihlihaigddaaSchL
import Derived.Test.YtclihlihaigddaaSsL
namespace Go.Proofs.Ytclihlihaigddaa
open Go.RowKit
set_option linter.unusedVariables false
set_option linter.unusedSimpArgs false
def oD (o : Option Sch4) : Int := match o with | none => 0 | some (d, _, _, _) => d
def oL (o : Option Sch4) : List R5 := match o with | none => [] | some (_, l, _, _) => l
def oP (o : Option Sch4) : Int := match o with | none => 0 | some (_, _, p, _) => p
def oQ (o : Option Sch4) : Int := match o with | none => 0 | some (_, _, _, q) => q
theorem own_cap2 {w : World} {base e size n c : Nat} {A : Option Addr} {xs : List Value} (h : w.ownsRow base e size (.slice A n c) n xs) : n ≤ c := by
  rcases h.2 with ⟨h', _⟩ | ⟨g', cap', cur, h', _, hg, hnc, _, _, _⟩
  · injection h' with _ h1 h2; omega
  · injection h' with _ h1 h2; omega
/-- a school of the call's own and a bool come back, whatever the answer -/
def RetUni (D P Q : Int) (N : Nat) (L : List R5) (ok : Bool) (w : World) (e : Ending) (w' : World) : Prop :=
  ∃ A c, e = .returned (.tuple #[schV D A N c P Q, .bool ok]) ∧ w'.ownsRow w.heap.size 109 5 (.slice A N c) N (rowsV L) ∧ Below w.heap.size w w'
theorem retUni (o : Option Sch4) (w : World) (e : Ending) (w' : World) (h : RetSch o w e w') : RetUni (oD o) (oP o) (oQ o) (oL o).length (oL o) o.isSome w e w' := by
  rcases o with _ | ⟨d, l, p, q⟩
  · exact ⟨none, 0, h.1, World.ownsRow_nil _ _ _ _, h.2⟩
  · exact h
theorem oL_len (day pa le : Int) (l : List R5) (k id v : Int) : (oL (stpB day pa le l k id v)).length ≤ 8 := by
  unfold stpB
  split
  · unfold stepS
    rcases h : tryS day pa le l k id v with _ | q
    · simp [oL]
    · rw [Option.filter_some]
      split
      · rename_i hs; exact schB_len hs
      · simp [oL]
  · simp [oL]
set_option maxRecDepth 100000 in
set_option maxHeartbeats 4000000 in
theorem law_StepSchool (day pa le : Int) (A : Option Addr) (n c : Nat) (l : List R5) (k id v : Int) (w : World) (hn : n ≤ maxLen) (h : Reads w w.heap.size 5 A n (rowsV l)) (hv2 : v ≤ 9223372036854775807) :
    Calls Try.prog 11 #[schV day A n c pa le, .agg #[.int .i64 k, .int .i64 id, .int .i64 v]] w fun e w' => e = .returned (.bool true) ∧ Below w.heap.size w w' := by
  unfold maxLen at hn
  have HS := Lib.hid (fun w => szSchool_any day pa le A n c 1048576 w hn (by omega) (by omega))
  have H := Lib.hid h
  clear h
  by_cases hbig : (1048576 : Int) < n
  · rw [szv_no hbig] at HS
    go_enter Try.func11, Try.ntmps11
    go_wp2_with (go_at_call 43; refine (HS.out _).mono ?_; rintro e w' ⟨rfl, hb⟩)
    go_ret
    exact ⟨rfl, (by repeat (first | exact ext_refl _ | assumption | refine ext_alloc ?_ _ | refine ext_drew ?_ | refine ext_drewN ?_ _ | refine ext_set ?_ (by simp <;> omega) _ | refine ext_trans ?_ (by assumption)))⟩
  rw [szv_yes hbig] at HS
  have hneg : ¬ (1048576 : Int) - n < 0 := by omega
  have hn : n ≤ 1048576 := by omega
  have hN := oL_len day pa le l k id v
  have HA := Lib.hid (fun (w : World) (A : Option Addr) (c : Nat) (hnc : n ≤ c) (hA : SlOk A n c) h => (specStep_any day pa le k id v A n c l w hn hnc hA h).mono (retUni _ w))
  have HB := Lib.hid (fun (w : World) (A : Option Addr) (c : Nat) (hA : SlOk A n c) h => (implStep_any day pa le k id v A n c l w hn hA h hv2).mono (retUni _ w))
  obtain ⟨O, hO⟩ : ∃ O, stpB day pa le l k id v = O := ⟨_, rfl⟩
  rw [hO] at HA HB hN
  obtain ⟨D, hD⟩ : ∃ D, oD O = D := ⟨_, rfl⟩
  obtain ⟨P, hP⟩ : ∃ P, oP O = P := ⟨_, rfl⟩
  obtain ⟨Q, hQ⟩ : ∃ Q, oQ O = Q := ⟨_, rfl⟩
  obtain ⟨ok, hok⟩ : ∃ ok, O.isSome = ok := ⟨_, rfl⟩
  rw [hD, hP, hQ, hok] at HA HB
  obtain ⟨L, hL⟩ : ∃ L, oL O = L := ⟨_, rfl⟩
  rw [hL] at HA HB hN
  obtain ⟨N, hNL⟩ : ∃ N, L.length = N := ⟨_, rfl⟩
  rw [hNL] at HA HB hN
  clear hO hD hP hQ hok hL hNL
  go_enter Try.func11, Try.ntmps11
  go_wp2_with fail
  refine (HS.out _).mono ?_
  rintro e w1 ⟨rfl, hb⟩
  have s1 : w.heap.size + 2 ≤ w1.heap.size := (by have := hb.size; (try simp at this); omega)
  have z1_0 : w.heap.size < w1.heap.size := (by omega)
  have z1_1 : w.heap.size + 1 < w1.heap.size := (by omega)
  have q1_0 : w1.cell? ⟨w.heap.size, 0, none⟩ = some (.int .i64 day) := ext_cell hb (by simp [go_sem])
  have q1_1 : w1.cell? ⟨w.heap.size, 1, none⟩ = some (.slice A n c) := ext_cell hb (by simp [go_sem])
  have q1_2 : w1.cell? ⟨w.heap.size, 2, none⟩ = some (.int .i64 pa) := ext_cell hb (by simp [go_sem])
  have q1_3 : w1.cell? ⟨w.heap.size, 3, none⟩ = some (.int .i64 le) := ext_cell hb (by simp [go_sem])
  have q1_4 : w1.cell? ⟨w.heap.size + 1, 0, none⟩ = some (.int .i64 k) := ext_cell hb (by simp [go_sem])
  have q1_5 : w1.cell? ⟨w.heap.size + 1, 1, none⟩ = some (.int .i64 id) := ext_cell hb (by simp [go_sem])
  have q1_6 : w1.cell? ⟨w.heap.size + 1, 2, none⟩ = some (.int .i64 v) := ext_cell hb (by simp [go_sem])
  have b1 := Lib.hid (ext_trans (ext_alloc (ext_alloc (ext_refl w) _) _) hb)
  have t1 : w.heap.size ≤ w1.heap.size := b1.out.size
  clear hb
  go_upto_region 5 with fail
  go_cut [6, 7] (fun s6 s7 wx => ∃ (g : Nat) (Aw : Option Addr) (cw : Nat), s6 = .pointer (some ⟨g, 0, none⟩) ∧ s7 = .bool ok ∧ wx.cell? ⟨g, 0, none⟩ = some (.int .i64 D) ∧ wx.cell? ⟨g, 1, none⟩ = some (.slice Aw N cw) ∧ wx.cell? ⟨g, 2, none⟩ = some (.int .i64 P) ∧ wx.cell? ⟨g, 3, none⟩ = some (.int .i64 Q) ∧ w1.heap.size ≤ g ∧ g < wx.heap.size ∧ Below w1.heap.size w1 wx ∧ wx.ownsRow w1.heap.size 109 5 (.slice Aw N cw) N (rowsV L) ∧ Value.ownBlock (.slice Aw N cw) ≠ some g)
  case first =>
    go_region_held3 (fun w' => w'.cell? ⟨w.heap.size, 0, none⟩ = some (.int .i64 day) ∧ w'.cell? ⟨w.heap.size, 1, none⟩ = some (.slice A n c) ∧ w'.cell? ⟨w.heap.size, 2, none⟩ = some (.int .i64 pa) ∧ w'.cell? ⟨w.heap.size, 3, none⟩ = some (.int .i64 le) ∧ w'.cell? ⟨w.heap.size + 1, 0, none⟩ = some (.int .i64 k) ∧ w'.cell? ⟨w.heap.size + 1, 1, none⟩ = some (.int .i64 id) ∧ w'.cell? ⟨w.heap.size + 1, 2, none⟩ = some (.int .i64 v)) (first | (go_split_ands; ((repeat' refine And.intro ?_ ?_) <;> with_reducible (repeat (first | assumption | refine cell_drew ?_ | refine cell_old ?_ _ | refine cell_set_far (by simp <;> omega) ?_))))) (first | (go_at_call 45; refine (toSchool_any day pa le A n c l _ hn (by refine Reads.more (B := w.heap.size) (Reads.ext H.out (by repeat (first | (with_reducible exact b1.out) | (with_reducible refine ext_drew ?_) | (with_reducible refine ext_alloc ?_ _))) (Nat.le_refl _)) (by simp <;> omega))).mono ?_; rintro e w' ⟨Ay, cy, rfl, hoy, hb⟩; have hoy := Lib.hid (own_base (base' := 0) hoy (Nat.zero_le _)); obtain ⟨hc, hf⟩ := bcell hb; have hz := hb.size; (try simp at hz); (try have hy3 := Nat.lt_of_lt_of_le hy2 hb.size); (try have hy2 := Nat.lt_of_lt_of_le hy1 hb.size); (try have hy1 := Nat.lt_of_lt_of_le hy hb.size); (try have hy := Nat.lt_of_succ_le hz); have k0 : w'.cell? ⟨w.heap.size, 0, none⟩ = some (.int .i64 day) := ext_cell hb (by with_reducible (repeat (first | assumption | refine cell_drew ?_ | refine cell_old ?_ _))); have k1 : w'.cell? ⟨w.heap.size, 1, none⟩ = some (.slice A n c) := ext_cell hb (by with_reducible (repeat (first | assumption | refine cell_drew ?_ | refine cell_old ?_ _))); have k2 : w'.cell? ⟨w.heap.size, 2, none⟩ = some (.int .i64 pa) := ext_cell hb (by with_reducible (repeat (first | assumption | refine cell_drew ?_ | refine cell_old ?_ _))); have k3 : w'.cell? ⟨w.heap.size, 3, none⟩ = some (.int .i64 le) := ext_cell hb (by with_reducible (repeat (first | assumption | refine cell_drew ?_ | refine cell_old ?_ _))); have k4 : w'.cell? ⟨w.heap.size + 1, 0, none⟩ = some (.int .i64 k) := ext_cell hb (by with_reducible (repeat (first | assumption | refine cell_drew ?_ | refine cell_old ?_ _))); have k5 : w'.cell? ⟨w.heap.size + 1, 1, none⟩ = some (.int .i64 id) := ext_cell hb (by with_reducible (repeat (first | assumption | refine cell_drew ?_ | refine cell_old ?_ _))); have k6 : w'.cell? ⟨w.heap.size + 1, 2, none⟩ = some (.int .i64 v) := ext_cell hb (by with_reducible (repeat (first | assumption | refine cell_drew ?_ | refine cell_old ?_ _)))) | (go_at_call 46; refine (toSchoolStep_any ⟨k, id, v⟩ _).mono ?_; rintro e w' ⟨rfl, hb⟩; skip; obtain ⟨hc, hf⟩ := bcell hb; have hz := hb.size; (try simp at hz); (try have hy3 := Nat.lt_of_lt_of_le hy2 hb.size); (try have hy2 := Nat.lt_of_lt_of_le hy1 hb.size); (try have hy1 := Nat.lt_of_lt_of_le hy hb.size); (try have hy := Nat.lt_of_succ_le hz); have k0 : w'.cell? ⟨w.heap.size, 0, none⟩ = some (.int .i64 day) := ext_cell hb (by with_reducible (repeat (first | assumption | refine cell_drew ?_ | refine cell_old ?_ _))); have k1 : w'.cell? ⟨w.heap.size, 1, none⟩ = some (.slice A n c) := ext_cell hb (by with_reducible (repeat (first | assumption | refine cell_drew ?_ | refine cell_old ?_ _))); have k2 : w'.cell? ⟨w.heap.size, 2, none⟩ = some (.int .i64 pa) := ext_cell hb (by with_reducible (repeat (first | assumption | refine cell_drew ?_ | refine cell_old ?_ _))); have k3 : w'.cell? ⟨w.heap.size, 3, none⟩ = some (.int .i64 le) := ext_cell hb (by with_reducible (repeat (first | assumption | refine cell_drew ?_ | refine cell_old ?_ _))); have k4 : w'.cell? ⟨w.heap.size + 1, 0, none⟩ = some (.int .i64 k) := ext_cell hb (by with_reducible (repeat (first | assumption | refine cell_drew ?_ | refine cell_old ?_ _))); have k5 : w'.cell? ⟨w.heap.size + 1, 1, none⟩ = some (.int .i64 id) := ext_cell hb (by with_reducible (repeat (first | assumption | refine cell_drew ?_ | refine cell_old ?_ _))); have k6 : w'.cell? ⟨w.heap.size + 1, 2, none⟩ = some (.int .i64 v) := ext_cell hb (by with_reducible (repeat (first | assumption | refine cell_drew ?_ | refine cell_old ?_ _)))) | (go_at_call 44; refine (HA.out _ Ay cy (own_cap2 hoy.out) (slOk_own hoy.out) (Reads.of_own (base := 0) (e := 109) (c := cy) (by repeat (first | (with_reducible exact hoy.out) | (with_reducible refine World.ownsRow.drew ?_) | (with_reducible refine World.ownsRow.alloc ?_ _) | refine own_ext ?_ hb)))).mono ?_; rintro e w' ⟨Aw, cw, rfl, ho_w, hb⟩; have ho_w := Lib.hid ho_w; obtain ⟨hc, hf⟩ := bcell hb; have hz := hb.size; (try simp at hz); (try have hy3 := Nat.lt_of_lt_of_le hy2 hb.size); (try have hy2 := Nat.lt_of_lt_of_le hy1 hb.size); (try have hy1 := Nat.lt_of_lt_of_le hy hb.size); (try have hy := Nat.lt_of_succ_le hz); have k0 : w'.cell? ⟨w.heap.size, 0, none⟩ = some (.int .i64 day) := ext_cell hb (by with_reducible (repeat (first | assumption | refine cell_drew ?_ | refine cell_old ?_ _))); have k1 : w'.cell? ⟨w.heap.size, 1, none⟩ = some (.slice A n c) := ext_cell hb (by with_reducible (repeat (first | assumption | refine cell_drew ?_ | refine cell_old ?_ _))); have k2 : w'.cell? ⟨w.heap.size, 2, none⟩ = some (.int .i64 pa) := ext_cell hb (by with_reducible (repeat (first | assumption | refine cell_drew ?_ | refine cell_old ?_ _))); have k3 : w'.cell? ⟨w.heap.size, 3, none⟩ = some (.int .i64 le) := ext_cell hb (by with_reducible (repeat (first | assumption | refine cell_drew ?_ | refine cell_old ?_ _))); have k4 : w'.cell? ⟨w.heap.size + 1, 0, none⟩ = some (.int .i64 k) := ext_cell hb (by with_reducible (repeat (first | assumption | refine cell_drew ?_ | refine cell_old ?_ _))); have k5 : w'.cell? ⟨w.heap.size + 1, 1, none⟩ = some (.int .i64 id) := ext_cell hb (by with_reducible (repeat (first | assumption | refine cell_drew ?_ | refine cell_old ?_ _))); have k6 : w'.cell? ⟨w.heap.size + 1, 2, none⟩ = some (.int .i64 v) := ext_cell hb (by with_reducible (repeat (first | assumption | refine cell_drew ?_ | refine cell_old ?_ _)))))
    all_goals (go_wp2_with fail; go_meet; refine ⟨_, Aw, cw, rfl, rfl, ?_, ?_, ?_, ?_, ?_, ?_, ?_, ?_, ?_⟩)
    all_goals first | omega | (simp [go_sem, *]; done) | (simp <;> omega) | exact own_far_lt ho_w.out (by simp <;> omega) | exact own_far_ge ho_w.out (by simp <;> omega) | (repeat (first | (with_reducible exact ext_refl _) | (with_reducible assumption) | (with_reducible refine ext_alloc ?_ _) | (with_reducible refine ext_drew ?_) | (with_reducible refine ext_set ?_ (by simp <;> omega) _) | (with_reducible exact ext_refl _) | refine ext_trans ?_ (by assumption)))
    all_goals (first | (with_reducible refine own_base ho_w.out ?_) | (with_reducible refine own_base (ho_w.out.alloc _) ?_) | (with_reducible refine own_base ho_w.out.drew ?_) | (with_reducible refine own_base (own_set_nb (own_set_nb (own_set_nb (own_set_nb ho_w.out ?_ _) ?_ _) ?_ _) ?_ _) ?_) | (with_reducible refine own_far_lt ho_w.out ?_) | (with_reducible refine own_far_ge ho_w.out ?_) | skip)
    all_goals (first | omega | (simp; done) | (simp; omega) | (with_reducible refine own_far_lt ho_w.out ?_) | (with_reducible refine own_far_ge ho_w.out ?_) | skip)
    all_goals (first | omega | (simp; done) | (simp; omega) | (show _ < _; simp; omega))
  case rest =>
    obtain ⟨g2, Aw, cw, rfl, rfl, p2_0, p2_1, p2_2, p2_3, hgl2, hgs2, hb, ho_w, hn_w⟩ := hcut
    obtain ⟨w2, hw2⟩ : ∃ x : World, x = wc := ⟨_, rfl⟩
    subst hw2
    have s2 : w1.heap.size ≤ w2.heap.size := (by have := hb.size; (try simp at this); omega)
    have z2_0 : w.heap.size < w2.heap.size := (by omega)
    have z2_1 : w.heap.size + 1 < w2.heap.size := (by omega)
    have q2_0 : w2.cell? ⟨w.heap.size, 0, none⟩ = some (.int .i64 day) := ext_cell hb q1_0
    have q2_1 : w2.cell? ⟨w.heap.size, 1, none⟩ = some (.slice A n c) := ext_cell hb q1_1
    have q2_2 : w2.cell? ⟨w.heap.size, 2, none⟩ = some (.int .i64 pa) := ext_cell hb q1_2
    have q2_3 : w2.cell? ⟨w.heap.size, 3, none⟩ = some (.int .i64 le) := ext_cell hb q1_3
    have q2_4 : w2.cell? ⟨w.heap.size + 1, 0, none⟩ = some (.int .i64 k) := ext_cell hb q1_4
    have q2_5 : w2.cell? ⟨w.heap.size + 1, 1, none⟩ = some (.int .i64 id) := ext_cell hb q1_5
    have q2_6 : w2.cell? ⟨w.heap.size + 1, 2, none⟩ = some (.int .i64 v) := ext_cell hb q1_6
    have b2 := Lib.hid (ext_trans b1.out hb)
    have t2 : w.heap.size ≤ w2.heap.size := b2.out.size
    clear q1_0 q1_1 q1_2 q1_3 q1_4 q1_5 q1_6
    have z2_g : g2 < w2.heap.size := hgs2
    have oc_w := Lib.hid ho_w
    clear ho_w
    clear hb
    go_wp2_with fail
    refine (toSchool_any day pa le A n c l _ hn ((H.out.ext b2.out (Nat.le_refl _)).more (by first | omega | (simp <;> omega)))).mono ?_
    rintro e w3 ⟨Ax, cx, rfl, ho_x, hb⟩
    have s3 : w2.heap.size ≤ w3.heap.size := (by have := hb.size; (try simp at this); omega)
    have z3_0 : w.heap.size < w3.heap.size := (by omega)
    have z3_1 : w.heap.size + 1 < w3.heap.size := (by omega)
    have z3_2 : g2 < w3.heap.size := (by omega)
    have q3_0 : w3.cell? ⟨w.heap.size, 0, none⟩ = some (.int .i64 day) := ext_cell hb q2_0
    have q3_1 : w3.cell? ⟨w.heap.size, 1, none⟩ = some (.slice A n c) := ext_cell hb q2_1
    have q3_2 : w3.cell? ⟨w.heap.size, 2, none⟩ = some (.int .i64 pa) := ext_cell hb q2_2
    have q3_3 : w3.cell? ⟨w.heap.size, 3, none⟩ = some (.int .i64 le) := ext_cell hb q2_3
    have q3_4 : w3.cell? ⟨w.heap.size + 1, 0, none⟩ = some (.int .i64 k) := ext_cell hb q2_4
    have q3_5 : w3.cell? ⟨w.heap.size + 1, 1, none⟩ = some (.int .i64 id) := ext_cell hb q2_5
    have q3_6 : w3.cell? ⟨w.heap.size + 1, 2, none⟩ = some (.int .i64 v) := ext_cell hb q2_6
    have q3_7 : w3.cell? ⟨g2, 0, none⟩ = some (.int .i64 D) := ext_cell hb p2_0
    have q3_8 : w3.cell? ⟨g2, 1, none⟩ = some (.slice Aw N cw) := ext_cell hb p2_1
    have q3_9 : w3.cell? ⟨g2, 2, none⟩ = some (.int .i64 P) := ext_cell hb p2_2
    have q3_10 : w3.cell? ⟨g2, 3, none⟩ = some (.int .i64 Q) := ext_cell hb p2_3
    have b3 := Lib.hid (ext_trans b2.out hb)
    have t3 : w.heap.size ≤ w3.heap.size := b3.out.size
    have o3_w := Lib.hid (own_ext oc_w.out hb)
    clear q2_0 q2_1 q2_2 q2_3 q2_4 q2_5 q2_6 p2_0 p2_1 p2_2 p2_3
    have oc_x := Lib.hid (own_base (base' := w2.heap.size + 0) ho_x (by simp))
    clear ho_x
    clear hb
    have hslx := slOk_own oc_x.out
    have hox0 := Lib.hid (own_base (base' := 0) oc_x.out (Nat.zero_le _))
    have nb4_0 : (w3.alloc (.cells #[.int .i64 day, .slice Ax n cx, .int .i64 pa, .int .i64 le] 24)).cell? ⟨w.heap.size, 0, none⟩ = some (.int .i64 day) := (cell_old q3_0 _)
    have nb4_1 : (w3.alloc (.cells #[.int .i64 day, .slice Ax n cx, .int .i64 pa, .int .i64 le] 24)).cell? ⟨w.heap.size, 1, none⟩ = some (.slice A n c) := (cell_old q3_1 _)
    have nb4_2 : (w3.alloc (.cells #[.int .i64 day, .slice Ax n cx, .int .i64 pa, .int .i64 le] 24)).cell? ⟨w.heap.size, 2, none⟩ = some (.int .i64 pa) := (cell_old q3_2 _)
    have nb4_3 : (w3.alloc (.cells #[.int .i64 day, .slice Ax n cx, .int .i64 pa, .int .i64 le] 24)).cell? ⟨w.heap.size, 3, none⟩ = some (.int .i64 le) := (cell_old q3_3 _)
    have nb4_4 : (w3.alloc (.cells #[.int .i64 day, .slice Ax n cx, .int .i64 pa, .int .i64 le] 24)).cell? ⟨w.heap.size + 1, 0, none⟩ = some (.int .i64 k) := (cell_old q3_4 _)
    have nb4_5 : (w3.alloc (.cells #[.int .i64 day, .slice Ax n cx, .int .i64 pa, .int .i64 le] 24)).cell? ⟨w.heap.size + 1, 1, none⟩ = some (.int .i64 id) := (cell_old q3_5 _)
    have nb4_6 : (w3.alloc (.cells #[.int .i64 day, .slice Ax n cx, .int .i64 pa, .int .i64 le] 24)).cell? ⟨w.heap.size + 1, 2, none⟩ = some (.int .i64 v) := (cell_old q3_6 _)
    have nb4_7 : (w3.alloc (.cells #[.int .i64 day, .slice Ax n cx, .int .i64 pa, .int .i64 le] 24)).cell? ⟨g2, 0, none⟩ = some (.int .i64 D) := (cell_old q3_7 _)
    have nb4_8 : (w3.alloc (.cells #[.int .i64 day, .slice Ax n cx, .int .i64 pa, .int .i64 le] 24)).cell? ⟨g2, 1, none⟩ = some (.slice Aw N cw) := (cell_old q3_8 _)
    have nb4_9 : (w3.alloc (.cells #[.int .i64 day, .slice Ax n cx, .int .i64 pa, .int .i64 le] 24)).cell? ⟨g2, 2, none⟩ = some (.int .i64 P) := (cell_old q3_9 _)
    have nb4_10 : (w3.alloc (.cells #[.int .i64 day, .slice Ax n cx, .int .i64 pa, .int .i64 le] 24)).cell? ⟨g2, 3, none⟩ = some (.int .i64 Q) := (cell_old q3_10 _)
    have nb4_11 : (w3.alloc (.cells #[.int .i64 day, .slice Ax n cx, .int .i64 pa, .int .i64 le] 24)).cell? ⟨w3.heap.size, 0, none⟩ = some (.int .i64 day) := (by simp [go_sem])
    have nb4_12 : (w3.alloc (.cells #[.int .i64 day, .slice Ax n cx, .int .i64 pa, .int .i64 le] 24)).cell? ⟨w3.heap.size, 1, none⟩ = some (.slice Ax n cx) := (by simp [go_sem])
    have nb4_13 : (w3.alloc (.cells #[.int .i64 day, .slice Ax n cx, .int .i64 pa, .int .i64 le] 24)).cell? ⟨w3.heap.size, 2, none⟩ = some (.int .i64 pa) := (by simp [go_sem])
    have nb4_14 : (w3.alloc (.cells #[.int .i64 day, .slice Ax n cx, .int .i64 pa, .int .i64 le] 24)).cell? ⟨w3.heap.size, 3, none⟩ = some (.int .i64 le) := (by simp [go_sem])
    go_upto_region 7 with fail
    go_cut [9, 10] (fun s9 s10 wx => ∃ (g : Nat) (Ag : Option Addr) (cg : Nat), s9 = .pointer (some ⟨g, 0, none⟩) ∧ s10 = .bool ok ∧ wx.cell? ⟨g, 0, none⟩ = some (.int .i64 D) ∧ wx.cell? ⟨g, 1, none⟩ = some (.slice Ag N cg) ∧ wx.cell? ⟨g, 2, none⟩ = some (.int .i64 P) ∧ wx.cell? ⟨g, 3, none⟩ = some (.int .i64 Q) ∧ (w3.alloc (.cells #[.int .i64 day, .slice Ax n cx, .int .i64 pa, .int .i64 le] 24)).heap.size ≤ g ∧ g < wx.heap.size ∧ Below (w3.alloc (.cells #[.int .i64 day, .slice Ax n cx, .int .i64 pa, .int .i64 le] 24)).heap.size (w3.alloc (.cells #[.int .i64 day, .slice Ax n cx, .int .i64 pa, .int .i64 le] 24)) wx ∧ wx.ownsRow (w3.alloc (.cells #[.int .i64 day, .slice Ax n cx, .int .i64 pa, .int .i64 le] 24)).heap.size 109 5 (.slice Ag N cg) N (rowsV L) ∧ Value.ownBlock (.slice Ag N cg) ≠ some g)
    case first =>
      go_region_held3 (fun w' => w'.cell? ⟨w.heap.size, 0, none⟩ = some (.int .i64 day) ∧ w'.cell? ⟨w.heap.size, 1, none⟩ = some (.slice A n c) ∧ w'.cell? ⟨w.heap.size, 2, none⟩ = some (.int .i64 pa) ∧ w'.cell? ⟨w.heap.size, 3, none⟩ = some (.int .i64 le) ∧ w'.cell? ⟨w.heap.size + 1, 0, none⟩ = some (.int .i64 k) ∧ w'.cell? ⟨w.heap.size + 1, 1, none⟩ = some (.int .i64 id) ∧ w'.cell? ⟨w.heap.size + 1, 2, none⟩ = some (.int .i64 v) ∧ w'.cell? ⟨g2, 0, none⟩ = some (.int .i64 D) ∧ w'.cell? ⟨g2, 1, none⟩ = some (.slice Aw N cw) ∧ w'.cell? ⟨g2, 2, none⟩ = some (.int .i64 P) ∧ w'.cell? ⟨g2, 3, none⟩ = some (.int .i64 Q) ∧ w'.cell? ⟨w3.heap.size, 0, none⟩ = some (.int .i64 day) ∧ w'.cell? ⟨w3.heap.size, 1, none⟩ = some (.slice Ax n cx) ∧ w'.cell? ⟨w3.heap.size, 2, none⟩ = some (.int .i64 pa) ∧ w'.cell? ⟨w3.heap.size, 3, none⟩ = some (.int .i64 le)) (first | (go_split_ands; ((repeat' refine And.intro ?_ ?_) <;> with_reducible (repeat (first | assumption | refine cell_drew ?_ | refine cell_old ?_ _ | refine cell_set_far (by simp <;> omega) ?_))))) (first | (go_at_call 46; refine (toSchoolStep_any ⟨k, id, v⟩ _).mono ?_; rintro e w' ⟨rfl, hb⟩; skip; obtain ⟨hc, hf⟩ := bcell hb; have hz := hb.size; (try simp at hz); (try have hy3 := Nat.lt_of_lt_of_le hy2 hb.size); (try have hy2 := Nat.lt_of_lt_of_le hy1 hb.size); (try have hy1 := Nat.lt_of_lt_of_le hy hb.size); (try have hy := Nat.lt_of_succ_le hz); have k0 : w'.cell? ⟨w.heap.size, 0, none⟩ = some (.int .i64 day) := ext_cell hb (by with_reducible (repeat (first | assumption | refine cell_drew ?_ | refine cell_old ?_ _))); have k1 : w'.cell? ⟨w.heap.size, 1, none⟩ = some (.slice A n c) := ext_cell hb (by with_reducible (repeat (first | assumption | refine cell_drew ?_ | refine cell_old ?_ _))); have k2 : w'.cell? ⟨w.heap.size, 2, none⟩ = some (.int .i64 pa) := ext_cell hb (by with_reducible (repeat (first | assumption | refine cell_drew ?_ | refine cell_old ?_ _))); have k3 : w'.cell? ⟨w.heap.size, 3, none⟩ = some (.int .i64 le) := ext_cell hb (by with_reducible (repeat (first | assumption | refine cell_drew ?_ | refine cell_old ?_ _))); have k4 : w'.cell? ⟨w.heap.size + 1, 0, none⟩ = some (.int .i64 k) := ext_cell hb (by with_reducible (repeat (first | assumption | refine cell_drew ?_ | refine cell_old ?_ _))); have k5 : w'.cell? ⟨w.heap.size + 1, 1, none⟩ = some (.int .i64 id) := ext_cell hb (by with_reducible (repeat (first | assumption | refine cell_drew ?_ | refine cell_old ?_ _))); have k6 : w'.cell? ⟨w.heap.size + 1, 2, none⟩ = some (.int .i64 v) := ext_cell hb (by with_reducible (repeat (first | assumption | refine cell_drew ?_ | refine cell_old ?_ _))); have k7 : w'.cell? ⟨g2, 0, none⟩ = some (.int .i64 D) := ext_cell hb (by with_reducible (repeat (first | assumption | refine cell_drew ?_ | refine cell_old ?_ _))); have k8 : w'.cell? ⟨g2, 1, none⟩ = some (.slice Aw N cw) := ext_cell hb (by with_reducible (repeat (first | assumption | refine cell_drew ?_ | refine cell_old ?_ _))); have k9 : w'.cell? ⟨g2, 2, none⟩ = some (.int .i64 P) := ext_cell hb (by with_reducible (repeat (first | assumption | refine cell_drew ?_ | refine cell_old ?_ _))); have k10 : w'.cell? ⟨g2, 3, none⟩ = some (.int .i64 Q) := ext_cell hb (by with_reducible (repeat (first | assumption | refine cell_drew ?_ | refine cell_old ?_ _))); have k11 : w'.cell? ⟨w3.heap.size, 0, none⟩ = some (.int .i64 day) := ext_cell hb (by with_reducible (repeat (first | assumption | refine cell_drew ?_ | refine cell_old ?_ _))); have k12 : w'.cell? ⟨w3.heap.size, 1, none⟩ = some (.slice Ax n cx) := ext_cell hb (by with_reducible (repeat (first | assumption | refine cell_drew ?_ | refine cell_old ?_ _))); have k13 : w'.cell? ⟨w3.heap.size, 2, none⟩ = some (.int .i64 pa) := ext_cell hb (by with_reducible (repeat (first | assumption | refine cell_drew ?_ | refine cell_old ?_ _))); have k14 : w'.cell? ⟨w3.heap.size, 3, none⟩ = some (.int .i64 le) := ext_cell hb (by with_reducible (repeat (first | assumption | refine cell_drew ?_ | refine cell_old ?_ _)))) | (go_at_call 47; refine (HB.out _ Ax cx hslx (Reads.of_own (base := 0) (e := 109) (c := cx) (by repeat (first | (with_reducible exact hox0.out) | (with_reducible refine World.ownsRow.drew ?_) | (with_reducible refine World.ownsRow.alloc ?_ _) | refine own_ext ?_ hb)))).mono ?_; rintro e w' ⟨Ag, cg, rfl, ho_g, hb⟩; have ho_g := Lib.hid ho_g; obtain ⟨hc, hf⟩ := bcell hb; have hz := hb.size; (try simp at hz); (try have hy3 := Nat.lt_of_lt_of_le hy2 hb.size); (try have hy2 := Nat.lt_of_lt_of_le hy1 hb.size); (try have hy1 := Nat.lt_of_lt_of_le hy hb.size); (try have hy := Nat.lt_of_succ_le hz); have k0 : w'.cell? ⟨w.heap.size, 0, none⟩ = some (.int .i64 day) := ext_cell hb (by with_reducible (repeat (first | assumption | refine cell_drew ?_ | refine cell_old ?_ _))); have k1 : w'.cell? ⟨w.heap.size, 1, none⟩ = some (.slice A n c) := ext_cell hb (by with_reducible (repeat (first | assumption | refine cell_drew ?_ | refine cell_old ?_ _))); have k2 : w'.cell? ⟨w.heap.size, 2, none⟩ = some (.int .i64 pa) := ext_cell hb (by with_reducible (repeat (first | assumption | refine cell_drew ?_ | refine cell_old ?_ _))); have k3 : w'.cell? ⟨w.heap.size, 3, none⟩ = some (.int .i64 le) := ext_cell hb (by with_reducible (repeat (first | assumption | refine cell_drew ?_ | refine cell_old ?_ _))); have k4 : w'.cell? ⟨w.heap.size + 1, 0, none⟩ = some (.int .i64 k) := ext_cell hb (by with_reducible (repeat (first | assumption | refine cell_drew ?_ | refine cell_old ?_ _))); have k5 : w'.cell? ⟨w.heap.size + 1, 1, none⟩ = some (.int .i64 id) := ext_cell hb (by with_reducible (repeat (first | assumption | refine cell_drew ?_ | refine cell_old ?_ _))); have k6 : w'.cell? ⟨w.heap.size + 1, 2, none⟩ = some (.int .i64 v) := ext_cell hb (by with_reducible (repeat (first | assumption | refine cell_drew ?_ | refine cell_old ?_ _))); have k7 : w'.cell? ⟨g2, 0, none⟩ = some (.int .i64 D) := ext_cell hb (by with_reducible (repeat (first | assumption | refine cell_drew ?_ | refine cell_old ?_ _))); have k8 : w'.cell? ⟨g2, 1, none⟩ = some (.slice Aw N cw) := ext_cell hb (by with_reducible (repeat (first | assumption | refine cell_drew ?_ | refine cell_old ?_ _))); have k9 : w'.cell? ⟨g2, 2, none⟩ = some (.int .i64 P) := ext_cell hb (by with_reducible (repeat (first | assumption | refine cell_drew ?_ | refine cell_old ?_ _))); have k10 : w'.cell? ⟨g2, 3, none⟩ = some (.int .i64 Q) := ext_cell hb (by with_reducible (repeat (first | assumption | refine cell_drew ?_ | refine cell_old ?_ _))); have k11 : w'.cell? ⟨w3.heap.size, 0, none⟩ = some (.int .i64 day) := ext_cell hb (by with_reducible (repeat (first | assumption | refine cell_drew ?_ | refine cell_old ?_ _))); have k12 : w'.cell? ⟨w3.heap.size, 1, none⟩ = some (.slice Ax n cx) := ext_cell hb (by with_reducible (repeat (first | assumption | refine cell_drew ?_ | refine cell_old ?_ _))); have k13 : w'.cell? ⟨w3.heap.size, 2, none⟩ = some (.int .i64 pa) := ext_cell hb (by with_reducible (repeat (first | assumption | refine cell_drew ?_ | refine cell_old ?_ _))); have k14 : w'.cell? ⟨w3.heap.size, 3, none⟩ = some (.int .i64 le) := ext_cell hb (by with_reducible (repeat (first | assumption | refine cell_drew ?_ | refine cell_old ?_ _)))))
      all_goals (go_wp2_with fail; go_meet; refine ⟨_, Ag, cg, rfl, rfl, ?_, ?_, ?_, ?_, ?_, ?_, ?_, ?_, ?_⟩)
      all_goals first | omega | (simp [go_sem, *]; done) | (simp <;> omega) | exact own_far_lt ho_g.out (by simp <;> omega) | exact own_far_ge ho_g.out (by simp <;> omega) | (repeat (first | (with_reducible exact ext_refl _) | (with_reducible assumption) | (with_reducible refine ext_alloc ?_ _) | (with_reducible refine ext_drew ?_) | (with_reducible refine ext_set ?_ (by simp <;> omega) _) | (with_reducible exact ext_refl _) | refine ext_trans ?_ (by assumption)))
      all_goals (first | (with_reducible refine own_base ho_g.out ?_) | (with_reducible refine own_base (ho_g.out.alloc _) ?_) | (with_reducible refine own_base ho_g.out.drew ?_) | (with_reducible refine own_base (own_set_nb (own_set_nb (own_set_nb (own_set_nb ho_g.out ?_ _) ?_ _) ?_ _) ?_ _) ?_) | (with_reducible refine own_far_lt ho_g.out ?_) | (with_reducible refine own_far_ge ho_g.out ?_) | skip)
      all_goals (first | omega | (simp; done) | (simp; omega) | (with_reducible refine own_far_lt ho_g.out ?_) | (with_reducible refine own_far_ge ho_g.out ?_) | skip)
      all_goals (first | omega | (simp; done) | (simp; omega) | (show _ < _; simp; omega))
    case rest =>
      obtain ⟨g4, Ag, cg, rfl, rfl, p4_0, p4_1, p4_2, p4_3, hgl4, hgs4, hb, ho_g, hn_g⟩ := hcut
      obtain ⟨w4, hw4⟩ : ∃ x : World, x = wc := ⟨_, rfl⟩
      subst hw4
      have hgm4 : w3.heap.size + 1 ≤ g4 := (by simpa using hgl4)
      have s4 : w3.heap.size + 1 ≤ w4.heap.size := (by have := hb.size; (try simp at this); omega)
      have z4_0 : w.heap.size < w4.heap.size := (by omega)
      have z4_1 : w.heap.size + 1 < w4.heap.size := (by omega)
      have z4_2 : g2 < w4.heap.size := (by omega)
      have z4_3 : w3.heap.size < w4.heap.size := (by omega)
      have q4_0 : w4.cell? ⟨w.heap.size, 0, none⟩ = some (.int .i64 day) := ext_cell hb (cell_old q3_0 _)
      have q4_1 : w4.cell? ⟨w.heap.size, 1, none⟩ = some (.slice A n c) := ext_cell hb (cell_old q3_1 _)
      have q4_2 : w4.cell? ⟨w.heap.size, 2, none⟩ = some (.int .i64 pa) := ext_cell hb (cell_old q3_2 _)
      have q4_3 : w4.cell? ⟨w.heap.size, 3, none⟩ = some (.int .i64 le) := ext_cell hb (cell_old q3_3 _)
      have q4_4 : w4.cell? ⟨w.heap.size + 1, 0, none⟩ = some (.int .i64 k) := ext_cell hb (cell_old q3_4 _)
      have q4_5 : w4.cell? ⟨w.heap.size + 1, 1, none⟩ = some (.int .i64 id) := ext_cell hb (cell_old q3_5 _)
      have q4_6 : w4.cell? ⟨w.heap.size + 1, 2, none⟩ = some (.int .i64 v) := ext_cell hb (cell_old q3_6 _)
      have q4_7 : w4.cell? ⟨g2, 0, none⟩ = some (.int .i64 D) := ext_cell hb (cell_old q3_7 _)
      have q4_8 : w4.cell? ⟨g2, 1, none⟩ = some (.slice Aw N cw) := ext_cell hb (cell_old q3_8 _)
      have q4_9 : w4.cell? ⟨g2, 2, none⟩ = some (.int .i64 P) := ext_cell hb (cell_old q3_9 _)
      have q4_10 : w4.cell? ⟨g2, 3, none⟩ = some (.int .i64 Q) := ext_cell hb (cell_old q3_10 _)
      have q4_11 : w4.cell? ⟨w3.heap.size, 0, none⟩ = some (.int .i64 day) := ext_cell hb (by simp [go_sem])
      have q4_12 : w4.cell? ⟨w3.heap.size, 1, none⟩ = some (.slice Ax n cx) := ext_cell hb (by simp [go_sem])
      have q4_13 : w4.cell? ⟨w3.heap.size, 2, none⟩ = some (.int .i64 pa) := ext_cell hb (by simp [go_sem])
      have q4_14 : w4.cell? ⟨w3.heap.size, 3, none⟩ = some (.int .i64 le) := ext_cell hb (by simp [go_sem])
      have b4 := Lib.hid (ext_trans (ext_alloc b3.out _) hb)
      have t4 : w.heap.size ≤ w4.heap.size := b4.out.size
      have o4_w := Lib.hid (own_ext (o3_w.out.alloc _) hb)
      have o4_x := Lib.hid (own_ext (oc_x.out.alloc _) hb)
      clear q3_0 q3_1 q3_2 q3_3 q3_4 q3_5 q3_6 q3_7 q3_8 q3_9 q3_10
      have z4_g : g4 < w4.heap.size := hgs4
      have oc_g := Lib.hid (own_base (base' := w3.heap.size + 1) ho_g (by simp))
      clear ho_g
      clear hb
      go_wp2_with fail
      refine (eqSchool_same D P Q Ag Aw N cg cw L _ (by omega) (Reads.of_own oc_g.out) (Reads.of_own o4_w.out)).mono ?_
      rintro e w5 ⟨rfl, hb⟩
      have s5 : w4.heap.size ≤ w5.heap.size := (by have := hb.size; (try simp at this); omega)
      have z5_0 : w.heap.size < w5.heap.size := (by omega)
      have z5_1 : w.heap.size + 1 < w5.heap.size := (by omega)
      have z5_2 : g2 < w5.heap.size := (by omega)
      have z5_3 : w3.heap.size < w5.heap.size := (by omega)
      have z5_4 : g4 < w5.heap.size := (by omega)
      have q5_0 : w5.cell? ⟨w.heap.size, 0, none⟩ = some (.int .i64 day) := ext_cell hb q4_0
      have q5_1 : w5.cell? ⟨w.heap.size, 1, none⟩ = some (.slice A n c) := ext_cell hb q4_1
      have q5_2 : w5.cell? ⟨w.heap.size, 2, none⟩ = some (.int .i64 pa) := ext_cell hb q4_2
      have q5_3 : w5.cell? ⟨w.heap.size, 3, none⟩ = some (.int .i64 le) := ext_cell hb q4_3
      have q5_4 : w5.cell? ⟨w.heap.size + 1, 0, none⟩ = some (.int .i64 k) := ext_cell hb q4_4
      have q5_5 : w5.cell? ⟨w.heap.size + 1, 1, none⟩ = some (.int .i64 id) := ext_cell hb q4_5
      have q5_6 : w5.cell? ⟨w.heap.size + 1, 2, none⟩ = some (.int .i64 v) := ext_cell hb q4_6
      have q5_7 : w5.cell? ⟨g2, 0, none⟩ = some (.int .i64 D) := ext_cell hb q4_7
      have q5_8 : w5.cell? ⟨g2, 1, none⟩ = some (.slice Aw N cw) := ext_cell hb q4_8
      have q5_9 : w5.cell? ⟨g2, 2, none⟩ = some (.int .i64 P) := ext_cell hb q4_9
      have q5_10 : w5.cell? ⟨g2, 3, none⟩ = some (.int .i64 Q) := ext_cell hb q4_10
      have q5_11 : w5.cell? ⟨w3.heap.size, 0, none⟩ = some (.int .i64 day) := ext_cell hb q4_11
      have q5_12 : w5.cell? ⟨w3.heap.size, 1, none⟩ = some (.slice Ax n cx) := ext_cell hb q4_12
      have q5_13 : w5.cell? ⟨w3.heap.size, 2, none⟩ = some (.int .i64 pa) := ext_cell hb q4_13
      have q5_14 : w5.cell? ⟨w3.heap.size, 3, none⟩ = some (.int .i64 le) := ext_cell hb q4_14
      have q5_15 : w5.cell? ⟨g4, 0, none⟩ = some (.int .i64 D) := ext_cell hb p4_0
      have q5_16 : w5.cell? ⟨g4, 1, none⟩ = some (.slice Ag N cg) := ext_cell hb p4_1
      have q5_17 : w5.cell? ⟨g4, 2, none⟩ = some (.int .i64 P) := ext_cell hb p4_2
      have q5_18 : w5.cell? ⟨g4, 3, none⟩ = some (.int .i64 Q) := ext_cell hb p4_3
      have b5 := Lib.hid (ext_trans b4.out hb)
      have t5 : w.heap.size ≤ w5.heap.size := b5.out.size
      have o5_w := Lib.hid (own_ext o4_w.out hb)
      have o5_x := Lib.hid (own_ext o4_x.out hb)
      have o5_g := Lib.hid (own_ext oc_g.out hb)
      clear q4_0 q4_1 q4_2 q4_3 q4_4 q4_5 q4_6 q4_7 q4_8 q4_9 q4_10 q4_11 q4_12 q4_13 q4_14 p4_0 p4_1 p4_2 p4_3
      clear hb
      go_upto_region 10 with fail
      go_cut [51] (fun s51 wx => s51 = .bool false ∧ Below w5.heap.size w5 wx)
      case first =>
        go_region_held3 (fun w' => w'.cell? ⟨w.heap.size, 0, none⟩ = some (.int .i64 day) ∧ w'.cell? ⟨w.heap.size, 1, none⟩ = some (.slice A n c) ∧ w'.cell? ⟨w.heap.size, 2, none⟩ = some (.int .i64 pa) ∧ w'.cell? ⟨w.heap.size, 3, none⟩ = some (.int .i64 le) ∧ w'.cell? ⟨w.heap.size + 1, 0, none⟩ = some (.int .i64 k) ∧ w'.cell? ⟨w.heap.size + 1, 1, none⟩ = some (.int .i64 id) ∧ w'.cell? ⟨w.heap.size + 1, 2, none⟩ = some (.int .i64 v) ∧ w'.cell? ⟨g2, 0, none⟩ = some (.int .i64 D) ∧ w'.cell? ⟨g2, 1, none⟩ = some (.slice Aw N cw) ∧ w'.cell? ⟨g2, 2, none⟩ = some (.int .i64 P) ∧ w'.cell? ⟨g2, 3, none⟩ = some (.int .i64 Q) ∧ w'.cell? ⟨w3.heap.size, 0, none⟩ = some (.int .i64 day) ∧ w'.cell? ⟨w3.heap.size, 1, none⟩ = some (.slice Ax n cx) ∧ w'.cell? ⟨w3.heap.size, 2, none⟩ = some (.int .i64 pa) ∧ w'.cell? ⟨w3.heap.size, 3, none⟩ = some (.int .i64 le) ∧ w'.cell? ⟨g4, 0, none⟩ = some (.int .i64 D) ∧ w'.cell? ⟨g4, 1, none⟩ = some (.slice Ag N cg) ∧ w'.cell? ⟨g4, 2, none⟩ = some (.int .i64 P) ∧ w'.cell? ⟨g4, 3, none⟩ = some (.int .i64 Q)) (first | (go_split_ands; ((repeat' refine And.intro ?_ ?_) <;> with_reducible (repeat (first | assumption | refine cell_drew ?_))))) (first | (go_at_call 45; refine (toSchool_any day pa le A n c l _ hn ((H.out.ext (ext_drew b5.out) (Nat.le_refl _)).more (by first | omega | (simp; omega) | (simp <;> omega)))).mono ?_; rintro e w' ⟨Ay, cy, rfl, hoy, hb⟩; have hoy := Lib.hid hoy; have hbY := Lib.hid hb; obtain ⟨hc, hf⟩ := bcell hb; have k0 : w'.cell? ⟨w.heap.size, 0, none⟩ = some (.int .i64 day) := ext_cell hb (by with_reducible (repeat (first | assumption | refine cell_drew ?_))); have k1 : w'.cell? ⟨w.heap.size, 1, none⟩ = some (.slice A n c) := ext_cell hb (by with_reducible (repeat (first | assumption | refine cell_drew ?_))); have k2 : w'.cell? ⟨w.heap.size, 2, none⟩ = some (.int .i64 pa) := ext_cell hb (by with_reducible (repeat (first | assumption | refine cell_drew ?_))); have k3 : w'.cell? ⟨w.heap.size, 3, none⟩ = some (.int .i64 le) := ext_cell hb (by with_reducible (repeat (first | assumption | refine cell_drew ?_))); have k4 : w'.cell? ⟨w.heap.size + 1, 0, none⟩ = some (.int .i64 k) := ext_cell hb (by with_reducible (repeat (first | assumption | refine cell_drew ?_))); have k5 : w'.cell? ⟨w.heap.size + 1, 1, none⟩ = some (.int .i64 id) := ext_cell hb (by with_reducible (repeat (first | assumption | refine cell_drew ?_))); have k6 : w'.cell? ⟨w.heap.size + 1, 2, none⟩ = some (.int .i64 v) := ext_cell hb (by with_reducible (repeat (first | assumption | refine cell_drew ?_))); have k7 : w'.cell? ⟨g2, 0, none⟩ = some (.int .i64 D) := ext_cell hb (by with_reducible (repeat (first | assumption | refine cell_drew ?_))); have k8 : w'.cell? ⟨g2, 1, none⟩ = some (.slice Aw N cw) := ext_cell hb (by with_reducible (repeat (first | assumption | refine cell_drew ?_))); have k9 : w'.cell? ⟨g2, 2, none⟩ = some (.int .i64 P) := ext_cell hb (by with_reducible (repeat (first | assumption | refine cell_drew ?_))); have k10 : w'.cell? ⟨g2, 3, none⟩ = some (.int .i64 Q) := ext_cell hb (by with_reducible (repeat (first | assumption | refine cell_drew ?_))); have k11 : w'.cell? ⟨w3.heap.size, 0, none⟩ = some (.int .i64 day) := ext_cell hb (by with_reducible (repeat (first | assumption | refine cell_drew ?_))); have k12 : w'.cell? ⟨w3.heap.size, 1, none⟩ = some (.slice Ax n cx) := ext_cell hb (by with_reducible (repeat (first | assumption | refine cell_drew ?_))); have k13 : w'.cell? ⟨w3.heap.size, 2, none⟩ = some (.int .i64 pa) := ext_cell hb (by with_reducible (repeat (first | assumption | refine cell_drew ?_))); have k14 : w'.cell? ⟨w3.heap.size, 3, none⟩ = some (.int .i64 le) := ext_cell hb (by with_reducible (repeat (first | assumption | refine cell_drew ?_))); have k15 : w'.cell? ⟨g4, 0, none⟩ = some (.int .i64 D) := ext_cell hb (by with_reducible (repeat (first | assumption | refine cell_drew ?_))); have k16 : w'.cell? ⟨g4, 1, none⟩ = some (.slice Ag N cg) := ext_cell hb (by with_reducible (repeat (first | assumption | refine cell_drew ?_))); have k17 : w'.cell? ⟨g4, 2, none⟩ = some (.int .i64 P) := ext_cell hb (by with_reducible (repeat (first | assumption | refine cell_drew ?_))); have k18 : w'.cell? ⟨g4, 3, none⟩ = some (.int .i64 Q) := ext_cell hb (by with_reducible (repeat (first | assumption | refine cell_drew ?_)))) | (go_at_call 48; refine (eqSchool_same day pa le Ax Ay n cx cy l _ hn (Reads.of_own (own_ext (World.ownsRow.drew o5_x.out) hbY.out)) (Reads.of_own hoy.out)).mono ?_; rintro e w' ⟨rfl, hb⟩; have hbZ := Lib.hid hb; obtain ⟨hc, hf⟩ := bcell hb; have k0 : w'.cell? ⟨w.heap.size, 0, none⟩ = some (.int .i64 day) := ext_cell hb (by with_reducible (repeat (first | assumption | refine cell_drew ?_))); have k1 : w'.cell? ⟨w.heap.size, 1, none⟩ = some (.slice A n c) := ext_cell hb (by with_reducible (repeat (first | assumption | refine cell_drew ?_))); have k2 : w'.cell? ⟨w.heap.size, 2, none⟩ = some (.int .i64 pa) := ext_cell hb (by with_reducible (repeat (first | assumption | refine cell_drew ?_))); have k3 : w'.cell? ⟨w.heap.size, 3, none⟩ = some (.int .i64 le) := ext_cell hb (by with_reducible (repeat (first | assumption | refine cell_drew ?_))); have k4 : w'.cell? ⟨w.heap.size + 1, 0, none⟩ = some (.int .i64 k) := ext_cell hb (by with_reducible (repeat (first | assumption | refine cell_drew ?_))); have k5 : w'.cell? ⟨w.heap.size + 1, 1, none⟩ = some (.int .i64 id) := ext_cell hb (by with_reducible (repeat (first | assumption | refine cell_drew ?_))); have k6 : w'.cell? ⟨w.heap.size + 1, 2, none⟩ = some (.int .i64 v) := ext_cell hb (by with_reducible (repeat (first | assumption | refine cell_drew ?_))); have k7 : w'.cell? ⟨g2, 0, none⟩ = some (.int .i64 D) := ext_cell hb (by with_reducible (repeat (first | assumption | refine cell_drew ?_))); have k8 : w'.cell? ⟨g2, 1, none⟩ = some (.slice Aw N cw) := ext_cell hb (by with_reducible (repeat (first | assumption | refine cell_drew ?_))); have k9 : w'.cell? ⟨g2, 2, none⟩ = some (.int .i64 P) := ext_cell hb (by with_reducible (repeat (first | assumption | refine cell_drew ?_))); have k10 : w'.cell? ⟨g2, 3, none⟩ = some (.int .i64 Q) := ext_cell hb (by with_reducible (repeat (first | assumption | refine cell_drew ?_))); have k11 : w'.cell? ⟨w3.heap.size, 0, none⟩ = some (.int .i64 day) := ext_cell hb (by with_reducible (repeat (first | assumption | refine cell_drew ?_))); have k12 : w'.cell? ⟨w3.heap.size, 1, none⟩ = some (.slice Ax n cx) := ext_cell hb (by with_reducible (repeat (first | assumption | refine cell_drew ?_))); have k13 : w'.cell? ⟨w3.heap.size, 2, none⟩ = some (.int .i64 pa) := ext_cell hb (by with_reducible (repeat (first | assumption | refine cell_drew ?_))); have k14 : w'.cell? ⟨w3.heap.size, 3, none⟩ = some (.int .i64 le) := ext_cell hb (by with_reducible (repeat (first | assumption | refine cell_drew ?_))); have k15 : w'.cell? ⟨g4, 0, none⟩ = some (.int .i64 D) := ext_cell hb (by with_reducible (repeat (first | assumption | refine cell_drew ?_))); have k16 : w'.cell? ⟨g4, 1, none⟩ = some (.slice Ag N cg) := ext_cell hb (by with_reducible (repeat (first | assumption | refine cell_drew ?_))); have k17 : w'.cell? ⟨g4, 2, none⟩ = some (.int .i64 P) := ext_cell hb (by with_reducible (repeat (first | assumption | refine cell_drew ?_))); have k18 : w'.cell? ⟨g4, 3, none⟩ = some (.int .i64 Q) := ext_cell hb (by with_reducible (repeat (first | assumption | refine cell_drew ?_)))))
        all_goals (go_wp2_with fail; go_meet; exact ⟨rfl, ext_trans (ext_trans (ext_drew (ext_refl _)) hbY.out) hbZ.out⟩)
      case rest =>
        obtain ⟨rfl, hb⟩ := hcut
        obtain ⟨w6, hw6⟩ : ∃ x : World, x = wc := ⟨_, rfl⟩
        subst hw6
        have s6 : w5.heap.size ≤ w6.heap.size := (by have := hb.size; (try simp at this); omega)
        have z6_0 : w.heap.size < w6.heap.size := (by omega)
        have z6_1 : w.heap.size + 1 < w6.heap.size := (by omega)
        have z6_2 : g2 < w6.heap.size := (by omega)
        have z6_3 : w3.heap.size < w6.heap.size := (by omega)
        have z6_4 : g4 < w6.heap.size := (by omega)
        have q6_0 : w6.cell? ⟨w.heap.size, 0, none⟩ = some (.int .i64 day) := ext_cell hb q5_0
        have q6_1 : w6.cell? ⟨w.heap.size, 1, none⟩ = some (.slice A n c) := ext_cell hb q5_1
        have q6_2 : w6.cell? ⟨w.heap.size, 2, none⟩ = some (.int .i64 pa) := ext_cell hb q5_2
        have q6_3 : w6.cell? ⟨w.heap.size, 3, none⟩ = some (.int .i64 le) := ext_cell hb q5_3
        have q6_4 : w6.cell? ⟨w.heap.size + 1, 0, none⟩ = some (.int .i64 k) := ext_cell hb q5_4
        have q6_5 : w6.cell? ⟨w.heap.size + 1, 1, none⟩ = some (.int .i64 id) := ext_cell hb q5_5
        have q6_6 : w6.cell? ⟨w.heap.size + 1, 2, none⟩ = some (.int .i64 v) := ext_cell hb q5_6
        have q6_7 : w6.cell? ⟨g2, 0, none⟩ = some (.int .i64 D) := ext_cell hb q5_7
        have q6_8 : w6.cell? ⟨g2, 1, none⟩ = some (.slice Aw N cw) := ext_cell hb q5_8
        have q6_9 : w6.cell? ⟨g2, 2, none⟩ = some (.int .i64 P) := ext_cell hb q5_9
        have q6_10 : w6.cell? ⟨g2, 3, none⟩ = some (.int .i64 Q) := ext_cell hb q5_10
        have q6_11 : w6.cell? ⟨w3.heap.size, 0, none⟩ = some (.int .i64 day) := ext_cell hb q5_11
        have q6_12 : w6.cell? ⟨w3.heap.size, 1, none⟩ = some (.slice Ax n cx) := ext_cell hb q5_12
        have q6_13 : w6.cell? ⟨w3.heap.size, 2, none⟩ = some (.int .i64 pa) := ext_cell hb q5_13
        have q6_14 : w6.cell? ⟨w3.heap.size, 3, none⟩ = some (.int .i64 le) := ext_cell hb q5_14
        have q6_15 : w6.cell? ⟨g4, 0, none⟩ = some (.int .i64 D) := ext_cell hb q5_15
        have q6_16 : w6.cell? ⟨g4, 1, none⟩ = some (.slice Ag N cg) := ext_cell hb q5_16
        have q6_17 : w6.cell? ⟨g4, 2, none⟩ = some (.int .i64 P) := ext_cell hb q5_17
        have q6_18 : w6.cell? ⟨g4, 3, none⟩ = some (.int .i64 Q) := ext_cell hb q5_18
        have b6 := Lib.hid (ext_trans b5.out hb)
        have t6 : w.heap.size ≤ w6.heap.size := b6.out.size
        have o6_w := Lib.hid (own_ext o5_w.out hb)
        have o6_x := Lib.hid (own_ext o5_x.out hb)
        have o6_g := Lib.hid (own_ext o5_g.out hb)
        clear q5_0 q5_1 q5_2 q5_3 q5_4 q5_5 q5_6 q5_7 q5_8 q5_9 q5_10 q5_11 q5_12 q5_13 q5_14 q5_15 q5_16 q5_17 q5_18
        clear hb
        go_wp2_with fail
        refine (markSchool_any day pa le Ax n cx _ _ 1 _ (by omega) (by omega) (by omega) o6_x.out).mono ?_
        rintro e w7 ⟨rfl, ho, hg⟩
        have s7 : w6.heap.size ≤ w7.heap.size := (by have := hg.size; (try simp at this); omega)
        have z7_0 : w.heap.size < w7.heap.size := (by omega)
        have z7_1 : w.heap.size + 1 < w7.heap.size := (by omega)
        have z7_2 : g2 < w7.heap.size := (by omega)
        have z7_3 : w3.heap.size < w7.heap.size := (by omega)
        have z7_4 : g4 < w7.heap.size := (by omega)
        have q7_0 : w7.cell? ⟨w.heap.size, 0, none⟩ = some (.int .i64 day) := cell_far_grown hg (own_far_lt (b := w.heap.size) oc_x.out (by omega)) q6_0
        have q7_1 : w7.cell? ⟨w.heap.size, 1, none⟩ = some (.slice A n c) := cell_far_grown hg (own_far_lt (b := w.heap.size) oc_x.out (by omega)) q6_1
        have q7_2 : w7.cell? ⟨w.heap.size, 2, none⟩ = some (.int .i64 pa) := cell_far_grown hg (own_far_lt (b := w.heap.size) oc_x.out (by omega)) q6_2
        have q7_3 : w7.cell? ⟨w.heap.size, 3, none⟩ = some (.int .i64 le) := cell_far_grown hg (own_far_lt (b := w.heap.size) oc_x.out (by omega)) q6_3
        have q7_4 : w7.cell? ⟨w.heap.size + 1, 0, none⟩ = some (.int .i64 k) := cell_far_grown hg (own_far_lt (b := w.heap.size + 1) oc_x.out (by omega)) q6_4
        have q7_5 : w7.cell? ⟨w.heap.size + 1, 1, none⟩ = some (.int .i64 id) := cell_far_grown hg (own_far_lt (b := w.heap.size + 1) oc_x.out (by omega)) q6_5
        have q7_6 : w7.cell? ⟨w.heap.size + 1, 2, none⟩ = some (.int .i64 v) := cell_far_grown hg (own_far_lt (b := w.heap.size + 1) oc_x.out (by omega)) q6_6
        have q7_7 : w7.cell? ⟨g2, 0, none⟩ = some (.int .i64 D) := cell_far_grown hg (own_far_lt (b := g2) oc_x.out (by omega)) q6_7
        have q7_8 : w7.cell? ⟨g2, 1, none⟩ = some (.slice Aw N cw) := cell_far_grown hg (own_far_lt (b := g2) oc_x.out (by omega)) q6_8
        have q7_9 : w7.cell? ⟨g2, 2, none⟩ = some (.int .i64 P) := cell_far_grown hg (own_far_lt (b := g2) oc_x.out (by omega)) q6_9
        have q7_10 : w7.cell? ⟨g2, 3, none⟩ = some (.int .i64 Q) := cell_far_grown hg (own_far_lt (b := g2) oc_x.out (by omega)) q6_10
        have q7_11 : w7.cell? ⟨w3.heap.size, 0, none⟩ = some (.int .i64 day) := cell_far_grown hg (own_far_ge (b := w3.heap.size) oc_x.out (by omega)) q6_11
        have q7_12 : w7.cell? ⟨w3.heap.size, 1, none⟩ = some (.slice Ax n cx) := cell_far_grown hg (own_far_ge (b := w3.heap.size) oc_x.out (by omega)) q6_12
        have q7_13 : w7.cell? ⟨w3.heap.size, 2, none⟩ = some (.int .i64 pa) := cell_far_grown hg (own_far_ge (b := w3.heap.size) oc_x.out (by omega)) q6_13
        have q7_14 : w7.cell? ⟨w3.heap.size, 3, none⟩ = some (.int .i64 le) := cell_far_grown hg (own_far_ge (b := w3.heap.size) oc_x.out (by omega)) q6_14
        have q7_15 : w7.cell? ⟨g4, 0, none⟩ = some (.int .i64 D) := cell_far_grown hg (own_far_ge (b := g4) oc_x.out (by omega)) q6_15
        have q7_16 : w7.cell? ⟨g4, 1, none⟩ = some (.slice Ag N cg) := cell_far_grown hg (own_far_ge (b := g4) oc_x.out (by omega)) q6_16
        have q7_17 : w7.cell? ⟨g4, 2, none⟩ = some (.int .i64 P) := cell_far_grown hg (own_far_ge (b := g4) oc_x.out (by omega)) q6_17
        have q7_18 : w7.cell? ⟨g4, 3, none⟩ = some (.int .i64 Q) := cell_far_grown hg (own_far_ge (b := g4) oc_x.out (by omega)) q6_18
        have b7 := Lib.hid (below_grown' o6_x.out (by omega) b6.out hg)
        have t7 : w.heap.size ≤ w7.heap.size := b7.out.size
        have o7_w := Lib.hid (o6_w.out.kept hg (own_ne' oc_w.out oc_x.out (by omega)))
        have o7_g := Lib.hid (o6_g.out.kept hg (own_ne oc_x.out oc_g.out (by omega)))
        clear q6_0 q6_1 q6_2 q6_3 q6_4 q6_5 q6_6 q6_7 q6_8 q6_9 q6_10 q6_11 q6_12 q6_13 q6_14 q6_15 q6_16 q6_17 q6_18
        have o7_x := Lib.hid ho
        clear ho hg
        go_wp2_with fail
        refine (eqSchool_same D P Q Ag Aw N cg cw L _ (by omega) (Reads.of_own o7_g.out) (Reads.of_own o7_w.out)).mono ?_
        rintro e w8 ⟨rfl, hb⟩
        have s8 : w7.heap.size ≤ w8.heap.size := (by have := hb.size; (try simp at this); omega)
        have z8_0 : w.heap.size < w8.heap.size := (by omega)
        have z8_1 : w.heap.size + 1 < w8.heap.size := (by omega)
        have z8_2 : g2 < w8.heap.size := (by omega)
        have z8_3 : w3.heap.size < w8.heap.size := (by omega)
        have z8_4 : g4 < w8.heap.size := (by omega)
        have q8_0 : w8.cell? ⟨w.heap.size, 0, none⟩ = some (.int .i64 day) := ext_cell hb q7_0
        have q8_1 : w8.cell? ⟨w.heap.size, 1, none⟩ = some (.slice A n c) := ext_cell hb q7_1
        have q8_2 : w8.cell? ⟨w.heap.size, 2, none⟩ = some (.int .i64 pa) := ext_cell hb q7_2
        have q8_3 : w8.cell? ⟨w.heap.size, 3, none⟩ = some (.int .i64 le) := ext_cell hb q7_3
        have q8_4 : w8.cell? ⟨w.heap.size + 1, 0, none⟩ = some (.int .i64 k) := ext_cell hb q7_4
        have q8_5 : w8.cell? ⟨w.heap.size + 1, 1, none⟩ = some (.int .i64 id) := ext_cell hb q7_5
        have q8_6 : w8.cell? ⟨w.heap.size + 1, 2, none⟩ = some (.int .i64 v) := ext_cell hb q7_6
        have q8_7 : w8.cell? ⟨g2, 0, none⟩ = some (.int .i64 D) := ext_cell hb q7_7
        have q8_8 : w8.cell? ⟨g2, 1, none⟩ = some (.slice Aw N cw) := ext_cell hb q7_8
        have q8_9 : w8.cell? ⟨g2, 2, none⟩ = some (.int .i64 P) := ext_cell hb q7_9
        have q8_10 : w8.cell? ⟨g2, 3, none⟩ = some (.int .i64 Q) := ext_cell hb q7_10
        have q8_11 : w8.cell? ⟨w3.heap.size, 0, none⟩ = some (.int .i64 day) := ext_cell hb q7_11
        have q8_12 : w8.cell? ⟨w3.heap.size, 1, none⟩ = some (.slice Ax n cx) := ext_cell hb q7_12
        have q8_13 : w8.cell? ⟨w3.heap.size, 2, none⟩ = some (.int .i64 pa) := ext_cell hb q7_13
        have q8_14 : w8.cell? ⟨w3.heap.size, 3, none⟩ = some (.int .i64 le) := ext_cell hb q7_14
        have q8_15 : w8.cell? ⟨g4, 0, none⟩ = some (.int .i64 D) := ext_cell hb q7_15
        have q8_16 : w8.cell? ⟨g4, 1, none⟩ = some (.slice Ag N cg) := ext_cell hb q7_16
        have q8_17 : w8.cell? ⟨g4, 2, none⟩ = some (.int .i64 P) := ext_cell hb q7_17
        have q8_18 : w8.cell? ⟨g4, 3, none⟩ = some (.int .i64 Q) := ext_cell hb q7_18
        have b8 := Lib.hid (ext_trans b7.out hb)
        have t8 : w.heap.size ≤ w8.heap.size := b8.out.size
        have o8_w := Lib.hid (own_ext o7_w.out hb)
        have o8_x := Lib.hid (own_ext o7_x.out hb)
        have o8_g := Lib.hid (own_ext o7_g.out hb)
        clear q7_0 q7_1 q7_2 q7_3 q7_4 q7_5 q7_6 q7_7 q7_8 q7_9 q7_10 q7_11 q7_12 q7_13 q7_14 q7_15 q7_16 q7_17 q7_18
        clear hb
        go_wp2_with fail
        refine (markSchool_any D P Q Ag N cg _ _ 1 _ (by omega) (by omega) (by omega) o8_g.out).mono ?_
        rintro e w9 ⟨rfl, ho, hg⟩
        have s9 : w8.heap.size ≤ w9.heap.size := (by have := hg.size; (try simp at this); omega)
        have z9_0 : w.heap.size < w9.heap.size := (by omega)
        have z9_1 : w.heap.size + 1 < w9.heap.size := (by omega)
        have z9_2 : g2 < w9.heap.size := (by omega)
        have z9_3 : w3.heap.size < w9.heap.size := (by omega)
        have z9_4 : g4 < w9.heap.size := (by omega)
        have q9_0 : w9.cell? ⟨w.heap.size, 0, none⟩ = some (.int .i64 day) := cell_far_grown hg (own_far_lt (b := w.heap.size) oc_g.out (by omega)) q8_0
        have q9_1 : w9.cell? ⟨w.heap.size, 1, none⟩ = some (.slice A n c) := cell_far_grown hg (own_far_lt (b := w.heap.size) oc_g.out (by omega)) q8_1
        have q9_2 : w9.cell? ⟨w.heap.size, 2, none⟩ = some (.int .i64 pa) := cell_far_grown hg (own_far_lt (b := w.heap.size) oc_g.out (by omega)) q8_2
        have q9_3 : w9.cell? ⟨w.heap.size, 3, none⟩ = some (.int .i64 le) := cell_far_grown hg (own_far_lt (b := w.heap.size) oc_g.out (by omega)) q8_3
        have q9_4 : w9.cell? ⟨w.heap.size + 1, 0, none⟩ = some (.int .i64 k) := cell_far_grown hg (own_far_lt (b := w.heap.size + 1) oc_g.out (by omega)) q8_4
        have q9_5 : w9.cell? ⟨w.heap.size + 1, 1, none⟩ = some (.int .i64 id) := cell_far_grown hg (own_far_lt (b := w.heap.size + 1) oc_g.out (by omega)) q8_5
        have q9_6 : w9.cell? ⟨w.heap.size + 1, 2, none⟩ = some (.int .i64 v) := cell_far_grown hg (own_far_lt (b := w.heap.size + 1) oc_g.out (by omega)) q8_6
        have q9_7 : w9.cell? ⟨g2, 0, none⟩ = some (.int .i64 D) := cell_far_grown hg (own_far_lt (b := g2) oc_g.out (by omega)) q8_7
        have q9_8 : w9.cell? ⟨g2, 1, none⟩ = some (.slice Aw N cw) := cell_far_grown hg (own_far_lt (b := g2) oc_g.out (by omega)) q8_8
        have q9_9 : w9.cell? ⟨g2, 2, none⟩ = some (.int .i64 P) := cell_far_grown hg (own_far_lt (b := g2) oc_g.out (by omega)) q8_9
        have q9_10 : w9.cell? ⟨g2, 3, none⟩ = some (.int .i64 Q) := cell_far_grown hg (own_far_lt (b := g2) oc_g.out (by omega)) q8_10
        have q9_11 : w9.cell? ⟨w3.heap.size, 0, none⟩ = some (.int .i64 day) := cell_far_grown hg (own_far_lt (b := w3.heap.size) oc_g.out (by omega)) q8_11
        have q9_12 : w9.cell? ⟨w3.heap.size, 1, none⟩ = some (.slice Ax n cx) := cell_far_grown hg (own_far_lt (b := w3.heap.size) oc_g.out (by omega)) q8_12
        have q9_13 : w9.cell? ⟨w3.heap.size, 2, none⟩ = some (.int .i64 pa) := cell_far_grown hg (own_far_lt (b := w3.heap.size) oc_g.out (by omega)) q8_13
        have q9_14 : w9.cell? ⟨w3.heap.size, 3, none⟩ = some (.int .i64 le) := cell_far_grown hg (own_far_lt (b := w3.heap.size) oc_g.out (by omega)) q8_14
        have q9_15 : w9.cell? ⟨g4, 0, none⟩ = some (.int .i64 D) := cell_far_grown hg hn_g q8_15
        have q9_16 : w9.cell? ⟨g4, 1, none⟩ = some (.slice Ag N cg) := cell_far_grown hg hn_g q8_16
        have q9_17 : w9.cell? ⟨g4, 2, none⟩ = some (.int .i64 P) := cell_far_grown hg hn_g q8_17
        have q9_18 : w9.cell? ⟨g4, 3, none⟩ = some (.int .i64 Q) := cell_far_grown hg hn_g q8_18
        have b9 := Lib.hid (below_grown' o8_g.out (by omega) b8.out hg)
        have t9 : w.heap.size ≤ w9.heap.size := b9.out.size
        have o9_w := Lib.hid (o8_w.out.kept hg (own_ne' oc_w.out oc_g.out (by omega)))
        have o9_x := Lib.hid (o8_x.out.kept hg (own_ne' oc_x.out oc_g.out (by omega)))
        clear q8_0 q8_1 q8_2 q8_3 q8_4 q8_5 q8_6 q8_7 q8_8 q8_9 q8_10 q8_11 q8_12 q8_13 q8_14 q8_15 q8_16 q8_17 q8_18
        have o9_g := Lib.hid ho
        clear ho hg
        go_wp2_with fail
        refine (heldSchool_any D P Q Ag N cg 1 _ (by omega) (by omega) (by omega) (Reads.of_own o9_g.out)).mono ?_
        rintro e w10 ⟨rfl, hb⟩
        have s10 : w9.heap.size ≤ w10.heap.size := (by have := hb.size; (try simp at this); omega)
        have z10_0 : w.heap.size < w10.heap.size := (by omega)
        have z10_1 : w.heap.size + 1 < w10.heap.size := (by omega)
        have z10_2 : g2 < w10.heap.size := (by omega)
        have z10_3 : w3.heap.size < w10.heap.size := (by omega)
        have z10_4 : g4 < w10.heap.size := (by omega)
        have q10_0 : w10.cell? ⟨w.heap.size, 0, none⟩ = some (.int .i64 day) := ext_cell hb q9_0
        have q10_1 : w10.cell? ⟨w.heap.size, 1, none⟩ = some (.slice A n c) := ext_cell hb q9_1
        have q10_2 : w10.cell? ⟨w.heap.size, 2, none⟩ = some (.int .i64 pa) := ext_cell hb q9_2
        have q10_3 : w10.cell? ⟨w.heap.size, 3, none⟩ = some (.int .i64 le) := ext_cell hb q9_3
        have q10_4 : w10.cell? ⟨w.heap.size + 1, 0, none⟩ = some (.int .i64 k) := ext_cell hb q9_4
        have q10_5 : w10.cell? ⟨w.heap.size + 1, 1, none⟩ = some (.int .i64 id) := ext_cell hb q9_5
        have q10_6 : w10.cell? ⟨w.heap.size + 1, 2, none⟩ = some (.int .i64 v) := ext_cell hb q9_6
        have q10_7 : w10.cell? ⟨g2, 0, none⟩ = some (.int .i64 D) := ext_cell hb q9_7
        have q10_8 : w10.cell? ⟨g2, 1, none⟩ = some (.slice Aw N cw) := ext_cell hb q9_8
        have q10_9 : w10.cell? ⟨g2, 2, none⟩ = some (.int .i64 P) := ext_cell hb q9_9
        have q10_10 : w10.cell? ⟨g2, 3, none⟩ = some (.int .i64 Q) := ext_cell hb q9_10
        have q10_11 : w10.cell? ⟨w3.heap.size, 0, none⟩ = some (.int .i64 day) := ext_cell hb q9_11
        have q10_12 : w10.cell? ⟨w3.heap.size, 1, none⟩ = some (.slice Ax n cx) := ext_cell hb q9_12
        have q10_13 : w10.cell? ⟨w3.heap.size, 2, none⟩ = some (.int .i64 pa) := ext_cell hb q9_13
        have q10_14 : w10.cell? ⟨w3.heap.size, 3, none⟩ = some (.int .i64 le) := ext_cell hb q9_14
        have q10_15 : w10.cell? ⟨g4, 0, none⟩ = some (.int .i64 D) := ext_cell hb q9_15
        have q10_16 : w10.cell? ⟨g4, 1, none⟩ = some (.slice Ag N cg) := ext_cell hb q9_16
        have q10_17 : w10.cell? ⟨g4, 2, none⟩ = some (.int .i64 P) := ext_cell hb q9_17
        have q10_18 : w10.cell? ⟨g4, 3, none⟩ = some (.int .i64 Q) := ext_cell hb q9_18
        have b10 := Lib.hid (ext_trans b9.out hb)
        have t10 : w.heap.size ≤ w10.heap.size := b10.out.size
        have o10_w := Lib.hid (own_ext o9_w.out hb)
        have o10_x := Lib.hid (own_ext o9_x.out hb)
        have o10_g := Lib.hid (own_ext o9_g.out hb)
        clear q9_0 q9_1 q9_2 q9_3 q9_4 q9_5 q9_6 q9_7 q9_8 q9_9 q9_10 q9_11 q9_12 q9_13 q9_14 q9_15 q9_16 q9_17 q9_18
        clear hb
        go_upto_region 24 with fail
        go_cut [14, 15] (fun s14 s15 wx => ∃ (g : Nat) (Ah : Option Addr) (ch : Nat), s14 = .pointer (some ⟨g, 0, none⟩) ∧ s15 = .bool ok ∧ wx.cell? ⟨g, 0, none⟩ = some (.int .i64 D) ∧ wx.cell? ⟨g, 1, none⟩ = some (.slice Ah N ch) ∧ wx.cell? ⟨g, 2, none⟩ = some (.int .i64 P) ∧ wx.cell? ⟨g, 3, none⟩ = some (.int .i64 Q) ∧ w10.heap.size ≤ g ∧ g < wx.heap.size ∧ Below w10.heap.size w10 wx ∧ wx.ownsRow w10.heap.size 109 5 (.slice Ah N ch) N (rowsV L) ∧ Value.ownBlock (.slice Ah N ch) ≠ some g)
        case first =>
          go_region_held3 (fun w' => w'.cell? ⟨w.heap.size, 0, none⟩ = some (.int .i64 day) ∧ w'.cell? ⟨w.heap.size, 1, none⟩ = some (.slice A n c) ∧ w'.cell? ⟨w.heap.size, 2, none⟩ = some (.int .i64 pa) ∧ w'.cell? ⟨w.heap.size, 3, none⟩ = some (.int .i64 le) ∧ w'.cell? ⟨w.heap.size + 1, 0, none⟩ = some (.int .i64 k) ∧ w'.cell? ⟨w.heap.size + 1, 1, none⟩ = some (.int .i64 id) ∧ w'.cell? ⟨w.heap.size + 1, 2, none⟩ = some (.int .i64 v) ∧ w'.cell? ⟨g2, 0, none⟩ = some (.int .i64 D) ∧ w'.cell? ⟨g2, 1, none⟩ = some (.slice Aw N cw) ∧ w'.cell? ⟨g2, 2, none⟩ = some (.int .i64 P) ∧ w'.cell? ⟨g2, 3, none⟩ = some (.int .i64 Q) ∧ w'.cell? ⟨w3.heap.size, 0, none⟩ = some (.int .i64 day) ∧ w'.cell? ⟨w3.heap.size, 1, none⟩ = some (.slice Ax n cx) ∧ w'.cell? ⟨w3.heap.size, 2, none⟩ = some (.int .i64 pa) ∧ w'.cell? ⟨w3.heap.size, 3, none⟩ = some (.int .i64 le) ∧ w'.cell? ⟨g4, 0, none⟩ = some (.int .i64 D) ∧ w'.cell? ⟨g4, 1, none⟩ = some (.slice Ag N cg) ∧ w'.cell? ⟨g4, 2, none⟩ = some (.int .i64 P) ∧ w'.cell? ⟨g4, 3, none⟩ = some (.int .i64 Q)) (first | (go_split_ands; ((repeat' refine And.intro ?_ ?_) <;> with_reducible (repeat (first | assumption | refine cell_drew ?_ | refine cell_old ?_ _ | refine cell_set_far (by simp <;> omega) ?_))))) (first | (go_at_call 45; refine (toSchool_any day pa le A n c l _ hn (by refine Reads.more (B := w.heap.size) (Reads.ext H.out (by repeat (first | (with_reducible exact b10.out) | (with_reducible refine ext_drew ?_) | (with_reducible refine ext_alloc ?_ _))) (Nat.le_refl _)) (by simp <;> omega))).mono ?_; rintro e w' ⟨Ay, cy, rfl, hoy, hb⟩; have hoy := Lib.hid (own_base (base' := 0) hoy (Nat.zero_le _)); obtain ⟨hc, hf⟩ := bcell hb; have hz := hb.size; (try simp at hz); (try have hy3 := Nat.lt_of_lt_of_le hy2 hb.size); (try have hy2 := Nat.lt_of_lt_of_le hy1 hb.size); (try have hy1 := Nat.lt_of_lt_of_le hy hb.size); (try have hy := Nat.lt_of_succ_le hz); have k0 : w'.cell? ⟨w.heap.size, 0, none⟩ = some (.int .i64 day) := ext_cell hb (by with_reducible (repeat (first | assumption | refine cell_drew ?_ | refine cell_old ?_ _))); have k1 : w'.cell? ⟨w.heap.size, 1, none⟩ = some (.slice A n c) := ext_cell hb (by with_reducible (repeat (first | assumption | refine cell_drew ?_ | refine cell_old ?_ _))); have k2 : w'.cell? ⟨w.heap.size, 2, none⟩ = some (.int .i64 pa) := ext_cell hb (by with_reducible (repeat (first | assumption | refine cell_drew ?_ | refine cell_old ?_ _))); have k3 : w'.cell? ⟨w.heap.size, 3, none⟩ = some (.int .i64 le) := ext_cell hb (by with_reducible (repeat (first | assumption | refine cell_drew ?_ | refine cell_old ?_ _))); have k4 : w'.cell? ⟨w.heap.size + 1, 0, none⟩ = some (.int .i64 k) := ext_cell hb (by with_reducible (repeat (first | assumption | refine cell_drew ?_ | refine cell_old ?_ _))); have k5 : w'.cell? ⟨w.heap.size + 1, 1, none⟩ = some (.int .i64 id) := ext_cell hb (by with_reducible (repeat (first | assumption | refine cell_drew ?_ | refine cell_old ?_ _))); have k6 : w'.cell? ⟨w.heap.size + 1, 2, none⟩ = some (.int .i64 v) := ext_cell hb (by with_reducible (repeat (first | assumption | refine cell_drew ?_ | refine cell_old ?_ _))); have k7 : w'.cell? ⟨g2, 0, none⟩ = some (.int .i64 D) := ext_cell hb (by with_reducible (repeat (first | assumption | refine cell_drew ?_ | refine cell_old ?_ _))); have k8 : w'.cell? ⟨g2, 1, none⟩ = some (.slice Aw N cw) := ext_cell hb (by with_reducible (repeat (first | assumption | refine cell_drew ?_ | refine cell_old ?_ _))); have k9 : w'.cell? ⟨g2, 2, none⟩ = some (.int .i64 P) := ext_cell hb (by with_reducible (repeat (first | assumption | refine cell_drew ?_ | refine cell_old ?_ _))); have k10 : w'.cell? ⟨g2, 3, none⟩ = some (.int .i64 Q) := ext_cell hb (by with_reducible (repeat (first | assumption | refine cell_drew ?_ | refine cell_old ?_ _))); have k11 : w'.cell? ⟨w3.heap.size, 0, none⟩ = some (.int .i64 day) := ext_cell hb (by with_reducible (repeat (first | assumption | refine cell_drew ?_ | refine cell_old ?_ _))); have k12 : w'.cell? ⟨w3.heap.size, 1, none⟩ = some (.slice Ax n cx) := ext_cell hb (by with_reducible (repeat (first | assumption | refine cell_drew ?_ | refine cell_old ?_ _))); have k13 : w'.cell? ⟨w3.heap.size, 2, none⟩ = some (.int .i64 pa) := ext_cell hb (by with_reducible (repeat (first | assumption | refine cell_drew ?_ | refine cell_old ?_ _))); have k14 : w'.cell? ⟨w3.heap.size, 3, none⟩ = some (.int .i64 le) := ext_cell hb (by with_reducible (repeat (first | assumption | refine cell_drew ?_ | refine cell_old ?_ _))); have k15 : w'.cell? ⟨g4, 0, none⟩ = some (.int .i64 D) := ext_cell hb (by with_reducible (repeat (first | assumption | refine cell_drew ?_ | refine cell_old ?_ _))); have k16 : w'.cell? ⟨g4, 1, none⟩ = some (.slice Ag N cg) := ext_cell hb (by with_reducible (repeat (first | assumption | refine cell_drew ?_ | refine cell_old ?_ _))); have k17 : w'.cell? ⟨g4, 2, none⟩ = some (.int .i64 P) := ext_cell hb (by with_reducible (repeat (first | assumption | refine cell_drew ?_ | refine cell_old ?_ _))); have k18 : w'.cell? ⟨g4, 3, none⟩ = some (.int .i64 Q) := ext_cell hb (by with_reducible (repeat (first | assumption | refine cell_drew ?_ | refine cell_old ?_ _)))) | (go_at_call 46; refine (toSchoolStep_any ⟨k, id, v⟩ _).mono ?_; rintro e w' ⟨rfl, hb⟩; skip; obtain ⟨hc, hf⟩ := bcell hb; have hz := hb.size; (try simp at hz); (try have hy3 := Nat.lt_of_lt_of_le hy2 hb.size); (try have hy2 := Nat.lt_of_lt_of_le hy1 hb.size); (try have hy1 := Nat.lt_of_lt_of_le hy hb.size); (try have hy := Nat.lt_of_succ_le hz); have k0 : w'.cell? ⟨w.heap.size, 0, none⟩ = some (.int .i64 day) := ext_cell hb (by with_reducible (repeat (first | assumption | refine cell_drew ?_ | refine cell_old ?_ _))); have k1 : w'.cell? ⟨w.heap.size, 1, none⟩ = some (.slice A n c) := ext_cell hb (by with_reducible (repeat (first | assumption | refine cell_drew ?_ | refine cell_old ?_ _))); have k2 : w'.cell? ⟨w.heap.size, 2, none⟩ = some (.int .i64 pa) := ext_cell hb (by with_reducible (repeat (first | assumption | refine cell_drew ?_ | refine cell_old ?_ _))); have k3 : w'.cell? ⟨w.heap.size, 3, none⟩ = some (.int .i64 le) := ext_cell hb (by with_reducible (repeat (first | assumption | refine cell_drew ?_ | refine cell_old ?_ _))); have k4 : w'.cell? ⟨w.heap.size + 1, 0, none⟩ = some (.int .i64 k) := ext_cell hb (by with_reducible (repeat (first | assumption | refine cell_drew ?_ | refine cell_old ?_ _))); have k5 : w'.cell? ⟨w.heap.size + 1, 1, none⟩ = some (.int .i64 id) := ext_cell hb (by with_reducible (repeat (first | assumption | refine cell_drew ?_ | refine cell_old ?_ _))); have k6 : w'.cell? ⟨w.heap.size + 1, 2, none⟩ = some (.int .i64 v) := ext_cell hb (by with_reducible (repeat (first | assumption | refine cell_drew ?_ | refine cell_old ?_ _))); have k7 : w'.cell? ⟨g2, 0, none⟩ = some (.int .i64 D) := ext_cell hb (by with_reducible (repeat (first | assumption | refine cell_drew ?_ | refine cell_old ?_ _))); have k8 : w'.cell? ⟨g2, 1, none⟩ = some (.slice Aw N cw) := ext_cell hb (by with_reducible (repeat (first | assumption | refine cell_drew ?_ | refine cell_old ?_ _))); have k9 : w'.cell? ⟨g2, 2, none⟩ = some (.int .i64 P) := ext_cell hb (by with_reducible (repeat (first | assumption | refine cell_drew ?_ | refine cell_old ?_ _))); have k10 : w'.cell? ⟨g2, 3, none⟩ = some (.int .i64 Q) := ext_cell hb (by with_reducible (repeat (first | assumption | refine cell_drew ?_ | refine cell_old ?_ _))); have k11 : w'.cell? ⟨w3.heap.size, 0, none⟩ = some (.int .i64 day) := ext_cell hb (by with_reducible (repeat (first | assumption | refine cell_drew ?_ | refine cell_old ?_ _))); have k12 : w'.cell? ⟨w3.heap.size, 1, none⟩ = some (.slice Ax n cx) := ext_cell hb (by with_reducible (repeat (first | assumption | refine cell_drew ?_ | refine cell_old ?_ _))); have k13 : w'.cell? ⟨w3.heap.size, 2, none⟩ = some (.int .i64 pa) := ext_cell hb (by with_reducible (repeat (first | assumption | refine cell_drew ?_ | refine cell_old ?_ _))); have k14 : w'.cell? ⟨w3.heap.size, 3, none⟩ = some (.int .i64 le) := ext_cell hb (by with_reducible (repeat (first | assumption | refine cell_drew ?_ | refine cell_old ?_ _))); have k15 : w'.cell? ⟨g4, 0, none⟩ = some (.int .i64 D) := ext_cell hb (by with_reducible (repeat (first | assumption | refine cell_drew ?_ | refine cell_old ?_ _))); have k16 : w'.cell? ⟨g4, 1, none⟩ = some (.slice Ag N cg) := ext_cell hb (by with_reducible (repeat (first | assumption | refine cell_drew ?_ | refine cell_old ?_ _))); have k17 : w'.cell? ⟨g4, 2, none⟩ = some (.int .i64 P) := ext_cell hb (by with_reducible (repeat (first | assumption | refine cell_drew ?_ | refine cell_old ?_ _))); have k18 : w'.cell? ⟨g4, 3, none⟩ = some (.int .i64 Q) := ext_cell hb (by with_reducible (repeat (first | assumption | refine cell_drew ?_ | refine cell_old ?_ _)))) | (go_at_call 47; refine (HB.out _ Ay cy (slOk_own hoy.out) (Reads.of_own (base := 0) (e := 109) (c := cy) (by repeat (first | (with_reducible exact hoy.out) | (with_reducible refine World.ownsRow.drew ?_) | (with_reducible refine World.ownsRow.alloc ?_ _) | refine own_ext ?_ hb)))).mono ?_; rintro e w' ⟨Ah, ch, rfl, ho_h, hb⟩; have ho_h := Lib.hid ho_h; obtain ⟨hc, hf⟩ := bcell hb; have hz := hb.size; (try simp at hz); (try have hy3 := Nat.lt_of_lt_of_le hy2 hb.size); (try have hy2 := Nat.lt_of_lt_of_le hy1 hb.size); (try have hy1 := Nat.lt_of_lt_of_le hy hb.size); (try have hy := Nat.lt_of_succ_le hz); have k0 : w'.cell? ⟨w.heap.size, 0, none⟩ = some (.int .i64 day) := ext_cell hb (by with_reducible (repeat (first | assumption | refine cell_drew ?_ | refine cell_old ?_ _))); have k1 : w'.cell? ⟨w.heap.size, 1, none⟩ = some (.slice A n c) := ext_cell hb (by with_reducible (repeat (first | assumption | refine cell_drew ?_ | refine cell_old ?_ _))); have k2 : w'.cell? ⟨w.heap.size, 2, none⟩ = some (.int .i64 pa) := ext_cell hb (by with_reducible (repeat (first | assumption | refine cell_drew ?_ | refine cell_old ?_ _))); have k3 : w'.cell? ⟨w.heap.size, 3, none⟩ = some (.int .i64 le) := ext_cell hb (by with_reducible (repeat (first | assumption | refine cell_drew ?_ | refine cell_old ?_ _))); have k4 : w'.cell? ⟨w.heap.size + 1, 0, none⟩ = some (.int .i64 k) := ext_cell hb (by with_reducible (repeat (first | assumption | refine cell_drew ?_ | refine cell_old ?_ _))); have k5 : w'.cell? ⟨w.heap.size + 1, 1, none⟩ = some (.int .i64 id) := ext_cell hb (by with_reducible (repeat (first | assumption | refine cell_drew ?_ | refine cell_old ?_ _))); have k6 : w'.cell? ⟨w.heap.size + 1, 2, none⟩ = some (.int .i64 v) := ext_cell hb (by with_reducible (repeat (first | assumption | refine cell_drew ?_ | refine cell_old ?_ _))); have k7 : w'.cell? ⟨g2, 0, none⟩ = some (.int .i64 D) := ext_cell hb (by with_reducible (repeat (first | assumption | refine cell_drew ?_ | refine cell_old ?_ _))); have k8 : w'.cell? ⟨g2, 1, none⟩ = some (.slice Aw N cw) := ext_cell hb (by with_reducible (repeat (first | assumption | refine cell_drew ?_ | refine cell_old ?_ _))); have k9 : w'.cell? ⟨g2, 2, none⟩ = some (.int .i64 P) := ext_cell hb (by with_reducible (repeat (first | assumption | refine cell_drew ?_ | refine cell_old ?_ _))); have k10 : w'.cell? ⟨g2, 3, none⟩ = some (.int .i64 Q) := ext_cell hb (by with_reducible (repeat (first | assumption | refine cell_drew ?_ | refine cell_old ?_ _))); have k11 : w'.cell? ⟨w3.heap.size, 0, none⟩ = some (.int .i64 day) := ext_cell hb (by with_reducible (repeat (first | assumption | refine cell_drew ?_ | refine cell_old ?_ _))); have k12 : w'.cell? ⟨w3.heap.size, 1, none⟩ = some (.slice Ax n cx) := ext_cell hb (by with_reducible (repeat (first | assumption | refine cell_drew ?_ | refine cell_old ?_ _))); have k13 : w'.cell? ⟨w3.heap.size, 2, none⟩ = some (.int .i64 pa) := ext_cell hb (by with_reducible (repeat (first | assumption | refine cell_drew ?_ | refine cell_old ?_ _))); have k14 : w'.cell? ⟨w3.heap.size, 3, none⟩ = some (.int .i64 le) := ext_cell hb (by with_reducible (repeat (first | assumption | refine cell_drew ?_ | refine cell_old ?_ _))); have k15 : w'.cell? ⟨g4, 0, none⟩ = some (.int .i64 D) := ext_cell hb (by with_reducible (repeat (first | assumption | refine cell_drew ?_ | refine cell_old ?_ _))); have k16 : w'.cell? ⟨g4, 1, none⟩ = some (.slice Ag N cg) := ext_cell hb (by with_reducible (repeat (first | assumption | refine cell_drew ?_ | refine cell_old ?_ _))); have k17 : w'.cell? ⟨g4, 2, none⟩ = some (.int .i64 P) := ext_cell hb (by with_reducible (repeat (first | assumption | refine cell_drew ?_ | refine cell_old ?_ _))); have k18 : w'.cell? ⟨g4, 3, none⟩ = some (.int .i64 Q) := ext_cell hb (by with_reducible (repeat (first | assumption | refine cell_drew ?_ | refine cell_old ?_ _)))))
          all_goals (go_wp2_with fail; go_meet; refine ⟨_, Ah, ch, rfl, rfl, ?_, ?_, ?_, ?_, ?_, ?_, ?_, ?_, ?_⟩)
          all_goals first | omega | (simp [go_sem, *]; done) | (simp <;> omega) | exact own_far_lt ho_h.out (by simp <;> omega) | exact own_far_ge ho_h.out (by simp <;> omega) | (repeat (first | (with_reducible exact ext_refl _) | (with_reducible assumption) | (with_reducible refine ext_alloc ?_ _) | (with_reducible refine ext_drew ?_) | (with_reducible refine ext_set ?_ (by simp <;> omega) _) | (with_reducible exact ext_refl _) | refine ext_trans ?_ (by assumption)))
          all_goals (first | (with_reducible refine own_base ho_h.out ?_) | (with_reducible refine own_base (ho_h.out.alloc _) ?_) | (with_reducible refine own_base ho_h.out.drew ?_) | (with_reducible refine own_base (own_set_nb (own_set_nb (own_set_nb (own_set_nb ho_h.out ?_ _) ?_ _) ?_ _) ?_ _) ?_) | (with_reducible refine own_far_lt ho_h.out ?_) | (with_reducible refine own_far_ge ho_h.out ?_) | skip)
          all_goals (first | omega | (simp; done) | (simp; omega) | (with_reducible refine own_far_lt ho_h.out ?_) | (with_reducible refine own_far_ge ho_h.out ?_) | skip)
          all_goals (first | omega | (simp; done) | (simp; omega) | (show _ < _; simp; omega))
        case rest =>
          obtain ⟨g11, Ah, ch, rfl, rfl, p11_0, p11_1, p11_2, p11_3, hgl11, hgs11, hb, ho_h, hn_h⟩ := hcut
          obtain ⟨w11, hw11⟩ : ∃ x : World, x = wc := ⟨_, rfl⟩
          subst hw11
          have s11 : w10.heap.size ≤ w11.heap.size := (by have := hb.size; (try simp at this); omega)
          have z11_0 : w.heap.size < w11.heap.size := (by omega)
          have z11_1 : w.heap.size + 1 < w11.heap.size := (by omega)
          have z11_2 : g2 < w11.heap.size := (by omega)
          have z11_3 : w3.heap.size < w11.heap.size := (by omega)
          have z11_4 : g4 < w11.heap.size := (by omega)
          have q11_0 : w11.cell? ⟨w.heap.size, 0, none⟩ = some (.int .i64 day) := ext_cell hb q10_0
          have q11_1 : w11.cell? ⟨w.heap.size, 1, none⟩ = some (.slice A n c) := ext_cell hb q10_1
          have q11_2 : w11.cell? ⟨w.heap.size, 2, none⟩ = some (.int .i64 pa) := ext_cell hb q10_2
          have q11_3 : w11.cell? ⟨w.heap.size, 3, none⟩ = some (.int .i64 le) := ext_cell hb q10_3
          have q11_4 : w11.cell? ⟨w.heap.size + 1, 0, none⟩ = some (.int .i64 k) := ext_cell hb q10_4
          have q11_5 : w11.cell? ⟨w.heap.size + 1, 1, none⟩ = some (.int .i64 id) := ext_cell hb q10_5
          have q11_6 : w11.cell? ⟨w.heap.size + 1, 2, none⟩ = some (.int .i64 v) := ext_cell hb q10_6
          have q11_7 : w11.cell? ⟨g2, 0, none⟩ = some (.int .i64 D) := ext_cell hb q10_7
          have q11_8 : w11.cell? ⟨g2, 1, none⟩ = some (.slice Aw N cw) := ext_cell hb q10_8
          have q11_9 : w11.cell? ⟨g2, 2, none⟩ = some (.int .i64 P) := ext_cell hb q10_9
          have q11_10 : w11.cell? ⟨g2, 3, none⟩ = some (.int .i64 Q) := ext_cell hb q10_10
          have q11_11 : w11.cell? ⟨w3.heap.size, 0, none⟩ = some (.int .i64 day) := ext_cell hb q10_11
          have q11_12 : w11.cell? ⟨w3.heap.size, 1, none⟩ = some (.slice Ax n cx) := ext_cell hb q10_12
          have q11_13 : w11.cell? ⟨w3.heap.size, 2, none⟩ = some (.int .i64 pa) := ext_cell hb q10_13
          have q11_14 : w11.cell? ⟨w3.heap.size, 3, none⟩ = some (.int .i64 le) := ext_cell hb q10_14
          have q11_15 : w11.cell? ⟨g4, 0, none⟩ = some (.int .i64 D) := ext_cell hb q10_15
          have q11_16 : w11.cell? ⟨g4, 1, none⟩ = some (.slice Ag N cg) := ext_cell hb q10_16
          have q11_17 : w11.cell? ⟨g4, 2, none⟩ = some (.int .i64 P) := ext_cell hb q10_17
          have q11_18 : w11.cell? ⟨g4, 3, none⟩ = some (.int .i64 Q) := ext_cell hb q10_18
          have b11 := Lib.hid (ext_trans b10.out hb)
          have t11 : w.heap.size ≤ w11.heap.size := b11.out.size
          have o11_w := Lib.hid (own_ext o10_w.out hb)
          have o11_x := Lib.hid (own_ext o10_x.out hb)
          have o11_g := Lib.hid (own_ext o10_g.out hb)
          clear q10_0 q10_1 q10_2 q10_3 q10_4 q10_5 q10_6 q10_7 q10_8 q10_9 q10_10 q10_11 q10_12 q10_13 q10_14 q10_15 q10_16 q10_17 q10_18
          have z11_g : g11 < w11.heap.size := hgs11
          have oc_h := Lib.hid ho_h
          clear ho_h
          clear hb
          go_wp2_with fail
          refine (eqSchool_same D P Q Ah Aw N ch cw L _ (by omega) (Reads.of_own oc_h.out) (Reads.of_own o11_w.out)).mono ?_
          rintro e w12 ⟨rfl, hb⟩
          have s12 : w11.heap.size ≤ w12.heap.size := (by have := hb.size; (try simp at this); omega)
          have z12_0 : w.heap.size < w12.heap.size := (by omega)
          have z12_1 : w.heap.size + 1 < w12.heap.size := (by omega)
          have z12_2 : g2 < w12.heap.size := (by omega)
          have z12_3 : w3.heap.size < w12.heap.size := (by omega)
          have z12_4 : g4 < w12.heap.size := (by omega)
          have z12_5 : g11 < w12.heap.size := (by omega)
          have q12_0 : w12.cell? ⟨w.heap.size, 0, none⟩ = some (.int .i64 day) := ext_cell hb q11_0
          have q12_1 : w12.cell? ⟨w.heap.size, 1, none⟩ = some (.slice A n c) := ext_cell hb q11_1
          have q12_2 : w12.cell? ⟨w.heap.size, 2, none⟩ = some (.int .i64 pa) := ext_cell hb q11_2
          have q12_3 : w12.cell? ⟨w.heap.size, 3, none⟩ = some (.int .i64 le) := ext_cell hb q11_3
          have q12_4 : w12.cell? ⟨w.heap.size + 1, 0, none⟩ = some (.int .i64 k) := ext_cell hb q11_4
          have q12_5 : w12.cell? ⟨w.heap.size + 1, 1, none⟩ = some (.int .i64 id) := ext_cell hb q11_5
          have q12_6 : w12.cell? ⟨w.heap.size + 1, 2, none⟩ = some (.int .i64 v) := ext_cell hb q11_6
          have q12_7 : w12.cell? ⟨g2, 0, none⟩ = some (.int .i64 D) := ext_cell hb q11_7
          have q12_8 : w12.cell? ⟨g2, 1, none⟩ = some (.slice Aw N cw) := ext_cell hb q11_8
          have q12_9 : w12.cell? ⟨g2, 2, none⟩ = some (.int .i64 P) := ext_cell hb q11_9
          have q12_10 : w12.cell? ⟨g2, 3, none⟩ = some (.int .i64 Q) := ext_cell hb q11_10
          have q12_11 : w12.cell? ⟨w3.heap.size, 0, none⟩ = some (.int .i64 day) := ext_cell hb q11_11
          have q12_12 : w12.cell? ⟨w3.heap.size, 1, none⟩ = some (.slice Ax n cx) := ext_cell hb q11_12
          have q12_13 : w12.cell? ⟨w3.heap.size, 2, none⟩ = some (.int .i64 pa) := ext_cell hb q11_13
          have q12_14 : w12.cell? ⟨w3.heap.size, 3, none⟩ = some (.int .i64 le) := ext_cell hb q11_14
          have q12_15 : w12.cell? ⟨g4, 0, none⟩ = some (.int .i64 D) := ext_cell hb q11_15
          have q12_16 : w12.cell? ⟨g4, 1, none⟩ = some (.slice Ag N cg) := ext_cell hb q11_16
          have q12_17 : w12.cell? ⟨g4, 2, none⟩ = some (.int .i64 P) := ext_cell hb q11_17
          have q12_18 : w12.cell? ⟨g4, 3, none⟩ = some (.int .i64 Q) := ext_cell hb q11_18
          have q12_19 : w12.cell? ⟨g11, 0, none⟩ = some (.int .i64 D) := ext_cell hb p11_0
          have q12_20 : w12.cell? ⟨g11, 1, none⟩ = some (.slice Ah N ch) := ext_cell hb p11_1
          have q12_21 : w12.cell? ⟨g11, 2, none⟩ = some (.int .i64 P) := ext_cell hb p11_2
          have q12_22 : w12.cell? ⟨g11, 3, none⟩ = some (.int .i64 Q) := ext_cell hb p11_3
          have b12 := Lib.hid (ext_trans b11.out hb)
          have t12 : w.heap.size ≤ w12.heap.size := b12.out.size
          have o12_w := Lib.hid (own_ext o11_w.out hb)
          have o12_x := Lib.hid (own_ext o11_x.out hb)
          have o12_g := Lib.hid (own_ext o11_g.out hb)
          have o12_h := Lib.hid (own_ext oc_h.out hb)
          clear q11_0 q11_1 q11_2 q11_3 q11_4 q11_5 q11_6 q11_7 q11_8 q11_9 q11_10 q11_11 q11_12 q11_13 q11_14 q11_15 q11_16 q11_17 q11_18 p11_0 p11_1 p11_2 p11_3
          clear hb
          go_wp2_with fail
          refine (heldSchool_any D P Q Ag N cg 1 _ (by omega) (by omega) (by omega) (Reads.of_own o12_g.out)).mono ?_
          rintro e w13 ⟨rfl, hb⟩
          have s13 : w12.heap.size ≤ w13.heap.size := (by have := hb.size; (try simp at this); omega)
          have z13_0 : w.heap.size < w13.heap.size := (by omega)
          have z13_1 : w.heap.size + 1 < w13.heap.size := (by omega)
          have z13_2 : g2 < w13.heap.size := (by omega)
          have z13_3 : w3.heap.size < w13.heap.size := (by omega)
          have z13_4 : g4 < w13.heap.size := (by omega)
          have z13_5 : g11 < w13.heap.size := (by omega)
          have q13_0 : w13.cell? ⟨w.heap.size, 0, none⟩ = some (.int .i64 day) := ext_cell hb q12_0
          have q13_1 : w13.cell? ⟨w.heap.size, 1, none⟩ = some (.slice A n c) := ext_cell hb q12_1
          have q13_2 : w13.cell? ⟨w.heap.size, 2, none⟩ = some (.int .i64 pa) := ext_cell hb q12_2
          have q13_3 : w13.cell? ⟨w.heap.size, 3, none⟩ = some (.int .i64 le) := ext_cell hb q12_3
          have q13_4 : w13.cell? ⟨w.heap.size + 1, 0, none⟩ = some (.int .i64 k) := ext_cell hb q12_4
          have q13_5 : w13.cell? ⟨w.heap.size + 1, 1, none⟩ = some (.int .i64 id) := ext_cell hb q12_5
          have q13_6 : w13.cell? ⟨w.heap.size + 1, 2, none⟩ = some (.int .i64 v) := ext_cell hb q12_6
          have q13_7 : w13.cell? ⟨g2, 0, none⟩ = some (.int .i64 D) := ext_cell hb q12_7
          have q13_8 : w13.cell? ⟨g2, 1, none⟩ = some (.slice Aw N cw) := ext_cell hb q12_8
          have q13_9 : w13.cell? ⟨g2, 2, none⟩ = some (.int .i64 P) := ext_cell hb q12_9
          have q13_10 : w13.cell? ⟨g2, 3, none⟩ = some (.int .i64 Q) := ext_cell hb q12_10
          have q13_11 : w13.cell? ⟨w3.heap.size, 0, none⟩ = some (.int .i64 day) := ext_cell hb q12_11
          have q13_12 : w13.cell? ⟨w3.heap.size, 1, none⟩ = some (.slice Ax n cx) := ext_cell hb q12_12
          have q13_13 : w13.cell? ⟨w3.heap.size, 2, none⟩ = some (.int .i64 pa) := ext_cell hb q12_13
          have q13_14 : w13.cell? ⟨w3.heap.size, 3, none⟩ = some (.int .i64 le) := ext_cell hb q12_14
          have q13_15 : w13.cell? ⟨g4, 0, none⟩ = some (.int .i64 D) := ext_cell hb q12_15
          have q13_16 : w13.cell? ⟨g4, 1, none⟩ = some (.slice Ag N cg) := ext_cell hb q12_16
          have q13_17 : w13.cell? ⟨g4, 2, none⟩ = some (.int .i64 P) := ext_cell hb q12_17
          have q13_18 : w13.cell? ⟨g4, 3, none⟩ = some (.int .i64 Q) := ext_cell hb q12_18
          have q13_19 : w13.cell? ⟨g11, 0, none⟩ = some (.int .i64 D) := ext_cell hb q12_19
          have q13_20 : w13.cell? ⟨g11, 1, none⟩ = some (.slice Ah N ch) := ext_cell hb q12_20
          have q13_21 : w13.cell? ⟨g11, 2, none⟩ = some (.int .i64 P) := ext_cell hb q12_21
          have q13_22 : w13.cell? ⟨g11, 3, none⟩ = some (.int .i64 Q) := ext_cell hb q12_22
          have b13 := Lib.hid (ext_trans b12.out hb)
          have t13 : w.heap.size ≤ w13.heap.size := b13.out.size
          have o13_w := Lib.hid (own_ext o12_w.out hb)
          have o13_x := Lib.hid (own_ext o12_x.out hb)
          have o13_g := Lib.hid (own_ext o12_g.out hb)
          have o13_h := Lib.hid (own_ext o12_h.out hb)
          clear q12_0 q12_1 q12_2 q12_3 q12_4 q12_5 q12_6 q12_7 q12_8 q12_9 q12_10 q12_11 q12_12 q12_13 q12_14 q12_15 q12_16 q12_17 q12_18 q12_19 q12_20 q12_21 q12_22
          clear hb
          go_wp2
          go_ret
          exact ⟨rfl, b13.out⟩
end Go.Proofs.Ytclihlihaigddaa
