/- The law of AppendRecord, walked. -/
import Derived.Test.YtdielldikdmjpaaLgL
namespace Go.Proofs.Ytdielldikdmjpaa
open Go.RowKit
set_option linter.unusedVariables false
set_option linter.unusedSimpArgs false
set_option maxHeartbeats 1000000 in
theorem law_AppendRecord (d p : ByteArray) (z : Int) (c r : ByteArray) (w : World) (hd : d.size ≤ maxLen) (hp : p.size ≤ maxLen) (hz1 : -9223372036854775808 ≤ z) (hz2 : z ≤ 9223372036854775807) (zc : c.size ≤ maxLen) (zr : r.size ≤ maxLen) :
    Calls Try.prog 9 #[logV d p z, recV c r] w fun e w' => e = .returned (.bool true) ∧ Below w.heap.size w w' := by
  unfold maxLen at hd hp zc zr
  have HS := Lib.hid (fun w => szLog_any 1048576 d p z w (by omega) (by omega) (by omega) (by omega))
  rcases szRec_cases 1048576 d p with hs | ⟨hs, hpos⟩
  · rw [hs] at HS
    clear hs
    go_enter Try.func9, Try.ntmps9
    go_wp2_with (go_at_call 23; refine (HS.out _).mono ?_; rintro e w' ⟨rfl, hb⟩)
    go_ret
    exact ⟨rfl, (by repeat (first | exact ext_refl _ | assumption | refine ext_alloc ?_ _ | refine ext_drew ?_ | refine ext_drewN ?_ _ | refine ext_set ?_ (by simp <;> omega) _ | refine ext_trans ?_ (by assumption)))⟩
  · rw [hs] at HS
    clear hs
    have HT := Lib.hid (fun w => szLogRecord_any c r (1048576 - (d.size : Int) - (p.size : Int)) w (by omega) (by omega) (by omega) (by omega))
    rcases szRec_cases (1048576 - (d.size : Int) - (p.size : Int)) c r with ht | ⟨ht, hpos'⟩
    · rw [ht] at HT
      clear ht
      go_enter Try.func9, Try.ntmps9
      go_wp2_with (first | (go_at_call 23; refine (HS.out _).mono ?_; rintro e w' ⟨rfl, hb⟩; obtain ⟨hc, hf⟩ := bcell hb; have hz : w.heap.size < w'.heap.size := by (have := hb.size; (try simp at this); omega)) | (go_at_call 14; refine (HT.out _).mono ?_; rintro e w' ⟨rfl, hb⟩; obtain ⟨hc, hf⟩ := bcell hb; have hz : w.heap.size < w'.heap.size := by (have := hb.size; (try simp at this); omega)))
      go_ret
      exact ⟨rfl, (by repeat (first | exact ext_refl _ | assumption | refine ext_alloc ?_ _ | refine ext_drew ?_ | refine ext_drewN ?_ _ | refine ext_set ?_ (by simp <;> omega) _ | refine ext_trans ?_ (by assumption)))⟩
    · rw [ht] at HT
      clear ht
      have HA := Lib.hid (fun w => specAppend_any d p z c r w (by omega) (by omega) (by omega) (by omega))
      have HB := Lib.hid (fun w => implAppend_any d p z c r w (by omega) (by omega) (by omega) (by omega))
      generalize appP d p z c r = P at HA HB
      generalize appZ d p z c r = Z at HA HB
      generalize appC d p z c r = C at HA HB
      go_enter Try.func9, Try.ntmps9
      go_wp2_with fail
      refine (HS.out _).mono ?_
      rintro e w1 ⟨rfl, hb⟩
      have s1 : w.heap.size + 2 ≤ w1.heap.size := (by have := hb.size; (try simp at this); omega)
      have z1_0 : w.heap.size < w1.heap.size := (by omega)
      have z1_1 : w.heap.size + 1 < w1.heap.size := (by omega)
      have q1_0 : w1.cell? ⟨w.heap.size, 0, none⟩ = some (.string d) := ext_cell hb (by simp [go_sem])
      have q1_1 : w1.cell? ⟨w.heap.size, 1, none⟩ = some (.string p) := ext_cell hb (by simp [go_sem])
      have q1_2 : w1.cell? ⟨w.heap.size, 2, none⟩ = some (.int .i64 z) := ext_cell hb (by simp [go_sem])
      have q1_3 : w1.cell? ⟨w.heap.size + 1, 0, none⟩ = some (.string c) := ext_cell hb (by simp [go_sem])
      have q1_4 : w1.cell? ⟨w.heap.size + 1, 1, none⟩ = some (.string r) := ext_cell hb (by simp [go_sem])
      have b1 := Lib.hid (ext_trans (ext_alloc (ext_alloc (ext_refl w) _) _) hb)
      have t1 : w.heap.size ≤ w1.heap.size := b1.out.size
      clear hb
      go_wp2_with fail
      refine (HT.out _).mono ?_
      rintro e w2 ⟨rfl, hb⟩
      have s2 : w1.heap.size ≤ w2.heap.size := (by have := hb.size; (try simp at this); omega)
      have z2_0 : w.heap.size < w2.heap.size := (by omega)
      have z2_1 : w.heap.size + 1 < w2.heap.size := (by omega)
      have q2_0 : w2.cell? ⟨w.heap.size, 0, none⟩ = some (.string d) := ext_cell hb q1_0
      have q2_1 : w2.cell? ⟨w.heap.size, 1, none⟩ = some (.string p) := ext_cell hb q1_1
      have q2_2 : w2.cell? ⟨w.heap.size, 2, none⟩ = some (.int .i64 z) := ext_cell hb q1_2
      have q2_3 : w2.cell? ⟨w.heap.size + 1, 0, none⟩ = some (.string c) := ext_cell hb q1_3
      have q2_4 : w2.cell? ⟨w.heap.size + 1, 1, none⟩ = some (.string r) := ext_cell hb q1_4
      have b2 := Lib.hid (ext_trans b1.out hb)
      have t2 : w.heap.size ≤ w2.heap.size := b2.out.size
      clear q1_0 q1_1 q1_2 q1_3 q1_4
      clear hb
      go_upto_region 8 with fail
      go_cut [6, 7] (fun s6 s7 wx => ∃ (g : Nat), s6 = .pointer (some ⟨g, 0, none⟩) ∧ s7 = .int .i64 C ∧ wx.cell? ⟨g, 0, none⟩ = some (.string d) ∧ wx.cell? ⟨g, 1, none⟩ = some (.string P) ∧ wx.cell? ⟨g, 2, none⟩ = some (.int .i64 Z) ∧ w2.heap.size ≤ g ∧ g < wx.heap.size ∧ Below w2.heap.size w2 wx)
      case first =>
        go_region_held3 (fun w' => w'.cell? ⟨w.heap.size, 0, none⟩ = some (.string d) ∧ w'.cell? ⟨w.heap.size, 1, none⟩ = some (.string p) ∧ w'.cell? ⟨w.heap.size, 2, none⟩ = some (.int .i64 z) ∧ w'.cell? ⟨w.heap.size + 1, 0, none⟩ = some (.string c) ∧ w'.cell? ⟨w.heap.size + 1, 1, none⟩ = some (.string r)) (first | (go_split_ands; ((repeat' refine And.intro ?_ ?_) <;> with_reducible (repeat (first | assumption | refine cell_drew ?_ | refine cell_old ?_ _ | refine cell_set_far (by simp <;> omega) ?_))))) (first | (go_at_call 25; refine (toLog_any d p z _).mono ?_; rintro e w' ⟨rfl, hb⟩; skip; obtain ⟨hc, hf⟩ := bcell hb; have hz := hb.size; (try simp at hz); (try have hy3 := Nat.lt_of_lt_of_le hy2 hb.size); (try have hy2 := Nat.lt_of_lt_of_le hy1 hb.size); (try have hy1 := Nat.lt_of_lt_of_le hy hb.size); (try have hy := Nat.lt_of_succ_le hz); have k0 : w'.cell? ⟨w.heap.size, 0, none⟩ = some (.string d) := ext_cell hb (by with_reducible (repeat (first | assumption | refine cell_drew ?_ | refine cell_old ?_ _))); have k1 : w'.cell? ⟨w.heap.size, 1, none⟩ = some (.string p) := ext_cell hb (by with_reducible (repeat (first | assumption | refine cell_drew ?_ | refine cell_old ?_ _))); have k2 : w'.cell? ⟨w.heap.size, 2, none⟩ = some (.int .i64 z) := ext_cell hb (by with_reducible (repeat (first | assumption | refine cell_drew ?_ | refine cell_old ?_ _))); have k3 : w'.cell? ⟨w.heap.size + 1, 0, none⟩ = some (.string c) := ext_cell hb (by with_reducible (repeat (first | assumption | refine cell_drew ?_ | refine cell_old ?_ _))); have k4 : w'.cell? ⟨w.heap.size + 1, 1, none⟩ = some (.string r) := ext_cell hb (by with_reducible (repeat (first | assumption | refine cell_drew ?_ | refine cell_old ?_ _)))) | (go_at_call 16; refine (toLogRecord_any c r _).mono ?_; rintro e w' ⟨rfl, hb⟩; skip; obtain ⟨hc, hf⟩ := bcell hb; have hz := hb.size; (try simp at hz); (try have hy3 := Nat.lt_of_lt_of_le hy2 hb.size); (try have hy2 := Nat.lt_of_lt_of_le hy1 hb.size); (try have hy1 := Nat.lt_of_lt_of_le hy hb.size); (try have hy := Nat.lt_of_succ_le hz); have k0 : w'.cell? ⟨w.heap.size, 0, none⟩ = some (.string d) := ext_cell hb (by with_reducible (repeat (first | assumption | refine cell_drew ?_ | refine cell_old ?_ _))); have k1 : w'.cell? ⟨w.heap.size, 1, none⟩ = some (.string p) := ext_cell hb (by with_reducible (repeat (first | assumption | refine cell_drew ?_ | refine cell_old ?_ _))); have k2 : w'.cell? ⟨w.heap.size, 2, none⟩ = some (.int .i64 z) := ext_cell hb (by with_reducible (repeat (first | assumption | refine cell_drew ?_ | refine cell_old ?_ _))); have k3 : w'.cell? ⟨w.heap.size + 1, 0, none⟩ = some (.string c) := ext_cell hb (by with_reducible (repeat (first | assumption | refine cell_drew ?_ | refine cell_old ?_ _))); have k4 : w'.cell? ⟨w.heap.size + 1, 1, none⟩ = some (.string r) := ext_cell hb (by with_reducible (repeat (first | assumption | refine cell_drew ?_ | refine cell_old ?_ _)))) | (go_at_call 31; refine (HA.out _).mono ?_; rintro e w' ⟨rfl, hb⟩; skip; obtain ⟨hc, hf⟩ := bcell hb; have hz := hb.size; (try simp at hz); (try have hy3 := Nat.lt_of_lt_of_le hy2 hb.size); (try have hy2 := Nat.lt_of_lt_of_le hy1 hb.size); (try have hy1 := Nat.lt_of_lt_of_le hy hb.size); (try have hy := Nat.lt_of_succ_le hz); have k0 : w'.cell? ⟨w.heap.size, 0, none⟩ = some (.string d) := ext_cell hb (by with_reducible (repeat (first | assumption | refine cell_drew ?_ | refine cell_old ?_ _))); have k1 : w'.cell? ⟨w.heap.size, 1, none⟩ = some (.string p) := ext_cell hb (by with_reducible (repeat (first | assumption | refine cell_drew ?_ | refine cell_old ?_ _))); have k2 : w'.cell? ⟨w.heap.size, 2, none⟩ = some (.int .i64 z) := ext_cell hb (by with_reducible (repeat (first | assumption | refine cell_drew ?_ | refine cell_old ?_ _))); have k3 : w'.cell? ⟨w.heap.size + 1, 0, none⟩ = some (.string c) := ext_cell hb (by with_reducible (repeat (first | assumption | refine cell_drew ?_ | refine cell_old ?_ _))); have k4 : w'.cell? ⟨w.heap.size + 1, 1, none⟩ = some (.string r) := ext_cell hb (by with_reducible (repeat (first | assumption | refine cell_drew ?_ | refine cell_old ?_ _)))))
        all_goals (go_wp2_with fail; go_meet; refine ⟨_, rfl, rfl, ?_, ?_, ?_, ?_, ?_, ?_⟩)
        all_goals first | omega | (simp [go_sem, *]; done) | (simp <;> omega) | (repeat (first | exact ext_refl _ | assumption | refine ext_alloc ?_ _ | refine ext_drew ?_ | refine ext_set ?_ (by simp <;> omega) _ | refine ext_trans ?_ (by assumption)))
      case rest =>
        obtain ⟨g3, rfl, rfl, p3_0, p3_1, p3_2, hgl3, hgs3, hb⟩ := hcut
        obtain ⟨w3, hw3⟩ : ∃ x : World, x = wc := ⟨_, rfl⟩
        subst hw3
        have s3 : w2.heap.size ≤ w3.heap.size := (by have := hb.size; (try simp at this); omega)
        have z3_0 : w.heap.size < w3.heap.size := (by omega)
        have z3_1 : w.heap.size + 1 < w3.heap.size := (by omega)
        have q3_0 : w3.cell? ⟨w.heap.size, 0, none⟩ = some (.string d) := ext_cell hb q2_0
        have q3_1 : w3.cell? ⟨w.heap.size, 1, none⟩ = some (.string p) := ext_cell hb q2_1
        have q3_2 : w3.cell? ⟨w.heap.size, 2, none⟩ = some (.int .i64 z) := ext_cell hb q2_2
        have q3_3 : w3.cell? ⟨w.heap.size + 1, 0, none⟩ = some (.string c) := ext_cell hb q2_3
        have q3_4 : w3.cell? ⟨w.heap.size + 1, 1, none⟩ = some (.string r) := ext_cell hb q2_4
        have b3 := Lib.hid (ext_trans b2.out hb)
        have t3 : w.heap.size ≤ w3.heap.size := b3.out.size
        clear q2_0 q2_1 q2_2 q2_3 q2_4
        have z3_g : g3 < w3.heap.size := hgs3
        clear hb
        go_upto_region 9 with fail
        go_cut [8, 9] (fun s8 s9 wx => ∃ (g : Nat), s8 = .pointer (some ⟨g, 0, none⟩) ∧ s9 = .int .i64 C ∧ wx.cell? ⟨g, 0, none⟩ = some (.string d) ∧ wx.cell? ⟨g, 1, none⟩ = some (.string P) ∧ wx.cell? ⟨g, 2, none⟩ = some (.int .i64 Z) ∧ w3.heap.size ≤ g ∧ g < wx.heap.size ∧ Below w3.heap.size w3 wx)
        case first =>
          go_region_held3 (fun w' => w'.cell? ⟨w.heap.size, 0, none⟩ = some (.string d) ∧ w'.cell? ⟨w.heap.size, 1, none⟩ = some (.string p) ∧ w'.cell? ⟨w.heap.size, 2, none⟩ = some (.int .i64 z) ∧ w'.cell? ⟨w.heap.size + 1, 0, none⟩ = some (.string c) ∧ w'.cell? ⟨w.heap.size + 1, 1, none⟩ = some (.string r) ∧ w'.cell? ⟨g3, 0, none⟩ = some (.string d) ∧ w'.cell? ⟨g3, 1, none⟩ = some (.string P) ∧ w'.cell? ⟨g3, 2, none⟩ = some (.int .i64 Z)) (first | (go_split_ands; ((repeat' refine And.intro ?_ ?_) <;> with_reducible (repeat (first | assumption | refine cell_drew ?_ | refine cell_old ?_ _ | refine cell_set_far (by simp <;> omega) ?_))))) (first | (go_at_call 25; refine (toLog_any d p z _).mono ?_; rintro e w' ⟨rfl, hb⟩; skip; obtain ⟨hc, hf⟩ := bcell hb; have hz := hb.size; (try simp at hz); (try have hy3 := Nat.lt_of_lt_of_le hy2 hb.size); (try have hy2 := Nat.lt_of_lt_of_le hy1 hb.size); (try have hy1 := Nat.lt_of_lt_of_le hy hb.size); (try have hy := Nat.lt_of_succ_le hz); have k0 : w'.cell? ⟨w.heap.size, 0, none⟩ = some (.string d) := ext_cell hb (by with_reducible (repeat (first | assumption | refine cell_drew ?_ | refine cell_old ?_ _))); have k1 : w'.cell? ⟨w.heap.size, 1, none⟩ = some (.string p) := ext_cell hb (by with_reducible (repeat (first | assumption | refine cell_drew ?_ | refine cell_old ?_ _))); have k2 : w'.cell? ⟨w.heap.size, 2, none⟩ = some (.int .i64 z) := ext_cell hb (by with_reducible (repeat (first | assumption | refine cell_drew ?_ | refine cell_old ?_ _))); have k3 : w'.cell? ⟨w.heap.size + 1, 0, none⟩ = some (.string c) := ext_cell hb (by with_reducible (repeat (first | assumption | refine cell_drew ?_ | refine cell_old ?_ _))); have k4 : w'.cell? ⟨w.heap.size + 1, 1, none⟩ = some (.string r) := ext_cell hb (by with_reducible (repeat (first | assumption | refine cell_drew ?_ | refine cell_old ?_ _))); have k5 : w'.cell? ⟨g3, 0, none⟩ = some (.string d) := ext_cell hb (by with_reducible (repeat (first | assumption | refine cell_drew ?_ | refine cell_old ?_ _))); have k6 : w'.cell? ⟨g3, 1, none⟩ = some (.string P) := ext_cell hb (by with_reducible (repeat (first | assumption | refine cell_drew ?_ | refine cell_old ?_ _))); have k7 : w'.cell? ⟨g3, 2, none⟩ = some (.int .i64 Z) := ext_cell hb (by with_reducible (repeat (first | assumption | refine cell_drew ?_ | refine cell_old ?_ _)))) | (go_at_call 16; refine (toLogRecord_any c r _).mono ?_; rintro e w' ⟨rfl, hb⟩; skip; obtain ⟨hc, hf⟩ := bcell hb; have hz := hb.size; (try simp at hz); (try have hy3 := Nat.lt_of_lt_of_le hy2 hb.size); (try have hy2 := Nat.lt_of_lt_of_le hy1 hb.size); (try have hy1 := Nat.lt_of_lt_of_le hy hb.size); (try have hy := Nat.lt_of_succ_le hz); have k0 : w'.cell? ⟨w.heap.size, 0, none⟩ = some (.string d) := ext_cell hb (by with_reducible (repeat (first | assumption | refine cell_drew ?_ | refine cell_old ?_ _))); have k1 : w'.cell? ⟨w.heap.size, 1, none⟩ = some (.string p) := ext_cell hb (by with_reducible (repeat (first | assumption | refine cell_drew ?_ | refine cell_old ?_ _))); have k2 : w'.cell? ⟨w.heap.size, 2, none⟩ = some (.int .i64 z) := ext_cell hb (by with_reducible (repeat (first | assumption | refine cell_drew ?_ | refine cell_old ?_ _))); have k3 : w'.cell? ⟨w.heap.size + 1, 0, none⟩ = some (.string c) := ext_cell hb (by with_reducible (repeat (first | assumption | refine cell_drew ?_ | refine cell_old ?_ _))); have k4 : w'.cell? ⟨w.heap.size + 1, 1, none⟩ = some (.string r) := ext_cell hb (by with_reducible (repeat (first | assumption | refine cell_drew ?_ | refine cell_old ?_ _))); have k5 : w'.cell? ⟨g3, 0, none⟩ = some (.string d) := ext_cell hb (by with_reducible (repeat (first | assumption | refine cell_drew ?_ | refine cell_old ?_ _))); have k6 : w'.cell? ⟨g3, 1, none⟩ = some (.string P) := ext_cell hb (by with_reducible (repeat (first | assumption | refine cell_drew ?_ | refine cell_old ?_ _))); have k7 : w'.cell? ⟨g3, 2, none⟩ = some (.int .i64 Z) := ext_cell hb (by with_reducible (repeat (first | assumption | refine cell_drew ?_ | refine cell_old ?_ _)))) | (go_at_call 32; refine (HB.out _).mono ?_; rintro e w' ⟨rfl, hb⟩; skip; obtain ⟨hc, hf⟩ := bcell hb; have hz := hb.size; (try simp at hz); (try have hy3 := Nat.lt_of_lt_of_le hy2 hb.size); (try have hy2 := Nat.lt_of_lt_of_le hy1 hb.size); (try have hy1 := Nat.lt_of_lt_of_le hy hb.size); (try have hy := Nat.lt_of_succ_le hz); have k0 : w'.cell? ⟨w.heap.size, 0, none⟩ = some (.string d) := ext_cell hb (by with_reducible (repeat (first | assumption | refine cell_drew ?_ | refine cell_old ?_ _))); have k1 : w'.cell? ⟨w.heap.size, 1, none⟩ = some (.string p) := ext_cell hb (by with_reducible (repeat (first | assumption | refine cell_drew ?_ | refine cell_old ?_ _))); have k2 : w'.cell? ⟨w.heap.size, 2, none⟩ = some (.int .i64 z) := ext_cell hb (by with_reducible (repeat (first | assumption | refine cell_drew ?_ | refine cell_old ?_ _))); have k3 : w'.cell? ⟨w.heap.size + 1, 0, none⟩ = some (.string c) := ext_cell hb (by with_reducible (repeat (first | assumption | refine cell_drew ?_ | refine cell_old ?_ _))); have k4 : w'.cell? ⟨w.heap.size + 1, 1, none⟩ = some (.string r) := ext_cell hb (by with_reducible (repeat (first | assumption | refine cell_drew ?_ | refine cell_old ?_ _))); have k5 : w'.cell? ⟨g3, 0, none⟩ = some (.string d) := ext_cell hb (by with_reducible (repeat (first | assumption | refine cell_drew ?_ | refine cell_old ?_ _))); have k6 : w'.cell? ⟨g3, 1, none⟩ = some (.string P) := ext_cell hb (by with_reducible (repeat (first | assumption | refine cell_drew ?_ | refine cell_old ?_ _))); have k7 : w'.cell? ⟨g3, 2, none⟩ = some (.int .i64 Z) := ext_cell hb (by with_reducible (repeat (first | assumption | refine cell_drew ?_ | refine cell_old ?_ _)))))
          all_goals (go_wp2_with fail; go_meet; refine ⟨_, rfl, rfl, ?_, ?_, ?_, ?_, ?_, ?_⟩)
          all_goals first | omega | (simp [go_sem, *]; done) | (simp <;> omega) | (repeat (first | exact ext_refl _ | assumption | refine ext_alloc ?_ _ | refine ext_drew ?_ | refine ext_set ?_ (by simp <;> omega) _ | refine ext_trans ?_ (by assumption)))
        case rest =>
          obtain ⟨g4, rfl, rfl, p4_0, p4_1, p4_2, hgl4, hgs4, hb⟩ := hcut
          obtain ⟨w4, hw4⟩ : ∃ x : World, x = wc := ⟨_, rfl⟩
          subst hw4
          have s4 : w3.heap.size ≤ w4.heap.size := (by have := hb.size; (try simp at this); omega)
          have z4_0 : w.heap.size < w4.heap.size := (by omega)
          have z4_1 : w.heap.size + 1 < w4.heap.size := (by omega)
          have z4_2 : g3 < w4.heap.size := (by omega)
          have q4_0 : w4.cell? ⟨w.heap.size, 0, none⟩ = some (.string d) := ext_cell hb q3_0
          have q4_1 : w4.cell? ⟨w.heap.size, 1, none⟩ = some (.string p) := ext_cell hb q3_1
          have q4_2 : w4.cell? ⟨w.heap.size, 2, none⟩ = some (.int .i64 z) := ext_cell hb q3_2
          have q4_3 : w4.cell? ⟨w.heap.size + 1, 0, none⟩ = some (.string c) := ext_cell hb q3_3
          have q4_4 : w4.cell? ⟨w.heap.size + 1, 1, none⟩ = some (.string r) := ext_cell hb q3_4
          have q4_5 : w4.cell? ⟨g3, 0, none⟩ = some (.string d) := ext_cell hb p3_0
          have q4_6 : w4.cell? ⟨g3, 1, none⟩ = some (.string P) := ext_cell hb p3_1
          have q4_7 : w4.cell? ⟨g3, 2, none⟩ = some (.int .i64 Z) := ext_cell hb p3_2
          have b4 := Lib.hid (ext_trans b3.out hb)
          have t4 : w.heap.size ≤ w4.heap.size := b4.out.size
          clear q3_0 q3_1 q3_2 q3_3 q3_4 p3_0 p3_1 p3_2
          have z4_g : g4 < w4.heap.size := hgs4
          clear hb
          go_wp2_with fail
          refine (eqLog_same _ _ _ _).mono ?_
          rintro e w5 ⟨rfl, hb⟩
          have s5 : w4.heap.size ≤ w5.heap.size := (by have := hb.size; (try simp at this); omega)
          have z5_0 : w.heap.size < w5.heap.size := (by omega)
          have z5_1 : w.heap.size + 1 < w5.heap.size := (by omega)
          have z5_2 : g3 < w5.heap.size := (by omega)
          have z5_3 : g4 < w5.heap.size := (by omega)
          have q5_0 : w5.cell? ⟨w.heap.size, 0, none⟩ = some (.string d) := ext_cell hb q4_0
          have q5_1 : w5.cell? ⟨w.heap.size, 1, none⟩ = some (.string p) := ext_cell hb q4_1
          have q5_2 : w5.cell? ⟨w.heap.size, 2, none⟩ = some (.int .i64 z) := ext_cell hb q4_2
          have q5_3 : w5.cell? ⟨w.heap.size + 1, 0, none⟩ = some (.string c) := ext_cell hb q4_3
          have q5_4 : w5.cell? ⟨w.heap.size + 1, 1, none⟩ = some (.string r) := ext_cell hb q4_4
          have q5_5 : w5.cell? ⟨g3, 0, none⟩ = some (.string d) := ext_cell hb q4_5
          have q5_6 : w5.cell? ⟨g3, 1, none⟩ = some (.string P) := ext_cell hb q4_6
          have q5_7 : w5.cell? ⟨g3, 2, none⟩ = some (.int .i64 Z) := ext_cell hb q4_7
          have q5_8 : w5.cell? ⟨g4, 0, none⟩ = some (.string d) := ext_cell hb p4_0
          have q5_9 : w5.cell? ⟨g4, 1, none⟩ = some (.string P) := ext_cell hb p4_1
          have q5_10 : w5.cell? ⟨g4, 2, none⟩ = some (.int .i64 Z) := ext_cell hb p4_2
          have b5 := Lib.hid (ext_trans b4.out hb)
          have t5 : w.heap.size ≤ w5.heap.size := b5.out.size
          clear q4_0 q4_1 q4_2 q4_3 q4_4 q4_5 q4_6 q4_7 p4_0 p4_1 p4_2
          clear hb
          go_wp2
          go_ret
          exact ⟨rfl, b5.out⟩
end Go.Proofs.Ytdielldikdmjpaa
