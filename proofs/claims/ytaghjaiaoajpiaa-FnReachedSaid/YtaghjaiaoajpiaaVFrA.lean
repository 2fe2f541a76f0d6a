/- Frames: the program's functions that only look at them. -/
import Derived.Test.YtaghjaiaoajpiaaVM2
import Derived.Test.YtaghjaiaoajpiaaVM1
namespace Go.Proofs.Ytaghjaiaoajpiaa
open Go.RowKit
set_option linter.unusedVariables false
set_option linter.unusedSimpArgs false
theorem inB_within (n lo hi : Int) (w : World) :
 Calls Try.prog 34 #[.int .i64 n, .int .i64 lo, .int .i64 hi] w fun e w' => e = .returned (.bool (inB n lo hi)) ∧ w = w' := by
 go_enter Try.func34, Try.ntmps34
 go_wp2
 all_goals go_ret
 all_goals exact ⟨by simp [inB, *] <;> omega, rfl⟩
theorem inB_l1In (n lo hi : Int) (w : World) :
 Calls Try.prog 37 #[.int .i64 n, .int .i64 lo, .int .i64 hi] w fun e w' => e = .returned (.bool (inB n lo hi)) ∧ w = w' := by
 go_enter Try.func37, Try.ntmps37
 go_wp2
 all_goals go_ret
 all_goals exact ⟨by simp [inB, *] <;> omega, rfl⟩
/-- a frame's value -/
abbrev frV (u lo : Int) (A : Option Addr) (n c : Nat) : Value := .agg #[.int .i64 u, .int .i64 lo, .slice A n c]
theorem all_snoc {l : List R2} {k : Nat} {r : R2} {p : R2 → Bool} (h : (l.take k).all p = true) (hr : l[k]? = some r) (hp : p r = true) : (l.take (k + 1)).all p = true := by
 rw [List.take_add_one, hr]
 simp only [List.all_append, h, Option.toList_some, List.all_cons, hp, List.all_nil]
 rfl
theorem all_bad {l : List R2} {k : Nat} {r : R2} {p : R2 → Bool} (hr : l[k]? = some r) (hp : p r = false) : l.all p = false := by
 rw [Bool.eq_false_iff]
 intro h
 rw [List.all_eq_true.1 h r (List.mem_of_getElem? hr)] at hp
 cases hp
theorem all_whole {l : List R2} {k : Nat} {p : R2 → Bool} (h : (l.take k).all p = true) (hk : l.length ≤ k) : l.all p = true := by rwa [List.take_of_length_le hk] at h
set_option maxHeartbeats 1000000 in
theorem isFrame_any (u lo : Int) (A : Option Addr) (n c : Nat) (l : List R2) (w : World) (hn : n ≤ 1048576) (h : Reads w w.heap.size 2 A n (rowsV2 l)) :
 Calls Try.prog 33 #[frV u lo A n c] w fun e w' => e = .returned (.bool (frB u lo l)) ∧ Below w.heap.size w w' := by
 have hl := rows_len2 h
 have H := Lib.hid h
 have HL := Lib.hid hl
 clear h hl
 have E : Hid (frB u lo l = (inB u 1 2 && inB lo 4 5 && inB n 1 8 && l.all (rodB u lo))) := Lib.hid (by rw [← HL.out]; rfl)
 cases h1 : inB u 1 2
 · go_enter Try.func33, Try.ntmps33
   go_wp2_with (go_at_call 34; refine (inB_within _ _ _ _).mono ?_; rintro e w' ⟨rfl, rfl⟩)
   go_ret
   exact ⟨ret_bool (by rw [E.out, h1]; rfl), (by repeat (first | exact ext_refl _ | assumption | refine ext_alloc ?_ _ | refine ext_drew ?_ | refine ext_drewN ?_ _ | refine ext_set ?_ (by simp <;> omega) _ | refine ext_trans ?_ (by assumption)))⟩
 cases h2 : inB lo 4 5
 · go_enter Try.func33, Try.ntmps33
   go_wp2_with (go_at_call 34; refine (inB_within _ _ _ _).mono ?_; rintro e w' ⟨rfl, rfl⟩)
   go_ret
   exact ⟨ret_bool (by rw [E.out, h1, h2]; rfl), (by repeat (first | exact ext_refl _ | assumption | refine ext_alloc ?_ _ | refine ext_drew ?_ | refine ext_drewN ?_ _ | refine ext_set ?_ (by simp <;> omega) _ | refine ext_trans ?_ (by assumption)))⟩
 cases h3 : inB (n : Int) 1 8
 · go_enter Try.func33, Try.ntmps33
   go_wp2_with (go_at_call 34; refine (inB_within _ _ _ _).mono ?_; rintro e w' ⟨rfl, rfl⟩)
   go_ret
   exact ⟨ret_bool (by rw [E.out, h1, h2, h3]; rfl), (by repeat (first | exact ext_refl _ | assumption | refine ext_alloc ?_ _ | refine ext_drew ?_ | refine ext_drewN ?_ _ | refine ext_set ?_ (by simp <;> omega) _ | refine ext_trans ?_ (by assumption)))⟩
 go_enter Try.func33, Try.ntmps33
 go_wp2_with (go_at_call 34; refine (inB_within _ _ _ _).mono ?_; rintro e w' ⟨rfl, rfl⟩)
 go_loopw [25] (fun i wr => ∃ k : Nat, k ≤ n ∧ i = .int .i64 k ∧ Below (w.heap.size + 1) (w.alloc (.cells #[.int .i64 u, .int .i64 lo, .slice A n c] 26)) wr ∧ Hid ((l.take k).all (rodB u lo) = true)) (fun i _ => n - (intOf i).toNat)
 case atStart => exact ⟨0, Nat.zero_le _, rfl, Below.refl _ _, Lib.hid rfl⟩
 case round =>
  obtain ⟨k, hk, rfl, hbl, hok⟩ := hrel
  have hb0 : Below w.heap.size w wr := ((ext_refl w).alloc (Nat.le_refl _) _).trans (hbl.mono (Nat.le_succ _))
  have hs0 : w.heap.size < wr.heap.size := by have := hbl.size; simp at this; omega
  have d0 : wr.cell? ⟨w.heap.size, 0, none⟩ = some (.int .i64 u) := (hbl.cell (p := ⟨w.heap.size, 0, none⟩) (Nat.lt_succ_self _)).trans (by simp [go_sem])
  have d1 : wr.cell? ⟨w.heap.size, 1, none⟩ = some (.int .i64 lo) := (hbl.cell (p := ⟨w.heap.size, 1, none⟩) (Nat.lt_succ_self _)).trans (by simp [go_sem])
  by_cases hlt : k < n
  · obtain ⟨r, hr⟩ := list_split (l := l) (k := k) (by rw [HL.out]; exact hlt)
    obtain ⟨b, o, rfl, hb, c0, c1⟩ := rows_at2 (H.out.ext hb0 (Nat.le_refl _)) hr
    have hbw : b < wr.heap.size := by omega
    cases ha : inB r.a 0 u
    · have hbad := Lib.hid (all_bad (p := rodB u lo) hr (by simp [rodB, ha]))
      clear hr
      go_wp2_with (go_at_call 34; refine (inB_within _ _ _ _).mono ?_; rintro e w' ⟨rfl, rfl⟩)
      go_ret
      exact ⟨ret_bool (by rw [E.out, hbad.out]; simp), (by repeat (first | exact ext_refl _ | assumption | refine ext_alloc ?_ _ | refine ext_drew ?_ | refine ext_drewN ?_ _ | refine ext_set ?_ (by simp <;> omega) _ | refine ext_trans ?_ (by assumption)))⟩
    cases hb : inB r.b 0 lo
    · have hbad := Lib.hid (all_bad (p := rodB u lo) hr (by simp [rodB, ha, hb]))
      clear hr
      go_wp2_with (go_at_call 34; refine (inB_within _ _ _ _).mono ?_; rintro e w' ⟨rfl, rfl⟩)
      go_ret
      exact ⟨ret_bool (by rw [E.out, hbad.out]; simp), (by repeat (first | exact ext_refl _ | assumption | refine ext_alloc ?_ _ | refine ext_drew ?_ | refine ext_drewN ?_ _ | refine ext_set ?_ (by simp <;> omega) _ | refine ext_trans ?_ (by assumption)))⟩
    have hgood := Lib.hid (all_snoc hok.out hr (by simp [rodB, ha, hb]))
    clear hr
    go_wp2_with (go_at_call 34; refine (inB_within _ _ _ _).mono ?_; rintro e w' ⟨rfl, rfl⟩)
    go_roundw
    case rel => exact ⟨k + 1, by omega, by go_num, hbl.alloc (by omega) _, hgood⟩
    case measure => simp [intOf]; omega
  · obtain rfl : k = n := by omega
    go_wp2
    go_ret
    exact ⟨ret_bool (by rw [E.out, h1, h2, h3, all_whole hok.out (by rw [HL.out]; exact Nat.le_refl _)]; rfl), hb0⟩
theorem std_bad {r : R2} (h : ¬ (r.a ≤ 1 ∧ r.b ≤ 4)) : stdR r = false := by
 simp only [stdR, Bool.and_eq_false_iff, decide_eq_false_iff_not]; omega
theorem std_good {r : R2} (h1 : r.a ≤ 1) (h2 : r.b ≤ 4) : stdR r = true := by simp [stdR, h1, h2]
set_option maxHeartbeats 1000000 in
theorem standard_any (u lo : Int) (A : Option Addr) (n c : Nat) (l : List R2) (w : World) (hn : n ≤ 1048576) (h : Reads w w.heap.size 2 A n (rowsV2 l)) :
 Calls Try.prog 49 #[frV u lo A n c] w fun e w' => e = .returned (.bool (stdB l)) ∧ Below w.heap.size w w' := by
 have hl := rows_len2 h
 have H := Lib.hid h
 have HL := Lib.hid hl
 clear h hl
 go_enter Try.func49, Try.ntmps49
 go_wp2
 go_loopw [8] (fun i wr => ∃ k : Nat, k ≤ n ∧ i = .int .i64 k ∧ Below w.heap.size w wr ∧ Hid ((l.take k).all stdR = true)) (fun i _ => n - (intOf i).toNat)
 case atStart => exact ⟨0, Nat.zero_le _, rfl, (by repeat (first | exact ext_refl _ | assumption | refine ext_alloc ?_ _ | refine ext_drew ?_ | refine ext_drewN ?_ _ | refine ext_set ?_ (by simp <;> omega) _ | refine ext_trans ?_ (by assumption))), Lib.hid rfl⟩
 case round =>
  obtain ⟨k, hk, rfl, hbl, hok⟩ := hrel
  by_cases hlt : k < n
  · obtain ⟨r, hr⟩ := list_split (l := l) (k := k) (by rw [HL.out]; exact hlt)
    obtain ⟨b, o, rfl, hb, c0, c1⟩ := rows_at2 (H.out.ext hbl (Nat.le_refl _)) hr
    have hbw : b < wr.heap.size := Nat.lt_of_lt_of_le hb hbl.size
    have hz := hbl.size
    by_cases hgd : r.a ≤ 1 ∧ r.b ≤ 4
    · have hgood := Lib.hid (all_snoc hok.out hr (std_good hgd.1 hgd.2))
      obtain ⟨g1, g2⟩ := hgd
      clear hr
      go_wp2
      go_roundw
      case rel => exact ⟨k + 1, by omega, by go_num, (by repeat (first | exact ext_refl _ | assumption | refine ext_alloc ?_ _ | refine ext_drew ?_ | refine ext_drewN ?_ _ | refine ext_set ?_ (by simp <;> omega) _ | refine ext_trans ?_ (by assumption))), hgood⟩
      case measure => simp [intOf]; omega
    · have hbad := Lib.hid (all_bad hr (std_bad hgd))
      clear hr
      go_wp2
      all_goals first
       | (go_ret; exact ⟨ret_bool (by unfold stdB; rw [hbad.out]), (by repeat (first | exact ext_refl _ | assumption | refine ext_alloc ?_ _ | refine ext_drew ?_ | refine ext_drewN ?_ _ | refine ext_set ?_ (by simp <;> omega) _ | refine ext_trans ?_ (by assumption)))⟩)
       | (exfalso; omega)
  · obtain rfl : k = n := by omega
    go_wp2
    go_ret
    exact ⟨ret_bool (by unfold stdB; rw [all_whole hok.out (by rw [HL.out]; exact Nat.le_refl _)]), hbl⟩
set_option maxHeartbeats 1000000 in
theorem number_any (u lo : Int) (A : Option Addr) (n c : Nat) (l : List R2) (w : World) (hf : frB u lo l = true) (h : Reads w w.heap.size 2 A n (rowsV2 l)) :
 Calls Try.prog 39 #[frV u lo A n c] w fun e w' => e = .returned (.int .i64 (numR l)) ∧ Below w.heap.size w w' := by
 have hl := rows_len2 h
 obtain ⟨hu, hlo, hn1, hn8⟩ := frB_head hf
 rw [hl] at hn1 hn8
 have HF := Lib.hid hf
 have H := Lib.hid h
 have HL := Lib.hid hl
 clear h hl hf
 go_enter Try.func39, Try.ntmps39
 go_wp2
 go_loopw [3, 9] (fun s i wr => ∃ k : Nat, k ≤ n ∧ i = .int .i64 k ∧ s = .int .i64 (numR (l.take k)) ∧ Below w.heap.size w wr) (fun _ i _ => n - (intOf i).toNat)
 case atStart => exact ⟨0, Nat.zero_le _, rfl, rfl, (by repeat (first | exact ext_refl _ | assumption | refine ext_alloc ?_ _ | refine ext_drew ?_ | refine ext_drewN ?_ _ | refine ext_set ?_ (by simp <;> omega) _ | refine ext_trans ?_ (by assumption)))⟩
 case round =>
  obtain ⟨k, hk, rfl, rfl, hbl⟩ := hrel
  obtain ⟨m0, m1⟩ := numR_bounds HF.out k
  by_cases hlt : k < n
  · obtain ⟨r, hr⟩ := list_split (l := l) (k := k) (by rw [HL.out]; exact hlt)
    obtain ⟨b, o, rfl, hb, c0, c1⟩ := rows_at2 (H.out.ext hbl (Nat.le_refl _)) hr
    have hbw : b < wr.heap.size := Nat.lt_of_lt_of_le hb hbl.size
    obtain ⟨r1, r2, r3, r4⟩ := frB_rod HF.out hr
    have hnew := Lib.hid (numR_take hr)
    clear hr
    generalize numR (l.take k) = M at *
    go_wp2
    go_roundw
    case rel => exact ⟨k + 1, by omega, by go_num, by rw [hnew.out]; congr 1; omega, (by repeat (first | exact ext_refl _ | assumption | refine ext_alloc ?_ _ | refine ext_drew ?_ | refine ext_drewN ?_ _ | refine ext_set ?_ (by simp <;> omega) _ | refine ext_trans ?_ (by assumption)))⟩
    case measure => simp [intOf]; omega
  · obtain rfl : k = n := by omega
    have hall := Lib.hid (numR_all l k (by rw [HL.out]; exact Nat.le_refl _))
    go_wp2
    go_ret
    exact ⟨ret_int (by rw [hall.out]), hbl⟩
theorem power_any (n : Nat) (w : World) (hn : n ≤ 8) :
 Calls Try.prog 90 #[.int .i64 (n : Int)] w fun e w' => e = .returned (.int .i64 (pw n)) ∧ w = w' := by
 go_enter Try.func90, Try.ntmps90
 go_wp2
 go_loop [0, 3] (fun i p => ∃ k : Nat, k ≤ n ∧ i = .int .i64 (((n - k : Nat)) : Int) ∧ p = .int .i64 (pw k)) (fun i _ => (intOf i).toNat)
 case atStart => exact ⟨0, Nat.zero_le _, rfl, rfl⟩
 case round =>
  obtain ⟨k, hk, rfl, rfl⟩ := hrel
  have hp0 := pw_pos k
  have hp1 := pw_lt (n := k) (by omega)
  have hs := Lib.hid (pw_succ k)
  by_cases hlt : k < n
  · obtain ⟨j, hj⟩ : ∃ j, n - k = j + 1 := ⟨n - k - 1, by omega⟩
    rw [hj]
    generalize pw k = P at *
    have hjn : j ≤ 8 := by omega
    go_wp2
    go_round
    case rel => exact ⟨k + 1, by omega, by congr 1; omega, by rw [hs.out]; congr 1; omega⟩
    case measure => simp [intOf]
  · obtain rfl : k = n := by omega
    rw [Nat.sub_self]
    go_wp2
    go_ret
    exact ⟨rfl, rfl⟩
theorem rodOf_any (d : Int) (w : World) (h0 : 0 ≤ d) (h1 : d ≤ 1000) :
 Calls Try.prog 92 #[.int .i64 d] w fun e w' => e = .returned (rodD d).val ∧ Below w.heap.size w w' := by
 go_enter Try.func92, Try.ntmps92
 go_wp2
 refine bodyPost_ret (v := .agg #[.int .i64 (d / 5), .int .i64 (d % 5)]) (by simp [results, Try.results92, go_sem]) rfl ⟨rfl, (by repeat (first | exact ext_refl _ | assumption | refine ext_alloc ?_ _ | refine ext_drew ?_ | refine ext_drewN ?_ _ | refine ext_set ?_ (by simp <;> omega) _ | refine ext_trans ?_ (by assumption)))⟩
theorem fitsOn_any (u lo : Int) (A : Option Addr) (n c : Nat) (m : Int) (w : World) (hn : n ≤ 8) :
 Calls Try.prog 87 #[frV u lo A n c, .int .i64 m] w fun e w' => e = .returned (.bool (inB m 0 (pw n - 1))) ∧ Below w.heap.size w w' := by
 have hp0 := pw_pos n
 have hp1 := pw_lt hn
 go_enter Try.func87, Try.ntmps87
 go_wp2_with (first | (go_at_call 90; refine (power_any n _ hn).mono ?_; rintro e w' ⟨rfl, rfl⟩) | (go_at_call 34; refine (inB_within _ _ _ _).mono ?_; rintro e w' ⟨rfl, rfl⟩))
 go_ret
 exact ⟨rfl, (by repeat (first | exact ext_refl _ | assumption | refine ext_alloc ?_ _ | refine ext_drew ?_ | refine ext_drewN ?_ _ | refine ext_set ?_ (by simp <;> omega) _ | refine ext_trans ?_ (by assumption)))⟩
theorem hasRod_any (u lo : Int) (A : Option Addr) (n c : Nat) (m : Int) (w : World) (hn : n ≤ 1048576) :
 Calls Try.prog 80 #[frV u lo A n c, .int .i64 m] w fun e w' => e = .returned (.bool (inB m 0 ((n : Int) - 1))) ∧ Below w.heap.size w w' := by
 go_enter Try.func80, Try.ntmps80
 go_wp2_with (go_at_call 34; refine (inB_within _ _ _ _).mono ?_; rintro e w' ⟨rfl, rfl⟩)
 go_ret
 exact ⟨rfl, (by repeat (first | exact ext_refl _ | assumption | refine ext_alloc ?_ _ | refine ext_drew ?_ | refine ext_drewN ?_ _ | refine ext_set ?_ (by simp <;> omega) _ | refine ext_trans ?_ (by assumption)))⟩
end Go.Proofs.Ytaghjaiaoajpiaa
