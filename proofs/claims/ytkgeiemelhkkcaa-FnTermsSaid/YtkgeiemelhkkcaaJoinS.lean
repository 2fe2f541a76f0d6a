
/- JoinSchools: the reference's. -/
import Derived.Test.YtkgeiemelhkkcaaJoin
namespace Go.Proofs.Ytkgeiemelhkkcaa
open Go.RowKit
set_option linter.unusedVariables false
set_option linter.unusedSimpArgs false
set_option maxHeartbeats 600000 in
theorem specJoin_any (A A' : Option Addr) (n n' c c' : Nat) (l m : List R5) (w : World) (hn : n ≤ 1048576) (hn' : n' ≤ 1048576) (h : Reads w w.heap.size 5 A n (rowsV l)) (h' : Reads w w.heap.size 5 A' n' (rowsV m)) :
    Calls Try.prog 39 #[.slice A n c, .slice A' n' c'] w (RetSliceB w 25 5 (joinB l m).length (rowsV (joinB l m)) (joinOk l m)) := by
  have hl := rows_len h
  have hm := rows_len h'
  have H := Lib.hid h
  have H' := Lib.hid h'
  have HL := Lib.hid hl
  have HM := Lib.hid hm
  clear h h' hl hm
  obtain ⟨i0, hi, hz0, hz1, hz2⟩ := info_parts info_row
  have ho0 := own_lit0 w 25 5
  rcases hgl : areB l with _ | _
  · have e : joinOk l m = false := by simp [joinOk, hgl]
    have e2 : joinB l m = [] := by simp [joinB, e]
    rw [e, e2]
    clear e e2
    go_enter Try.func39, Try.ntmps39
    go_wp2_with fail
    refine (l26Good_any A n c l _ hn (rows_ext H.out (ext_alloc (ext_refl w) _))).mono ?_
    rintro e y1 ⟨rfl, hb1⟩
    have ho1 := own_ext ho0 hb1
    rw [hgl]
    go_wp2
    go_ret2
    exact ⟨_, _, rfl, ho1, ext_trans (ext_alloc (ext_refl w) _) hb1⟩

  rcases hgm : areB m with _ | _
  · have e : joinOk l m = false := by simp [joinOk, hgm]
    have e2 : joinB l m = [] := by simp [joinB, e]
    rw [e, e2]
    clear e e2
    go_enter Try.func39, Try.ntmps39
    go_wp2_with fail
    refine (l26Good_any A n c l _ hn (rows_ext H.out (ext_alloc (ext_refl w) _))).mono ?_
    rintro e y1 ⟨rfl, hb1⟩
    have ho1 := own_ext ho0 hb1
    rw [hgl]
    go_wp2_with fail
    refine (l26Good_any A' n' c' m _ hn' (rows_ext H'.out (ext_trans (ext_alloc (ext_refl w) _) hb1))).mono ?_
    rintro e y2 ⟨rfl, hb2⟩
    have ho2 := own_ext ho1 hb2
    rw [hgm]
    go_wp2
    go_ret2
    exact ⟨_, _, rfl, ho2, ext_trans (ext_trans (ext_alloc (ext_refl w) _) hb1) hb2⟩

  · have HGL := Lib.hid hgl
    have HGM := Lib.hid hgm
    have hn10 : n ≤ 10 := by rw [← HL.out]; exact are_len hgl
    have hm10 : n' ≤ 10 := by rw [← HM.out]; exact are_len hgm
    go_enter Try.func39, Try.ntmps39
    go_wp2_with fail
    refine (l26Good_any A n c l _ hn (rows_ext H.out (ext_alloc (ext_refl w) _))).mono ?_
    rintro e y1 ⟨rfl, hb1⟩
    have ho1 := own_ext ho0 hb1
    rw [hgl]
    go_wp2_with fail
    refine (l26Good_any A' n' c' m _ hn' (rows_ext H'.out (ext_trans (ext_alloc (ext_refl w) _) hb1))).mono ?_
    rintro e y2 ⟨rfl, hb2⟩
    have ho2 := own_ext ho1 hb2
    rw [hgm]
    clear hgl hgm
    have hbS := (ext_trans (ext_trans (ext_alloc (ext_refl w) _) hb1) hb2)
    go_wp2
    go_loopw [6, 7] (fun v i wr => ∃ k : Nat, k ≤ n ∧ i = .int .i64 k ∧ wr.ownsRow w.heap.size 25 5 v (joinTo l m k).length (rowsV (joinTo l m k)) ∧ Below w.heap.size w wr) (fun _ i _ => n - (intOf i).toNat)
    case atStart => exact ⟨0, Nat.zero_le _, rfl, ho2, hbS⟩
    case round =>
      obtain ⟨k, hk, rfl, hown, hbl⟩ := hrel
      by_cases hlt : k < n
      · obtain ⟨r, hr⟩ := list_split (l := l) (k := k) (by rw [HL.out]; exact hlt)
        obtain ⟨b, o, rfl, hbb, c0, c1, c2, c3, c4⟩ := rows_at (H.out.ext hbl (Nat.le_refl _)) hr
        have hbw : b < wr.heap.size := Nat.lt_of_lt_of_le hbb hbl.size
        obtain ⟨p1, ⟨p2, p2'⟩, ⟨p3, p3'⟩, ⟨p4, p4'⟩, p5, p5'⟩ := row_bounds (are_all HGL.out hr)
        have hsucc := Lib.hid (joinTo_succ (m := m) hr)
        have hjl := joinTo_len l m k
        rw [HM.out] at hjl
        have hjl' : (joinTo l m k).length ≤ 100 := Nat.le_trans hjl (Nat.mul_le_mul (by omega : k ≤ 10) hm10)
        have HR := Lib.hid hr
        clear hr hjl
        obtain ⟨wo, hwo⟩ : ∃ wo : World, wo = wr := ⟨_, rfl⟩
        subst hwo
        go_wp2
        go_loopw [6, 8] (fun v i wi => ∃ j : Nat, j ≤ n' ∧ i = .int .i64 j ∧ wi.ownsRow w.heap.size 25 5 v (joinTo l m k ++ inTo r m j).length (rowsV (joinTo l m k ++ inTo r m j)) ∧ Below w.heap.size w wi) (fun _ i _ => n' - (intOf i).toNat)
        case atStart => exact ⟨0, Nat.zero_le _, rfl, by simpa [inTo] using hown, (by repeat (first | exact ext_refl _ | assumption | refine ext_alloc ?_ _ | refine ext_drew ?_ | refine ext_drewN ?_ _ | refine ext_set ?_ (by simp <;> omega) _ | refine ext_trans ?_ (by assumption)))⟩
        case round =>
          obtain ⟨j, hj, rfl, hown2, hbl2⟩ := hrel
          by_cases hltj : j < n'
          · obtain ⟨s, hs⟩ := list_split (l := m) (k := j) (by rw [HM.out]; exact hltj)
            obtain ⟨b', o', rfl, hbb', d0, d1, d2, d3, d4⟩ := rows_at (H'.out.ext hbl2 (Nat.le_refl _)) hs
            clear c0 c1 c2 c3 c4
            obtain ⟨b3, o3, hA3, hbb3, c0, c1, c2, c3, c4⟩ := rows_at (H.out.ext hbl2 (Nat.le_refl _)) HR.out
            injection hA3 with hA3
            injection hA3 with hA4 hA5
            subst hA4 hA5
            have hbw3 : b < wr.heap.size := Nat.lt_of_lt_of_le hbb3 hbl2.size
            have hbw' : b' < wr.heap.size := Nat.lt_of_lt_of_le hbb' hbl2.size
            obtain ⟨q1, ⟨q2, q2'⟩, ⟨q3, q3'⟩, ⟨q4, q4'⟩, q5, q5'⟩ := row_bounds (are_all HGM.out hs)
            have hil := inTo_len r m j
            have m1 : (joinTo l m k ++ inTo r m j).length + 1 ≤ maxLen := by rw [List.length_append]; unfold maxLen; omega
            have m2 : ((joinTo l m k ++ inTo r m j).length + 1) * 40 ≤ 140737488355328 := by rw [List.length_append]; omega
            have m3 := hbl2.size
            by_cases heq : r.a = s.a
            · have hd : (r.a == s.a) = true := by simp [heq]
              have hnew := Lib.hid (inTo_yes hs heq)
              clear hs heq
              go_wp2_with fail
              go_region_held3 (fun w' => w'.cell? ⟨b, o + k * 5, none⟩ = some (.int .i64 r.a) ∧ w'.cell? ⟨b, o + k * 5 + 1, none⟩ = some (.int .i64 r.b) ∧ w'.cell? ⟨b, o + k * 5 + 2, none⟩ = some (.int .i64 r.c) ∧ w'.cell? ⟨b, o + k * 5 + 3, none⟩ = some (.int .i64 r.d) ∧ w'.cell? ⟨b, o + k * 5 + 4, none⟩ = some (.int .i64 r.e) ∧ w'.cell? ⟨b', o' + j * 5, none⟩ = some (.int .i64 s.a) ∧ w'.cell? ⟨b', o' + j * 5 + 1, none⟩ = some (.int .i64 s.b) ∧ w'.cell? ⟨b', o' + j * 5 + 2, none⟩ = some (.int .i64 s.c) ∧ w'.cell? ⟨b', o' + j * 5 + 3, none⟩ = some (.int .i64 s.d) ∧ w'.cell? ⟨b', o' + j * 5 + 4, none⟩ = some (.int .i64 s.e)) (go_keep) (fail)
              all_goals
                go_wp2_with (at_builtin; refine wpList_append_own_at _ rfl (.tmp 46) (.tmp 70) 31 rfl w.heap.size 25 i0 _ 5 40 Try.underlying31 hi hz0 hz1 hz2 rfl (by decide) _ _ _ rfl ((((hown2.alloc _).alloc _).alloc _).drew) _ 1 1 [Value.int .i64 r.a, .int .i64 (r.b + s.b), .int .i64 (r.c + s.c), .int .i64 (r.d + s.d), .int .i64 (r.e + s.e)] rfl rfl (cells_new_at _ [Value.int .i64 r.a, .int .i64 (r.b + s.b), .int .i64 (r.c + s.c), .int .i64 (r.d + s.d), .int .i64 (r.e + s.e)] _ (by simp)) (by simp [Value.oneCell']) m1 m2 (by simp; omega) ?_; intro v' w2 hown3 hgrow _ hat)
                go_roundw
                case rel =>
                  refine ⟨j + 1, by omega, by go_num, ?_, below_grown hown2 (by repeat (first | exact ext_refl _ | assumption | refine ext_alloc ?_ _ | refine ext_drew ?_ | refine ext_drewN ?_ _ | refine ext_set ?_ (by simp <;> omega) _ | refine ext_trans ?_ (by assumption))) hgrow⟩
                  rw [hnew.out, ← List.append_assoc]
                  exact join_push hown3
                case measure => simp [intOf]; omega
            · have hd : (r.a == s.a) = false := by simp [heq]
              have hnew := Lib.hid (inTo_no hs heq)
              clear hs heq
              go_wp2_with fail
              go_region_held3 (fun w' => w'.cell? ⟨b, o + k * 5, none⟩ = some (.int .i64 r.a) ∧ w'.cell? ⟨b, o + k * 5 + 1, none⟩ = some (.int .i64 r.b) ∧ w'.cell? ⟨b, o + k * 5 + 2, none⟩ = some (.int .i64 r.c) ∧ w'.cell? ⟨b, o + k * 5 + 3, none⟩ = some (.int .i64 r.d) ∧ w'.cell? ⟨b, o + k * 5 + 4, none⟩ = some (.int .i64 r.e) ∧ w'.cell? ⟨b', o' + j * 5, none⟩ = some (.int .i64 s.a) ∧ w'.cell? ⟨b', o' + j * 5 + 1, none⟩ = some (.int .i64 s.b) ∧ w'.cell? ⟨b', o' + j * 5 + 2, none⟩ = some (.int .i64 s.c) ∧ w'.cell? ⟨b', o' + j * 5 + 3, none⟩ = some (.int .i64 s.d) ∧ w'.cell? ⟨b', o' + j * 5 + 4, none⟩ = some (.int .i64 s.e)) (go_keep) (fail)
              all_goals
                go_wp2
                go_roundw
                case rel =>
                  refine ⟨j + 1, by omega, by go_num, ?_, (by repeat (first | exact ext_refl _ | assumption | refine ext_alloc ?_ _ | refine ext_drew ?_ | refine ext_drewN ?_ _ | refine ext_set ?_ (by simp <;> omega) _ | refine ext_trans ?_ (by assumption)))⟩
                  rw [hnew.out]
                  exact ((hown2.alloc _).alloc _).drew
                case measure => simp [intOf]; omega
          · obtain rfl : j = n' := by omega
            go_wp2
            go_roundw
            case rel =>
              refine ⟨k + 1, by omega, by go_num, ?_, hbl2⟩
              rw [hsucc.out, HM.out]
              exact hown2
            case measure => simp [intOf]; omega
      · obtain rfl : k = n := by omega
        obtain ⟨A2, c2, rfl⟩ := own_shape hown
        have hjl := joinTo_len l m k
        rw [HM.out] at hjl
        have hjl' : (joinTo l m k).length ≤ 100 := Nat.le_trans hjl (Nat.mul_le_mul hn10 hm10)
        clear hjl
        have hall : joinAll l m = joinTo l m k := by rw [joinAll, HL.out]
        rcases hga : areB (joinTo l m k) with _ | _
        · have e : joinOk l m = false := by simp [joinOk, hall, hga]
          have e2 : joinB l m = [] := by simp [joinB, e]
          have E1 := Lib.hid e
          have E2 := Lib.hid e2
          clear e e2 hall
          go_wp2_with fail
          refine (l26Good_any A2 _ c2 (joinTo l m k) _ (by omega) (Reads.of_own hown)).mono ?_
          rintro e y ⟨rfl, hby⟩
          rw [hga]
          go_wp2
          go_ret2
          rw [E1.out, E2.out]
          exact ⟨_, _, rfl, own_lit0' 25 5 ((by repeat (first | exact ext_refl _ | assumption | refine ext_alloc ?_ _ | refine ext_drew ?_ | refine ext_drewN ?_ _ | refine ext_set ?_ (by simp <;> omega) _ | refine ext_trans ?_ (by assumption)))), (by repeat (first | exact ext_refl _ | assumption | refine ext_alloc ?_ _ | refine ext_drew ?_ | refine ext_drewN ?_ _ | refine ext_set ?_ (by simp <;> omega) _ | refine ext_trans ?_ (by assumption)))⟩
        · have e : joinOk l m = true := by simp [joinOk, hall, hga, HGL.out, HGM.out]
          have e2 : joinB l m = joinTo l m k := by simp [joinB, e, hall]
          have E1 := Lib.hid e
          have E2 := Lib.hid e2
          clear e e2 hall
          go_wp2_with fail
          refine (l26Good_any A2 _ c2 (joinTo l m k) _ (by omega) (Reads.of_own hown)).mono ?_
          rintro e y ⟨rfl, hby⟩
          rw [hga]
          go_wp2
          go_ret2
          rw [E1.out, E2.out]
          exact ⟨A2, c2, rfl, own_ext hown hby, (by repeat (first | exact ext_refl _ | assumption | refine ext_alloc ?_ _ | refine ext_drew ?_ | refine ext_drewN ?_ _ | refine ext_set ?_ (by simp <;> omega) _ | refine ext_trans ?_ (by assumption)))⟩
end Go.Proofs.Ytkgeiemelhkkcaa
