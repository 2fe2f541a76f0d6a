
/- JoinSchools: the program's and the reference's. -/
import Derived.Test.YtkgeiemelhkkcaaShare
import Derived.Test.YtkgeiemelhkkcaaGrowth
import Derived.Maps.AppendAt
namespace Go.Proofs.Ytkgeiemelhkkcaa
open Go.RowKit
set_option linter.unusedVariables false
set_option linter.unusedSimpArgs false
def joinRow (r s : R5) : R5 := ⟨r.a, r.b + s.b, r.c + s.c, r.d + s.d, r.e + s.e⟩
def inTo (r : R5) (m : List R5) (j : Nat) : List R5 := ((m.take j).filter fun s => decide (r.a = s.a)).map (joinRow r)
def joinTo (l m : List R5) (k : Nat) : List R5 := (l.take k).flatMap fun r => inTo r m m.length
theorem inTo_yes {r s : R5} {m : List R5} {j : Nat} (hs : m[j]? = some s) (h : r.a = s.a) : inTo r m (j + 1) = inTo r m j ++ [joinRow r s] := by
  unfold inTo
  rw [List.take_add_one, hs]
  simp [h]
theorem inTo_no {r s : R5} {m : List R5} {j : Nat} (hs : m[j]? = some s) (h : ¬ r.a = s.a) : inTo r m (j + 1) = inTo r m j := by
  unfold inTo
  rw [List.take_add_one, hs]
  simp [h]
theorem inTo_len (r : R5) (m : List R5) (j : Nat) : (inTo r m j).length ≤ j := by
  unfold inTo
  have h1 := List.length_filter_le (fun s : R5 => decide (r.a = s.a)) (m.take j)
  have h2 := List.length_take_le j m
  simp only [List.length_map]; omega
theorem joinTo_succ {l m : List R5} {k : Nat} {r : R5} (hr : l[k]? = some r) : joinTo l m (k + 1) = joinTo l m k ++ inTo r m m.length := by
  unfold joinTo
  rw [List.take_add_one, hr]
  simp
theorem joinTo_len (l m : List R5) (k : Nat) : (joinTo l m k).length ≤ k * m.length := by
  induction k with
  | zero => simp [joinTo]
  | succ k ih =>
    rcases hr : l[k]? with _ | r
    · have : joinTo l m (k + 1) = joinTo l m k := by unfold joinTo; rw [List.take_add_one, hr]; simp
      rw [this, Nat.succ_mul]; omega
    · rw [joinTo_succ hr, List.length_append, Nat.succ_mul]
      have := inTo_len r m m.length
      omega
def joinAll (l m : List R5) : List R5 := joinTo l m l.length
def joinOk (l m : List R5) : Bool := areB l && areB m && areB (joinAll l m)
def joinB (l m : List R5) : List R5 := if joinOk l m = true then joinAll l m else []
theorem rowsV_append (l m : List R5) : rowsV (l ++ m) = rowsV l ++ rowsV m := by simp [rowsV]
theorem join_push {w2 : World} {B E : Nat} {v' : Value} {X : List R5} {r s : R5} (h : w2.ownsRow B E 5 v' (X.length + 1) (rowsV X ++ [.int .i64 r.a, .int .i64 (r.b + s.b), .int .i64 (r.c + s.c), .int .i64 (r.d + s.d), .int .i64 (r.e + s.e)])) : w2.ownsRow B E 5 v' (X ++ [joinRow r s]).length (rowsV (X ++ [joinRow r s])) := by
  simpa [rowsV, R5.cells, joinRow] using h
theorem own_lit0' {w y : World} (E size : Nat) (hb : Below w.heap.size w y) : (y.alloc (.cells #[] E)).ownsRow w.heap.size E size (.slice (some ⟨y.heap.size, 0, none⟩) 0 0) 0 [] :=
  World.ownsRow_made y #[] 0 hb.size (Nat.zero_le _) (by simp)
set_option maxHeartbeats 600000 in
theorem implJoin_any (A A' : Option Addr) (n n' c c' : Nat) (l m : List R5) (w : World) (hn : n ≤ 1048576) (hn' : n' ≤ 1048576) (h : Reads w w.heap.size 5 A n (rowsV l)) (h' : Reads w w.heap.size 5 A' n' (rowsV m)) :
    Calls Try.prog 40 #[.slice A n c, .slice A' n' c'] w (RetSliceB w 25 5 (joinB l m).length (rowsV (joinB l m)) (joinOk l m)) := by
  have hl := rows_len h
  have hm := rows_len h'
  have H := Lib.hid h
  have H' := Lib.hid h'
  have HL := Lib.hid hl
  have HM := Lib.hid hm
  clear h h' hl hm
  obtain ⟨i0, hi, hz0, hz1, hz2⟩ := info_parts info_row
  rcases hgl : areB l with _ | _
  · have e : joinOk l m = false := by simp [joinOk, hgl]
    have e2 : joinB l m = [] := by simp [joinB, e]
    rw [e, e2]
    clear e e2
    go_enter Try.func40, Try.ntmps40
    go_wp2_with fail
    refine (areTermRows_any A n c l _ hn (H.out)).mono ?_
    rintro e y1 ⟨rfl, hb1⟩
    rw [hgl]
    go_wp2
    go_ret2
    exact ⟨_, _, rfl, World.ownsRow_nil _ _ _ _, ext_trans (ext_refl w) hb1⟩

  rcases hgm : areB m with _ | _
  · have e : joinOk l m = false := by simp [joinOk, hgm]
    have e2 : joinB l m = [] := by simp [joinB, e]
    rw [e, e2]
    clear e e2
    go_enter Try.func40, Try.ntmps40
    go_wp2_with fail
    refine (areTermRows_any A n c l _ hn (H.out)).mono ?_
    rintro e y1 ⟨rfl, hb1⟩
    rw [hgl]
    go_wp2_with fail
    refine (areTermRows_any A' n' c' m _ hn' (rows_ext H'.out (hb1))).mono ?_
    rintro e y2 ⟨rfl, hb2⟩
    rw [hgm]
    go_wp2
    go_ret2
    exact ⟨_, _, rfl, World.ownsRow_nil _ _ _ _, ext_trans (ext_trans (ext_refl w) hb1) hb2⟩

  · have HGL := Lib.hid hgl
    have HGM := Lib.hid hgm
    have hn10 : n ≤ 10 := by rw [← HL.out]; exact are_len hgl
    have hm10 : n' ≤ 10 := by rw [← HM.out]; exact are_len hgm
    go_enter Try.func40, Try.ntmps40
    go_wp2_with fail
    refine (areTermRows_any A n c l _ hn (H.out)).mono ?_
    rintro e y1 ⟨rfl, hb1⟩
    rw [hgl]
    go_wp2_with fail
    refine (areTermRows_any A' n' c' m _ hn' (rows_ext H'.out (hb1))).mono ?_
    rintro e y2 ⟨rfl, hb2⟩
    rw [hgm]
    clear hgl hgm
    have hbS := (ext_trans (ext_trans (ext_refl w) hb1) hb2)
    go_wp2
    go_loopw [6, 21] (fun v i wr => ∃ k : Nat, k ≤ n ∧ i = .int .i64 k ∧ wr.ownsRow w.heap.size 25 5 v (joinTo l m k).length (rowsV (joinTo l m k)) ∧ Below w.heap.size w wr) (fun _ i _ => n - (intOf i).toNat)
    case atStart => exact ⟨0, Nat.zero_le _, rfl, World.ownsRow_nil _ _ _ _, hbS⟩
    case round =>
      obtain ⟨k, hk, rfl, hown, hbl⟩ := hrel
      by_cases hlt : k < n
      · obtain ⟨r, hr⟩ := list_split (l := l) (k := k) (by rw [HL.out]; exact hlt)
        obtain ⟨b, o, rfl, hbb, c0, c1, c2, c3, c4⟩ := rows_at (H.out.ext hbl (Nat.le_refl _)) hr
        have hbw : b < wr.heap.size := Nat.lt_of_lt_of_le hbb hbl.size
        obtain ⟨p1, ⟨p2, p2'⟩, ⟨p3, p3'⟩, ⟨p4, p4'⟩, p5, p5'⟩ := row_bounds (are_all HGL.out hr)
        have hsucc := Lib.hid (joinTo_succ (m := m) hr)
        have hjl := joinTo_len l m k
        rw [HM.out] at hjl
        have hjl' : (joinTo l m k).length ≤ 100 := Nat.le_trans hjl (Nat.mul_le_mul (by omega : k ≤ 10) hm10)
        have HR := Lib.hid hr
        clear hr hjl
        obtain ⟨wo, hwo⟩ : ∃ wo : World, wo = wr := ⟨_, rfl⟩
        subst hwo
        go_wp2
        go_loopw [6, 27] (fun v i wi => ∃ j : Nat, j ≤ n' ∧ i = .int .i64 j ∧ wi.ownsRow w.heap.size 25 5 v (joinTo l m k ++ inTo r m j).length (rowsV (joinTo l m k ++ inTo r m j)) ∧ Below w.heap.size w wi ∧ wo.heap.size < wi.heap.size ∧ v.ownBlock ≠ some wo.heap.size ∧ wi.cell? ⟨wo.heap.size, 0, none⟩ = some (.int .i64 r.a) ∧ wi.cell? ⟨wo.heap.size, 1, none⟩ = some (.int .i64 r.b) ∧ wi.cell? ⟨wo.heap.size, 2, none⟩ = some (.int .i64 r.c) ∧ wi.cell? ⟨wo.heap.size, 3, none⟩ = some (.int .i64 r.d) ∧ wi.cell? ⟨wo.heap.size, 4, none⟩ = some (.int .i64 r.e)) (fun _ i _ => n' - (intOf i).toNat)
        case atStart => exact ⟨0, Nat.zero_le _, rfl, by simpa [inTo] using hown.alloc _, (by repeat (first | exact ext_refl _ | assumption | refine ext_alloc ?_ _ | refine ext_drew ?_ | refine ext_drewN ?_ _ | refine ext_set ?_ (by simp <;> omega) _ | refine ext_trans ?_ (by assumption))), by simp, (by intro e; have := (hown.lt _ e).2; omega), by rw [World.cell?_alloc_at _ _ _ _ rfl]; rfl, by rw [World.cell?_alloc_at _ _ _ _ rfl]; rfl, by rw [World.cell?_alloc_at _ _ _ _ rfl]; rfl, by rw [World.cell?_alloc_at _ _ _ _ rfl]; rfl, by rw [World.cell?_alloc_at _ _ _ _ rfl]; rfl⟩
        case round =>
          obtain ⟨j, hj, rfl, hown2, hbl2, hgz, hne, x0, x1, x2, x3, x4⟩ := hrel
          by_cases hltj : j < n'
          · obtain ⟨s, hs⟩ := list_split (l := m) (k := j) (by rw [HM.out]; exact hltj)
            obtain ⟨b', o', rfl, hbb', d0, d1, d2, d3, d4⟩ := rows_at (H'.out.ext hbl2 (Nat.le_refl _)) hs
            skip
            have hbw' : b' < wr.heap.size := Nat.lt_of_lt_of_le hbb' hbl2.size
            obtain ⟨q1, ⟨q2, q2'⟩, ⟨q3, q3'⟩, ⟨q4, q4'⟩, q5, q5'⟩ := row_bounds (are_all HGM.out hs)
            have hil := inTo_len r m j
            have m1 : (joinTo l m k ++ inTo r m j).length + 1 ≤ maxLen := by rw [List.length_append]; unfold maxLen; omega
            have m2 : ((joinTo l m k ++ inTo r m j).length + 1) * 40 ≤ 140737488355328 := by rw [List.length_append]; omega
            have m3 := hbl2.size
            by_cases heq : r.a = s.a
            · have hd : (r.a == s.a) = true := by simp [heq]
              have hnew := Lib.hid (inTo_yes hs heq)
              clear hs heq
              go_wp2_with (at_builtin; refine wpList_append_own_at _ rfl (.tmp 36) (.tmp 60) 31 rfl w.heap.size 25 i0 _ 5 40 Try.underlying31 hi hz0 hz1 hz2 rfl (by decide) _ _ _ rfl ((hown2.alloc _).alloc _) _ 1 1 [Value.int .i64 r.a, .int .i64 (r.b + s.b), .int .i64 (r.c + s.c), .int .i64 (r.d + s.d), .int .i64 (r.e + s.e)] rfl rfl (cells_new_at _ [Value.int .i64 r.a, .int .i64 (r.b + s.b), .int .i64 (r.c + s.c), .int .i64 (r.d + s.d), .int .i64 (r.e + s.e)] _ (by simp)) (by simp [Value.oneCell']) m1 m2 (by simp; omega) ?_; intro v' w2 hown3 hgrow _ hat)
              go_roundw
              case rel =>
                refine ⟨j + 1, by omega, by go_num, ?_, below_grown hown2 (by repeat (first | exact ext_refl _ | assumption | refine ext_alloc ?_ _ | refine ext_drew ?_ | refine ext_drewN ?_ _ | refine ext_set ?_ (by simp <;> omega) _ | refine ext_trans ?_ (by assumption))) hgrow, by have := hgrow.size; simp at this; omega, (by rcases hat with e | e <;> rw [e] <;> first | exact hne | (simp; omega)), cell_far_grown hgrow hne (ext_cell (ext_alloc (ext_alloc (ext_refl wr) _) _) x0), cell_far_grown hgrow hne (ext_cell (ext_alloc (ext_alloc (ext_refl wr) _) _) x1), cell_far_grown hgrow hne (ext_cell (ext_alloc (ext_alloc (ext_refl wr) _) _) x2), cell_far_grown hgrow hne (ext_cell (ext_alloc (ext_alloc (ext_refl wr) _) _) x3), cell_far_grown hgrow hne (ext_cell (ext_alloc (ext_alloc (ext_refl wr) _) _) x4)⟩
                rw [hnew.out, ← List.append_assoc]
                exact join_push hown3
              case measure => simp [intOf]; omega
            · have hd : (r.a == s.a) = false := by simp [heq]
              have hnew := Lib.hid (inTo_no hs heq)
              clear hs heq
              go_wp2
              go_roundw
              case rel =>
                refine ⟨j + 1, by omega, by go_num, ?_, (by repeat (first | exact ext_refl _ | assumption | refine ext_alloc ?_ _ | refine ext_drew ?_ | refine ext_drewN ?_ _ | refine ext_set ?_ (by simp <;> omega) _ | refine ext_trans ?_ (by assumption))), by simp; omega, hne, ext_cell (ext_alloc (ext_refl wr) _) x0, ext_cell (ext_alloc (ext_refl wr) _) x1, ext_cell (ext_alloc (ext_refl wr) _) x2, ext_cell (ext_alloc (ext_refl wr) _) x3, ext_cell (ext_alloc (ext_refl wr) _) x4⟩
                rw [hnew.out]
                exact hown2.alloc _
              case measure => simp [intOf]; omega
          · obtain rfl : j = n' := by omega
            go_wp2
            go_roundw
            case rel =>
              refine ⟨k + 1, by omega, by go_num, ?_, hbl2⟩
              rw [hsucc.out, HM.out]
              exact hown2
            case measure => simp [intOf]; omega
      · obtain rfl : k = n := by omega
        obtain ⟨A2, c2, rfl⟩ := own_shape hown
        have hjl := joinTo_len l m k
        rw [HM.out] at hjl
        have hjl' : (joinTo l m k).length ≤ 100 := Nat.le_trans hjl (Nat.mul_le_mul hn10 hm10)
        clear hjl
        have hall : joinAll l m = joinTo l m k := by rw [joinAll, HL.out]
        rcases hga : areB (joinTo l m k) with _ | _
        · have e : joinOk l m = false := by simp [joinOk, hall, hga]
          have e2 : joinB l m = [] := by simp [joinB, e]
          have E1 := Lib.hid e
          have E2 := Lib.hid e2
          clear e e2 hall
          go_wp2_with fail
          refine (areTermRows_any A2 _ c2 (joinTo l m k) _ (by omega) (Reads.of_own hown)).mono ?_
          rintro e y ⟨rfl, hby⟩
          rw [hga]
          go_wp2
          go_ret2
          rw [E1.out, E2.out]
          exact ⟨_, _, rfl, World.ownsRow_nil _ _ _ _, (by repeat (first | exact ext_refl _ | assumption | refine ext_alloc ?_ _ | refine ext_drew ?_ | refine ext_drewN ?_ _ | refine ext_set ?_ (by simp <;> omega) _ | refine ext_trans ?_ (by assumption)))⟩
        · have e : joinOk l m = true := by simp [joinOk, hall, hga, HGL.out, HGM.out]
          have e2 : joinB l m = joinTo l m k := by simp [joinB, e, hall]
          have E1 := Lib.hid e
          have E2 := Lib.hid e2
          clear e e2 hall
          go_wp2_with fail
          refine (areTermRows_any A2 _ c2 (joinTo l m k) _ (by omega) (Reads.of_own hown)).mono ?_
          rintro e y ⟨rfl, hby⟩
          rw [hga]
          go_wp2
          go_ret2
          rw [E1.out, E2.out]
          exact ⟨A2, c2, rfl, own_ext hown hby, (by repeat (first | exact ext_refl _ | assumption | refine ext_alloc ?_ _ | refine ext_drew ?_ | refine ext_drewN ?_ _ | refine ext_set ?_ (by simp <;> omega) _ | refine ext_trans ?_ (by assumption)))⟩
end Go.Proofs.Ytkgeiemelhkkcaa
