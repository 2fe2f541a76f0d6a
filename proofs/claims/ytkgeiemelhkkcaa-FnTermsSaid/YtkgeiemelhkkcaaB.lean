
import Derived.Test.YtkgeiemelhkkcaaA
import Derived.Test.YtkgeiemelhkkcaaMarks
namespace Go.Proofs.Ytkgeiemelhkkcaa
open Go.RowKit
set_option linter.unusedVariables false
set_option linter.unusedSimpArgs false
theorem eqTermRow_any (r s : R5) (w : World) :
    Calls Try.prog 59 #[r.val, s.val] w fun e w' => e = .returned (.bool (eq5 r s)) ∧ Below w.heap.size w w' := by
  go_enter Try.func59, Try.ntmps59
  go_wp2
  all_goals go_ret
  all_goals exact ⟨by simp_all [eq5, R5.eq_iff], (by repeat (first | exact ext_refl _ | assumption | refine ext_alloc ?_ _ | refine ext_drew ?_ | refine ext_drewN ?_ _ | refine ext_set ?_ (by simp <;> omega) _ | refine ext_trans ?_ (by assumption)))⟩
set_option maxHeartbeats 400000 in
theorem eqTermRowS_any (A A' : Option Addr) (n n' c c' : Nat) (l m : List R5) (w : World) (hn : n ≤ 1048576) (hn' : n' ≤ 1048576) (h : Reads w w.heap.size 5 A n (rowsV l)) (h' : Reads w w.heap.size 5 A' n' (rowsV m)) :
    Calls Try.prog 22 #[.slice A n c, .slice A' n' c'] w fun r w' => r = .returned (.bool (decide (l = m))) ∧ Below w.heap.size w w' := by
  have hl := rows_len h
  have hm := rows_len h'
  by_cases hne : n = n'
  · subst hne
    have H := Lib.hid h
    have H' := Lib.hid h'
    have HL := Lib.hid hl
    have HM := Lib.hid hm
    clear h h' hl hm
    go_enter Try.func22, Try.ntmps22
    go_wp2
    go_loopw [5] (fun i wr => ∃ k : Nat, k ≤ n ∧ i = .int .i64 k ∧ Below w.heap.size w wr ∧ Hid (l.take k = m.take k)) (fun i _ => n - (intOf i).toNat)
    case atStart => exact ⟨0, Nat.zero_le _, rfl, Below.refl _ _, Lib.hid rfl⟩
    case round =>
      obtain ⟨k, hk, rfl, hbl, heq⟩ := hrel
      by_cases hlt : k < n
      · obtain ⟨r, hr⟩ := list_split (l := l) (k := k) (by rw [HL.out]; exact hlt)
        obtain ⟨s, hs⟩ := list_split (l := m) (k := k) (by rw [HM.out]; exact hlt)
        obtain ⟨b, o, rfl, hb, c0, c1, c2, c3, c4⟩ := rows_at (H.out.ext hbl (Nat.le_refl _)) hr
        obtain ⟨b', o', rfl, hb', d0, d1, d2, d3, d4⟩ := rows_at (H'.out.ext hbl (Nat.le_refl _)) hs
        have hsucc := Lib.hid (take_eq_succ heq.out hr hs)
        clear hr hs
        cases hrs : eq5 r s
        all_goals
          go_wp2
          go_region_held3 (fun w' => w'.cell? ⟨b, o + k * 5, none⟩ = some (.int .i64 r.a) ∧ w'.cell? ⟨b, o + k * 5 + 1, none⟩ = some (.int .i64 r.b) ∧ w'.cell? ⟨b, o + k * 5 + 2, none⟩ = some (.int .i64 r.c) ∧ w'.cell? ⟨b, o + k * 5 + 3, none⟩ = some (.int .i64 r.d) ∧ w'.cell? ⟨b, o + k * 5 + 4, none⟩ = some (.int .i64 r.e) ∧ w'.cell? ⟨b', o' + k * 5, none⟩ = some (.int .i64 s.a) ∧ w'.cell? ⟨b', o' + k * 5 + 1, none⟩ = some (.int .i64 s.b) ∧ w'.cell? ⟨b', o' + k * 5 + 2, none⟩ = some (.int .i64 s.c) ∧ w'.cell? ⟨b', o' + k * 5 + 3, none⟩ = some (.int .i64 s.d) ∧ w'.cell? ⟨b', o' + k * 5 + 4, none⟩ = some (.int .i64 s.e)) (first | go_keep | ((repeat' refine And.intro ?_ ?_) <;> first | assumption | exact ext_cell hb (by assumption))) (first | (go_at_call 59; refine (eqTermRow_any r s _).mono ?_; rintro e w' ⟨rfl, hb⟩; obtain ⟨hc, hf⟩ := bcell hb; have hz := hb.size; (try simp at hz)))
          go_wp2
        · go_ret
          refine ⟨ret_bool ?_, ext_trans hbl (ext_drew_left hb)⟩
          have h1 : ¬ (r = s) := by simpa [eq5] using hrs
          simp
          intro e
          exact h1 (hsucc.out.1 (by rw [e]))
        · go_roundw
          case rel => exact ⟨k + 1, by omega, by go_num, ext_trans hbl (ext_drew_left hb), Lib.hid (hsucc.out.2 (by simpa [eq5] using hrs))⟩
          case measure => simp [intOf]; omega
      · go_wp2
        go_ret
        obtain rfl : k = n := by omega
        refine ⟨ret_bool ?_, hbl⟩
        have := heq.out
        rw [List.take_of_length_le (by rw [HL.out]; exact Nat.le_refl _), List.take_of_length_le (by rw [HM.out]; exact Nat.le_refl _)] at this
        simpa using this
  · have h1 : ((n : Int) != n') = true := by simp; omega
    go_enter Try.func22, Try.ntmps22
    go_wp2
    go_ret
    refine ⟨ret_bool ?_, ext_refl _⟩
    have : ¬ (l = m) := fun e => hne (by rw [← hl, ← hm, e])
    simpa using this
end Go.Proofs.Ytkgeiemelhkkcaa
