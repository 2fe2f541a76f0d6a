
/- Finding a student: at, l25Find. -/
import Derived.Test.YtclihlihaigddaaSc
namespace Go.Proofs.Ytclihlihaigddaa
open Go.RowKit
set_option linter.unusedVariables false
set_option linter.unusedSimpArgs false
def findI (l : List R5) (id : Int) : Int := match l.findIdx? (fun r => decide (r.a = id)) with | some k => (k : Int) | none => -1
/-- no student of the first k has the number -/
def noneTo (l : List R5) (id : Int) (k : Nat) : Prop := ∀ i r, i < k → l[i]? = some r → r.a ≠ id
theorem noneTo_zero (l : List R5) (id : Int) : noneTo l id 0 := fun i r h => absurd h (by omega)
theorem noneTo_succ {l : List R5} {id : Int} {k : Nat} {r : R5} (h : noneTo l id k) (hr : l[k]? = some r) (hne : r.a ≠ id) : noneTo l id (k + 1) := by
  intro i s hi hs
  by_cases e : i = k
  · subst e; rw [hr] at hs; injection hs with hs; rw [← hs]; exact hne
  · exact h i s (by omega) hs
theorem findI_hit {l : List R5} {id : Int} {k : Nat} {r : R5} (h : noneTo l id k) (hr : l[k]? = some r) (he : r.a = id) : findI l id = k := by
  have hk := (List.getElem?_eq_some_iff.1 hr).1
  have : l.findIdx? (fun r => decide (r.a = id)) = some k := by
    rw [List.findIdx?_eq_some_iff_getElem]
    refine ⟨hk, ?_, fun j hj => ?_⟩
    · have := (List.getElem?_eq_some_iff.1 hr).2
      rw [this]; simpa using he
    · have := h j l[j] hj (List.getElem?_eq_getElem (by omega))
      simpa using this
  rw [findI, this]
theorem findI_miss {l : List R5} {id : Int} (h : noneTo l id l.length) : findI l id = -1 := by
  have : l.findIdx? (fun r => decide (r.a = id)) = none := by
    rw [List.findIdx?_eq_none_iff]
    intro r hr
    obtain ⟨i, hi⟩ := List.mem_iff_getElem?.1 hr
    have := h i r (List.getElem?_eq_some_iff.1 hi).1 hi
    simpa using this
  rw [findI, this]
theorem findI_cases (l : List R5) (id : Int) : (findI l id = -1 ∧ noneTo l id l.length) ∨ ∃ (k : Nat) (r : R5), findI l id = k ∧ l[k]? = some r ∧ r.a = id ∧ noneTo l id k := by
  rcases h : l.findIdx? (fun r => decide (r.a = id)) with _ | k
  · left
    have h2 := List.findIdx?_eq_none_iff.1 h
    refine ⟨by rw [findI, h], fun i r _ hr => ?_⟩
    have := h2 r (List.mem_of_getElem? hr)
    simpa using this
  · right
    obtain ⟨hk, h1, h2⟩ := List.findIdx?_eq_some_iff_getElem.1 h
    refine ⟨k, l[k], by rw [findI, h], List.getElem?_eq_getElem hk, by simpa using h1, fun i r hi hr => ?_⟩
    have := h2 i hi
    rw [(List.getElem?_eq_some_iff.1 hr).2] at this
    simpa using this
set_option maxHeartbeats 2000000 in
theorem at_any (day pa le id : Int) (A : Option Addr) (n c : Nat) (l : List R5) (w : World) (hn : n ≤ 1048576) (h : Reads w w.heap.size 5 A n (rowsV l)) :
    Calls Try.prog 124 #[schV day A n c pa le, .int .i64 id] w fun e w' => e = .returned (.int .i64 (findI l id)) ∧ Below w.heap.size w w' := by
  have hl := rows_len h
  have H := Lib.hid h
  have HL := Lib.hid hl
  clear h hl
  go_enter Try.func124, Try.ntmps124
  go_wp2
  go_loopw [10] (fun i wr => ∃ k : Nat, k ≤ n ∧ i = .int .i64 k ∧ Hid (Below w.heap.size w wr) ∧ Hid (noneTo l id k)) (fun i _ => n - (intOf i).toNat)
  case atStart => exact ⟨0, Nat.zero_le _, rfl, Lib.hid (ext_alloc (ext_refl _) _), Lib.hid (noneTo_zero _ _)⟩
  case round =>
    obtain ⟨k, hk, rfl, hbl, hno⟩ := hrel
    by_cases hlt : k < n
    · obtain ⟨r, hr⟩ := list_split (l := l) (k := k) (by rw [HL.out]; exact hlt)
      obtain ⟨b, o, rfl, hb, c0, c1, c2, c3, c4⟩ := rows_at (H.out.ext hbl.out (Nat.le_refl _)) hr
      have hbw := Lib.hid (ext_alloc hbl.out (.cells #[.int .i64 r.a, .int .i64 r.b, .int .i64 r.c, .int .i64 r.d, .int .i64 r.e] 109))
      by_cases he : r.a = id
      · have hd : (r.a == id) = true := by simpa using he
        have hf := Lib.hid (findI_hit hno.out hr he)
        clear hr he
        go_wp2
        go_ret
        exact ⟨by rw [hf.out]; rfl, hbw.out⟩
      · have hd : (r.a == id) = false := by simpa using he
        have hf := Lib.hid (noneTo_succ hno.out hr he)
        clear hr he
        go_wp2
        go_roundw
        case rel => exact ⟨k + 1, by omega, by go_num, hbw, hf⟩
        case measure => simp [intOf]; omega
    · obtain rfl : k = n := by omega
      have hf := Lib.hid (findI_miss (l := l) (id := id) (by rw [HL.out]; exact hno.out))
      go_wp2
      go_ret
      exact ⟨by rw [hf.out]; rfl, hbl.out⟩
set_option maxHeartbeats 2000000 in
theorem l25Find_any (day pa le id : Int) (A : Option Addr) (n c : Nat) (l : List R5) (w : World) (hn : n ≤ 1048576) (h : Reads w w.heap.size 5 A n (rowsV l)) :
    Calls Try.prog 130 #[schV day A n c pa le, .int .i64 id] w fun e w' => e = .returned (.int .i64 (findI l id)) ∧ Below w.heap.size w w' := by
  have hl := rows_len h
  have H := Lib.hid h
  have HL := Lib.hid hl
  clear h hl
  have HP : Hid ((w.alloc (.cells #[.int .i64 day, .slice A n c, .int .i64 pa, .int .i64 le] 24)).cell? ⟨w.heap.size, 1, none⟩ = some (.slice A n c)) := Lib.hid (by simp [go_sem])
  go_enter Try.func130, Try.ntmps130
  go_wp2
  go_loopw [5] (fun i wr => ∃ k : Nat, k ≤ n ∧ i = .int .i64 k ∧ Hid (Below w.heap.size w wr) ∧ w.heap.size < wr.heap.size ∧ Hid (wr.cell? ⟨w.heap.size, 1, none⟩ = some (.slice A n c)) ∧ Hid (noneTo l id k)) (fun i _ => n - (intOf i).toNat)
  case atStart => exact ⟨0, Nat.zero_le _, rfl, Lib.hid (ext_alloc (ext_refl _) _), by simp, HP, Lib.hid (noneTo_zero _ _)⟩
  case round =>
    obtain ⟨k, hk, rfl, hbl, hs, hp1, hno⟩ := hrel
    have p1 := hp1.out
    by_cases hlt : k < n
    · obtain ⟨r, hr⟩ := list_split (l := l) (k := k) (by rw [HL.out]; exact hlt)
      obtain ⟨b, o, hA, hb, c0, c1, c2, c3, c4⟩ := rows_at (H.out.ext hbl.out (Nat.le_refl _)) hr
      subst hA
      by_cases he : r.a = id
      · have hd : (r.a == id) = true := by simpa using he
        have hf := Lib.hid (findI_hit hno.out hr he)
        clear hr he
        go_wp2
        go_ret
        exact ⟨by rw [hf.out]; rfl, hbl.out⟩
      · have hd : (r.a == id) = false := by simpa using he
        have hf := Lib.hid (noneTo_succ hno.out hr he)
        clear hr he
        go_wp2
        go_roundw
        case rel => exact ⟨k + 1, by omega, by go_num, hbl, hs, hp1, hf⟩
        case measure => simp [intOf]; omega
    · obtain rfl : k = n := by omega
      have hf := Lib.hid (findI_miss (l := l) (id := id) (by rw [HL.out]; exact hno.out))
      go_wp2
      go_ret
      exact ⟨by rw [hf.out]; rfl, hbl.out⟩
end Go.Proofs.Ytclihlihaigddaa
