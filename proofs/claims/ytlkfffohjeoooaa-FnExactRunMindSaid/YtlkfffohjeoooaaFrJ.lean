
/- The reference's turn of a rod; a digit added, taken. -/
import Derived.Test.YtlkfffohjeoooaaFrI
namespace Go.Proofs.Ytlkfffohjeoooaa
open Go.RowKit
set_option linter.unusedVariables false
set_option linter.unusedSimpArgs false
theorem turnM_cases (r : Nat) (x v : Int) : turnM r x v = (if v / 5 - x / 5 = 0 then [] else [⟨(r : Int), 0, v / 5 - x / 5⟩]) ++ (if v % 5 - x % 5 = 0 then [] else [⟨(r : Int), 1, v % 5 - x % 5⟩]) := rfl
set_option maxRecDepth 100000 in
set_option maxHeartbeats 1000000 in
theorem l6Turn_any (r : Nat) (x v : Int) (w : World) (h0 : 0 ≤ x) (h9 : x ≤ 9) (v0 : 0 ≤ v) (v9 : v ≤ 9) :
    Calls Try.prog 173 #[.int .i64 (r : Int), .int .i64 x, .int .i64 v] w (RetSlice w 113 3 (turnM r x v).length (rowsV3 (turnM r x v))) := by
  obtain ⟨i0, hi, hz0, hz1, hz2⟩ := info_parts info_mv
  have ho := own_lit_at w 113 3 (H := w.heap.size) (B := w.heap.size) rfl (Nat.le_refl _)
  have x1 : 0 ≤ x / 5 := by omega
  have x2 : x / 5 ≤ 1 := by omega
  have y1 : 0 ≤ v / 5 := by omega
  have y2 : v / 5 ≤ 1 := by omega
  have x3 : 0 ≤ x % 5 := by omega
  have x4 : x % 5 ≤ 4 := by omega
  have y3 : 0 ≤ v % 5 := by omega
  have y4 : v % 5 ≤ 4 := by omega
  have e5 : v / 5 = v / 5 := rfl
  have m1 : 0 + 1 ≤ maxLen := by unfold maxLen; omega
  have m2 : (0 + 1) * 24 ≤ 140737488355328 := by omega
  have m3 : 0 + 1 + 1 ≤ maxLen := by unfold maxLen; omega
  have m4 : (0 + 1 + 1) * 24 ≤ 140737488355328 := by omega
  clear e5
  by_cases h1 : v / 5 - x / 5 = 0
  · have d1 : (v / 5 - x / 5 != 0) = false := by simp [h1]
    have d1' : (v / 5 - x / 5 == 0) = true := by simp [h1]
    by_cases h2 : v % 5 - x % 5 = 0
    · have d2 : (v % 5 - x % 5 != 0) = false := by simp [h2]
      have d2' : (v % 5 - x % 5 == 0) = true := by simp [h2]
      have e : turnM r x v = [] := by rw [turnM_cases, if_pos h1, if_pos h2]; rfl
      rw [e]
      have H1 := Lib.hid h1
      have H2 := Lib.hid h2
      clear h1 h2 e
      go_enter Try.func173, Try.ntmps173
      go_wp2
      go_ret
      exact ⟨_, _, rfl, ho, ext_alloc (ext_refl _) _⟩
    · have d2 : (v % 5 - x % 5 != 0) = true := by simp [h2]
      have d2' : (v % 5 - x % 5 == 0) = false := by simp [h2]
      have e : turnM r x v = [⟨(r : Int), 1, v % 5 - x % 5⟩] := by rw [turnM_cases, if_pos h1, if_neg h2]; rfl
      rw [e]
      have H1 := Lib.hid h1
      have H2 := Lib.hid h2
      clear h1 h2 e
      go_enter Try.func173, Try.ntmps173
      go_wp2_with (at_builtin; refine wpList_append_own _ rfl (.tmp 31) (.tmp 35) 26 rfl w.heap.size 113 i0 _ 3 24 Try.underlying26 hi hz0 hz1 hz2 rfl (by decide) _ _ _ rfl (ho.alloc _) _ 1 1 [.int .i64 (r : Int), .int .i64 1, .int .i64 (v % 5 - x % 5)] rfl rfl (cells_new_at _ [.int .i64 (r : Int), .int .i64 1, .int .i64 (v % 5 - x % 5)] _ (by simp)) (by simp [Value.oneCell']) m1 m2 (by simp; omega) ?_; intro v' w2 hown2 hgrow _)
      obtain ⟨A', c', rfl⟩ := own_shape hown2
      have hb := Lib.hid (((ext_alloc (ext_alloc (ext_refl w) _) _)).trans (below_row (ho.alloc _) hgrow (by simp; omega)))
      have hown2 := Lib.hid hown2
      go_ret
      exact ⟨A', c', rfl, hown2.out, hb.out⟩
  · have d1 : (v / 5 - x / 5 != 0) = true := by simp [h1]
    have d1' : (v / 5 - x / 5 == 0) = false := by simp [h1]
    by_cases h2 : v % 5 - x % 5 = 0
    · have d2 : (v % 5 - x % 5 != 0) = false := by simp [h2]
      have d2' : (v % 5 - x % 5 == 0) = true := by simp [h2]
      have e : turnM r x v = [⟨(r : Int), 0, v / 5 - x / 5⟩] := by rw [turnM_cases, if_neg h1, if_pos h2]; rfl
      rw [e]
      have H1 := Lib.hid h1
      have H2 := Lib.hid h2
      clear h1 h2 e
      go_enter Try.func173, Try.ntmps173
      go_wp2_with (at_builtin; refine wpList_append_own _ rfl (.tmp 18) (.tmp 22) 26 rfl w.heap.size 113 i0 _ 3 24 Try.underlying26 hi hz0 hz1 hz2 rfl (by decide) _ _ _ rfl (ho.alloc _) _ 1 1 [.int .i64 (r : Int), .int .i64 0, .int .i64 (v / 5 - x / 5)] rfl rfl (cells_new_at _ [.int .i64 (r : Int), .int .i64 0, .int .i64 (v / 5 - x / 5)] _ (by simp)) (by simp [Value.oneCell']) m1 m2 (by simp; omega) ?_; intro v' w2 hown2 hgrow _)
      obtain ⟨A', c', rfl⟩ := own_shape hown2
      have hb := Lib.hid (((ext_alloc (ext_alloc (ext_refl w) _) _)).trans (below_row (ho.alloc _) hgrow (by simp; omega)))
      have hown2 := Lib.hid hown2
      go_ret
      exact ⟨A', c', rfl, hown2.out, hb.out⟩
    · have d2 : (v % 5 - x % 5 != 0) = true := by simp [h2]
      have d2' : (v % 5 - x % 5 == 0) = false := by simp [h2]
      have e : turnM r x v = [⟨(r : Int), 0, v / 5 - x / 5⟩, ⟨(r : Int), 1, v % 5 - x % 5⟩] := by rw [turnM_cases, if_neg h1, if_neg h2]; rfl
      rw [e]
      have H1 := Lib.hid h1
      have H2 := Lib.hid h2
      clear h1 h2 e
      go_enter Try.func173, Try.ntmps173
      go_wp2_with (first
        | (at_builtin; refine wpList_append_own _ rfl (.tmp 18) (.tmp 22) 26 rfl w.heap.size 113 i0 _ 3 24 Try.underlying26 hi hz0 hz1 hz2 rfl (by decide) _ _ _ rfl (ho.alloc _) _ 1 1 [.int .i64 (r : Int), .int .i64 0, .int .i64 (v / 5 - x / 5)] rfl rfl (cells_new_at _ [.int .i64 (r : Int), .int .i64 0, .int .i64 (v / 5 - x / 5)] _ (by simp)) (by simp [Value.oneCell']) m1 m2 (by simp; omega) ?_; intro v' w2 hown2 hgrow _; have hb := Lib.hid (((ext_alloc (ext_alloc (ext_refl w) _) _)).trans (below_row (ho.alloc _) hgrow (by simp; omega))))
        | (at_builtin; refine wpList_append_own _ rfl (.tmp 31) (.tmp 35) 26 rfl w.heap.size 113 i0 _ 3 24 Try.underlying26 hi hz0 hz1 hz2 rfl (by decide) _ _ _ rfl (hown2.alloc _) _ 1 1 [.int .i64 (r : Int), .int .i64 1, .int .i64 (v % 5 - x % 5)] rfl rfl (cells_new_at _ [.int .i64 (r : Int), .int .i64 1, .int .i64 (v % 5 - x % 5)] _ (by simp)) (by simp [Value.oneCell']) m3 m4 (by have := hb.out.size; simp; omega) ?_; intro v'' w3 hown3 hgrow3 _))
      obtain ⟨A', c', rfl⟩ := own_shape hown3
      have hb3 := Lib.hid ((ext_alloc hb.out _).trans (below_row (hown2.alloc _) hgrow3 (by have := hb.out.size; simp; omega)))
      have hown3 := Lib.hid hown3
      go_ret
      exact ⟨A', c', rfl, hown3.out, hb3.out⟩
/-- moves and a frame of their own come back -/
def RetMF (w : World) (u lo : Int) (s : WS) (e : Ending) (w' : World) : Prop :=
  ∃ (A : Option Addr) (c' h c : Nat), e = .returned (.tuple #[.slice A s.ms.length c', frV u lo (some ⟨h, 0, none⟩) s.ds.length c]) ∧ w'.ownsRow w.heap.size 113 3 (.slice A s.ms.length c') s.ms.length (rowsV3 s.ms) ∧
    w'.ownsRow w.heap.size 155 2 (.slice (some ⟨h, 0, none⟩) s.ds.length c) s.ds.length (rowsV2 (rodsD s.ds)) ∧ Below w.heap.size w w'
end Go.Proofs.Ytlkfffohjeoooaa
