
/- markTermRowS, heldTermRowS. -/
import Derived.Test.YtkgeiemelhkkcaaMarks
namespace Go.Proofs.Ytkgeiemelhkkcaa
open Go.RowKit
set_option linter.unusedVariables false
set_option linter.unusedSimpArgs false
set_option maxHeartbeats 1000000 in
theorem markTermRowS_any (A : Option Addr) (n c base : Nat) (xs : List Value) (k0 : Int) (w : World) (hn : n ≤ 100000000) (h0 : 0 ≤ k0) (h1 : k0 ≤ 1000000000) (h : w.ownsRow base 25 5 (.slice A n c) n xs) :
    Calls Try.prog 34 #[.slice A n c, .int .i64 k0] w fun e w' => e = .returned (.int .i64 (k0 + (n : Int) * 5)) ∧ w'.ownsRow base 25 5 (.slice A n c) n (marks k0 (n * 5)) ∧ w.grownBy w' (Value.ownBlock (.slice A n c)) := by
  have hlen : xs.length = n * 5 := by have := h.1; omega
  have HL := Lib.hid hlen
  clear hlen
  go_enter Try.func34, Try.ntmps34
  go_wp2
  go_loopw [1, 5] (fun q i wr => ∃ k : Nat, k ≤ n ∧ i = .int .i64 k ∧ q = .int .i64 (k0 + (k : Int) * 5) ∧ wr.ownsRow base 25 5 (.slice A n c) n (marks k0 (k * 5) ++ xs.drop (k * 5)) ∧ w.grownBy wr (Value.ownBlock (.slice A n c))) (fun _ i _ => n - (intOf i).toNat)
  case atStart => exact ⟨0, Nat.zero_le _, rfl, by go_num, by simpa [marks] using h, World.grownBy.refl _ _⟩
  case round =>
    obtain ⟨k, hk, rfl, rfl, hown, hg⟩ := hrel
    by_cases hlt : k < n
    · obtain ⟨g, cap, hv, hbg, hglt⟩ := hown.form (by omega)
      injection hv with hA _ hcap
      subst hA hcap
      obtain ⟨x0, hx0⟩ : ∃ u, wr.cell? ⟨g, k * 5, none⟩ = some u := by rw [hown.cellAt (k * 5) (by omega)]; exact list_split (by have := hown.1; omega)
      obtain ⟨x1, hx1⟩ : ∃ u, wr.cell? ⟨g, k * 5 + 1, none⟩ = some u := by rw [hown.cellAt (k * 5 + 1) (by omega)]; exact list_split (by have := hown.1; omega)
      obtain ⟨x2, hx2⟩ : ∃ u, wr.cell? ⟨g, k * 5 + 2, none⟩ = some u := by rw [hown.cellAt (k * 5 + 2) (by omega)]; exact list_split (by have := hown.1; omega)
      obtain ⟨x3, hx3⟩ : ∃ u, wr.cell? ⟨g, k * 5 + 3, none⟩ = some u := by rw [hown.cellAt (k * 5 + 3) (by omega)]; exact list_split (by have := hown.1; omega)
      obtain ⟨x4, hx4⟩ : ∃ u, wr.cell? ⟨g, k * 5 + 4, none⟩ = some u := by rw [hown.cellAt (k * 5 + 4) (by omega)]; exact list_split (by have := hown.1; omega)
      have f0 := hown.frozenAt (k * 5)
      have f1 := hown.frozenAt (k * 5 + 1)
      have f2 := hown.frozenAt (k * 5 + 2)
      have f3 := hown.frozenAt (k * 5 + 3)
      have f4 := hown.frozenAt (k * 5 + 4)
      have s0 := (hown.stored (k * 5) (.int .i64 (k0 + (k : Int) * 5))).1
      rw [marks_set' (k := k * 5) (by rw [HL.out]; omega) (by omega)] at s0
      have s1 := (s0.stored (k * 5 + 1) (.int .i64 (k0 + (k : Int) * 5 + 1))).1
      rw [marks_set' (k := k * 5 + 1) (by rw [HL.out]; omega) (by omega)] at s1
      have s2 := (s1.stored (k * 5 + 2) (.int .i64 (k0 + (k : Int) * 5 + 1 + 1))).1
      rw [marks_set' (k := k * 5 + 2) (by rw [HL.out]; omega) (by omega)] at s2
      have s3 := (s2.stored (k * 5 + 3) (.int .i64 (k0 + (k : Int) * 5 + 1 + 1 + 1))).1
      rw [marks_set' (k := k * 5 + 3) (by rw [HL.out]; omega) (by omega)] at s3
      have s4 := (s3.stored (k * 5 + 4) (.int .i64 (k0 + (k : Int) * 5 + 1 + 1 + 1 + 1))).1
      rw [marks_set' (k := k * 5 + 4) (by rw [HL.out]; omega) (by omega)] at s4
      have hst := Lib.hid s4
      clear s0 s1 s2 s3 s4 hown
      go_wp2
      go_roundw
      case rel =>
        refine ⟨k + 1, by omega, by go_num, by go_num, ?_, ?_⟩
        · rw [show (k + 1) * 5 = k * 5 + 5 from by omega]
          exact hst.out
        · exact (only_setCell (g := g) (p := ⟨g, k * 5 + 4, none⟩) (only_setCell (g := g) (p := ⟨g, k * 5 + 3, none⟩) (only_setCell (g := g) (p := ⟨g, k * 5 + 2, none⟩) (only_setCell (g := g) (p := ⟨g, k * 5 + 1, none⟩) (only_setCell (g := g) (p := ⟨g, k * 5, none⟩) hg (.inl rfl) _) (.inl rfl) _) (.inl rfl) _) (.inl rfl) _) (.inl rfl) _)
      case measure => simp [intOf]; omega
    · obtain rfl : k = n := by omega
      go_wp2
      go_ret
      exact ⟨rfl, by have hx := hown; rw [List.drop_of_length_le (by rw [HL.out]; exact Nat.le_refl _), List.append_nil] at hx; exact hx, hg⟩

set_option maxHeartbeats 1000000 in
theorem heldTermRowS_any (A : Option Addr) (n c : Nat) (k0 : Int) (w : World) (hn : n ≤ 100000000) (h0 : 0 ≤ k0) (h1 : k0 ≤ 1000000000) (h : Reads w w.heap.size 5 A n (marks k0 (n * 5))) :
    Calls Try.prog 41 #[.slice A n c, .int .i64 k0] w fun e w' => e = .returned (.int .i64 (k0 + (n : Int) * 5)) ∧ w = w' := by
  have H := Lib.hid h
  clear h
  go_enter Try.func41, Try.ntmps41
  go_wp2
  go_loop [1, 5] (fun q i => ∃ k : Nat, k ≤ n ∧ i = .int .i64 k ∧ q = .int .i64 (k0 + (k : Int) * 5)) (fun _ i => n - (intOf i).toNat)
  case atStart => exact ⟨0, Nat.zero_le _, rfl, by go_num⟩
  case round =>
    obtain ⟨k, hk, rfl, rfl⟩ := hrel
    by_cases hlt : k < n
    · obtain ⟨b, o, rfl, hb, hc⟩ := H.out.2 (by omega)
      have d0 := hc _ _ (marks_get (k0 := k0) (j := k * 5) (by omega))
      have d1 := hc _ _ (marks_get (k0 := k0) (j := k * 5 + 1) (by omega))
      have d2 := hc _ _ (marks_get (k0 := k0) (j := k * 5 + 2) (by omega))
      have d3 := hc _ _ (marks_get (k0 := k0) (j := k * 5 + 3) (by omega))
      have d4 := hc _ _ (marks_get (k0 := k0) (j := k * 5 + 4) (by omega))
      rw [show (k0 + ((k * 5 : Nat) : Int)) = k0 + (k : Int) * 5 from by omega] at d0
      rw [show (k0 + ((k * 5 + 1 : Nat) : Int)) = k0 + (k : Int) * 5 + 1 from by omega] at d1
      rw [show (k0 + ((k * 5 + 2 : Nat) : Int)) = k0 + (k : Int) * 5 + 1 + 1 from by omega] at d2
      rw [show (k0 + ((k * 5 + 3 : Nat) : Int)) = k0 + (k : Int) * 5 + 1 + 1 + 1 from by omega] at d3
      rw [show (k0 + ((k * 5 + 4 : Nat) : Int)) = k0 + (k : Int) * 5 + 1 + 1 + 1 + 1 from by omega] at d4
      rw [show o + (k * 5 + 1) = o + k * 5 + 1 from by omega] at d1
      rw [show o + (k * 5 + 2) = o + k * 5 + 2 from by omega] at d2
      rw [show o + (k * 5 + 3) = o + k * 5 + 3 from by omega] at d3
      rw [show o + (k * 5 + 4) = o + k * 5 + 4 from by omega] at d4
      clear hc
      go_wp2
      go_round
      case rel => exact ⟨k + 1, by omega, by go_num, by go_num⟩
      case measure => simp [intOf]; omega
    · obtain rfl : k = n := by omega
      go_wp2
      go_ret
      exact ⟨rfl, rfl⟩

end Go.Proofs.Ytkgeiemelhkkcaa
