/- The drawing of texts: of, spoilt. -/
import Derived.Test.YtdielldikdmjpaaCur
import Derived.Test.YtdielldikdmjpaaDec
namespace Go.Proofs.Ytdielldikdmjpaa
open Go.RowKit
set_option linter.unusedVariables false
set_option linter.unusedSimpArgs false
theorem of_any (g a : Nat) (A : Option Addr) (n c M : Nat) (w : World) (h : CurAt w g a) (ha : a ≤ 900000000000) (hn : n ≤ 65536) (hpos : 0 < n) (hl : AllAt w g A n (StrLe M)) :
    Calls Try.prog 71 #[.pointer (some ⟨g, 0, none⟩), .slice A n c] w (DrawStr g a 2 M w) := by
  go_enter Try.func71, Try.ntmps71
  go_wp2_with fail
  refine (pick_any g a n _ h ha hn (by omega)).mono ?_
  rintro e w1 ⟨z1, a1, rfl, z10, z11, ha1, hc1, hg1⟩
  obtain ⟨k, rfl⟩ := Int.eq_ofNat_of_zero_le z10
  obtain ⟨b, o, rfl, hne, hc⟩ := hl.gr hg1
  obtain ⟨u, hu, x, rfl, hx0⟩ := hc k (by omega)
  clear hc hl
  have hk : (k : Int) < n := by omega
  go_wp2
  go_ret
  exact ⟨x, a1, rfl, hx0, ha1, hc1, hg1⟩
theorem ext_le (s : ByteArray) (a b : Nat) (h : b ≤ s.size) : (s.extract a b).size ≤ s.size := by rw [extract_size _ _ _ h]; omega
set_option maxHeartbeats 1000000 in
theorem spoilt_any (g a : Nat) (t v : ByteArray) (w : World) (h : CurAt w g a) (ha : a ≤ 800000000000) (ht : t.size ≤ 60000) (hv : v.size ≤ 60000) (hv1 : 1 ≤ v.size) :
    Calls Try.prog 60 #[.pointer (some ⟨g, 0, none⟩), .string t, .string v] w (DrawStr g a 6 (t.size + 1) w) := by
  have hv1' : (1 : Int) ≤ v.size := by omega
  by_cases h0 : t.size = 0
  · have ht0 : t.toList = [] := (toList_nil t).2 h0
    have hz : (v.extract 0 1).size = 1 := by rw [extract_size _ _ _ hv1]
    go_enter Try.func60, Try.ntmps60
    go_wp2
    go_ret
    exact ⟨_, a, rfl, by omega, by omega, h, Gr.of_ext (ext_refl _)⟩
  · have ht0 : t.toList.isEmpty = false := by
      rw [List.isEmpty_eq_false_iff]
      intro e
      exact h0 ((toList_nil t).1 e)
    have ht1 : (t.toList == []) = false := by simpa using ht0
    go_enter Try.func60, Try.ntmps60
    go_wp2_with fail
    refine (pick_any g a t.size _ h (by omega) (by omega) (by omega)).mono ?_
    rintro e w1 ⟨z1, a1, rfl, z10, z11, ha1, hc1, hg1⟩
    obtain ⟨i, rfl⟩ := Int.eq_ofNat_of_zero_le z10
    have hi : i + 1 ≤ t.size := by omega
    have hi1 : (i : Int) + 1 ≤ t.size := by omega
    have hi2 : (i : Int) ≤ t.size := by omega
    go_wp2_with fail
    refine (pick_any g a1 v.size _ hc1 (by omega) (by omega) (by omega)).mono ?_
    rintro e w2 ⟨z2, a2, rfl, z20, z21, ha2, hc2, hg2⟩
    obtain ⟨j, rfl⟩ := Int.eq_ofNat_of_zero_le z20
    have hj : j + 1 ≤ v.size := by omega
    have hj2 : (j : Int) ≤ v.size := by omega
    have sv : (v.extract j v.size).size = v.size - j := extract_size _ _ _ (Nat.le_refl _)
    have hj3 : 1 ≤ v.size - j := by omega
    go_wp2_with fail
    refine (pick_any g a2 3 _ hc2 (by omega) (by omega) (by omega)).mono ?_
    rintro e w3 ⟨z3, a3, rfl, z30, z31, ha3, hc3, hg3⟩
    have e1 : (t.extract 0 i).size = i := by rw [extract_size _ _ _ (by omega)]; omega
    have e2 : (t.extract i t.size).size = t.size - i := extract_size _ _ _ (Nat.le_refl _)
    have e3 : (t.extract (i + 1) t.size).size = t.size - (i + 1) := extract_size _ _ _ (Nat.le_refl _)
    have e4 : ((v.extract j v.size).extract 0 1).size = 1 := by rw [extract_size _ _ _ (by rw [sv]; exact hj3)]
    have h03 : z3 = 0 ∨ z3 = 1 ∨ z3 = 2 := by omega
    rcases h03 with rfl | rfl | rfl
    all_goals
      go_wp2
      (refine wp_region_later (by kernel_rfl) (by kernel_rfl) ?_; (repeat (go_big_quiet_step (fail))); refine wpQuiet_nil ?_; intro w1 hw1; obtain ⟨⟨wl, hbL⟩, hw1'⟩ := hw1; simp only at hw1'; subst hw1'; obtain ⟨hcL, hfL⟩ := bcell hbL)
      go_wp2
      go_ret
      refine ⟨_, a3, rfl, ?_, by omega, hc3.ext hbL, ((hg1.trans hg2).trans hg3).trans (Gr.of_ext hbL)⟩
      simp only [ByteArray.size_append, e1, e2, e3, e4]
      omega
end Go.Proofs.Ytdielldikdmjpaa
