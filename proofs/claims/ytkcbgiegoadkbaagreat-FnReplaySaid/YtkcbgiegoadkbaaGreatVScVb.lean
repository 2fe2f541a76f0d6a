/- The reference's first question: l25Step. -/
import Derived.Test.YtkcbgiegoadkbaaGreatVM1
namespace Go.Proofs.YtkcbgiegoadkbaaGreat
open Go.RowKit
set_option linter.unusedVariables false
set_option linter.unusedSimpArgs false
set_option maxHeartbeats 1000000 in
theorem l25Step_1 (day pa le id v : Int) (A : Option Addr) (n c : Nat) (l : List R5) (w : World) (hn : n ≤ 1048576) (h : Reads w w.heap.size 5 A n (rowsV l)) :
 Calls Tryz.prog 99 #[schV day A n c pa le, .agg #[.int .i64 1, .int .i64 id, .int .i64 v]] w fun e w' => e = .returned (.bool (stepOk l 1 id v)) ∧ Below w.heap.size w w' := by
 have H := Lib.hid h
 have HF := Lib.hid (fun w h => l25Find_any day pa le id A n c l w hn h)
 obtain ⟨z, hz⟩ : ∃ z, findI l id = z := ⟨_, rfl⟩
 unfold stepOk
 rw [hz] at HF ⊢
 clear h hz
 rw [if_pos rfl]
 by_cases h0 : id = 0
 · have h0' : (id == 0) = true := by simpa using h0
   rw [show decide (id = 0 ∧ 1 ≤ v) = decide (1 ≤ v) from by simp [h0]]
   clear h0
   go_enter Tryz.func99, Tryz.ntmps99
   go_wp2_with fail
   refine (HF.out _ ((H.out.ext (ext_alloc (ext_alloc (ext_refl _) _) _) (Nat.le_refl _)).more (by simp; omega))).mono ?_
   rintro e w1 ⟨rfl, hb1⟩
   obtain ⟨hc1, hf1⟩ := bcell hb1
   have z1 : w.heap.size + 1 < w1.heap.size := by (have := hb1.size; simp at this; omega)
   have z2 : w.heap.size < w1.heap.size := by omega
   have b1 := Lib.hid (ext_trans (ext_alloc (ext_alloc (ext_refl w) _) _) hb1)
   clear hb1
   go_wp2
   go_ret
   exact ⟨rfl, b1.out⟩
 · have h0' : (id == 0) = false := by simpa using h0
   rw [show decide (id = 0 ∧ 1 ≤ v) = false from by simp [h0]]
   clear h0
   go_enter Tryz.func99, Tryz.ntmps99
   go_wp2_with fail
   refine (HF.out _ ((H.out.ext (ext_alloc (ext_alloc (ext_refl _) _) _) (Nat.le_refl _)).more (by simp; omega))).mono ?_
   rintro e w1 ⟨rfl, hb1⟩
   obtain ⟨hc1, hf1⟩ := bcell hb1
   have z1 : w.heap.size + 1 < w1.heap.size := by (have := hb1.size; simp at this; omega)
   have z2 : w.heap.size < w1.heap.size := by omega
   have b1 := Lib.hid (ext_trans (ext_alloc (ext_alloc (ext_refl w) _) _) hb1)
   clear hb1
   go_wp2
   go_ret
   exact ⟨rfl, b1.out⟩
set_option maxHeartbeats 1000000 in
theorem l25Step_2 (day pa le id v : Int) (A : Option Addr) (n c : Nat) (l : List R5) (w : World) (hn : n ≤ 1048576) (h : Reads w w.heap.size 5 A n (rowsV l)) :
 Calls Tryz.prog 99 #[schV day A n c pa le, .agg #[.int .i64 2, .int .i64 id, .int .i64 v]] w fun e w' => e = .returned (.bool (stepOk l 2 id v)) ∧ Below w.heap.size w w' := by
 have H := Lib.hid h
 have HF := Lib.hid (fun w h => l25Find_any day pa le id A n c l w hn h)
 obtain ⟨z, hz⟩ : ∃ z, findI l id = z := ⟨_, rfl⟩
 unfold stepOk
 rw [hz] at HF ⊢
 clear h hz
 rw [if_neg (by omega), if_pos rfl]
 have H1 := Lib.hid (fun w => inB_l1In id 1 99 w)
 have H2 := Lib.hid (fun w => inB_l1In v 0 5 w)
 rcases hx : inB id 1 99 with _ | _
 · rw [hx] at H1
   clear hx
   rw [Bool.false_and, Bool.false_and]
   go_enter Tryz.func99, Tryz.ntmps99
   go_wp2_with fail
   refine (HF.out _ ((H.out.ext (ext_alloc (ext_alloc (ext_refl _) _) _) (Nat.le_refl _)).more (by simp; omega))).mono ?_
   rintro e w1 ⟨rfl, hb1⟩
   obtain ⟨hc1, hf1⟩ := bcell hb1
   have z1 : w.heap.size + 1 < w1.heap.size := by (have := hb1.size; simp at this; omega)
   have z2 : w.heap.size < w1.heap.size := by omega
   have b1 := Lib.hid (ext_trans (ext_alloc (ext_alloc (ext_refl w) _) _) hb1)
   clear hb1
   go_wp2_with (go_at_call 82; refine (H1.out _).mono ?_; rintro e w' ⟨rfl, rfl⟩)
   go_ret
   exact ⟨rfl, b1.out⟩
 · rw [hx] at H1
   clear hx
   by_cases hz0 : z < 0
   · have hz1 : decide (z < 0) = true := by simpa using hz0
     rw [hz1, Bool.true_and, Bool.true_and]
     rcases hy : inB v 0 5 with _ | _
     all_goals
      rw [hy] at H2
      clear hy
      go_enter Tryz.func99, Tryz.ntmps99
      go_wp2_with fail
      refine (HF.out _ ((H.out.ext (ext_alloc (ext_alloc (ext_refl _) _) _) (Nat.le_refl _)).more (by simp; omega))).mono ?_
      rintro e w1 ⟨rfl, hb1⟩
      obtain ⟨hc1, hf1⟩ := bcell hb1
      have z1 : w.heap.size + 1 < w1.heap.size := by (have := hb1.size; simp at this; omega)
      have z2 : w.heap.size < w1.heap.size := by omega
      have b1 := Lib.hid (ext_trans (ext_alloc (ext_alloc (ext_refl w) _) _) hb1)
      clear hb1
      go_wp2_with (first | ((with_reducible (go_at_call 82; refine (H1.out _).mono ?_; rintro e w' ⟨rfl, rfl⟩))) | (go_at_call 82; refine (H2.out _).mono ?_; rintro e w' ⟨rfl, rfl⟩))
      go_ret
      exact ⟨rfl, b1.out⟩
   · have hz1 : decide (z < 0) = false := by simpa using hz0
     rw [hz1, Bool.true_and, Bool.false_and]
     go_enter Tryz.func99, Tryz.ntmps99
     go_wp2_with fail
     refine (HF.out _ ((H.out.ext (ext_alloc (ext_alloc (ext_refl _) _) _) (Nat.le_refl _)).more (by simp; omega))).mono ?_
     rintro e w1 ⟨rfl, hb1⟩
     obtain ⟨hc1, hf1⟩ := bcell hb1
     have z1 : w.heap.size + 1 < w1.heap.size := by (have := hb1.size; simp at this; omega)
     have z2 : w.heap.size < w1.heap.size := by omega
     have b1 := Lib.hid (ext_trans (ext_alloc (ext_alloc (ext_refl w) _) _) hb1)
     clear hb1
     go_wp2_with (go_at_call 82; refine (H1.out _).mono ?_; rintro e w' ⟨rfl, rfl⟩)
     go_ret
     exact ⟨rfl, b1.out⟩
set_option maxHeartbeats 1000000 in
theorem l25Step_3 (day pa le id v : Int) (A : Option Addr) (n c : Nat) (l : List R5) (w : World) (hn : n ≤ 1048576) (h : Reads w w.heap.size 5 A n (rowsV l)) :
 Calls Tryz.prog 99 #[schV day A n c pa le, .agg #[.int .i64 3, .int .i64 id, .int .i64 v]] w fun e w' => e = .returned (.bool (stepOk l 3 id v)) ∧ Below w.heap.size w w' := by
 have H := Lib.hid h
 have HF := Lib.hid (fun w h => l25Find_any day pa le id A n c l w hn h)
 obtain ⟨z, hz⟩ : ∃ z, findI l id = z := ⟨_, rfl⟩
 unfold stepOk
 rw [hz] at HF ⊢
 clear h hz
 rw [if_neg (by omega), if_neg (by omega), if_pos rfl]
 have H1 := Lib.hid (fun w => inB_l1In v 1 20 w)
 by_cases hz0 : 0 ≤ z
 · have hz1 : decide (0 ≤ z) = true := by simpa using hz0
   rw [hz1, Bool.true_and]
   rcases hx : inB v 1 20 with _ | _
   all_goals
    rw [hx] at H1
    clear hx
    go_enter Tryz.func99, Tryz.ntmps99
    go_wp2_with fail
    refine (HF.out _ ((H.out.ext (ext_alloc (ext_alloc (ext_refl _) _) _) (Nat.le_refl _)).more (by simp; omega))).mono ?_
    rintro e w1 ⟨rfl, hb1⟩
    obtain ⟨hc1, hf1⟩ := bcell hb1
    have z1 : w.heap.size + 1 < w1.heap.size := by (have := hb1.size; simp at this; omega)
    have z2 : w.heap.size < w1.heap.size := by omega
    have b1 := Lib.hid (ext_trans (ext_alloc (ext_alloc (ext_refl w) _) _) hb1)
    clear hb1
    go_wp2_with (go_at_call 82; refine (H1.out _).mono ?_; rintro e w' ⟨rfl, rfl⟩)
    go_ret
    exact ⟨rfl, b1.out⟩
 · have hz1 : decide (0 ≤ z) = false := by simpa using hz0
   rw [hz1, Bool.false_and]
   go_enter Tryz.func99, Tryz.ntmps99
   go_wp2_with fail
   refine (HF.out _ ((H.out.ext (ext_alloc (ext_alloc (ext_refl _) _) _) (Nat.le_refl _)).more (by simp; omega))).mono ?_
   rintro e w1 ⟨rfl, hb1⟩
   obtain ⟨hc1, hf1⟩ := bcell hb1
   have z1 : w.heap.size + 1 < w1.heap.size := by (have := hb1.size; simp at this; omega)
   have z2 : w.heap.size < w1.heap.size := by omega
   have b1 := Lib.hid (ext_trans (ext_alloc (ext_alloc (ext_refl w) _) _) hb1)
   clear hb1
   go_wp2
   go_ret
   exact ⟨rfl, b1.out⟩
set_option maxHeartbeats 1000000 in
theorem l25Step_4 (day pa le id v : Int) (A : Option Addr) (n c : Nat) (l : List R5) (w : World) (hn : n ≤ 1048576) (h : Reads w w.heap.size 5 A n (rowsV l)) :
 Calls Tryz.prog 99 #[schV day A n c pa le, .agg #[.int .i64 4, .int .i64 id, .int .i64 v]] w fun e w' => e = .returned (.bool (stepOk l 4 id v)) ∧ Below w.heap.size w w' := by
 have H := Lib.hid h
 have HF := Lib.hid (fun w h => l25Find_any day pa le id A n c l w hn h)
 obtain ⟨z, hz⟩ : ∃ z, findI l id = z := ⟨_, rfl⟩
 unfold stepOk
 rw [hz] at HF ⊢
 clear h hz
 rw [if_neg (by omega), if_neg (by omega), if_neg (by omega), if_pos rfl]
 have H1 := Lib.hid (fun w => inB_l1In v 0 100 w)
 by_cases hz0 : 0 ≤ z
 · have hz1 : decide (0 ≤ z) = true := by simpa using hz0
   rw [hz1, Bool.true_and]
   rcases hx : inB v 0 100 with _ | _
   all_goals
    rw [hx] at H1
    clear hx
    go_enter Tryz.func99, Tryz.ntmps99
    go_wp2_with fail
    refine (HF.out _ ((H.out.ext (ext_alloc (ext_alloc (ext_refl _) _) _) (Nat.le_refl _)).more (by simp; omega))).mono ?_
    rintro e w1 ⟨rfl, hb1⟩
    obtain ⟨hc1, hf1⟩ := bcell hb1
    have z1 : w.heap.size + 1 < w1.heap.size := by (have := hb1.size; simp at this; omega)
    have z2 : w.heap.size < w1.heap.size := by omega
    have b1 := Lib.hid (ext_trans (ext_alloc (ext_alloc (ext_refl w) _) _) hb1)
    clear hb1
    go_wp2_with (go_at_call 82; refine (H1.out _).mono ?_; rintro e w' ⟨rfl, rfl⟩)
    go_ret
    exact ⟨rfl, b1.out⟩
 · have hz1 : decide (0 ≤ z) = false := by simpa using hz0
   rw [hz1, Bool.false_and]
   go_enter Tryz.func99, Tryz.ntmps99
   go_wp2_with fail
   refine (HF.out _ ((H.out.ext (ext_alloc (ext_alloc (ext_refl _) _) _) (Nat.le_refl _)).more (by simp; omega))).mono ?_
   rintro e w1 ⟨rfl, hb1⟩
   obtain ⟨hc1, hf1⟩ := bcell hb1
   have z1 : w.heap.size + 1 < w1.heap.size := by (have := hb1.size; simp at this; omega)
   have z2 : w.heap.size < w1.heap.size := by omega
   have b1 := Lib.hid (ext_trans (ext_alloc (ext_alloc (ext_refl w) _) _) hb1)
   clear hb1
   go_wp2
   go_ret
   exact ⟨rfl, b1.out⟩
set_option maxHeartbeats 1000000 in
theorem l25Step_5 (day pa le id v : Int) (A : Option Addr) (n c : Nat) (l : List R5) (w : World) (hn : n ≤ 1048576) (h : Reads w w.heap.size 5 A n (rowsV l)) :
 Calls Tryz.prog 99 #[schV day A n c pa le, .agg #[.int .i64 5, .int .i64 id, .int .i64 v]] w fun e w' => e = .returned (.bool (stepOk l 5 id v)) ∧ Below w.heap.size w w' := by
 have H := Lib.hid h
 have HF := Lib.hid (fun w h => l25Find_any day pa le id A n c l w hn h)
 obtain ⟨z, hz⟩ : ∃ z, findI l id = z := ⟨_, rfl⟩
 unfold stepOk
 rw [hz] at HF ⊢
 clear h hz
 rw [if_neg (by omega), if_neg (by omega), if_neg (by omega), if_neg (by omega), if_pos rfl]
 have H1 := Lib.hid (fun w => inB_l1In v 1 365 w)
 by_cases hz0 : 0 ≤ z
 · have hz1 : decide (0 ≤ z) = true := by simpa using hz0
   rw [hz1, Bool.true_and]
   rcases hx : inB v 1 365 with _ | _
   all_goals
    rw [hx] at H1
    clear hx
    go_enter Tryz.func99, Tryz.ntmps99
    go_wp2_with fail
    refine (HF.out _ ((H.out.ext (ext_alloc (ext_alloc (ext_refl _) _) _) (Nat.le_refl _)).more (by simp; omega))).mono ?_
    rintro e w1 ⟨rfl, hb1⟩
    obtain ⟨hc1, hf1⟩ := bcell hb1
    have z1 : w.heap.size + 1 < w1.heap.size := by (have := hb1.size; simp at this; omega)
    have z2 : w.heap.size < w1.heap.size := by omega
    have b1 := Lib.hid (ext_trans (ext_alloc (ext_alloc (ext_refl w) _) _) hb1)
    clear hb1
    go_wp2_with (go_at_call 82; refine (H1.out _).mono ?_; rintro e w' ⟨rfl, rfl⟩)
    go_ret
    exact ⟨rfl, b1.out⟩
 · have hz1 : decide (0 ≤ z) = false := by simpa using hz0
   rw [hz1, Bool.false_and]
   go_enter Tryz.func99, Tryz.ntmps99
   go_wp2_with fail
   refine (HF.out _ ((H.out.ext (ext_alloc (ext_alloc (ext_refl _) _) _) (Nat.le_refl _)).more (by simp; omega))).mono ?_
   rintro e w1 ⟨rfl, hb1⟩
   obtain ⟨hc1, hf1⟩ := bcell hb1
   have z1 : w.heap.size + 1 < w1.heap.size := by (have := hb1.size; simp at this; omega)
   have z2 : w.heap.size < w1.heap.size := by omega
   have b1 := Lib.hid (ext_trans (ext_alloc (ext_alloc (ext_refl w) _) _) hb1)
   clear hb1
   go_wp2
   go_ret
   exact ⟨rfl, b1.out⟩
set_option maxHeartbeats 1000000 in
theorem l25Step_k (day pa le k id v : Int) (A : Option Addr) (n c : Nat) (l : List R5) (w : World) (hn : n ≤ 1048576) (h : Reads w w.heap.size 5 A n (rowsV l)) (h1 : ¬ k = 1) (h2 : ¬ k = 2) (h3 : ¬ k = 3) (h4 : ¬ k = 4) (h5 : ¬ k = 5) :
 Calls Tryz.prog 99 #[schV day A n c pa le, .agg #[.int .i64 k, .int .i64 id, .int .i64 v]] w fun e w' => e = .returned (.bool (stepOk l k id v)) ∧ Below w.heap.size w w' := by
 have H := Lib.hid h
 have HF := Lib.hid (fun w h => l25Find_any day pa le id A n c l w hn h)
 obtain ⟨z, hz⟩ : ∃ z, findI l id = z := ⟨_, rfl⟩
 unfold stepOk
 rw [hz] at HF ⊢
 clear h hz
 rw [if_neg h1, if_neg h2, if_neg h3, if_neg h4, if_neg h5]
 have g1 : (k == 1) = false := by rw [beq_eq_false_iff_ne]; exact h1
 have g2 : (k == 2) = false := by rw [beq_eq_false_iff_ne]; exact h2
 have g3 : (k == 3) = false := by rw [beq_eq_false_iff_ne]; exact h3
 have g4 : (k == 4) = false := by rw [beq_eq_false_iff_ne]; exact h4
 have g5 : (k == 5) = false := by rw [beq_eq_false_iff_ne]; exact h5
 clear h1 h2 h3 h4 h5
 by_cases h6 : k = 6
 · subst h6
   rw [show decide ((6 : Int) = 6) = true from rfl, Bool.true_and]
   clear g1 g2 g3 g4 g5
   by_cases hz0 : 0 ≤ z
   · have hz1 : decide (0 ≤ z) = true := by simpa using hz0
     rw [hz1, Bool.true_and]
     by_cases hv : v = 0
     · subst hv
       go_enter Tryz.func99, Tryz.ntmps99
       go_wp2_with fail
       refine (HF.out _ ((H.out.ext (ext_alloc (ext_alloc (ext_refl _) _) _) (Nat.le_refl _)).more (by simp; omega))).mono ?_
       rintro e w1 ⟨rfl, hb1⟩
       obtain ⟨hc1, hf1⟩ := bcell hb1
       have z1 : w.heap.size + 1 < w1.heap.size := by (have := hb1.size; simp at this; omega)
       have z2 : w.heap.size < w1.heap.size := by omega
       have b1 := Lib.hid (ext_trans (ext_alloc (ext_alloc (ext_refl w) _) _) hb1)
       clear hb1
       go_wp2
       go_ret
       exact ⟨rfl, b1.out⟩
     · have hv' : (v == 0) = false := by simpa using hv
       rw [show decide (v = 0) = false from by simpa using hv]
       clear hv
       go_enter Tryz.func99, Tryz.ntmps99
       go_wp2_with fail
       refine (HF.out _ ((H.out.ext (ext_alloc (ext_alloc (ext_refl _) _) _) (Nat.le_refl _)).more (by simp; omega))).mono ?_
       rintro e w1 ⟨rfl, hb1⟩
       obtain ⟨hc1, hf1⟩ := bcell hb1
       have z1 : w.heap.size + 1 < w1.heap.size := by (have := hb1.size; simp at this; omega)
       have z2 : w.heap.size < w1.heap.size := by omega
       have b1 := Lib.hid (ext_trans (ext_alloc (ext_alloc (ext_refl w) _) _) hb1)
       clear hb1
       go_wp2
       go_ret
       exact ⟨rfl, b1.out⟩
   · have hz1 : decide (0 ≤ z) = false := by simpa using hz0
     rw [hz1, Bool.false_and]
     go_enter Tryz.func99, Tryz.ntmps99
     go_wp2_with fail
     refine (HF.out _ ((H.out.ext (ext_alloc (ext_alloc (ext_refl _) _) _) (Nat.le_refl _)).more (by simp; omega))).mono ?_
     rintro e w1 ⟨rfl, hb1⟩
     obtain ⟨hc1, hf1⟩ := bcell hb1
     have z1 : w.heap.size + 1 < w1.heap.size := by (have := hb1.size; simp at this; omega)
     have z2 : w.heap.size < w1.heap.size := by omega
     have b1 := Lib.hid (ext_trans (ext_alloc (ext_alloc (ext_refl w) _) _) hb1)
     clear hb1
     go_wp2
     go_ret
     exact ⟨rfl, b1.out⟩
 · have g6 : (k == 6) = false := by rw [beq_eq_false_iff_ne]; exact h6
   rw [show decide (k = 6) = false from by simpa using h6, Bool.false_and, Bool.false_and]
   clear h6
   go_enter Tryz.func99, Tryz.ntmps99
   go_wp2_with fail
   refine (HF.out _ ((H.out.ext (ext_alloc (ext_alloc (ext_refl _) _) _) (Nat.le_refl _)).more (by simp; omega))).mono ?_
   rintro e w1 ⟨rfl, hb1⟩
   obtain ⟨hc1, hf1⟩ := bcell hb1
   have z1 : w.heap.size + 1 < w1.heap.size := by (have := hb1.size; simp at this; omega)
   have z2 : w.heap.size < w1.heap.size := by omega
   have b1 := Lib.hid (ext_trans (ext_alloc (ext_alloc (ext_refl w) _) _) hb1)
   clear hb1
   go_wp2
   go_ret
   exact ⟨rfl, b1.out⟩
theorem l25Step_any (day pa le k id v : Int) (A : Option Addr) (n c : Nat) (l : List R5) (w : World) (hn : n ≤ 1048576) (h : Reads w w.heap.size 5 A n (rowsV l)) :
 Calls Tryz.prog 99 #[schV day A n c pa le, .agg #[.int .i64 k, .int .i64 id, .int .i64 v]] w fun e w' => e = .returned (.bool (stepOk l k id v)) ∧ Below w.heap.size w w' := by
 by_cases h1 : k = 1
 · subst h1; exact l25Step_1 day pa le id v A n c l w hn h
 by_cases h2 : k = 2
 · subst h2; exact l25Step_2 day pa le id v A n c l w hn h
 by_cases h3 : k = 3
 · subst h3; exact l25Step_3 day pa le id v A n c l w hn h
 by_cases h4 : k = 4
 · subst h4; exact l25Step_4 day pa le id v A n c l w hn h
 by_cases h5 : k = 5
 · subst h5; exact l25Step_5 day pa le id v A n c l w hn h
 exact l25Step_k day pa le k id v A n c l w hn h h1 h2 h3 h4 h5
end Go.Proofs.YtkcbgiegoadkbaaGreat
