
/- The line of a report's row. -/
import Derived.Test.YtkgeiemelhkkcaaNumW
import Derived.Test.YtkgeiemelhkkcaaA
namespace Go.Proofs.Ytkgeiemelhkkcaa
open Go.RowKit
set_option linter.unusedVariables false
set_option linter.unusedSimpArgs false
theorem text_any (z : Int) (w : World) (h1 : -9223372036854775807 ≤ z) (h2 : z ≤ 9223372036854775807) :
    Calls Try.prog 67 #[.int .i64 z] w fun e w' => e = .returned (.string (decI z)) ∧ Below w.heap.size w w' := by
  by_cases h : z < 0
  · obtain ⟨n, hn⟩ := Int.eq_ofNat_of_zero_le (a := -z) (by omega)
    have hz : z = -(n : Int) := by omega
    subst hz
    have hs := dec_size n
    have e : decI (-(n : Int)) = ⟨#[45]⟩ ++ dec n := by
      unfold decI; rw [if_pos h]; congr 2; omega
    have E := Lib.hid e
    have hc := Lib.hid (fun w => text_pos n w (by omega))
    clear e hn
    rw [E.out]
    go_enter Try.func67, Try.ntmps67
    go_wp2_with (go_at_call 67; refine (hc.out _).mono ?_; rintro e w' ⟨rfl, hb⟩)
    go_ret
    exact ⟨rfl, hb⟩
  · obtain ⟨n, rfl⟩ := Int.eq_ofNat_of_zero_le (a := z) (by omega)
    rw [decI_pos]
    exact text_pos n w (by omega)
def severalB (n : Int) (word : ByteArray) : ByteArray := if n = 1 then ⟨#[49, 32]⟩ ++ word else decI n ++ ⟨#[32]⟩ ++ word ++ ⟨#[115]⟩
theorem severalB_size (n : Int) (word : ByteArray) : (severalB n word).size ≤ word.size + 23 := by
  unfold severalB
  have h1 : (⟨#[49, 32]⟩ : ByteArray).size = 2 := rfl
  have h2 : (⟨#[32]⟩ : ByteArray).size = 1 := rfl
  have h3 : (⟨#[115]⟩ : ByteArray).size = 1 := rfl
  have h4 := decI_size n
  split <;> simp only [ByteArray.size_append] <;> omega
theorem decI_one : decI 1 = ⟨#[49]⟩ := by decide
theorem lit_append (a b : Array UInt8) : (⟨a⟩ : ByteArray) ++ ⟨b⟩ = ⟨a ++ b⟩ := by apply ByteArray.ext; simp
theorem several_any (n : Int) (word : ByteArray) (w : World) (h1 : -9223372036854775807 ≤ n) (h2 : n ≤ 9223372036854775807) (hw : word.size ≤ 1000) :
    Calls Try.prog 68 #[.int .i64 n, .string word] w fun e w' => e = .returned (.string (severalB n word)) ∧ Below w.heap.size w w' := by
  by_cases h : n = 1
  · have E := Lib.hid (show severalB n word = ⟨#[49, 32]⟩ ++ word by rw [severalB, if_pos h])
    have hd : (n == 1) = true := by simp [h]
    clear h
    rw [E.out]
    go_enter Try.func68, Try.ntmps68
    go_wp2
    go_ret
    exact ⟨rfl, ext_refl _⟩
  · have E := Lib.hid (show severalB n word = decI n ++ ⟨#[32]⟩ ++ word ++ ⟨#[115]⟩ by rw [severalB, if_neg h])
    have hd : (n == 1) = false := by simp [h]
    have hs := decI_size n
    clear h
    rw [E.out]
    go_enter Try.func68, Try.ntmps68
    go_wp2_with (go_at_call 67; refine (text_any n _ (by omega) (by omega)).mono ?_; rintro e w' ⟨rfl, hb⟩; obtain ⟨hc, hf⟩ := bcell hb; have hz := hb.size; (try simp at hz))
    go_ret
    exact ⟨rfl, hb⟩
theorem l26Many_any (n : Int) (word : ByteArray) (w : World) (h1 : -9223372036854775807 ≤ n) (h2 : n ≤ 9223372036854775807) (hw : word.size ≤ 1000) :
    Calls Try.prog 66 #[.int .i64 n, .string word] w fun e w' => e = .returned (.string (severalB n word)) ∧ Below w.heap.size w w' := by
  have hs := decI_size n
  by_cases h : n = 1
  · have E := Lib.hid (show severalB n word = decI n ++ ⟨#[32]⟩ ++ word by rw [severalB, if_pos h, h, decI_one]; apply ByteArray.ext; simp)
    have hd : (n == 1) = true := by simp [h]
    clear h
    rw [E.out]
    go_enter Try.func66, Try.ntmps66
    go_wp2_with (go_at_call 65; refine (l1Num_any n _ (by omega) (by omega)).mono ?_; rintro e w' ⟨rfl, hb⟩; obtain ⟨hc, hf⟩ := bcell hb; have hz := hb.size; (try simp at hz))
    go_ret
    exact ⟨rfl, hb⟩
  · have E := Lib.hid (show severalB n word = decI n ++ ⟨#[32]⟩ ++ word ++ ⟨#[115]⟩ by rw [severalB, if_neg h])
    have hd : (n == 1) = false := by simp [h]
    clear h
    rw [E.out]
    go_enter Try.func66, Try.ntmps66
    go_wp2_with (go_at_call 65; refine (l1Num_any n _ (by omega) (by omega)).mono ?_; rintro e w' ⟨rfl, hb⟩; obtain ⟨hc, hf⟩ := bcell hb; have hz := hb.size; (try simp at hz))
    go_ret
    exact ⟨rfl, hb⟩
def line1 (r : R5) : ByteArray := ⟨#[116, 101, 114, 109, 32]⟩ ++ decI r.a ++ ⟨#[58, 32]⟩ ++ severalB r.b ⟨#[112, 117, 112, 105, 108]⟩
def line2 (r : R5) : ByteArray := if 0 < r.c then line1 r ++ (⟨#[44, 32]⟩ ++ decI r.d ++ ⟨#[32, 111, 102, 32]⟩ ++ decI r.c ++ ⟨#[32, 112, 97, 115, 115, 101, 100]⟩) else line1 r
def lineB (r : R5) : ByteArray := if 0 < r.e then line2 r ++ (⟨#[32, 40]⟩ ++ decI r.e ++ ⟨#[32, 119, 105, 116, 104, 32, 104, 111, 110, 111, 114, 41]⟩) else line2 r
theorem lit_size (a : Array UInt8) : (⟨a⟩ : ByteArray).size = a.size := rfl
theorem line1_size (r : R5) : (line1 r).size ≤ 60 := by
  have h1 := decI_size r.a
  have h2 := severalB_size r.b ⟨#[112, 117, 112, 105, 108]⟩
  simp [lit_size] at h2
  simp [line1, ByteArray.size_append, lit_size]; omega
theorem line2_size (r : R5) : (line2 r).size ≤ 120 := by
  have h0 := line1_size r
  have h1 := decI_size r.c
  have h2 := decI_size r.d
  unfold line2
  split <;> simp [ByteArray.size_append, lit_size] <;> omega
theorem lineB_size (r : R5) : (lineB r).size ≤ 160 := by
  have h0 := line2_size r
  have h1 := decI_size r.e
  unfold lineB
  split <;> simp [ByteArray.size_append, lit_size] <;> omega
set_option maxHeartbeats 1000000 in
theorem termLine_any (r : R5) (w : World) (hr : rowB r = true) :
    Calls Try.prog 61 #[r.val] w fun e w' => e = .returned (.string (lineB r)) ∧ Below w.heap.size w w' := by
  have hv : (1 ≤ r.a ∧ r.a ≤ 400) ∧ (0 ≤ r.b ∧ r.b ≤ 999) ∧ (0 ≤ r.c ∧ r.c ≤ r.b) ∧ (0 ≤ r.d ∧ r.d ≤ r.c) ∧ 0 ≤ r.e ∧ r.e ≤ r.d := by simpa [rowB] using hr
  obtain ⟨⟨a1, a2⟩, ⟨b1, b2⟩, ⟨c1, c2⟩, ⟨d1, d2⟩, e1, e2⟩ := hv
  have s0 := decI_size r.a
  have s1 := severalB_size r.b ⟨#[112, 117, 112, 105, 108]⟩
  simp [lit_size] at s1
  have s2 := decI_size r.c
  have s3 := decI_size r.d
  have s4 := decI_size r.e
  clear hr
  by_cases hC : 0 < r.c
  · by_cases hE : 0 < r.e
    · go_enter Try.func61, Try.ntmps61
      go_wp2_with fail
      ((refine wp_region_later (by kernel_rfl) (by kernel_rfl) ?_; (repeat (go_big_quiet_step ((first | (go_at_call 67; exact Calls.later_of (text_any r.a _ (by omega) (by omega))) | (go_at_call 68; exact Calls.later_of (several_any r.b _ _ (by omega) (by omega) (by simp [lit_size]))))))); refine wpQuiet_nil ?_; intro w1 hw1; obtain ⟨⟨wl, hbL⟩, hw1'⟩ := hw1; simp only at hw1'; subst hw1'; obtain ⟨hcL, hfL⟩ := bcell hbL); have hz : w.heap.size < w1.heap.size := by (have := hbL.size; (try simp at this); omega))
      go_wp2_with fail
      ((refine wp_region_later (by kernel_rfl) (by kernel_rfl) ?_; (repeat (go_big_quiet_step ((first | (go_at_call_of 67 (Value.int .i64 r.d); exact Calls.later_of (text_any r.d _ (by omega) (by omega))) | (go_at_call_of 67 (Value.int .i64 r.c); exact Calls.later_of (text_any r.c _ (by omega) (by omega))))))); refine wpQuiet_nil ?_; intro w1 hw1; obtain ⟨⟨wl, hbL⟩, hw1'⟩ := hw1; simp only at hw1'; subst hw1'; obtain ⟨hcL, hfL⟩ := bcell hbL); have hz : w.heap.size < w1.heap.size := by (have := hbL.size; (try simp at this); omega))
      go_wp2_with (go_at_call 67; refine (text_any r.e _ (by omega) (by omega)).mono ?_; rintro e w' ⟨rfl, hb⟩)
      go_ret
      exact ⟨ret_str (by simp only [lineB, line2, line1, if_pos hE, if_pos hC, ByteArray.append_assoc]), (by repeat (first | exact ext_refl _ | assumption | refine ext_alloc ?_ _ | refine ext_drew ?_ | refine ext_drewN ?_ _ | refine ext_set ?_ (by simp <;> omega) _ | refine ext_trans ?_ (by assumption)))⟩
    · go_enter Try.func61, Try.ntmps61
      go_wp2_with fail
      ((refine wp_region_later (by kernel_rfl) (by kernel_rfl) ?_; (repeat (go_big_quiet_step ((first | (go_at_call 67; exact Calls.later_of (text_any r.a _ (by omega) (by omega))) | (go_at_call 68; exact Calls.later_of (several_any r.b _ _ (by omega) (by omega) (by simp [lit_size]))))))); refine wpQuiet_nil ?_; intro w1 hw1; obtain ⟨⟨wl, hbL⟩, hw1'⟩ := hw1; simp only at hw1'; subst hw1'; obtain ⟨hcL, hfL⟩ := bcell hbL); have hz : w.heap.size < w1.heap.size := by (have := hbL.size; (try simp at this); omega))
      go_wp2_with fail
      ((refine wp_region_later (by kernel_rfl) (by kernel_rfl) ?_; (repeat (go_big_quiet_step ((first | (go_at_call_of 67 (Value.int .i64 r.d); exact Calls.later_of (text_any r.d _ (by omega) (by omega))) | (go_at_call_of 67 (Value.int .i64 r.c); exact Calls.later_of (text_any r.c _ (by omega) (by omega))))))); refine wpQuiet_nil ?_; intro w1 hw1; obtain ⟨⟨wl, hbL⟩, hw1'⟩ := hw1; simp only at hw1'; subst hw1'; obtain ⟨hcL, hfL⟩ := bcell hbL); have hz : w.heap.size < w1.heap.size := by (have := hbL.size; (try simp at this); omega))
      go_wp2
      go_ret
      exact ⟨ret_str (by simp only [lineB, line2, line1, if_neg (show ¬ 0 < r.e by omega), if_pos hC, ByteArray.append_assoc]), (by repeat (first | exact ext_refl _ | assumption | refine ext_alloc ?_ _ | refine ext_drew ?_ | refine ext_drewN ?_ _ | refine ext_set ?_ (by simp <;> omega) _ | refine ext_trans ?_ (by assumption)))⟩
  · have hE : ¬ 0 < r.e := by omega
    go_enter Try.func61, Try.ntmps61
    go_wp2_with fail
    ((refine wp_region_later (by kernel_rfl) (by kernel_rfl) ?_; (repeat (go_big_quiet_step ((first | (go_at_call 67; exact Calls.later_of (text_any r.a _ (by omega) (by omega))) | (go_at_call 68; exact Calls.later_of (several_any r.b _ _ (by omega) (by omega) (by simp [lit_size]))))))); refine wpQuiet_nil ?_; intro w1 hw1; obtain ⟨⟨wl, hbL⟩, hw1'⟩ := hw1; simp only at hw1'; subst hw1'; obtain ⟨hcL, hfL⟩ := bcell hbL); have hz : w.heap.size < w1.heap.size := by (have := hbL.size; (try simp at this); omega))
    go_wp2
    go_ret
    exact ⟨ret_str (by simp only [lineB, line2, line1, if_neg (show ¬ 0 < r.e by omega), if_neg (show ¬ 0 < r.c by omega), ByteArray.append_assoc]), (by repeat (first | exact ext_refl _ | assumption | refine ext_alloc ?_ _ | refine ext_drew ?_ | refine ext_drewN ?_ _ | refine ext_set ?_ (by simp <;> omega) _ | refine ext_trans ?_ (by assumption)))⟩
set_option maxHeartbeats 1000000 in
theorem l26Line_any (r : R5) (w : World) (hr : rowB r = true) :
    Calls Try.prog 60 #[r.val] w fun e w' => e = .returned (.string (lineB r)) ∧ Below w.heap.size w w' := by
  have hv : (1 ≤ r.a ∧ r.a ≤ 400) ∧ (0 ≤ r.b ∧ r.b ≤ 999) ∧ (0 ≤ r.c ∧ r.c ≤ r.b) ∧ (0 ≤ r.d ∧ r.d ≤ r.c) ∧ 0 ≤ r.e ∧ r.e ≤ r.d := by simpa [rowB] using hr
  obtain ⟨⟨a1, a2⟩, ⟨b1, b2⟩, ⟨c1, c2⟩, ⟨d1, d2⟩, e1, e2⟩ := hv
  have s0 := decI_size r.a
  have s1 := severalB_size r.b ⟨#[112, 117, 112, 105, 108]⟩
  simp [lit_size] at s1
  have s2 := decI_size r.c
  have s3 := decI_size r.d
  have s4 := decI_size r.e
  clear hr
  by_cases hC : 0 < r.c
  · by_cases hE : 0 < r.e
    · go_enter Try.func60, Try.ntmps60
      go_wp2_with fail
      ((refine wp_region_later (by kernel_rfl) (by kernel_rfl) ?_; (repeat (go_big_quiet_step ((first | (go_at_call 65; exact Calls.later_of (l1Num_any r.a _ (by omega) (by omega))) | (go_at_call 66; exact Calls.later_of (l26Many_any r.b _ _ (by omega) (by omega) (by simp [lit_size]))))))); refine wpQuiet_nil ?_; intro w1 hw1; obtain ⟨⟨wl, hbL⟩, hw1'⟩ := hw1; simp only at hw1'; subst hw1'; obtain ⟨hcL, hfL⟩ := bcell hbL); have hz : w.heap.size < w1.heap.size := by (have := hbL.size; (try simp at this); omega))
      go_wp2_with fail
      ((refine wp_region_later (by kernel_rfl) (by kernel_rfl) ?_; (repeat (go_big_quiet_step ((first | (go_at_call_of 65 (Value.int .i64 r.d); exact Calls.later_of (l1Num_any r.d _ (by omega) (by omega))) | (go_at_call_of 65 (Value.int .i64 r.c); exact Calls.later_of (l1Num_any r.c _ (by omega) (by omega))))))); refine wpQuiet_nil ?_; intro w1 hw1; obtain ⟨⟨wl, hbL⟩, hw1'⟩ := hw1; simp only at hw1'; subst hw1'; obtain ⟨hcL, hfL⟩ := bcell hbL); have hz : w.heap.size < w1.heap.size := by (have := hbL.size; (try simp at this); omega))
      go_wp2_with (go_at_call 65; refine (l1Num_any r.e _ (by omega) (by omega)).mono ?_; rintro e w' ⟨rfl, hb⟩)
      go_ret
      exact ⟨ret_str (by simp only [lineB, line2, line1, if_pos hE, if_pos hC, ByteArray.append_assoc]), (by repeat (first | exact ext_refl _ | assumption | refine ext_alloc ?_ _ | refine ext_drew ?_ | refine ext_drewN ?_ _ | refine ext_set ?_ (by simp <;> omega) _ | refine ext_trans ?_ (by assumption)))⟩
    · go_enter Try.func60, Try.ntmps60
      go_wp2_with fail
      ((refine wp_region_later (by kernel_rfl) (by kernel_rfl) ?_; (repeat (go_big_quiet_step ((first | (go_at_call 65; exact Calls.later_of (l1Num_any r.a _ (by omega) (by omega))) | (go_at_call 66; exact Calls.later_of (l26Many_any r.b _ _ (by omega) (by omega) (by simp [lit_size]))))))); refine wpQuiet_nil ?_; intro w1 hw1; obtain ⟨⟨wl, hbL⟩, hw1'⟩ := hw1; simp only at hw1'; subst hw1'; obtain ⟨hcL, hfL⟩ := bcell hbL); have hz : w.heap.size < w1.heap.size := by (have := hbL.size; (try simp at this); omega))
      go_wp2_with fail
      ((refine wp_region_later (by kernel_rfl) (by kernel_rfl) ?_; (repeat (go_big_quiet_step ((first | (go_at_call_of 65 (Value.int .i64 r.d); exact Calls.later_of (l1Num_any r.d _ (by omega) (by omega))) | (go_at_call_of 65 (Value.int .i64 r.c); exact Calls.later_of (l1Num_any r.c _ (by omega) (by omega))))))); refine wpQuiet_nil ?_; intro w1 hw1; obtain ⟨⟨wl, hbL⟩, hw1'⟩ := hw1; simp only at hw1'; subst hw1'; obtain ⟨hcL, hfL⟩ := bcell hbL); have hz : w.heap.size < w1.heap.size := by (have := hbL.size; (try simp at this); omega))
      go_wp2
      go_ret
      exact ⟨ret_str (by simp only [lineB, line2, line1, if_neg (show ¬ 0 < r.e by omega), if_pos hC, ByteArray.append_assoc]), (by repeat (first | exact ext_refl _ | assumption | refine ext_alloc ?_ _ | refine ext_drew ?_ | refine ext_drewN ?_ _ | refine ext_set ?_ (by simp <;> omega) _ | refine ext_trans ?_ (by assumption)))⟩
  · have hE : ¬ 0 < r.e := by omega
    go_enter Try.func60, Try.ntmps60
    go_wp2_with fail
    ((refine wp_region_later (by kernel_rfl) (by kernel_rfl) ?_; (repeat (go_big_quiet_step ((first | (go_at_call 65; exact Calls.later_of (l1Num_any r.a _ (by omega) (by omega))) | (go_at_call 66; exact Calls.later_of (l26Many_any r.b _ _ (by omega) (by omega) (by simp [lit_size]))))))); refine wpQuiet_nil ?_; intro w1 hw1; obtain ⟨⟨wl, hbL⟩, hw1'⟩ := hw1; simp only at hw1'; subst hw1'; obtain ⟨hcL, hfL⟩ := bcell hbL); have hz : w.heap.size < w1.heap.size := by (have := hbL.size; (try simp at this); omega))
    go_wp2
    go_ret
    exact ⟨ret_str (by simp only [lineB, line2, line1, if_neg (show ¬ 0 < r.e by omega), if_neg (show ¬ 0 < r.c by omega), ByteArray.append_assoc]), (by repeat (first | exact ext_refl _ | assumption | refine ext_alloc ?_ _ | refine ext_drew ?_ | refine ext_drewN ?_ _ | refine ext_set ?_ (by simp <;> omega) _ | refine ext_trans ?_ (by assumption)))⟩
end Go.Proofs.Ytkgeiemelhkkcaa
