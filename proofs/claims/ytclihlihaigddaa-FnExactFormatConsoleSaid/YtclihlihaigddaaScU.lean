
/- StudentText: the program's, walked. -/
import Derived.Test.YtclihlihaigddaaScT
import Derived.Test.YtclihlihaigddaaScF
import Derived.Test.YtclihlihaigddaaScW
namespace Go.Proofs.Ytclihlihaigddaa
open Go.RowKit
set_option linter.unusedVariables false
set_option linter.unusedSimpArgs false
theorem sch_stu {day pa le : Int} {l : List R5} (h : schB day l pa le = true) {k : Nat} {r : R5} (hr : l[k]? = some r) : stuB r = true := by
  simp only [schB, Bool.and_eq_true] at h
  have h2 := h.2
  rw [okTo, List.all_eq_true] at h2
  have hk := (List.getElem?_eq_some_iff.1 hr).1
  have := h2 k (by simpa using hk)
  rw [okAt, hr] at this
  simp only [Bool.and_eq_true] at this
  exact this.1
set_option maxRecDepth 100000 in
set_option maxHeartbeats 2000000 in
theorem studentText_yes (day pa le id : Int) (A : Option Addr) (n c : Nat) (l : List R5) (w : World) (hn : n ≤ 1048576) (h : Reads w w.heap.size 5 A n (rowsV l)) (hs : schB day l pa le = true) (k : Nat) (r : R5) (hf : findI l id = k) (hr : l[k]? = some r) :
    Calls Try.prog 80 #[schV day A n c pa le, .int .i64 id] w fun e w' => e = .returned (.tuple #[.string (stuT r), .bool true]) ∧ Below w.heap.size w w' := by
  obtain ⟨_, h2, h3, h4, h5⟩ := stu_bounds (sch_stu hs hr)
  have z1 := decI_size r.b
  have z2 := decI_size r.c
  have z3 := decI_size r.d
  have z4 := decI_size r.e
  have hE : Hid (stuT r = ⟨#[103, 114, 97, 100, 101, 32]⟩ ++ decI r.b ++ ⟨#[32, 104, 111, 117, 114, 115, 32]⟩ ++ decI r.c ++ ⟨#[32, 112, 97, 105, 100, 32]⟩ ++ decI r.d ++ ⟨#[32, 102, 97, 105, 108, 115, 32]⟩ ++ decI r.e) := Lib.hid rfl
  rw [hE.out]
  clear hE
  have hA := Lib.hid (fun w h => at_any day pa le id A n c l w hn h)
  have hI := Lib.hid (fun w h => isSchool_any day pa le A n c l w hn h)
  rw [hf] at hA
  rw [hs] at hI
  obtain ⟨b, o, hAd, hb, c0, c1, c2, c3, c4⟩ := rows_at h hr
  subst hAd
  have hkn : (k : Int) < n := by have := (List.getElem?_eq_some_iff.1 hr).1; have := rows_len h; omega
  have H := Lib.hid h
  clear h hs hf hr
  have b1 : -9223372036854775807 ≤ r.b ∧ r.b ≤ 9223372036854775807 := by omega
  have b2 : -9223372036854775807 ≤ r.c ∧ r.c ≤ 9223372036854775807 := by omega
  have b3 : -9223372036854775807 ≤ r.d ∧ r.d ≤ 9223372036854775807 := by omega
  have b4 : -9223372036854775807 ≤ r.e ∧ r.e ≤ 9223372036854775807 := by omega
  go_enter Try.func80, Try.ntmps80
  go_wp2_with fail
  refine (hA.out _ ((H.out.ext (ext_alloc (ext_refl _) _) (Nat.le_refl _)).more (by simp))).mono ?_
  rintro e w1 ⟨rfl, hb1⟩
  obtain ⟨hc1, hf1⟩ := bcell hb1
  have s1 : w.heap.size < w1.heap.size := by have := hb1.size; simp at this; omega
  have hw1 := Lib.hid (ext_trans (ext_alloc (ext_refl w) _) hb1)
  clear hb1
  go_wp2_with fail
  refine (hI.out _ ((H.out.ext hw1.out (Nat.le_refl _)).more (Nat.le_of_lt s1))).mono ?_
  rintro e w2 ⟨rfl, hb2⟩
  obtain ⟨hc2, hf2⟩ := bcell hb2
  have s2 : w.heap.size < w2.heap.size := by have := hb2.size; omega
  have s3 : b < w1.heap.size := by omega
  have s4 : b < w2.heap.size := by omega
  have hne : b ≠ w.heap.size := by omega
  have hw2 := Lib.hid (ext_trans hw1.out hb2)
  clear hb2
  go_wp2
  (refine wp_region_later (by kernel_rfl) (by kernel_rfl) ?_; (repeat (go_big_quiet_step ((go_at_call 87; exact Calls.later_of (text_any _ _ (by omega) (by omega)))))); refine wpQuiet_nil ?_; intro w1 hw1; obtain ⟨⟨wl, hbL⟩, hw1'⟩ := hw1; simp only at hw1'; subst hw1'; obtain ⟨hcL, hfL⟩ := bcell hbL)
  have hw3 := Lib.hid (ext_trans (ext_alloc hw2.out _) hbL)
  clear hcL hfL
  go_wp2
  go_ret2
  exact ⟨rfl, hw3.out⟩
end Go.Proofs.Ytclihlihaigddaa
