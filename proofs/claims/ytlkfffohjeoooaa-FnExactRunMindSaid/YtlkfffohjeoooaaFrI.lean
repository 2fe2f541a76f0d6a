
/- Frames: the reference's functions that only look at them. -/
import Derived.Test.YtlkfffohjeoooaaFrE
namespace Go.Proofs.Ytlkfffohjeoooaa
open Go.RowKit
set_option linter.unusedVariables false
set_option linter.unusedSimpArgs false
/-- the box of a frame, behind it only more -/
theorem box_frame {w wr : World} {u lo : Int} {A : Option Addr} {n c : Nat} (hb : Below (w.heap.size + 1) (w.alloc (.cells #[.int .i64 u, .int .i64 lo, .slice A n c] 29)) wr) :
    Blk wr w.heap.size 29 #[.int .i64 u, .int .i64 lo, .slice A n c] ∧ Below w.heap.size w wr ∧ w.heap.size < wr.heap.size := by
  have hs := hb.size
  simp at hs
  exact ⟨(Blk.born w _ _ rfl).below hb (by omega), ((ext_refl w).alloc (Nat.le_refl _) _).trans (hb.mono (Nat.le_succ _)), by omega⟩
theorem l1In_b (n lo hi : Int) (b : Bool) (w : World) (hb : inB n lo hi = b) :
    Calls Try.prog 121 #[.int .i64 n, .int .i64 lo, .int .i64 hi] w fun e w' => e = .returned (.bool b) ∧ Below w.heap.size w w' := by
  subst hb
  exact (inB_l1In n lo hi w).mono fun e w' ⟨h, hw⟩ => ⟨h, by rw [← hw]; exact ext_refl _⟩
set_option maxRecDepth 100000 in
set_option maxHeartbeats 1000000 in
theorem l2Good_any (u lo : Int) (A : Option Addr) (n c : Nat) (l : List R2) (w : World) (hn : n ≤ 1048576) (h : Reads w w.heap.size 2 A n (rowsV2 l)) :
    Calls Try.prog 171 #[frV u lo A n c] w (RetV (.bool (frB u lo l)) w) := by
  have hl := rows_len2 h
  have H := Lib.hid h
  have HL := Lib.hid hl
  clear h hl
  have E : Hid (frB u lo l = (inB u 1 2 && inB lo 4 5 && inB n 1 8 && l.all (rodB u lo))) := Lib.hid (by rw [← HL.out]; rfl)
  go_enter Try.func171, Try.ntmps171
  go_wp2
  go_loopw [3] (fun i wr => ∃ k : Nat, k ≤ n ∧ i = .int .i64 k ∧ Hid (Below (w.heap.size + 1) (w.alloc (.cells #[.int .i64 u, .int .i64 lo, .slice A n c] 29)) wr) ∧ Hid ((l.take k).all (rodB u lo) = true)) (fun i _ => n - (intOf i).toNat)
  case atStart => exact ⟨0, Nat.zero_le _, rfl, Lib.hid (Below.refl _ _), Lib.hid rfl⟩
  case round =>
    obtain ⟨k, hk, rfl, hbl, hok⟩ := hrel
    obtain ⟨BF, hb0, hs0⟩ := box_frame hbl.out
    have hb0 := Lib.hid hb0
    obtain ⟨d0, d1, d2⟩ := BF.q3
    clear BF
    by_cases hlt : k < n
    · obtain ⟨r, hr⟩ := list_split (l := l) (k := k) (by rw [HL.out]; exact hlt)
      obtain ⟨b, o, rfl, hb, c0, c1⟩ := rows_at2 (rdx H.out hb0.out) hr
      cases ha : inB r.a 0 u
      · have hbad := Lib.hid (all_bad (p := rodB u lo) hr (by simp [rodB, ha]))
        clear hr
        go_wp2
        (refine wp_region_later (by kernel_rfl) (by kernel_rfl) ?_; (repeat (go_big_quiet_step (first | (go_at_call 121; with_reducible exact Calls.later_of (l1In_b _ _ _ _ _ ha))))); refine wpQuiet_nil ?_; intro w1 hw1; obtain ⟨⟨wl, hbL⟩, hw1'⟩ := hw1; simp only at hw1'; subst hw1'; obtain ⟨hcL, hfL⟩ := bcell hbL)
        have hb3 := Lib.hid (ext_trans hb0.out hbL)
        clear hbL hcL hfL
        go_wp2
        go_ret
        exact ⟨ret_bool (by rw [E.out, hbad.out]; simp), hb3.out⟩
      cases hb2 : inB r.b 0 lo
      · have hbad := Lib.hid (all_bad (p := rodB u lo) hr (by simp [rodB, ha, hb2]))
        clear hr
        go_wp2
        (refine wp_region_later (by kernel_rfl) (by kernel_rfl) ?_; (repeat (go_big_quiet_step (first | (go_at_call 121; with_reducible exact Calls.later_of (l1In_b _ _ _ _ _ ha)) | (go_at_call 121; with_reducible exact Calls.later_of (l1In_b _ _ _ _ _ hb2))))); refine wpQuiet_nil ?_; intro w1 hw1; obtain ⟨⟨wl, hbL⟩, hw1'⟩ := hw1; simp only at hw1'; subst hw1'; obtain ⟨hcL, hfL⟩ := bcell hbL)
        have hb3 := Lib.hid (ext_trans hb0.out hbL)
        clear hbL hcL hfL
        go_wp2
        go_ret
        exact ⟨ret_bool (by rw [E.out, hbad.out]; simp), hb3.out⟩
      have hgood := Lib.hid (all_snoc hok.out hr (by simp [rodB, ha, hb2]))
      clear hr
      go_wp2
      (refine wp_region_later (by kernel_rfl) (by kernel_rfl) ?_; (repeat (go_big_quiet_step (first | (go_at_call 121; with_reducible exact Calls.later_of (l1In_b _ _ _ _ _ ha)) | (go_at_call 121; with_reducible exact Calls.later_of (l1In_b _ _ _ _ _ hb2))))); refine wpQuiet_nil ?_; intro w1 hw1; obtain ⟨⟨wl, hbL⟩, hw1'⟩ := hw1; simp only at hw1'; subst hw1'; obtain ⟨hcL, hfL⟩ := bcell hbL)
      go_wp2
      go_roundw
      case rel => exact ⟨k + 1, by omega, by go_num, Lib.hid (hbl.out.trans (hbL.mono hs0)), hgood⟩
      case measure => simp [intOf]; omega
    · obtain rfl : k = n := by omega
      have hall := Lib.hid (all_whole hok.out (by rw [HL.out]; exact Nat.le_refl _))
      cases h1 : inB u 1 2
      · go_wp2_with (go_at_call 121; refine (inB_l1In _ _ _ _).mono ?_; rintro e w' ⟨rfl, rfl⟩)
        go_ret
        exact ⟨ret_bool (by rw [E.out, h1]; rfl), hb0.out⟩
      cases h2 : inB lo 4 5
      · go_wp2_with (go_at_call 121; refine (inB_l1In _ _ _ _).mono ?_; rintro e w' ⟨rfl, rfl⟩)
        go_ret
        exact ⟨ret_bool (by rw [E.out, h1, h2]; rfl), hb0.out⟩
      cases h3 : inB (k : Int) 1 8
      · go_wp2_with (go_at_call 121; refine (inB_l1In _ _ _ _).mono ?_; rintro e w' ⟨rfl, rfl⟩)
        go_ret
        exact ⟨ret_bool (by rw [E.out, h1, h2, h3]; rfl), hb0.out⟩
      go_wp2_with (go_at_call 121; refine (inB_l1In _ _ _ _).mono ?_; rintro e w' ⟨rfl, rfl⟩)
      go_ret
      exact ⟨ret_bool (by rw [E.out, h1, h2, h3, hall.out]; rfl), hb0.out⟩
theorem l2Value_any (r : R2) (w : World) (h : Sm r) :
    Calls Try.prog 143 #[r.val] w fun e w' => e = .returned (.int .i64 (dv r)) ∧ Below w.heap.size w w' := by
  obtain ⟨⟨h1, h2⟩, h3, h4⟩ := h
  go_enter Try.func143, Try.ntmps143
  go_wp2
  go_ret
  exact ⟨rfl, (by repeat (first | exact ext_refl _ | assumption | refine ext_alloc ?_ _ | refine ext_drew ?_ | refine ext_drewN ?_ _ | refine ext_set ?_ (by simp <;> omega) _ | refine ext_trans ?_ (by assumption)))⟩
theorem frB_Sm {u lo : Int} {l : List R2} (h : frB u lo l = true) {k : Nat} {r : R2} (hr : l[k]? = some r) : Sm r := by
  have h1 := frB_rod h hr
  have h2 := frB_head h
  unfold Sm
  omega
set_option maxHeartbeats 1000000 in
theorem l2Number_any (u lo : Int) (A : Option Addr) (n c : Nat) (l : List R2) (w : World) (hf : frB u lo l = true) (h : Reads w w.heap.size 2 A n (rowsV2 l)) :
    Calls Try.prog 144 #[frV u lo A n c] w fun e w' => e = .returned (.int .i64 (numR l)) ∧ Below w.heap.size w w' := by
  have hl := rows_len2 h
  obtain ⟨hu, hlo, hn1, hn8⟩ := frB_head hf
  rw [hl] at hn1 hn8
  have HF := Lib.hid hf
  have H := Lib.hid h
  have HL := Lib.hid hl
  clear h hl hf
  go_enter Try.func144, Try.ntmps144
  go_wp2
  go_loopw [3, 4] (fun s i wr => ∃ k : Nat, k ≤ n ∧ i = .int .i64 k ∧ s = .int .i64 (numR (l.take k)) ∧ Hid (Below (w.heap.size + 1) (w.alloc (.cells #[.int .i64 u, .int .i64 lo, .slice A n c] 29)) wr)) (fun _ i _ => n - (intOf i).toNat)
  case atStart => exact ⟨0, Nat.zero_le _, rfl, rfl, Lib.hid (Below.refl _ _)⟩
  case round =>
    obtain ⟨k, hk, rfl, rfl, hbl⟩ := hrel
    obtain ⟨BF, hb0, hs0⟩ := box_frame hbl.out
    have hb0 := Lib.hid hb0
    obtain ⟨d0, d1, d2⟩ := BF.q3
    clear BF
    obtain ⟨m0, m1⟩ := numR_bounds HF.out k
    by_cases hlt : k < n
    · obtain ⟨r, hr⟩ := list_split (l := l) (k := k) (by rw [HL.out]; exact hlt)
      obtain ⟨b, o, rfl, hb, c0, c1⟩ := rows_at2 (rdx H.out hb0.out) hr
      have hsm := frB_Sm HF.out hr
      obtain ⟨r1, r2, r3, r4⟩ := frB_rod HF.out hr
      have hnew := Lib.hid (numR_take hr)
      have hv0 : 0 ≤ dv r := by unfold dv; omega
      have hv1 : dv r ≤ 1000 := by unfold dv; omega
      have hdv := Lib.hid (show dv r = 5 * r.a + r.b from rfl)
      clear hr
      generalize numR (l.take k) = M at *
      go_wp2_with fail
      refine (l2Value_any r _ hsm).mono ?_
      rintro e w1 ⟨rfl, hb1⟩
      go_wp2
      go_roundw
      case rel => exact ⟨k + 1, by omega, by go_num, by rw [hnew.out, ← hdv.out], Lib.hid (hbl.out.trans (hb1.mono hs0))⟩
      case measure => simp [intOf]; omega
    · obtain rfl : k = n := by omega
      have hall := Lib.hid (numR_all l k (by rw [HL.out]; exact Nat.le_refl _))
      go_wp2
      go_ret
      exact ⟨ret_int (by rw [hall.out]), hb0.out⟩
theorem goodB_comm (u lo : Int) (l : List R2) : goodB u lo l = (stdB l && frB u lo l) := by unfold goodB; exact Bool.and_comm _ _
set_option maxHeartbeats 1000000 in
theorem l2Standard_any (u lo : Int) (A : Option Addr) (n c : Nat) (l : List R2) (w : World) (hn : n ≤ 1048576) (h : Reads w w.heap.size 2 A n (rowsV2 l)) :
    Calls Try.prog 138 #[frV u lo A n c] w (RetV (.bool (goodB u lo l)) w) := by
  have hl := rows_len2 h
  have H := Lib.hid h
  have HL := Lib.hid hl
  clear h hl
  go_enter Try.func138, Try.ntmps138
  go_wp2
  go_loopw [3] (fun i wr => ∃ k : Nat, k ≤ n ∧ i = .int .i64 k ∧ Hid (Below (w.heap.size + 1) (w.alloc (.cells #[.int .i64 u, .int .i64 lo, .slice A n c] 29)) wr) ∧ Hid ((l.take k).all stdR = true)) (fun i _ => n - (intOf i).toNat)
  case atStart => exact ⟨0, Nat.zero_le _, rfl, Lib.hid (Below.refl _ _), Lib.hid rfl⟩
  case round =>
    obtain ⟨k, hk, rfl, hbl, hok⟩ := hrel
    obtain ⟨BF, hb0, hs0⟩ := box_frame hbl.out
    have hb0 := Lib.hid hb0
    obtain ⟨d0, d1, d2⟩ := BF.q3
    clear BF
    by_cases hlt : k < n
    · obtain ⟨r, hr⟩ := list_split (l := l) (k := k) (by rw [HL.out]; exact hlt)
      obtain ⟨b, o, rfl, hb, c0, c1⟩ := rows_at2 (rdx H.out hb0.out) hr
      by_cases hgd : r.a ≤ 1 ∧ r.b ≤ 4
      · have hgood := Lib.hid (all_snoc hok.out hr (std_good hgd.1 hgd.2))
        obtain ⟨g1, g2⟩ := hgd
        clear hr
        go_wp2
        go_roundw
        case rel => exact ⟨k + 1, by omega, by go_num, hbl, hgood⟩
        case measure => simp [intOf]; omega
      · have hbad := Lib.hid (all_bad hr (std_bad hgd))
        clear hr
        go_wp2
        all_goals first
          | (go_ret; exact ⟨ret_bool (by rw [goodB_comm]; unfold stdB; rw [hbad.out]; rfl), hb0.out⟩)
          | (exfalso; omega)
    · obtain rfl : k = n := by omega
      have hall := Lib.hid (show goodB u lo l = frB u lo l by rw [goodB_comm]; unfold stdB; rw [all_whole hok.out (by rw [HL.out]; exact Nat.le_refl _)]; rfl)
      go_wp2_with fail
      refine (l2Good_any u lo A k c l _ hn (rdx H.out hb0.out)).mono ?_
      rw [← hall.out]
      rintro e w1 ⟨rfl, hb1⟩
      go_wp2
      go_ret
      exact ⟨rfl, ext_trans hb0.out hb1⟩
theorem l2Power_any (z : Int) (n : Nat) (w : World) (hz : z = n) (hn : n ≤ 8) :
    Calls Try.prog 182 #[.int .i64 z] w fun e w' => e = .returned (.int .i64 (pw n)) ∧ w = w' := by
  subst hz
  go_enter Try.func182, Try.ntmps182
  go_wp2
  go_loop [3, 4] (fun p i => ∃ k : Nat, k ≤ n ∧ i = .int .i64 (k : Int) ∧ p = .int .i64 (pw k)) (fun _ i => n - (intOf i).toNat)
  case atStart => exact ⟨0, Nat.zero_le _, rfl, rfl⟩
  case round =>
    obtain ⟨k, hk, rfl, rfl⟩ := hrel
    have hp0 := pw_pos k
    have hp1 := pw_lt (n := k) (by omega)
    have hs := Lib.hid (pw_succ k)
    by_cases hlt : k < n
    · generalize pw k = P at *
      go_wp2
      go_round
      case rel => exact ⟨k + 1, by omega, by go_num, by rw [hs.out]⟩
      case measure => simp [intOf]; omega
    · obtain rfl : k = n := by omega
      go_wp2
      go_ret
      exact ⟨rfl, rfl⟩
theorem l2Digit_any (d : Int) (w : World) (h0 : 0 ≤ d) (h1 : d ≤ 1000) :
    Calls Try.prog 160 #[.int .i64 d] w fun e w' => e = .returned (rodD d).val ∧ Below w.heap.size w w' := by
  go_enter Try.func160, Try.ntmps160
  go_wp2
  refine bodyPost_ret (v := .agg #[.int .i64 (d / 5), .int .i64 (d % 5)]) (by simp [results, Try.results160, go_sem]) rfl ⟨rfl, (by repeat (first | exact ext_refl _ | assumption | refine ext_alloc ?_ _ | refine ext_drew ?_ | refine ext_drewN ?_ _ | refine ext_set ?_ (by simp <;> omega) _ | refine ext_trans ?_ (by assumption)))⟩
end Go.Proofs.Ytlkfffohjeoooaa
