/- CrashLog: the program's, walked. -/
import Derived.Test.YtdielldikdmjpaaLgC2
namespace Go.Proofs.Ytdielldikdmjpaa
open Go.RowKit
set_option linter.unusedVariables false
set_option linter.unusedSimpArgs false
set_option maxHeartbeats 1000000 in
theorem implCrash_3 (d p : ByteArray) (z : Int) (K : Nat) (w : World) (hd : d.size ≤ 2000000) (hp : p.size ≤ 2000000) (hle : K ≤ p.size) (hl : logB d p z = true) (hk : decide ((0 : Int) ≤ K ∧ (K : Int) ≤ (p.size : Int)) = true) :
    Calls Try.prog 28 #[logV d p z, .int .i64 K, .bool false] w fun e w' => e = .returned (.tuple #[.string (d ++ p.extract 0 K), .bool true]) ∧ Below w.heap.size w w' := by
  have HV := Lib.hid (fun w => isValidLog_any d p z w hd hp)
  rw [hl] at HV
  have HW := Lib.hid (fun w => within_any K 0 p.size w)
  rw [hk] at HW
  have hz := ext0_size p K hle
  have hzz : (d ++ p.extract 0 K).size = d.size + K := by rw [ByteArray.size_append, hz]
  have kc := fun (w : World) => Lib.run_convert_string_bytes (P := Try.prog) w 9 55 5 (d ++ p.extract 0 K) Try.underlying9 Try.underlying55 Try.underlying5
  have hle' : (K : Int) ≤ p.size := by omega
  have HC := Lib.hid (fun (w : World) (cap : Nat) => bytes_back (Lib.bytesWorld w 5 (d ++ p.extract 0 K)) (dst := 9) Try.underlying55 Try.underlying5 Try.underlying9 w.heap.size (d.size + K) cap (bl (d ++ p.extract 0 K)) (by rw [bl_size, hzz]) (fun j hj => bytes_cell _ _ _ _ (by rw [hzz]; exact hj)))
  simp only [str_bl] at HC
  clear hl hk
  go_enter Try.func28, Try.ntmps28
  go_wp2_with fail
  refine (HV.out _).mono ?_
  rintro e w1 ⟨rfl, hb⟩
  obtain ⟨hc, hf⟩ := bcell hb
  have hzw : w.heap.size < w1.heap.size := by have := hb.size; simp at this; omega
  go_wp2_with (go_at_call 44; refine (HW.out _).mono ?_; rintro e w' ⟨rfl, rfl⟩)
  (refine wp_region_later_tail 7 (by kernel_rfl) (by kernel_rfl) ?_; simp only [List.take_succ_cons, List.take_zero, List.drop_succ_cons, List.drop_zero]; (repeat (go_big_quiet_step (fail))); refine wpQuiet_nil ?_; intro w1 hw1; obtain ⟨⟨wl, hbL⟩, hw1'⟩ := hw1; simp only at hw1'; subst hw1'; obtain ⟨hcL, hfL⟩ := bcell hbL)
  have hzw2 : w.heap.size < w1.heap.size := by have := hbL.size; omega
  have hback := HC.out w1
  have hbB := Lib.hid (ext_trans (ext_trans (ext_trans (ext_alloc (ext_refl w) _) hb) hbL) (below_bytes w1 5 (d ++ p.extract 0 K)))
  go_wp2
  go_ret2
  exact ⟨rfl, hbB.out⟩
set_option maxHeartbeats 1000000 in
theorem implCrash_4 (d p : ByteArray) (z : Int) (K : Nat) (w : World) (hd : d.size ≤ 2000000) (hp : p.size ≤ 2000000) (hle : K ≤ p.size) (hl : logB d p z = true) (hk : decide ((0 : Int) ≤ K ∧ (K : Int) ≤ (p.size : Int)) = true) (h0 : K = 0) :
    Calls Try.prog 28 #[logV d p z, .int .i64 K, .bool true] w fun e w' => e = .returned (.tuple #[.string (d ++ p.extract 0 K), .bool true]) ∧ Below w.heap.size w w' := by
  have HV := Lib.hid (fun w => isValidLog_any d p z w hd hp)
  rw [hl] at HV
  have HW := Lib.hid (fun w => within_any K 0 p.size w)
  rw [hk] at HW
  have hz := ext0_size p K hle
  have hzz : (d ++ p.extract 0 K).size = d.size + K := by rw [ByteArray.size_append, hz]
  have kc := fun (w : World) => Lib.run_convert_string_bytes (P := Try.prog) w 9 55 5 (d ++ p.extract 0 K) Try.underlying9 Try.underlying55 Try.underlying5
  have hle' : (K : Int) ≤ p.size := by omega
  have HC := Lib.hid (fun (w : World) (cap : Nat) => bytes_back (Lib.bytesWorld w 5 (d ++ p.extract 0 K)) (dst := 9) Try.underlying55 Try.underlying5 Try.underlying9 w.heap.size (d.size + K) cap (bl (d ++ p.extract 0 K)) (by rw [bl_size, hzz]) (fun j hj => bytes_cell _ _ _ _ (by rw [hzz]; exact hj)))
  simp only [str_bl] at HC
  have hnk : decide (0 < K) = false := by simp [h0]
  have hnk' : decide ((0 : Int) < (K : Int)) = false := by simp [h0]
  clear hl hk h0
  go_enter Try.func28, Try.ntmps28
  go_wp2_with fail
  refine (HV.out _).mono ?_
  rintro e w1 ⟨rfl, hb⟩
  obtain ⟨hc, hf⟩ := bcell hb
  have hzw : w.heap.size < w1.heap.size := by have := hb.size; simp at this; omega
  go_wp2_with (go_at_call 44; refine (HW.out _).mono ?_; rintro e w' ⟨rfl, rfl⟩)
  (refine wp_region_later_tail 7 (by kernel_rfl) (by kernel_rfl) ?_; simp only [List.take_succ_cons, List.take_zero, List.drop_succ_cons, List.drop_zero]; (repeat (go_big_quiet_step (fail))); refine wpQuiet_nil ?_; intro w1 hw1; obtain ⟨⟨wl, hbL⟩, hw1'⟩ := hw1; simp only at hw1'; subst hw1'; obtain ⟨hcL, hfL⟩ := bcell hbL)
  have hzw2 : w.heap.size < w1.heap.size := by have := hbL.size; omega
  have hback := HC.out w1
  have hbB := Lib.hid (ext_trans (ext_trans (ext_trans (ext_alloc (ext_refl w) _) hb) hbL) (below_bytes w1 5 (d ++ p.extract 0 K)))
  go_wp2
  go_ret2
  exact ⟨rfl, hbB.out⟩
set_option maxHeartbeats 1000000 in
theorem implCrash_5 (d p : ByteArray) (z : Int) (K : Nat) (w : World) (hd : d.size ≤ 2000000) (hp : p.size ≤ 2000000) (hle : K ≤ p.size) (hl : logB d p z = true) (hk : decide ((0 : Int) ≤ K ∧ (K : Int) ≤ (p.size : Int)) = true) (h0 : 0 < K) :
    Calls Try.prog 28 #[logV d p z, .int .i64 K, .bool true] w fun e w' => e = .returned (.tuple #[.string (d ++ str (flipL (bl (p.extract 0 K)))), .bool true]) ∧ Below w.heap.size w w' := by
  have HV := Lib.hid (fun w => isValidLog_any d p z w hd hp)
  rw [hl] at HV
  have HW := Lib.hid (fun w => within_any K 0 p.size w)
  rw [hk] at HW
  have hz := ext0_size p K hle
  have hzz : (d ++ p.extract 0 K).size = d.size + K := by rw [ByteArray.size_append, hz]
  have kc := fun (w : World) => Lib.run_convert_string_bytes (P := Try.prog) w 9 55 5 (d ++ p.extract 0 K) Try.underlying9 Try.underlying55 Try.underlying5
  have hle' : (K : Int) ≤ p.size := by omega
  have HC := Lib.hid (fun (w : World) (cap : Nat) => bytes_back ((Lib.bytesWorld w 5 (d ++ p.extract 0 K)).setCell ⟨w.heap.size, (d.size + K) - 1, none⟩ (.int .u8 (255 - (((bl (d ++ p.extract 0 K)).getD ((d.size + K) - 1) 0).toNat : Int)))) (dst := 9) Try.underlying55 Try.underlying5 Try.underlying9 w.heap.size (d.size + K) cap (flipL (bl (d ++ p.extract 0 K))) (by rw [flipL_len, bl_size, hzz]) (flip_cells (by rw [bl_size, hzz]) (by omega) (fun j hj => bytes_cell _ _ _ _ (by rw [hzz]; exact hj))))
  have HX := Lib.hid (fun (w : World) => bytes_cell w 5 (d ++ p.extract 0 K) ((d.size + K) - 1) (by rw [hzz]; omega))
  have HF := Lib.hid (fun (w : World) => bytes_frozen w 5 (d ++ p.extract 0 K) ((d.size + K) - 1) (by rw [hzz]; omega))
  have hx255 : (((bl (d ++ p.extract 0 K)).getD ((d.size + K) - 1) 0).toNat : Int) ≤ 255 := by have := UInt8.toNat_lt ((bl (d ++ p.extract 0 K)).getD ((d.size + K) - 1) 0); omega
  have hx0 : (0 : Int) ≤ (((bl (d ++ p.extract 0 K)).getD ((d.size + K) - 1) 0).toNat : Int) := by omega
  have hend : Hid (str (flipL (bl (d ++ p.extract 0 K))) = d ++ str (flipL (bl (p.extract 0 K)))) := Lib.hid (by rw [bl_append, flipL_append _ (by rw [bl_size, hz]; exact h0)]; apply bl_inj; rw [bl_str, bl_append, bl_str])
  generalize (((bl (d ++ p.extract 0 K)).getD ((d.size + K) - 1) 0).toNat : Int) = X at HC HX hx255 hx0
  have h1K : (1 : Int) ≤ K := by omega
  have h1K' : (0 : Int) < K := by omega
  have hnk : decide (0 < K) = true := by simp; omega
  have e1 : ((d.size : Int) + (K : Int) - 1).toNat = d.size + K - 1 := by omega
  rw [← hend.out]
  clear hend
  clear hl hk
  go_enter Try.func28, Try.ntmps28
  go_wp2_with fail
  refine (HV.out _).mono ?_
  rintro e w1 ⟨rfl, hb⟩
  obtain ⟨hc, hf⟩ := bcell hb
  have hzw : w.heap.size < w1.heap.size := by have := hb.size; simp at this; omega
  go_wp2_with (go_at_call 44; refine (HW.out _).mono ?_; rintro e w' ⟨rfl, rfl⟩)
  (refine wp_region_later_tail 7 (by kernel_rfl) (by kernel_rfl) ?_; simp only [List.take_succ_cons, List.take_zero, List.drop_succ_cons, List.drop_zero]; (repeat (go_big_quiet_step (fail))); refine wpQuiet_nil ?_; intro w1 hw1; obtain ⟨⟨wl, hbL⟩, hw1'⟩ := hw1; simp only at hw1'; subst hw1'; obtain ⟨hcL, hfL⟩ := bcell hbL)
  have hzw2 : w.heap.size < w1.heap.size := by have := hbL.size; omega
  have hback := HC.out w1
  have hbB := Lib.hid (ext_trans (ext_trans (ext_trans (ext_alloc (ext_refl w) _) hb) hbL) (below_bytes w1 5 (d ++ p.extract 0 K)))
  have hX := HX.out w1
  have hF := HF.out w1
  go_wp2
  go_ret2
  exact ⟨rfl, ext_set hbB.out (by simp <;> omega) _⟩
theorem implCrash_any (d p : ByteArray) (z k : Int) (torn : Bool) (w : World) (hd : d.size ≤ 2000000) (hp : p.size ≤ 2000000) :
    Calls Try.prog 28 #[logV d p z, .int .i64 k, .bool torn] w fun e w' => e = .returned (.tuple #[.string (crashB d p z k torn), .bool (crashOk d p z k)]) ∧ Below w.heap.size w w' := by
  have HV := Lib.hid (fun w => isValidLog_any d p z w hd hp)
  refine crash_cases d p z k torn (fun s b => Calls Try.prog 28 #[logV d p z, .int .i64 k, .bool torn] w fun e w' => e = .returned (.tuple #[.string s, .bool b]) ∧ Below w.heap.size w w') ?_ ?_ ?_ ?_ ?_
  · intro hl
    rw [hl] at HV
    clear hl
    go_enter Try.func28, Try.ntmps28
    go_wp2_with (go_at_call 26; refine (HV.out _).mono ?_; rintro e w' ⟨rfl, hb⟩; obtain ⟨hc, hf⟩ := bcell hb; have hz : w.heap.size < w'.heap.size := by (have := hb.size; (try simp at this); omega))
    go_ret2
    exact ⟨rfl, (by repeat (first | exact ext_refl _ | assumption | refine ext_alloc ?_ _ | refine ext_drew ?_ | refine ext_drewN ?_ _ | refine ext_set ?_ (by simp <;> omega) _ | refine ext_trans ?_ (by assumption)))⟩
  · intro hl hk
    rw [hl] at HV
    have HW := Lib.hid (fun w => within_any k 0 p.size w)
    rw [hk] at HW
    clear hl hk
    go_enter Try.func28, Try.ntmps28
    go_wp2_with (first | (go_at_call 26; refine (HV.out _).mono ?_; rintro e w' ⟨rfl, hb⟩; obtain ⟨hc, hf⟩ := bcell hb; have hz : w.heap.size < w'.heap.size := by (have := hb.size; (try simp at this); omega)) | (go_at_call 44; refine (HW.out _).mono ?_; rintro e w' ⟨rfl, rfl⟩))
    go_ret2
    exact ⟨rfl, (by repeat (first | exact ext_refl _ | assumption | refine ext_alloc ?_ _ | refine ext_drew ?_ | refine ext_drewN ?_ _ | refine ext_set ?_ (by simp <;> omega) _ | refine ext_trans ?_ (by assumption)))⟩
  · intro K hK hl hk hle ht
    subst hK ht
    exact implCrash_3 d p z K w hd hp hle hl hk
  · intro K hK hl hk hle ht h0
    subst hK ht
    exact implCrash_4 d p z K w hd hp hle hl hk h0
  · intro K hK hl hk hle ht h0
    subst hK ht
    exact implCrash_5 d p z K w hd hp hle hl hk h0

end Go.Proofs.Ytdielldikdmjpaa
