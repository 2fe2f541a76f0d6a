/- CrashLog: program and reference, walked. -/
import Derived.Test.YtdielldikdmjpaaLgC
namespace Go.Proofs.Ytdielldikdmjpaa
open Go.RowKit
set_option linter.unusedVariables false
set_option linter.unusedSimpArgs false
theorem ext0_size (p : ByteArray) (K : Nat) (h : K ≤ p.size) : (p.extract 0 K).size = K := by rw [extract_size _ _ _ h]; omega
theorem crash_cases (d p : ByteArray) (z k : Int) (torn : Bool) (P : ByteArray → Bool → Prop) (h1 : logB d p z = false → P ⟨#[]⟩ false) (h2 : logB d p z = true → decide (0 ≤ k ∧ k ≤ (p.size : Int)) = false → P ⟨#[]⟩ false)
    (h3 : ∀ K : Nat, k = K → logB d p z = true → decide ((0 : Int) ≤ K ∧ (K : Int) ≤ (p.size : Int)) = true → K ≤ p.size → torn = false → P (d ++ p.extract 0 K) true)
    (h4 : ∀ K : Nat, k = K → logB d p z = true → decide ((0 : Int) ≤ K ∧ (K : Int) ≤ (p.size : Int)) = true → K ≤ p.size → torn = true → K = 0 → P (d ++ p.extract 0 K) true)
    (h5 : ∀ K : Nat, k = K → logB d p z = true → decide ((0 : Int) ≤ K ∧ (K : Int) ≤ (p.size : Int)) = true → K ≤ p.size → torn = true → 0 < K → P (d ++ str (flipL (bl (p.extract 0 K)))) true) : P (crashB d p z k torn) (crashOk d p z k) := by
  rcases hl : logB d p z with _ | _
  · simpa [crashB, crashOk, hl] using h1 hl
  · rcases hk : decide (0 ≤ k ∧ k ≤ (p.size : Int)) with _ | _
    · have h : crashOk d p z k = false := by rw [crashOk, hl, hk]; rfl
      rw [crashB, h]
      exact h2 hl hk
    · have h : crashOk d p z k = true := by rw [crashOk, hl, hk]; rfl
      rw [crashB, h, if_pos rfl]
      simp only [decide_eq_true_eq] at hk
      obtain ⟨K, rfl⟩ := Int.eq_ofNat_of_zero_le hk.1
      have hk' : decide ((0 : Int) ≤ K ∧ (K : Int) ≤ (p.size : Int)) = true := by simpa using hk
      rw [Int.toNat_natCast]
      cases torn
      · rw [crashT, if_neg (by simp)]; exact h3 K rfl hl hk' (by omega) rfl
      · by_cases h0 : 0 < K
        · rw [crashT, if_pos ⟨rfl, h0⟩]; exact h5 K rfl hl hk' (by omega) rfl h0
        · rw [crashT, if_neg (by simp [h0])]; exact h4 K rfl hl hk' (by omega) rfl (by omega)
theorem ret_str2 {a b : ByteArray} {v : Value} (h : a = b) : Ending.returned (.tuple #[.string a, v]) = .returned (.tuple #[.string b, v]) := by rw [h]
set_option maxHeartbeats 1000000 in
theorem specCrash_3 (d p : ByteArray) (z : Int) (K : Nat) (w : World) (hd : d.size ≤ 2000000) (hp : p.size ≤ 2000000) (hle : K ≤ p.size) (hl : logB d p z = true) (hk : decide ((0 : Int) ≤ K ∧ (K : Int) ≤ (p.size : Int)) = true) :
    Calls Try.prog 27 #[logV d p z, .int .i64 K, .bool false] w fun e w' => e = .returned (.tuple #[.string (d ++ p.extract 0 K), .bool true]) ∧ Below w.heap.size w w' := by
  have HV := Lib.hid (fun w => l27Log_small d p z w hd hp)
  rw [hl] at HV
  have HW := Lib.hid (fun w => l1In_any K 0 p.size w)
  rw [hk] at HW
  have hz := ext0_size p K hle
  have hzz := hz
  have kc := fun (w : World) => Lib.run_convert_string_bytes (P := Try.prog) w 9 55 5 (p.extract 0 K) Try.underlying9 Try.underlying55 Try.underlying5
  have hle' : (K : Int) ≤ p.size := by omega
  have HC := Lib.hid (fun (w : World) (cap : Nat) => bytes_back (Lib.bytesWorld w 5 (p.extract 0 K)) (dst := 9) Try.underlying55 Try.underlying5 Try.underlying9 w.heap.size K cap (bl (p.extract 0 K)) (by rw [bl_size, hzz]) (fun j hj => bytes_cell _ _ _ _ (by rw [hzz]; exact hj)))
  simp only [str_bl] at HC
  clear hl hk
  go_enter Try.func27, Try.ntmps27
  go_wp2_with fail
  refine (HV.out _).mono ?_
  rintro e w1 ⟨rfl, hb⟩
  obtain ⟨hc, hf⟩ := bcell hb
  have hzw : w.heap.size < w1.heap.size := by have := hb.size; simp at this; omega
  have hback := HC.out w1
  obtain ⟨hcB, hfB⟩ := bcell (below_bytes w1 5 (p.extract 0 K))
  have hbB := Lib.hid (ext_trans (ext_trans (ext_alloc (ext_refl w) _) hb) (below_bytes w1 5 (p.extract 0 K)))
  go_wp2_with (go_at_call 47; refine (HW.out _).mono ?_; rintro e w' ⟨rfl, rfl⟩)
  go_ret2
  exact ⟨rfl, hbB.out⟩
set_option maxHeartbeats 1000000 in
theorem specCrash_4 (d p : ByteArray) (z : Int) (K : Nat) (w : World) (hd : d.size ≤ 2000000) (hp : p.size ≤ 2000000) (hle : K ≤ p.size) (hl : logB d p z = true) (hk : decide ((0 : Int) ≤ K ∧ (K : Int) ≤ (p.size : Int)) = true) (h0 : K = 0) :
    Calls Try.prog 27 #[logV d p z, .int .i64 K, .bool true] w fun e w' => e = .returned (.tuple #[.string (d ++ p.extract 0 K), .bool true]) ∧ Below w.heap.size w w' := by
  have HV := Lib.hid (fun w => l27Log_small d p z w hd hp)
  rw [hl] at HV
  have HW := Lib.hid (fun w => l1In_any K 0 p.size w)
  rw [hk] at HW
  have hz := ext0_size p K hle
  have hzz := hz
  have kc := fun (w : World) => Lib.run_convert_string_bytes (P := Try.prog) w 9 55 5 (p.extract 0 K) Try.underlying9 Try.underlying55 Try.underlying5
  have hle' : (K : Int) ≤ p.size := by omega
  have HC := Lib.hid (fun (w : World) (cap : Nat) => bytes_back (Lib.bytesWorld w 5 (p.extract 0 K)) (dst := 9) Try.underlying55 Try.underlying5 Try.underlying9 w.heap.size K cap (bl (p.extract 0 K)) (by rw [bl_size, hzz]) (fun j hj => bytes_cell _ _ _ _ (by rw [hzz]; exact hj)))
  simp only [str_bl] at HC
  have hnk : decide (0 < K) = false := by simp [h0]
  have hnk' : decide ((0 : Int) < (K : Int)) = false := by simp [h0]
  clear hl hk h0
  go_enter Try.func27, Try.ntmps27
  go_wp2_with fail
  refine (HV.out _).mono ?_
  rintro e w1 ⟨rfl, hb⟩
  obtain ⟨hc, hf⟩ := bcell hb
  have hzw : w.heap.size < w1.heap.size := by have := hb.size; simp at this; omega
  have hback := HC.out w1
  obtain ⟨hcB, hfB⟩ := bcell (below_bytes w1 5 (p.extract 0 K))
  have hbB := Lib.hid (ext_trans (ext_trans (ext_alloc (ext_refl w) _) hb) (below_bytes w1 5 (p.extract 0 K)))
  go_wp2_with (go_at_call 47; refine (HW.out _).mono ?_; rintro e w' ⟨rfl, rfl⟩)
  go_ret2
  exact ⟨rfl, hbB.out⟩
set_option maxHeartbeats 1000000 in
theorem specCrash_5 (d p : ByteArray) (z : Int) (K : Nat) (w : World) (hd : d.size ≤ 2000000) (hp : p.size ≤ 2000000) (hle : K ≤ p.size) (hl : logB d p z = true) (hk : decide ((0 : Int) ≤ K ∧ (K : Int) ≤ (p.size : Int)) = true) (h0 : 0 < K) :
    Calls Try.prog 27 #[logV d p z, .int .i64 K, .bool true] w fun e w' => e = .returned (.tuple #[.string (d ++ str (flipL (bl (p.extract 0 K)))), .bool true]) ∧ Below w.heap.size w w' := by
  have HV := Lib.hid (fun w => l27Log_small d p z w hd hp)
  rw [hl] at HV
  have HW := Lib.hid (fun w => l1In_any K 0 p.size w)
  rw [hk] at HW
  have hz := ext0_size p K hle
  have hzz := hz
  have kc := fun (w : World) => Lib.run_convert_string_bytes (P := Try.prog) w 9 55 5 (p.extract 0 K) Try.underlying9 Try.underlying55 Try.underlying5
  have hle' : (K : Int) ≤ p.size := by omega
  have HC := Lib.hid (fun (w : World) (cap : Nat) => bytes_back ((Lib.bytesWorld w 5 (p.extract 0 K)).setCell ⟨w.heap.size, K - 1, none⟩ (.int .u8 (255 - (((bl (p.extract 0 K)).getD (K - 1) 0).toNat : Int)))) (dst := 9) Try.underlying55 Try.underlying5 Try.underlying9 w.heap.size K cap (flipL (bl (p.extract 0 K))) (by rw [flipL_len, bl_size, hzz]) (flip_cells (by rw [bl_size, hzz]) (by omega) (fun j hj => bytes_cell _ _ _ _ (by rw [hzz]; exact hj))))
  have HX := Lib.hid (fun (w : World) => bytes_cell w 5 (p.extract 0 K) (K - 1) (by rw [hzz]; omega))
  have HF := Lib.hid (fun (w : World) => bytes_frozen w 5 (p.extract 0 K) (K - 1) (by rw [hzz]; omega))
  have hx255 : (((bl (p.extract 0 K)).getD (K - 1) 0).toNat : Int) ≤ 255 := by have := UInt8.toNat_lt ((bl (p.extract 0 K)).getD (K - 1) 0); omega
  have hx0 : (0 : Int) ≤ (((bl (p.extract 0 K)).getD (K - 1) 0).toNat : Int) := by omega
  have hend : Hid (d ++ str (flipL (bl (p.extract 0 K))) = d ++ str (flipL (bl (p.extract 0 K)))) := Lib.hid (by rfl)
  have hfz : (str (flipL (bl (p.extract 0 K)))).size = K := by rw [← bl_size, bl_str, flipL_len, bl_size, hz]
  generalize (((bl (p.extract 0 K)).getD (K - 1) 0).toNat : Int) = X at HC HX hx255 hx0
  have h1K : (1 : Int) ≤ K := by omega
  have h1K' : (0 : Int) < K := by omega
  have hnk : decide (0 < K) = true := by simp; omega
  rw [← hend.out]
  clear hend
  clear hl hk
  go_enter Try.func27, Try.ntmps27
  go_wp2_with fail
  refine (HV.out _).mono ?_
  rintro e w1 ⟨rfl, hb⟩
  obtain ⟨hc, hf⟩ := bcell hb
  have hzw : w.heap.size < w1.heap.size := by have := hb.size; simp at this; omega
  have hback := HC.out w1
  obtain ⟨hcB, hfB⟩ := bcell (below_bytes w1 5 (p.extract 0 K))
  have hbB := Lib.hid (ext_trans (ext_trans (ext_alloc (ext_refl w) _) hb) (below_bytes w1 5 (p.extract 0 K)))
  have hX := HX.out w1
  have hF := HF.out w1
  go_wp2_with (go_at_call 47; refine (HW.out _).mono ?_; rintro e w' ⟨rfl, rfl⟩)
  go_ret2
  exact ⟨rfl, ext_set hbB.out (by simp <;> omega) _⟩
theorem specCrash_any (d p : ByteArray) (z k : Int) (torn : Bool) (w : World) (hd : d.size ≤ 2000000) (hp : p.size ≤ 2000000) :
    Calls Try.prog 27 #[logV d p z, .int .i64 k, .bool torn] w fun e w' => e = .returned (.tuple #[.string (crashB d p z k torn), .bool (crashOk d p z k)]) ∧ Below w.heap.size w w' := by
  have HV := Lib.hid (fun w => l27Log_small d p z w hd hp)
  refine crash_cases d p z k torn (fun s b => Calls Try.prog 27 #[logV d p z, .int .i64 k, .bool torn] w fun e w' => e = .returned (.tuple #[.string s, .bool b]) ∧ Below w.heap.size w w') ?_ ?_ ?_ ?_ ?_
  · intro hl
    rw [hl] at HV
    clear hl
    go_enter Try.func27, Try.ntmps27
    go_wp2_with (go_at_call 53; refine (HV.out _).mono ?_; rintro e w' ⟨rfl, hb⟩; obtain ⟨hc, hf⟩ := bcell hb; have hz : w.heap.size < w'.heap.size := by (have := hb.size; (try simp at this); omega))
    go_ret2
    exact ⟨rfl, (by repeat (first | exact ext_refl _ | assumption | refine ext_alloc ?_ _ | refine ext_drew ?_ | refine ext_drewN ?_ _ | refine ext_set ?_ (by simp <;> omega) _ | refine ext_trans ?_ (by assumption)))⟩
  · intro hl hk
    rw [hl] at HV
    have HW := Lib.hid (fun w => l1In_any k 0 p.size w)
    rw [hk] at HW
    clear hl hk
    go_enter Try.func27, Try.ntmps27
    go_wp2_with (first | (go_at_call 53; refine (HV.out _).mono ?_; rintro e w' ⟨rfl, hb⟩; obtain ⟨hc, hf⟩ := bcell hb; have hz : w.heap.size < w'.heap.size := by (have := hb.size; (try simp at this); omega)) | (go_at_call 47; refine (HW.out _).mono ?_; rintro e w' ⟨rfl, rfl⟩))
    go_ret2
    exact ⟨rfl, (by repeat (first | exact ext_refl _ | assumption | refine ext_alloc ?_ _ | refine ext_drew ?_ | refine ext_drewN ?_ _ | refine ext_set ?_ (by simp <;> omega) _ | refine ext_trans ?_ (by assumption)))⟩
  · intro K hK hl hk hle ht
    subst hK ht
    exact specCrash_3 d p z K w hd hp hle hl hk
  · intro K hK hl hk hle ht h0
    subst hK ht
    exact specCrash_4 d p z K w hd hp hle hl hk h0
  · intro K hK hl hk hle ht h0
    subst hK ht
    exact specCrash_5 d p z K w hd hp hle hl hk h0

end Go.Proofs.Ytdielldikdmjpaa
