/- ChangeOf: the program's. -/
import Derived.Test.YtkpfelfgpjodiaaVMvA
import Derived.Test.YtkpfelfgpjodiaaVM4
namespace Go.Proofs.Ytkpfelfgpjodiaa
open Go.RowKit
set_option linter.unusedVariables false
set_option linter.unusedSimpArgs false
/-- what a move changes -/
def chW (r : Nat) (m : R3) : Int := m.c * pw (r - (m.a.toNat + 1)) * (if m.b = 0 then 5 else 1)
def chg (r : Nat) (ms : List R3) : Int := ms.foldl (fun s m => s + chW r m) 0
def chB (ms : List R3) (z : Int) : Bool := mvsB ms && inB z 1 8 && ms.all (fun m => decide (m.a < z))
def chV (ms : List R3) (z : Int) : Int := if chB ms z = true then chg z.toNat ms else 0
theorem chg_take {r : Nat} {ms : List R3} {k : Nat} {m : R3} (h : ms[k]? = some m) : chg r (ms.take (k + 1)) = chg r (ms.take k) + chW r m := by
 unfold chg
 rw [List.take_add_one, h]
 simp
theorem mul_five {c P : Int} (hc : -5 ≤ c ∧ c ≤ 5) (h0 : 1 ≤ P) (h1 : P ≤ 100000000) : -500000000 ≤ c * P ∧ c * P ≤ 500000000 := by
 have e1 := Int.mul_le_mul_of_nonneg_right hc.2 (show 0 ≤ P by omega)
 have e2 := Int.mul_le_mul_of_nonneg_right hc.1 (show 0 ≤ P by omega)
 omega
theorem chW_bound {r : Nat} {m : R3} (hr : r ≤ 8) (hm : okM m = true) : -2500000000 ≤ chW r m ∧ chW r m ≤ 2500000000 := by
 have h := mul_five (okM_iff.1 hm).2.2.1 (pw_pos (r - (m.a.toNat + 1))) (pw_lt (show r - (m.a.toNat + 1) ≤ 8 by omega))
 unfold chW
 split <;> omega
theorem chg_bound {r : Nat} {ms : List R3} (hr : r ≤ 8) (hm : ∀ m ∈ ms, okM m = true) (k : Nat) : -2500000000 * (k : Int) ≤ chg r (ms.take k) ∧ chg r (ms.take k) ≤ 2500000000 * (k : Int) := by
 induction k with
 | zero => simp [chg]
 | succ k ih =>
   by_cases hk : k < ms.length
   · obtain ⟨m, hx⟩ := list_split (l := ms) (k := k) hk
     have hb := chW_bound hr (hm m (List.mem_of_getElem? hx))
     rw [chg_take hx]
     push_cast
     omega
   · rw [List.take_of_length_le (by omega)]
     rw [List.take_of_length_le (by omega)] at ih
     push_cast
     omega
theorem chB_parts {ms : List R3} {z : Int} (h : chB ms z = true) : mvsB ms = true ∧ (1 ≤ z ∧ z ≤ 8) ∧ ∀ m ∈ ms, m.a < z := by
 unfold chB at h
 simp only [Bool.and_eq_true, inB_iff, List.all_eq_true, decide_eq_true_eq] at h
 exact ⟨h.1.1, h.1.2, h.2⟩
set_option maxRecDepth 100000 in
set_option maxHeartbeats 8000000 in
theorem implChangeOf_any (A0 : Option Addr) (n c0 : Nat) (ms : List R3) (z : Int) (w : World) (hn : n ≤ 1048576) (h : Reads w w.heap.size 3 A0 n (rowsV3 ms)) :
 Calls Try.prog 13 #[.slice A0 n c0, .int .i64 z] w (RetV (.tuple #[.int .i64 (chV ms z), .bool (chB ms z)]) w) := by
 have hl := rows_len3 h
 have H := Lib.hid h
 have HL := Lib.hid hl
 have HG := Lib.hid (fun (w : World) h => areMoves_any A0 n c0 ms w hn h)
 unfold RetV at HG ⊢
 cases hm : mvsB ms
 · have e : chB ms z = false := by unfold chB; rw [hm]; rfl
   rw [show chV ms z = 0 by unfold chV; rw [if_neg (by rw [e]; simp)], e]
   rw [hm] at HG
   clear h hl hm e
   go_enter Try.func13, Try.ntmps13
   go_wp2_with fail
   refine (HG.out _ H.out).mono ?_
   rintro e w1 ⟨rfl, hb1⟩
   go_wp2
   go_ret2
   exact ⟨rfl, hb1⟩
 have HW := Lib.hid (fun (w : World) => inB_within z 1 8 w)
 cases hz : inB z 1 8
 · have e : chB ms z = false := by unfold chB; rw [hm, hz]; rfl
   rw [show chV ms z = 0 by unfold chV; rw [if_neg (by rw [e]; simp)], e]
   rw [hm] at HG
   rw [hz] at HW
   clear h hl hm e hz
   go_enter Try.func13, Try.ntmps13
   go_wp2_with fail
   refine (HG.out _ H.out).mono ?_
   rintro e w1 ⟨rfl, hb1⟩
   go_wp2_with fail
   refine (HW.out _).mono ?_
   rintro e w2 ⟨rfl, rfl⟩
   go_wp2
   go_ret2
   exact ⟨rfl, hb1⟩
 have hz8 := inB_iff.1 hz
 obtain ⟨r, rfl⟩ := Int.eq_ofNat_of_zero_le (show 0 ≤ z by omega)
 have hr8 : r ≤ 8 := by omega
 have hr1 : 1 ≤ r := by omega
 have hall : ∀ m ∈ ms, okM m = true := by
  unfold mvsB at hm
  simp only [Bool.and_eq_true, List.all_eq_true] at hm
  exact hm.2
 have hn60 : n ≤ 60 := by
  unfold mvsB at hm
  simp only [Bool.and_eq_true, decide_eq_true_eq] at hm
  omega
 have HOK := Lib.hid hall
 have HB1 := Lib.hid (show chB ms (r : Int) = ms.all (fun m => decide (m.a < (r : Int))) by unfold chB; rw [hm, hz]; rfl)
 rw [hm] at HG
 rw [hz] at HW
 clear h hl hm hz hz8 hall
 go_enter Try.func13, Try.ntmps13
 go_wp2_with fail
 refine (HG.out _ H.out).mono ?_
 rintro e w1 ⟨rfl, hb1⟩
 go_wp2_with fail
 refine (HW.out _).mono ?_
 rintro e w2 ⟨rfl, rfl⟩
 go_wp2_with fail
 go_loopw [6, 20] (fun ch iv wr => ∃ k : Nat, k ≤ n ∧ iv = .int .i64 (k : Int) ∧ ch = .int .i64 (chg r (ms.take k)) ∧ Hid (∀ m ∈ ms.take k, m.a < (r : Int)) ∧ Hid (Below w.heap.size w wr)) (fun _ iv _ => n - (intOf iv).toNat)
 case atStart => exact ⟨0, Nat.zero_le _, rfl, rfl, Lib.hid (by intro m hm; cases hm), Lib.hid hb1⟩
 case round =>
  obtain ⟨k, hk, rfl, rfl, HA, HB⟩ := hrel
  obtain ⟨V, hV⟩ : ∃ V : World, V = wr := ⟨_, rfl⟩
  subst hV
  clear hb1
  have hcb := chg_bound hr8 HOK.out k
  by_cases hlt : k < n
  · obtain ⟨m, hx⟩ := list_split (l := ms) (k := k) (by rw [HL.out]; exact hlt)
    obtain ⟨b, o, hA0, hbb, q0, q1, q2⟩ := rows_at3 (rdx H.out HB.out) hx
    have hmok := HOK.out m (List.mem_of_getElem? hx)
    obtain ⟨⟨ha0, ha7⟩, ⟨hp0, hp1⟩, hc5, _⟩ := okM_iff.1 hmok
    have k1 : (k : Int) < (n : Int) := by omega
    have k0 : (0 : Int) ≤ (k : Int) := by omega
    subst hA0
    by_cases hr : m.a < (r : Int)
    · have hr' : ¬ (r : Int) ≤ m.a := by omega
      have hrd : decide ((r : Int) ≤ m.a) = false := decide_eq_false hr'
      have HA2 := Lib.hid (show ∀ x ∈ ms.take (k + 1), x.a < (r : Int) by
       intro x hx2
       rw [List.take_add_one, hx] at hx2
       rcases List.mem_append.1 hx2 with h9 | h9
       · exact HA.out x h9
       · simp at h9; subst h9; exact hr)
      have hch := chg_take (r := r) hx
      have hwb := chW_bound hr8 hmok
      have hmf := mul_five hc5 (pw_pos (r - (m.a.toNat + 1))) (pw_lt (show r - (m.a.toNat + 1) ≤ 8 by omega))
      have HPW := Lib.hid (fun (w : World) => power_at ((r : Int) - 1 - m.a) (r - (m.a.toNat + 1)) w (by omega) (by omega))
      obtain ⟨C, hC⟩ : ∃ o9, chg r (ms.take k) = o9 := ⟨_, rfl⟩
      rw [hC] at hch hcb ⊢
      have hX : chW r m = m.c * pw (r - (m.a.toNat + 1)) * (if m.b = 0 then 5 else 1) := rfl
      obtain ⟨P, hP⟩ : ∃ o9, pw (r - (m.a.toNat + 1)) = o9 := ⟨_, rfl⟩
      rw [hP] at hX hmf HPW
      have s1 : wrap64 (m.c * P) = m.c * P := by unfold wrap64; omega
      have s2 : wrap64 (m.c * P * 5) = m.c * P * 5 := by unfold wrap64; omega
      have s3 : wrap64 (C + m.c * P) = C + m.c * P := by unfold wrap64; omega
      have s4 : wrap64 (C + m.c * P * 5) = C + m.c * P * 5 := by unfold wrap64; omega
      have s5 : IntKind.i64.wrap ((r : Int) - 1) = (r : Int) - 1 := by rw [IntKind.wrap_i64]; omega
      have s6 : IntKind.i64.wrap ((r : Int) - 1 - m.a) = (r : Int) - 1 - m.a := by rw [IntKind.wrap_i64]; omega
      have k60 : k ≤ 60 := by omega
      have HCH := Lib.hid (show chg r (ms.take (k + 1)) = C + m.c * P * (if m.b = 0 then 5 else 1) by rw [hch, hX])
      clear hx hC hP hX hch hwb hmf hmok hcb
      go_upto_region 9 with fail
      obtain ⟨W, hW⟩ : ∃ y : World, y = V.alloc (.cells #[.int .i64 m.a, .int .i64 m.b, .int .i64 m.c] 41) := ⟨_, rfl⟩
      have BM := Lib.hid (show Blk W V.heap.size 41 #[.int .i64 m.a, .int .i64 m.b, .int .i64 m.c] by rw [hW]; exact Blk.born V _ 41 (H := V.heap.size) rfl)
      have HBW := Lib.hid (show Below w.heap.size w W by rw [hW]; exact ext_alloc HB.out _)
      rw [← hW]
      clear hW q0 q1 q2
      obtain ⟨v0, v1, v2⟩ := BM.out.q3
      have lv := BM.out.lt
      (refine wp_region_later (by kernel_rfl) (by kernel_rfl) ?_; (repeat (go_big_quiet_step (first | (go_at_call 74; with_reducible exact Calls.later_same (HPW.out _))))); refine wpQuiet_nil ?_; intro w5 hw1; obtain ⟨⟨wl, hb⟩, hw1'⟩ := hw1; simp only at hw1'; subst hw1')
      have HB5 := Lib.hid (ext_trans HBW.out hb)
      have BM5 := Lib.hid (BM.out.ext hb)
      clear hb v0 v1 v2 lv
      obtain ⟨v0, v1, v2⟩ := BM5.out.q3
      have lv := BM5.out.lt
      by_cases hb0 : m.b = 0
      · rw [hb0] at v1
        rw [hb0, if_pos rfl] at HCH
        go_wp2
        go_roundw
        case rel => exact ⟨k + 1, by omega, by go_num, by rw [HCH.out, s4], HA2, HB5⟩
        case measure => simp [intOf] <;> omega
      · have hb1 : m.b = 1 := by omega
        rw [hb1] at v1
        rw [hb1, if_neg (by decide), Int.mul_one] at HCH
        go_wp2
        go_roundw
        case rel => exact ⟨k + 1, by omega, by go_num, by rw [HCH.out, s3], HA2, HB5⟩
        case measure => simp [intOf] <;> omega
    · have hr' : (r : Int) ≤ m.a := by omega
      have hrd : decide ((r : Int) ≤ m.a) = true := decide_eq_true hr'
      have HF := Lib.hid (show chB ms (r : Int) = false by
       rw [HB1.out, List.all_eq_false]
       exact ⟨m, List.mem_of_getElem? hx, by simp; omega⟩)
      clear hx hcb
      go_wp2
      go_ret2
      exact ⟨by rw [show chV ms (r : Int) = 0 by unfold chV; rw [if_neg (by rw [HF.out]; simp)], HF.out]; rfl, ext_alloc HB.out _⟩
  · obtain rfl : k = n := by omega
    have HF := Lib.hid (show chB ms (r : Int) = true by
     rw [HB1.out, List.all_eq_true]
     intro m hm
     have := HA.out m (by rw [List.take_of_length_le (by rw [HL.out]; exact Nat.le_refl _)]; exact hm)
     exact decide_eq_true this)
    clear hcb
    go_wp2
    go_ret2
    exact ⟨by rw [show chV ms (r : Int) = chg r ms by unfold chV; rw [if_pos HF.out]; rfl, HF.out]; (try rw [List.take_of_length_le (by rw [HL.out]; exact Nat.le_refl _)]); rfl, HB.out⟩
end Go.Proofs.Ytkpfelfgpjodiaa
