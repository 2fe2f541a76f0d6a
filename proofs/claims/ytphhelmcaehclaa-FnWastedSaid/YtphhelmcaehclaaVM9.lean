/- FnMoves' small functions: both. -/
import Derived.Test.YtphhelmcaehclaaVGmD
import Derived.Test.YtphhelmcaehclaaVGmE
import Derived.Test.YtphhelmcaehclaaVGmF
import Derived.Test.YtphhelmcaehclaaVM4
import Derived.Test.YtphhelmcaehclaaVM3
namespace Go.Proofs.Ytphhelmcaehclaa
open Go.RowKit
set_option linter.unusedVariables false
set_option linter.unusedSimpArgs false
/-- frames of one kind -/
def mbB (u lo : Int) (l : List R2) (u' lo' : Int) (l' : List R2) : Bool := frB u lo l && frB u' lo' l' && decide (u = u') && decide (lo = lo') && decide (l.length = l'.length)
def mbL (u lo : Int) (l : List R2) (u' lo' : Int) (l' : List R2) : List R3 := if mbB u lo l u' lo' l' = true then btw l l' l.length else []
theorem mb_parts {u lo u' lo' : Int} {l l' : List R2} (h : mbB u lo l u' lo' l' = true) : frB u lo l = true ∧ frB u' lo' l' = true ∧ u = u' ∧ lo = lo' ∧ l.length = l'.length := by
 unfold mbB at h
 simp only [Bool.and_eq_true, decide_eq_true_eq] at h
 exact ⟨h.1.1.1.1, h.1.1.1.2, h.1.1.2, h.1.2, h.2⟩
theorem mvs_small {ms : List R3} (h : mvsB ms = true) : smallM ms := by
 intro m hm
 unfold mvsB at h
 simp only [Bool.and_eq_true, List.all_eq_true] at h
 have := (okM_iff.1 (h.2 m hm)).2.2.1
 omega
end Go.Proofs.Ytphhelmcaehclaa
namespace Go.Proofs.Ytphhelmcaehclaa
open Go.RowKit
set_option linter.unusedVariables false
set_option linter.unusedSimpArgs false
theorem lit_ownV {B : Nat} (w0 : World) (E K : Nat) (cs : List Value) {H : Nat} (hH : H = w0.heap.size) (hB : B ≤ w0.heap.size) (hl : cs.length = K) : (w0.alloc (.cells cs.toArray E)).ownsRow B E K (.slice (some ⟨H, 0, none⟩) 1 1) 1 cs := by
 subst hH
 have h9 := World.ownsRow_lit (size := K) (e := E) w0 cs.toArray 1 hB (by unfold maxLen; omega) (by simp [hl])
 simpa using h9
theorem ints_oneV (l : List Int) : ∀ u ∈ intsV l, u.oneCell' = true := by
 intro u hu
 obtain ⟨z, _, rfl⟩ := List.mem_map.1 hu
 rfl
def negM (m : R3) : R3 := ⟨m.a, m.b, -m.c⟩
def undo (ms : List R3) : List R3 := (ms.map negM).reverse
def unL (ms : List R3) : List R3 := if mvsB ms = true then undo ms else []
theorem undo_drop {ms : List R3} {j : Nat} {m : R3} (h : ms[j]? = some m) : undo (ms.drop j) = undo (ms.drop (j + 1)) ++ [negM m] := by
 obtain ⟨hj, e⟩ := List.getElem?_eq_some_iff.1 h
 rw [List.drop_eq_getElem_cons hj, e]
 unfold undo
 rw [List.map_cons, List.reverse_cons]
end Go.Proofs.Ytphhelmcaehclaa
namespace Go.Proofs.Ytphhelmcaehclaa
open Go.RowKit
set_option linter.unusedVariables false
set_option linter.unusedSimpArgs false
/-- what a move changes -/
def chW (r : Nat) (m : R3) : Int := m.c * pw (r - (m.a.toNat + 1)) * (if m.b = 0 then 5 else 1)
def chg (r : Nat) (ms : List R3) : Int := ms.foldl (fun s m => s + chW r m) 0
def chB (ms : List R3) (z : Int) : Bool := mvsB ms && inB z 1 8 && ms.all (fun m => decide (m.a < z))
def chV (ms : List R3) (z : Int) : Int := if chB ms z = true then chg z.toNat ms else 0
theorem chg_take {r : Nat} {ms : List R3} {k : Nat} {m : R3} (h : ms[k]? = some m) : chg r (ms.take (k + 1)) = chg r (ms.take k) + chW r m := by
 unfold chg
 rw [List.take_add_one, h]
 simp
theorem mul_five {c P : Int} (hc : -5 ≤ c ∧ c ≤ 5) (h0 : 1 ≤ P) (h1 : P ≤ 100000000) : -500000000 ≤ c * P ∧ c * P ≤ 500000000 := by
 have e1 := Int.mul_le_mul_of_nonneg_right hc.2 (show 0 ≤ P by omega)
 have e2 := Int.mul_le_mul_of_nonneg_right hc.1 (show 0 ≤ P by omega)
 omega
theorem chW_bound {r : Nat} {m : R3} (hr : r ≤ 8) (hm : okM m = true) : -2500000000 ≤ chW r m ∧ chW r m ≤ 2500000000 := by
 have h := mul_five (okM_iff.1 hm).2.2.1 (pw_pos (r - (m.a.toNat + 1))) (pw_lt (show r - (m.a.toNat + 1) ≤ 8 by omega))
 unfold chW
 split <;> omega
theorem chg_bound {r : Nat} {ms : List R3} (hr : r ≤ 8) (hm : ∀ m ∈ ms, okM m = true) (k : Nat) : -2500000000 * (k : Int) ≤ chg r (ms.take k) ∧ chg r (ms.take k) ≤ 2500000000 * (k : Int) := by
 induction k with
 | zero => simp [chg]
 | succ k ih =>
   by_cases hk : k < ms.length
   · obtain ⟨m, hx⟩ := list_split (l := ms) (k := k) hk
     have hb := chW_bound hr (hm m (List.mem_of_getElem? hx))
     rw [chg_take hx]
     push_cast
     omega
   · rw [List.take_of_length_le (by omega)]
     rw [List.take_of_length_le (by omega)] at ih
     push_cast
     omega
theorem chB_parts {ms : List R3} {z : Int} (h : chB ms z = true) : mvsB ms = true ∧ (1 ≤ z ∧ z ≤ 8) ∧ ∀ m ∈ ms, m.a < z := by
 unfold chB at h
 simp only [Bool.and_eq_true, inB_iff, List.all_eq_true, decide_eq_true_eq] at h
 exact ⟨h.1.1, h.1.2, h.2⟩
set_option maxRecDepth 100000 in
set_option maxHeartbeats 8000000 in
theorem implChangeOf_any (A0 : Option Addr) (n c0 : Nat) (ms : List R3) (z : Int) (w : World) (hn : n ≤ 1048576) (h : Reads w w.heap.size 3 A0 n (rowsV3 ms)) :
 Calls Try.prog 12 #[.slice A0 n c0, .int .i64 z] w (RetV (.tuple #[.int .i64 (chV ms z), .bool (chB ms z)]) w) := by
 have hl := rows_len3 h
 have H := Lib.hid h
 have HL := Lib.hid hl
 have HG := Lib.hid (fun (w : World) h => areMoves_any A0 n c0 ms w hn h)
 unfold RetV at HG ⊢
 cases hm : mvsB ms
 · have e : chB ms z = false := by unfold chB; rw [hm]; rfl
   rw [show chV ms z = 0 by unfold chV; rw [if_neg (by rw [e]; simp)], e]
   rw [hm] at HG
   clear h hl hm e
   go_enter Try.func12, Try.ntmps12
   go_wp2_with fail
   refine (HG.out _ H.out).mono ?_
   rintro e w1 ⟨rfl, hb1⟩
   go_wp2
   go_ret2
   exact ⟨rfl, hb1⟩
 have HW := Lib.hid (fun (w : World) => inB_within z 1 8 w)
 cases hz : inB z 1 8
 · have e : chB ms z = false := by unfold chB; rw [hm, hz]; rfl
   rw [show chV ms z = 0 by unfold chV; rw [if_neg (by rw [e]; simp)], e]
   rw [hm] at HG
   rw [hz] at HW
   clear h hl hm e hz
   go_enter Try.func12, Try.ntmps12
   go_wp2_with fail
   refine (HG.out _ H.out).mono ?_
   rintro e w1 ⟨rfl, hb1⟩
   go_wp2_with fail
   refine (HW.out _).mono ?_
   rintro e w2 ⟨rfl, rfl⟩
   go_wp2
   go_ret2
   exact ⟨rfl, hb1⟩
 have hz8 := inB_iff.1 hz
 obtain ⟨r, rfl⟩ := Int.eq_ofNat_of_zero_le (show 0 ≤ z by omega)
 have hr8 : r ≤ 8 := by omega
 have hr1 : 1 ≤ r := by omega
 have hall : ∀ m ∈ ms, okM m = true := by
  unfold mvsB at hm
  simp only [Bool.and_eq_true, List.all_eq_true] at hm
  exact hm.2
 have hn60 : n ≤ 60 := by
  unfold mvsB at hm
  simp only [Bool.and_eq_true, decide_eq_true_eq] at hm
  omega
 have HOK := Lib.hid hall
 have HB1 := Lib.hid (show chB ms (r : Int) = ms.all (fun m => decide (m.a < (r : Int))) by unfold chB; rw [hm, hz]; rfl)
 rw [hm] at HG
 rw [hz] at HW
 clear h hl hm hz hz8 hall
 go_enter Try.func12, Try.ntmps12
 go_wp2_with fail
 refine (HG.out _ H.out).mono ?_
 rintro e w1 ⟨rfl, hb1⟩
 go_wp2_with fail
 refine (HW.out _).mono ?_
 rintro e w2 ⟨rfl, rfl⟩
 go_wp2_with fail
 go_loopw [6, 20] (fun ch iv wr => ∃ k : Nat, k ≤ n ∧ iv = .int .i64 (k : Int) ∧ ch = .int .i64 (chg r (ms.take k)) ∧ Hid (∀ m ∈ ms.take k, m.a < (r : Int)) ∧ Hid (Below w.heap.size w wr)) (fun _ iv _ => n - (intOf iv).toNat)
 case atStart => exact ⟨0, Nat.zero_le _, rfl, rfl, Lib.hid (by intro m hm; cases hm), Lib.hid hb1⟩
 case round =>
  obtain ⟨k, hk, rfl, rfl, HA, HB⟩ := hrel
  obtain ⟨V, hV⟩ : ∃ V : World, V = wr := ⟨_, rfl⟩
  subst hV
  clear hb1
  have hcb := chg_bound hr8 HOK.out k
  by_cases hlt : k < n
  · obtain ⟨m, hx⟩ := list_split (l := ms) (k := k) (by rw [HL.out]; exact hlt)
    obtain ⟨b, o, hA0, hbb, q0, q1, q2⟩ := rows_at3 (rdx H.out HB.out) hx
    have hmok := HOK.out m (List.mem_of_getElem? hx)
    obtain ⟨⟨ha0, ha7⟩, ⟨hp0, hp1⟩, hc5, _⟩ := okM_iff.1 hmok
    have k1 : (k : Int) < (n : Int) := by omega
    have k0 : (0 : Int) ≤ (k : Int) := by omega
    subst hA0
    by_cases hr : m.a < (r : Int)
    · have hr' : ¬ (r : Int) ≤ m.a := by omega
      have hrd : decide ((r : Int) ≤ m.a) = false := decide_eq_false hr'
      have HA2 := Lib.hid (show ∀ x ∈ ms.take (k + 1), x.a < (r : Int) by
       intro x hx2
       rw [List.take_add_one, hx] at hx2
       rcases List.mem_append.1 hx2 with h9 | h9
       · exact HA.out x h9
       · simp at h9; subst h9; exact hr)
      have hch := chg_take (r := r) hx
      have hwb := chW_bound hr8 hmok
      have hmf := mul_five hc5 (pw_pos (r - (m.a.toNat + 1))) (pw_lt (show r - (m.a.toNat + 1) ≤ 8 by omega))
      have HPW := Lib.hid (fun (w : World) => power_at ((r : Int) - 1 - m.a) (r - (m.a.toNat + 1)) w (by omega) (by omega))
      obtain ⟨C, hC⟩ : ∃ o9, chg r (ms.take k) = o9 := ⟨_, rfl⟩
      rw [hC] at hch hcb ⊢
      have hX : chW r m = m.c * pw (r - (m.a.toNat + 1)) * (if m.b = 0 then 5 else 1) := rfl
      obtain ⟨P, hP⟩ : ∃ o9, pw (r - (m.a.toNat + 1)) = o9 := ⟨_, rfl⟩
      rw [hP] at hX hmf HPW
      have s1 : wrap64 (m.c * P) = m.c * P := by unfold wrap64; omega
      have s2 : wrap64 (m.c * P * 5) = m.c * P * 5 := by unfold wrap64; omega
      have s3 : wrap64 (C + m.c * P) = C + m.c * P := by unfold wrap64; omega
      have s4 : wrap64 (C + m.c * P * 5) = C + m.c * P * 5 := by unfold wrap64; omega
      have s5 : IntKind.i64.wrap ((r : Int) - 1) = (r : Int) - 1 := by rw [IntKind.wrap_i64]; omega
      have s6 : IntKind.i64.wrap ((r : Int) - 1 - m.a) = (r : Int) - 1 - m.a := by rw [IntKind.wrap_i64]; omega
      have k60 : k ≤ 60 := by omega
      have HCH := Lib.hid (show chg r (ms.take (k + 1)) = C + m.c * P * (if m.b = 0 then 5 else 1) by rw [hch, hX])
      clear hx hC hP hX hch hwb hmf hmok hcb
      go_upto_region 9 with fail
      obtain ⟨W, hW⟩ : ∃ y : World, y = V.alloc (.cells #[.int .i64 m.a, .int .i64 m.b, .int .i64 m.c] 75) := ⟨_, rfl⟩
      have BM := Lib.hid (show Blk W V.heap.size 75 #[.int .i64 m.a, .int .i64 m.b, .int .i64 m.c] by rw [hW]; exact Blk.born V _ 75 (H := V.heap.size) rfl)
      have HBW := Lib.hid (show Below w.heap.size w W by rw [hW]; exact ext_alloc HB.out _)
      rw [← hW]
      clear hW q0 q1 q2
      obtain ⟨v0, v1, v2⟩ := BM.out.q3
      have lv := BM.out.lt
      (refine wp_region_later (by kernel_rfl) (by kernel_rfl) ?_; (repeat (go_big_quiet_step (first | (go_at_call 50; with_reducible exact Calls.later_same (HPW.out _))))); refine wpQuiet_nil ?_; intro w5 hw1; obtain ⟨⟨wl, hb⟩, hw1'⟩ := hw1; simp only at hw1'; subst hw1')
      have HB5 := Lib.hid (ext_trans HBW.out hb)
      have BM5 := Lib.hid (BM.out.ext hb)
      clear hb v0 v1 v2 lv
      obtain ⟨v0, v1, v2⟩ := BM5.out.q3
      have lv := BM5.out.lt
      by_cases hb0 : m.b = 0
      · rw [hb0] at v1
        rw [hb0, if_pos rfl] at HCH
        go_wp2
        go_roundw
        case rel => exact ⟨k + 1, by omega, by go_num, by rw [HCH.out, s4], HA2, HB5⟩
        case measure => simp [intOf] <;> omega
      · have hb1 : m.b = 1 := by omega
        rw [hb1] at v1
        rw [hb1, if_neg (by decide), Int.mul_one] at HCH
        go_wp2
        go_roundw
        case rel => exact ⟨k + 1, by omega, by go_num, by rw [HCH.out, s3], HA2, HB5⟩
        case measure => simp [intOf] <;> omega
    · have hr' : (r : Int) ≤ m.a := by omega
      have hrd : decide ((r : Int) ≤ m.a) = true := decide_eq_true hr'
      have HF := Lib.hid (show chB ms (r : Int) = false by
       rw [HB1.out, List.all_eq_false]
       exact ⟨m, List.mem_of_getElem? hx, by simp; omega⟩)
      clear hx hcb
      go_wp2
      go_ret2
      exact ⟨by rw [show chV ms (r : Int) = 0 by unfold chV; rw [if_neg (by rw [HF.out]; simp)], HF.out]; rfl, ext_alloc HB.out _⟩
  · obtain rfl : k = n := by omega
    have HF := Lib.hid (show chB ms (r : Int) = true by
     rw [HB1.out, List.all_eq_true]
     intro m hm
     have := HA.out m (by rw [List.take_of_length_le (by rw [HL.out]; exact Nat.le_refl _)]; exact hm)
     exact decide_eq_true this)
    clear hcb
    go_wp2
    go_ret2
    exact ⟨by rw [show chV ms (r : Int) = chg r ms by unfold chV; rw [if_pos HF.out]; rfl, HF.out]; (try rw [List.take_of_length_le (by rw [HL.out]; exact Nat.le_refl _)]); rfl, HB.out⟩
end Go.Proofs.Ytphhelmcaehclaa
namespace Go.Proofs.Ytphhelmcaehclaa
open Go.RowKit
set_option linter.unusedVariables false
set_option linter.unusedSimpArgs false
theorem bump_neg (r : R2) (m : R3) : bump (bump r m) (negM m) = r := by
 obtain ⟨a, b⟩ := r
 unfold bump negM
 dsimp only
 by_cases h : m.b = 0
 · rw [if_pos h, if_pos h]
   dsimp only
   rw [show a + m.c + -m.c = a by omega]
 · rw [if_neg h, if_neg h]
   dsimp only
   rw [show b + m.c + -m.c = b by omega]
theorem mvL_neg {y : List R2} {m : R3} (h0 : 0 ≤ m.a) (h1 : m.a < y.length) : mvL (mvL y m) (negM m) = y := by
 have hi : m.a.toNat < y.length := by omega
 unfold mvL
 rw [show (negM m).a = m.a from rfl]
 rw [List.getD_eq_getElem?_getD, List.getD_eq_getElem?_getD, List.getElem?_set_self hi, Option.getD_some, bump_neg, List.set_set]
 exact set_same (by rw [List.getElem?_eq_getElem hi]; rfl)
theorem mvB_neg {u lo : Int} {y : List R2} {m : R3} (hf : frB u lo y = true) (h0 : 0 ≤ m.a) (h : mvB u lo y m = true) : mvB u lo (mvL y m) (negM m) = true ∧ mvL (mvL y m) (negM m) = y := by
 unfold mvB at h
 simp only [Bool.and_eq_true, decide_eq_true_eq] at h
 have e := mvL_neg h0 h.1
 refine ⟨?_, e⟩
 unfold mvB
 rw [e, hf, mvL_len, Bool.and_true, decide_eq_true_iff]
 exact h.1
theorem play_cons (u lo : Int) (l : List R2) (m : R3) (ms : List R3) : playS u lo l (m :: ms) = if mvB u lo l m = true then playS u lo (mvL l m) ms else none := by
 unfold playS
 rw [List.foldl_cons]
 split
 · rename_i h
   rw [show (some l).bind (fun x => if mvB u lo x m = true then some (mvL x m) else none) = some (mvL l m) by simp [h]]
 · rename_i h
   rw [show (some l).bind (fun x => if mvB u lo x m = true then some (mvL x m) else none) = none by simp [h]]
   exact fold_none ms
theorem play_snoc {u lo : Int} {l x : List R2} {ms : List R3} {m : R3} (h : playS u lo l (ms ++ [m]) = some x) : ∃ y, playS u lo l ms = some y ∧ mvB u lo y m = true ∧ x = mvL y m := by
 unfold playS at h
 rw [List.foldl_append, List.foldl_cons, List.foldl_nil] at h
 cases hy : playS u lo l ms with
 | none => unfold playS at hy; rw [hy] at h; cases h
 | some y =>
   unfold playS at hy
   rw [hy] at h
   refine ⟨y, rfl, ?_⟩
   simp only [Option.bind_some] at h
   split at h
   · rename_i h2
     injection h with h
     exact ⟨h2, h.symm⟩
   · cases h
/-- moves undone lead back -/
theorem undo_back {u lo : Int} {l : List R2} (hf : frB u lo l = true) (ms : List R3) (hm : ∀ m ∈ ms, okM m = true) : ∀ k x, playS u lo l (ms.take k) = some x → playS u lo x (undo (ms.take k)) = some l := by
 intro k
 induction k with
 | zero =>
   intro x h
   rw [List.take_zero] at h ⊢
   injection h with h
   subst h
   rfl
 | succ k ih =>
   intro x h
   by_cases hk : k < ms.length
   · obtain ⟨m, hx⟩ := list_split (l := ms) (k := k) hk
     rw [List.take_add_one, hx] at h ⊢
     obtain ⟨y, h1, h2, rfl⟩ := play_snoc h
     have hfy := play_fr hf h1
     have hmo := (okM_iff.1 (hm m (List.mem_of_getElem? hx))).1.1
     obtain ⟨e1, e2⟩ := mvB_neg hfy hmo h2
     show playS u lo (mvL y m) (undo (ms.take k ++ [m])) = some l
     rw [show undo (ms.take k ++ [m]) = negM m :: undo (ms.take k) by unfold undo; rw [List.map_append, List.reverse_append]; rfl, play_cons, if_pos e1, e2]
     exact ih y h1
   · rw [List.take_of_length_le (by omega)] at h ⊢
     rw [List.take_of_length_le (by omega)] at ih
     exact ih x h
theorem dsOf_set (l : List R2) (i : Nat) (r : R2) : dsOf (l.set i r) = (dsOf l).set i (5 * r.a + r.b) := by
 unfold dsOf
 rw [List.map_set]
 rfl
/-- a move changes the number by what it is worth -/
theorem num_mv {y : List R2} {m : R3} (h0 : 0 ≤ m.a) (h1 : m.a < y.length) (hb : m.b = 0 ∨ m.b = 1) : numR (mvL y m) = numR y + chW y.length m := by
 have hi : m.a.toNat < y.length := by omega
 unfold mvL numR
 rw [dsOf_set, numD_set _ _ _ (by rw [dsOf_len]; exact hi), dsOf_len]
 obtain ⟨r, hr⟩ := list_split (l := y) (k := m.a.toNat) hi
 rw [List.getD_eq_getElem?_getD, hr, Option.getD_some]
 have e : (dsOf y).getD m.a.toNat 0 = 5 * r.a + r.b := by
  rw [List.getD_eq_getElem?_getD]
  unfold dsOf
  rw [List.getElem?_map, hr]
  rfl
 rw [e]
 unfold chW bump
 congr 1
 rcases hb with hb | hb
 · rw [if_pos hb, if_pos hb]
   dsimp only
   rw [show 5 * (r.a + m.c) + r.b - (5 * r.a + r.b) = m.c * 5 by omega, Int.mul_assoc, Int.mul_assoc, Int.mul_comm 5]
 · rw [if_neg (by omega), if_neg (by omega)]
   dsimp only
   rw [show 5 * r.a + (r.b + m.c) - (5 * r.a + r.b) = m.c by omega, Int.mul_one]
theorem num_play {u lo : Int} {l : List R2} (ms : List R3) (hm : ∀ m ∈ ms, okM m = true) : ∀ k x, playS u lo l (ms.take k) = some x → numR x = numR l + chg l.length (ms.take k) := by
 intro k
 induction k with
 | zero =>
   intro x h
   rw [List.take_zero] at h ⊢
   injection h with h
   subst h
   unfold chg
   simp
 | succ k ih =>
   intro x h
   by_cases hk : k < ms.length
   · obtain ⟨m, hx⟩ := list_split (l := ms) (k := k) hk
     rw [chg_take hx]
     rw [List.take_add_one, hx] at h
     obtain ⟨y, h1, h2, rfl⟩ := play_snoc h
     have ho := okM_iff.1 (hm m (List.mem_of_getElem? hx))
     have hl := play_len h1
     unfold mvB at h2
     simp only [Bool.and_eq_true, decide_eq_true_eq] at h2
     rw [num_mv ho.1.1 h2.1 (by omega), ih y h1, hl]
     omega
   · rw [List.take_of_length_le (by omega)] at h ⊢
     rw [List.take_of_length_le (by omega)] at ih
     exact ih x h
end Go.Proofs.Ytphhelmcaehclaa
namespace Go.Proofs.Ytphhelmcaehclaa
open Go.RowKit
set_option linter.unusedVariables false
set_option linter.unusedSimpArgs false
theorem frB_set {u lo : Int} {y : List R2} (hf : frB u lo y = true) (k : Nat) {r : R2} (h : 0 ≤ r.a ∧ r.a ≤ u ∧ 0 ≤ r.b ∧ r.b ≤ lo) : frB u lo (y.set k r) = true := by
 unfold frB at hf ⊢
 simp only [Bool.and_eq_true, List.all_eq_true] at hf ⊢
 refine ⟨by rw [List.length_set]; exact hf.1, fun q hq => ?_⟩
 rcases List.mem_or_eq_of_mem_set hq with h2 | h2
 · exact hf.2 q h2
 · subst h2
   unfold rodB
   rw [Bool.and_eq_true, inB_iff, inB_iff]
   omega
theorem play_app (u lo : Int) (l : List R2) (a b : List R3) : playS u lo l (a ++ b) = (playS u lo l a).bind fun y => playS u lo y b := by
 cases h : playS u lo l a with
 | none =>
   unfold playS at h ⊢
   rw [List.foldl_append, h]
   exact fold_none b
 | some y =>
   unfold playS at h ⊢
   rw [List.foldl_append, h]
   rfl
theorem play_up {u lo : Int} {y : List R2} {k : Nat} {r : R2} {z : Int} (hf : frB u lo y = true) (hr : y[k]? = some r) (hz : 0 ≤ z ∧ z ≤ u) : playS u lo y (if z - r.a = 0 then [] else [⟨(k : Int), 0, z - r.a⟩]) = some (y.set k ⟨z, r.b⟩) := by
 have hk : k < y.length := (List.getElem?_eq_some_iff.1 hr).1
 have hb := frB_rod hf hr
 by_cases h : z - r.a = 0
 · rw [if_pos h]
   have e : (⟨z, r.b⟩ : R2) = r := by obtain ⟨a, b⟩ := r; rw [show z = a by dsimp only at h; omega]
   rw [e, set_same hr]
   rfl
 · rw [if_neg h, play_cons]
   have e : mvL y ⟨(k : Int), 0, z - r.a⟩ = y.set k ⟨z, r.b⟩ := by
    unfold mvL bump
    rw [show ((k : Int)).toNat = k from Int.toNat_natCast k, List.getD_eq_getElem?_getD, hr, Option.getD_some, if_pos rfl]
    dsimp only
    rw [show r.a + (z - r.a) = z by omega]
   have hv : mvB u lo y ⟨(k : Int), 0, z - r.a⟩ = true := by
    unfold mvB
    rw [e, frB_set hf k (r := ⟨z, r.b⟩) ⟨hz.1, hz.2, hb.2.2.1, hb.2.2.2⟩, Bool.and_true, decide_eq_true_iff]
    dsimp only
    omega
   rw [if_pos hv, e]
   rfl
theorem play_low {u lo : Int} {y : List R2} {k : Nat} {r : R2} {z : Int} (hf : frB u lo y = true) (hr : y[k]? = some r) (hz : 0 ≤ z ∧ z ≤ lo) : playS u lo y (if z - r.b = 0 then [] else [⟨(k : Int), 1, z - r.b⟩]) = some (y.set k ⟨r.a, z⟩) := by
 have hk : k < y.length := (List.getElem?_eq_some_iff.1 hr).1
 have hb := frB_rod hf hr
 by_cases h : z - r.b = 0
 · rw [if_pos h]
   have e : (⟨r.a, z⟩ : R2) = r := by obtain ⟨a, b⟩ := r; rw [show z = b by dsimp only at h; omega]
   rw [e, set_same hr]
   rfl
 · rw [if_neg h, play_cons]
   have e : mvL y ⟨(k : Int), 1, z - r.b⟩ = y.set k ⟨r.a, z⟩ := by
    unfold mvL bump
    rw [show ((k : Int)).toNat = k from Int.toNat_natCast k, List.getD_eq_getElem?_getD, hr, Option.getD_some, if_neg (show ¬ (1 : Int) = 0 by decide)]
    dsimp only
    rw [show r.b + (z - r.b) = z by omega]
   have hv : mvB u lo y ⟨(k : Int), 1, z - r.b⟩ = true := by
    unfold mvB
    rw [e, frB_set hf k (r := ⟨r.a, z⟩) ⟨hb.1, hb.2.1, hz.1, hz.2⟩, Bool.and_true, decide_eq_true_iff]
    dsimp only
    omega
   rw [if_pos hv, e]
   rfl
/-- a rod's moves lead it to its end -/
theorem play_mvR {u lo : Int} {y : List R2} {k : Nat} {r s : R2} (hf : frB u lo y = true) (hr : y[k]? = some r) (hs : 0 ≤ s.a ∧ s.a ≤ u ∧ 0 ≤ s.b ∧ s.b ≤ lo) : playS u lo y (mvR (k : Int) r s) = some (y.set k s) := by
 have hk : k < y.length := (List.getElem?_eq_some_iff.1 hr).1
 have hb := frB_rod hf hr
 unfold mvR
 rw [play_app, play_up hf hr ⟨hs.1, hs.2.1⟩, Option.bind_some]
 have h2 := play_low (k := k) (r := ⟨s.a, r.b⟩) (z := s.b) (frB_set hf k (r := ⟨s.a, r.b⟩) ⟨hs.1, hs.2.1, hb.2.2.1, hb.2.2.2⟩) (by rw [List.getElem?_set_self hk]) ⟨hs.2.2.1, hs.2.2.2⟩
 dsimp only at h2
 rw [h2, List.set_set]
/-- the moves between lead from one to the other -/
theorem play_btw {u lo : Int} {l x : List R2} (hf : frB u lo l = true) (hx : frB u lo x = true) (hl : x.length = l.length) : ∀ k, k ≤ l.length → playS u lo l (btw l x k) = some (x.take k ++ l.drop k) := by
 intro k
 induction k with
 | zero => intro _; rw [List.take_zero, List.drop_zero]; rfl
 | succ k ih =>
   intro hk
   obtain ⟨r, hr⟩ := list_split (l := l) (k := k) (by omega)
   obtain ⟨s, hs⟩ := list_split (l := x) (k := k) (by omega)
   have h1 := ih (by omega)
   rw [btw_step hr hs, play_app, h1, Option.bind_some]
   have hy := play_fr hf h1
   have e1 : (x.take k ++ l.drop k)[k]? = some r := by
    rw [List.getElem?_append_right (by rw [List.length_take]; omega), List.length_take, Nat.min_eq_left (by omega), Nat.sub_self, List.getElem?_drop, Nat.add_zero]
    exact hr
   rw [play_mvR hy e1 (frB_rod hx hs)]
   congr 1
   rw [List.set_append_right _ _ (by rw [List.length_take]; omega), List.length_take, Nat.min_eq_left (by omega), Nat.sub_self, List.take_add_one, hs, List.append_assoc]
   congr 1
   obtain ⟨hk2, e2⟩ := List.getElem?_eq_some_iff.1 hr
   rw [List.drop_eq_getElem_cons hk2]
   rfl
theorem play_between {u lo : Int} {l x : List R2} (hf : frB u lo l = true) (hx : frB u lo x = true) (hl : x.length = l.length) : playS u lo l (btw l x l.length) = some x := by
 rw [play_btw hf hx hl _ (Nat.le_refl _), List.drop_of_length_le (Nat.le_refl _), List.append_nil, List.take_of_length_le (by omega)]
end Go.Proofs.Ytphhelmcaehclaa
namespace Go.Proofs.Ytphhelmcaehclaa
open Go.RowKit
set_option linter.unusedVariables false
set_option linter.unusedSimpArgs false
theorem fold_add (ms : List R3) : ∀ s : Int, ms.foldl (fun s m => s + ab m.c) s = s + beads ms := by
 unfold beads
 induction ms with
 | nil => intro s; simp
 | cons m ms ih =>
   intro s
   rw [List.foldl_cons, List.foldl_cons, ih, ih (0 + ab m.c)]
   omega
theorem bd_app (a b : List R3) : beads (a ++ b) = beads a + beads b := by
 have h := fold_add b (beads a)
 rw [← h]
 unfold beads
 rw [List.foldl_append]
theorem ab_nonneg (z : Int) : 0 ≤ ab z := by unfold ab; split <;> omega
theorem ab_tri (x y c : Int) (h : y = x + c) : ab y ≤ ab x + ab c := by unfold ab; split <;> split <;> split <;> omega
theorem ab_zero {z : Int} (h : z = 0) : ab z = 0 := by subst h; rfl
theorem bd_mvR (k : Int) (r s : R2) : beads (mvR k r s) = ab (s.a - r.a) + ab (s.b - r.b) := by
 unfold mvR
 rw [bd_app]
 congr 1
 · split
   · rename_i h; rw [ab_zero h]; rfl
   · unfold beads; simp
 · split
   · rename_i h; rw [ab_zero h]; rfl
   · unfold beads; simp
theorem len_mvR (k : Int) (r s : R2) : (mvR k r s).length = (if s.a - r.a = 0 then 0 else 1) + (if s.b - r.b = 0 then 0 else 1) := by
 unfold mvR
 rw [List.length_append]
 congr 1
 · split <;> rfl
 · split <;> rfl
/-- one move more: at most its beads more, at most one move more -/
theorem mvR_bump (k : Int) (r s : R2) (m : R3) : beads (mvR k r (bump s m)) ≤ beads (mvR k r s) + ab m.c ∧ (mvR k r (bump s m)).length ≤ (mvR k r s).length + 1 := by
 rw [bd_mvR, bd_mvR, len_mvR, len_mvR]
 unfold bump
 by_cases h : m.b = 0
 · rw [if_pos h]
   dsimp only
   have := ab_tri (s.a - r.a) (s.a + m.c - r.a) m.c (by omega)
   refine ⟨by omega, ?_⟩
   split <;> split <;> omega
 · rw [if_neg h]
   dsimp only
   have := ab_tri (s.b - r.b) (s.b + m.c - r.b) m.c (by omega)
   refine ⟨by omega, ?_⟩
   split <;> split <;> (try split) <;> omega
theorem btw_mv (l y : List R2) {m : R3} (h1 : m.a.toNat < y.length) : ∀ n, beads (btw l (mvL y m) n) ≤ beads (btw l y n) + (if m.a.toNat < n then ab m.c else 0) ∧ (btw l (mvL y m) n).length ≤ (btw l y n).length + (if m.a.toNat < n then 1 else 0) := by
 intro n
 induction n with
 | zero => simp [btw]
 | succ n ih =>
   rw [btw, btw, bd_app, bd_app, List.length_append, List.length_append]
   have ha := ab_nonneg m.c
   by_cases hi : m.a.toNat = n
   · have e : (mvL y m).getD n ⟨0, 0⟩ = bump (y.getD n ⟨0, 0⟩) m := by
      unfold mvL
      rw [hi, List.getD_eq_getElem?_getD, List.getElem?_set_self (by omega), Option.getD_some]
     rw [e]
     have := mvR_bump (n : Int) (l.getD n ⟨0, 0⟩) (y.getD n ⟨0, 0⟩) m
     rw [if_neg (by omega), if_neg (by omega)] at ih
     rw [if_pos (by omega), if_pos (by omega)]
     omega
   · have e : (mvL y m).getD n ⟨0, 0⟩ = y.getD n ⟨0, 0⟩ := by
      unfold mvL
      rw [List.getD_eq_getElem?_getD, List.getElem?_set_ne hi, ← List.getD_eq_getElem?_getD]
     rw [e]
     by_cases hn : m.a.toNat < n
     · rw [if_pos hn, if_pos hn] at ih
       rw [if_pos (by omega), if_pos (by omega)]
       omega
     · rw [if_neg hn, if_neg hn] at ih
       rw [if_neg (by omega), if_neg (by omega)]
       omega
theorem mvR_self (k : Int) (r : R2) : mvR k r r = [] := by unfold mvR; rw [if_pos (by omega), if_pos (by omega)]; rfl
theorem btw_self (l : List R2) : ∀ n, btw l l n = [] := by
 intro n
 induction n with
 | zero => rfl
 | succ n ih => rw [btw, ih, mvR_self]; rfl
/-- no moves that lead there have fewer beads, or are fewer -/
theorem btw_least {u lo : Int} {l : List R2} (n : Nat) (ms : List R3) (hm : ∀ m ∈ ms, okM m = true) : ∀ k x, playS u lo l (ms.take k) = some x → beads (btw l x n) ≤ beads (ms.take k) ∧ (btw l x n).length ≤ (ms.take k).length := by
 intro k
 induction k with
 | zero =>
   intro x h
   rw [List.take_zero] at h ⊢
   injection h with h
   subst h
   rw [btw_self]
   exact ⟨Int.le_refl _, Nat.le_refl _⟩
 | succ k ih =>
   intro x h
   by_cases hk : k < ms.length
   · obtain ⟨m, hx⟩ := list_split (l := ms) (k := k) hk
     rw [beads_take hx]
     rw [List.take_add_one, hx] at h ⊢
     obtain ⟨y, h1, h2, rfl⟩ := play_snoc h
     have ho := okM_iff.1 (hm m (List.mem_of_getElem? hx))
     unfold mvB at h2
     simp only [Bool.and_eq_true, decide_eq_true_eq] at h2
     have hb := btw_mv l y (m := m) (by omega) n
     have hi := ih y h1
     have ha := ab_nonneg m.c
     have e1 : (if m.a.toNat < n then ab m.c else 0) ≤ ab m.c := by split <;> omega
     have e2 : (if m.a.toNat < n then 1 else 0) ≤ 1 := by split <;> omega
     refine ⟨by omega, ?_⟩
     rw [List.length_append]
     show _ ≤ _ + 1
     omega
   · rw [List.take_of_length_le (by omega)] at h ⊢
     rw [List.take_of_length_le (by omega)] at ih
     exact ih x h
end Go.Proofs.Ytphhelmcaehclaa
namespace Go.Proofs.Ytphhelmcaehclaa
open Go.RowKit
set_option linter.unusedVariables false
set_option linter.unusedSimpArgs false
theorem okM_neg {m : R3} (h : okM m = true) : okM (negM m) = true := by
 rw [okM_iff] at h ⊢
 obtain ⟨h1, h2, h3, h4⟩ := h
 exact ⟨h1, h2, ⟨by show -5 ≤ -m.c; omega, by show -m.c ≤ 5; omega⟩, by show -m.c ≠ 0; omega⟩
theorem mvs_undo {ms : List R3} (h : mvsB ms = true) : mvsB (undo ms) = true := by
 unfold mvsB at h ⊢
 simp only [Bool.and_eq_true, decide_eq_true_eq, List.all_eq_true] at h ⊢
 refine ⟨by unfold undo; rw [List.length_reverse, List.length_map]; exact h.1, fun m hm => ?_⟩
 unfold undo at hm
 obtain ⟨q, hq, rfl⟩ := List.mem_map.1 (List.mem_reverse.1 hm)
 exact okM_neg (h.2 q hq)
theorem undo_len (ms : List R3) : (undo ms).length = ms.length := by unfold undo; rw [List.length_reverse, List.length_map]
theorem mvR_ok {u lo : Int} {l x : List R2} (hf : frB u lo l = true) (hx : frB u lo x = true) {k : Nat} {r s : R2} (hr : l[k]? = some r) (hs : x[k]? = some s) : ∀ m ∈ mvR (k : Int) r s, okM m = true := by
 have h1 := frB_rod hf hr
 have h2 := frB_rod hx hs
 have hh := frB_head hf
 have hk : k < l.length := (List.getElem?_eq_some_iff.1 hr).1
 intro m hm
 unfold mvR at hm
 rcases List.mem_append.1 hm with h | h
 · split at h
   · cases h
   · rename_i hne
     simp only [List.mem_cons, List.not_mem_nil, or_false] at h
     subst h
     rw [okM_iff]
     dsimp only
     omega
 · split at h
   · cases h
   · rename_i hne
     simp only [List.mem_cons, List.not_mem_nil, or_false] at h
     subst h
     rw [okM_iff]
     dsimp only
     omega
theorem btw_ok {u lo : Int} {l x : List R2} (hf : frB u lo l = true) (hx : frB u lo x = true) (hl : x.length = l.length) : ∀ n, n ≤ l.length → ∀ m ∈ btw l x n, okM m = true := by
 intro n
 induction n with
 | zero => intro _ m hm; cases hm
 | succ n ih =>
   intro hn m hm
   obtain ⟨r, hr⟩ := list_split (l := l) (k := n) (by omega)
   obtain ⟨s, hs⟩ := list_split (l := x) (k := n) (by omega)
   rw [btw_step hr hs] at hm
   rcases List.mem_append.1 hm with h | h
   · exact ih (by omega) m h
   · exact mvR_ok hf hx hr hs m h
theorem mvs_btw {u lo : Int} {l x : List R2} (hf : frB u lo l = true) (hx : frB u lo x = true) (hl : x.length = l.length) : mvsB (btw l x l.length) = true := by
 have h := btw_len l x l.length
 have hh := frB_head hf
 unfold mvsB
 simp only [Bool.and_eq_true, decide_eq_true_eq, List.all_eq_true]
 exact ⟨by omega, btw_ok hf hx hl _ (Nat.le_refl _)⟩
end Go.Proofs.Ytphhelmcaehclaa
namespace Go.Proofs.Ytphhelmcaehclaa
open Go.RowKit
set_option linter.unusedVariables false
set_option linter.unusedSimpArgs false
def mbeF (u lo : Int) (l : List R2) (m : R3) : Int × Int × List R2 := if (frB u lo l && okM m) = true then mvF u lo l m else (0, 0, [])
def mbeB (u lo : Int) (l : List R2) (m : R3) : Bool := frB u lo l && okM m && mvB u lo l m
set_option maxRecDepth 100000 in
set_option maxHeartbeats 4000000 in
theorem specMoveBeads_any (u lo : Int) (A : Option Addr) (n c : Nat) (l : List R2) (m : R3) (w : World) (hn : n ≤ 1048576) (h : Reads w w.heap.size 2 A n (rowsV2 l)) :
 Calls Try.prog 71 #[frV u lo A n c, m.val] w (RetFrB w (mbeF u lo l m) (mbeB u lo l m)) := by
 have H := Lib.hid h
 have HB0 := Lib.hid (ext_alloc (ext_alloc (ext_alloc (ext_refl w) (.cells #[.int .i64 u, .int .i64 lo, .slice A n c] 26)) (.cells #[.int .i64 m.a, .int .i64 m.b, .int .i64 m.c] 75)) (.cells #[.int .i64 0, .int .i64 0, .slice none 0 0] 26))
 have BF0 := Lib.hid (((Blk.born w #[.int .i64 u, .int .i64 lo, .slice A n c] 26 (H := w.heap.size) rfl).al (.cells #[.int .i64 m.a, .int .i64 m.b, .int .i64 m.c] 75)).al (.cells #[.int .i64 0, .int .i64 0, .slice none 0 0] 26))
 have BM0 := Lib.hid ((Blk.born (w.alloc (.cells #[.int .i64 u, .int .i64 lo, .slice A n c] 26)) #[.int .i64 m.a, .int .i64 m.b, .int .i64 m.c] 75 (H := w.heap.size + 1) (by simp)).al (.cells #[.int .i64 0, .int .i64 0, .slice none 0 0] 26))
 have BR0 := Lib.hid (Blk.born ((w.alloc (.cells #[.int .i64 u, .int .i64 lo, .slice A n c] 26)).alloc (.cells #[.int .i64 m.a, .int .i64 m.b, .int .i64 m.c] 75)) #[.int .i64 0, .int .i64 0, .slice none 0 0] 26 (H := w.heap.size + 1 + 1) (by simp))
 have HI := Lib.hid (fun (w : World) h => l2Good_any u lo A n c l w hn h)
 have HJ := Lib.hid (fun (w : World) => l4One_any m w)
 (try unfold RetV at HI)
 unfold RetFrB
 cases hf : frB u lo l
 · rw [show mbeF u lo l m = (0, 0, []) by unfold mbeF; rw [hf]; rfl, show mbeB u lo l m = false by unfold mbeB; rw [hf]; rfl]
   rw [hf] at HI
   clear h hf
   go_enter Try.func71, Try.ntmps71
   go_wp2_with fail
   obtain ⟨W0, hW0⟩ : ∃ y : World, y = ((w.alloc (.cells #[.int .i64 u, .int .i64 lo, .slice A n c] 26)).alloc (.cells #[.int .i64 m.a, .int .i64 m.b, .int .i64 m.c] 75)).alloc (.cells #[.int .i64 0, .int .i64 0, .slice none 0 0] 26) := ⟨_, rfl⟩
   rw [← hW0] at HB0 BF0 BM0 BR0
   go_upto_region 1 with fail
   rw [← hW0]
   clear hW0
   obtain ⟨a0, a1, a2⟩ := BF0.out.q3
   obtain ⟨b0, b1, b2⟩ := BM0.out.q3
   have la := BF0.out.lt
   have lb := BM0.out.lt
   go_wp2_with fail
   refine (HI.out _ (rdx H.out HB0.out)).mono ?_
   rintro e w1 ⟨rfl, hb⟩
   clear a0 a1 a2 b0 b1 b2 la lb
   have BF1 := Lib.hid (BF0.out.ext hb)
   have BM1 := Lib.hid (BM0.out.ext hb)
   have BR1 := Lib.hid (BR0.out.ext hb)
   have HB1 := Lib.hid (ext_trans HB0.out hb)
   clear hb
   obtain ⟨a0, a1, a2⟩ := BF1.out.q3
   obtain ⟨b0, b1, b2⟩ := BM1.out.q3
   have la := BF1.out.lt
   have lb := BM1.out.lt
   clear a0 a1 a2 b0 b1 b2 la lb
   obtain ⟨r0, r1, r2⟩ := BR1.out.q3
   obtain ⟨z0, z1, z2⟩ := BR1.out.z3
   have lr := BR1.out.lt
   go_wp2
   refine bodyPost_ret (v := .tuple #[frV 0 0 none 0 0, .bool false]) (by simp [results, Try.results71, go_sem, *]) rfl ?_
   exact ⟨none, 0, rfl, World.ownsRow_nil _ _ _ _, fill_below HB1.out (by omega)⟩
 cases hm : okM m
 · rw [show mbeF u lo l m = (0, 0, []) by unfold mbeF; rw [hf, hm]; rfl, show mbeB u lo l m = false by unfold mbeB; rw [hf, hm]; rfl]
   rw [hf] at HI
   unfold R3.val at HJ ⊢
   rw [hm] at HJ
   clear h hf hm
   go_enter Try.func71, Try.ntmps71
   go_wp2_with fail
   obtain ⟨W0, hW0⟩ : ∃ y : World, y = ((w.alloc (.cells #[.int .i64 u, .int .i64 lo, .slice A n c] 26)).alloc (.cells #[.int .i64 m.a, .int .i64 m.b, .int .i64 m.c] 75)).alloc (.cells #[.int .i64 0, .int .i64 0, .slice none 0 0] 26) := ⟨_, rfl⟩
   rw [← hW0] at HB0 BF0 BM0 BR0
   go_upto_region 1 with fail
   rw [← hW0]
   clear hW0
   obtain ⟨a0, a1, a2⟩ := BF0.out.q3
   obtain ⟨b0, b1, b2⟩ := BM0.out.q3
   have la := BF0.out.lt
   have lb := BM0.out.lt
   go_wp2_with fail
   refine (HI.out _ (rdx H.out HB0.out)).mono ?_
   rintro e w1 ⟨rfl, hb⟩
   clear a0 a1 a2 b0 b1 b2 la lb
   have BF1 := Lib.hid (BF0.out.ext hb)
   have BM1 := Lib.hid (BM0.out.ext hb)
   have BR1 := Lib.hid (BR0.out.ext hb)
   have HB1 := Lib.hid (ext_trans HB0.out hb)
   clear hb
   obtain ⟨a0, a1, a2⟩ := BF1.out.q3
   obtain ⟨b0, b1, b2⟩ := BM1.out.q3
   have la := BF1.out.lt
   have lb := BM1.out.lt
   go_wp2_with fail
   refine (HJ.out _).mono ?_
   rintro e w2 ⟨rfl, hb⟩
   clear a0 a1 a2 b0 b1 b2 la lb
   have BF2 := Lib.hid (BF1.out.ext hb)
   have BM2 := Lib.hid (BM1.out.ext hb)
   have BR2 := Lib.hid (BR1.out.ext hb)
   have HB2 := Lib.hid (ext_trans HB1.out hb)
   clear hb
   obtain ⟨a0, a1, a2⟩ := BF2.out.q3
   obtain ⟨b0, b1, b2⟩ := BM2.out.q3
   have la := BF2.out.lt
   have lb := BM2.out.lt
   clear a0 a1 a2 b0 b1 b2 la lb
   obtain ⟨r0, r1, r2⟩ := BR2.out.q3
   obtain ⟨z0, z1, z2⟩ := BR2.out.z3
   have lr := BR2.out.lt
   go_wp2
   refine bodyPost_ret (v := .tuple #[frV 0 0 none 0 0, .bool false]) (by simp [results, Try.results71, go_sem, *]) rfl ?_
   exact ⟨none, 0, rfl, World.ownsRow_nil _ _ _ _, fill_below HB2.out (by omega)⟩
 · rw [show mbeF u lo l m = mvF u lo l m by unfold mbeF; rw [hf, hm]; rfl, show mbeB u lo l m = mvB u lo l m by unfold mbeB; rw [hf, hm]; rfl]
   have HM := Lib.hid (fun (w : World) h => l4Make_any u lo A n c l m w hf hm h)
   obtain ⟨R, hR⟩ : ∃ o9, mvF u lo l m = o9 := ⟨_, rfl⟩
   obtain ⟨b, hb⟩ : ∃ o9, mvB u lo l m = o9 := ⟨_, rfl⟩
   rw [hR, hb] at HM
   rw [hR, hb]
   obtain ⟨U, LO, L⟩ := R
   unfold RetFrB at HM
   dsimp only at HM ⊢
   unfold R3.val at HJ HM ⊢
   rw [hf] at HI
   rw [hm] at HJ
   clear h hf hm hR hb
   go_enter Try.func71, Try.ntmps71
   go_wp2_with fail
   obtain ⟨W0, hW0⟩ : ∃ y : World, y = ((w.alloc (.cells #[.int .i64 u, .int .i64 lo, .slice A n c] 26)).alloc (.cells #[.int .i64 m.a, .int .i64 m.b, .int .i64 m.c] 75)).alloc (.cells #[.int .i64 0, .int .i64 0, .slice none 0 0] 26) := ⟨_, rfl⟩
   rw [← hW0] at HB0 BF0 BM0 BR0
   go_upto_region 1 with fail
   rw [← hW0]
   clear hW0
   obtain ⟨a0, a1, a2⟩ := BF0.out.q3
   obtain ⟨b0, b1, b2⟩ := BM0.out.q3
   have la := BF0.out.lt
   have lb := BM0.out.lt
   go_wp2_with fail
   refine (HI.out _ (rdx H.out HB0.out)).mono ?_
   rintro e w1 ⟨rfl, hb⟩
   clear a0 a1 a2 b0 b1 b2 la lb
   have BF1 := Lib.hid (BF0.out.ext hb)
   have BM1 := Lib.hid (BM0.out.ext hb)
   have BR1 := Lib.hid (BR0.out.ext hb)
   have HB1 := Lib.hid (ext_trans HB0.out hb)
   clear hb
   obtain ⟨a0, a1, a2⟩ := BF1.out.q3
   obtain ⟨b0, b1, b2⟩ := BM1.out.q3
   have la := BF1.out.lt
   have lb := BM1.out.lt
   go_wp2_with fail
   refine (HJ.out _).mono ?_
   rintro e w2 ⟨rfl, hb⟩
   clear a0 a1 a2 b0 b1 b2 la lb
   have BF2 := Lib.hid (BF1.out.ext hb)
   have BM2 := Lib.hid (BM1.out.ext hb)
   have BR2 := Lib.hid (BR1.out.ext hb)
   have HB2 := Lib.hid (ext_trans HB1.out hb)
   clear hb
   obtain ⟨a0, a1, a2⟩ := BF2.out.q3
   obtain ⟨b0, b1, b2⟩ := BM2.out.q3
   have la := BF2.out.lt
   have lb := BM2.out.lt
   go_wp2_with fail
   refine (HM.out _ (rdx H.out HB2.out)).mono ?_
   rintro e w3 ⟨Am, cm, rfl, ho, hb⟩
   clear a0 a1 a2 b0 b1 b2 la lb
   have BF3 := Lib.hid (BF2.out.ext hb)
   have BM3 := Lib.hid (BM2.out.ext hb)
   have BR3 := Lib.hid (BR2.out.ext hb)
   have HB3 := Lib.hid (ext_trans HB2.out hb)
   clear hb
   obtain ⟨a0, a1, a2⟩ := BF3.out.q3
   obtain ⟨b0, b1, b2⟩ := BM3.out.q3
   have la := BF3.out.lt
   have lb := BM3.out.lt
   have HO3 := Lib.hid (own_base ho HB2.out.size)
   clear ho a0 a1 a2 b0 b1 b2 la lb
   obtain ⟨r0, r1, r2⟩ := BR3.out.q3
   obtain ⟨z0, z1, z2⟩ := BR3.out.z3
   have lr := BR3.out.lt
   go_wp2
   refine bodyPost_ret (v := .tuple #[frV U LO Am L.length cm, .bool b]) (by simp [results, Try.results71, go_sem, *]) rfl ?_
   exact ⟨Am, cm, rfl, World.ownsRow.alloc (fill_own' HO3.out (own_nbT HO3.out BR3.out (by decide))) _, ext_alloc (fill_below HB3.out (by omega)) _⟩
end Go.Proofs.Ytphhelmcaehclaa
namespace Go.Proofs.Ytphhelmcaehclaa
open Go.RowKit
set_option linter.unusedVariables false
set_option linter.unusedSimpArgs false
/-- what PlayMoves gives -/
def plF (u lo : Int) (l : List R2) (ms : List R3) : Int × Int × List R2 := if frB u lo l && mvsB ms then playF u lo l ms else (0, 0, [])
def plB (u lo : Int) (l : List R2) (ms : List R3) : Bool := frB u lo l && mvsB ms && (playS u lo l ms).isSome
theorem pl_of {u lo : Int} {l x : List R2} {ms : List R3} (hf : frB u lo l = true) (hm : mvsB ms = true) (h : playS u lo l ms = some x) : plF u lo l ms = (u, lo, x) ∧ plB u lo l ms = true := by
 unfold plF plB playF
 rw [hf, hm, h]
 exact ⟨rfl, rfl⟩
theorem pl_to {u lo : Int} {l : List R2} {ms : List R3} (h : plB u lo l ms = true) : frB u lo l = true ∧ mvsB ms = true ∧ ∃ x, playS u lo l ms = some x ∧ plF u lo l ms = (u, lo, x) := by
 have h0 := h
 unfold plB at h
 simp only [Bool.and_eq_true] at h
 obtain ⟨⟨hf, hm⟩, hs⟩ := h
 obtain ⟨x, hx⟩ := Option.isSome_iff_exists.1 hs
 exact ⟨hf, hm, x, hx, (pl_of hf hm hx).1⟩
theorem plF_len (u lo : Int) (l : List R2) (ms : List R3) : (plF u lo l ms).2.2.length ≤ l.length := by
 by_cases h : plB u lo l ms = true
 · obtain ⟨hf, _, x, hx, e⟩ := pl_to h
   rw [e]
   exact Nat.le_of_eq (play_len hx)
 · unfold plF playF
   split
   · rename_i h2
     split
     · rename_i x hx
       exact Nat.le_of_eq (play_len hx)
     · exact Nat.zero_le _
   · exact Nat.zero_le _
theorem play_lt {u lo : Int} (ms : List R3) : ∀ (l : List R2) (x : List R2), playS u lo l ms = some x → ∀ m ∈ ms, m.a < (l.length : Int) := by
 induction ms with
 | nil => intro l x _ m hm; cases hm
 | cons a ms ih =>
   intro l x h m hm
   rw [play_cons] at h
   by_cases hb : mvB u lo l a = true
   · rw [if_pos hb] at h
     rcases List.mem_cons.1 hm with rfl | hm
     · unfold mvB at hb
       simp only [Bool.and_eq_true, decide_eq_true_eq] at hb
       exact hb.1
     · have := ih _ _ h m hm
       rwa [mvL_len] at this
   · rw [if_neg hb] at h
     cases h
/-- what the law asks of a play that goes -/
theorem fmv_law {u lo : Int} {l : List R2} {ms : List R3} (h : plB u lo l ms = true) : ∃ bt : List R3,
 frB u lo l = true ∧ frB (plF u lo l ms).1 (plF u lo l ms).2.1 (plF u lo l ms).2.2 = true ∧ mvsB ms = true ∧ plF (plF u lo l ms).1 (plF u lo l ms).2.1 (plF u lo l ms).2.2 (undo ms) = (u, lo, l) ∧ plB (plF u lo l ms).1 (plF u lo l ms).2.1 (plF u lo l ms).2.2 (undo ms) = true ∧ chB ms (l.length : Int) = true ∧ numR (plF u lo l ms).2.2 = numR l + chV ms (l.length : Int) ∧
 mbB u lo l (plF u lo l ms).1 (plF u lo l ms).2.1 (plF u lo l ms).2.2 = true ∧ mbL u lo l (plF u lo l ms).1 (plF u lo l ms).2.1 (plF u lo l ms).2.2 = bt ∧ mvsB bt = true ∧ plF u lo l bt = plF u lo l ms ∧ plB u lo l bt = true ∧ beads bt ≤ beads ms ∧ bt.length ≤ ms.length := by
 obtain ⟨hf, hm, x, hx, e⟩ := pl_to h
 have hfx := play_fr hf hx
 have hlx := play_len hx
 have hok : ∀ m ∈ ms, okM m = true := by
  unfold mvsB at hm
  simp only [Bool.and_eq_true, List.all_eq_true] at hm
  exact hm.2
 have hun := undo_back hf ms hok ms.length x (by rw [List.take_length]; exact hx)
 rw [List.take_length] at hun
 have hnum := num_play ms hok ms.length x (by rw [List.take_length]; exact hx)
 rw [List.take_length] at hnum
 have hle := btw_least (u := u) (lo := lo) (l := l) l.length ms hok ms.length x (by rw [List.take_length]; exact hx)
 rw [List.take_length] at hle
 have hbt := play_between hf hfx hlx
 have hmb : mbB u lo l u lo x = true := by unfold mbB; rw [hf, hfx, hlx]; simp
 have hmbt := mvs_btw hf hfx hlx
 have hh := frB_head hf
 have hcb : chB ms (l.length : Int) = true := by
  unfold chB
  rw [hm, (inB_iff).2 (by omega), Bool.true_and, Bool.true_and, List.all_eq_true]
  intro m hmm
  exact decide_eq_true (play_lt ms l x hx m hmm)
 have u1 := pl_of hfx (mvs_undo hm) hun
 have b1 := pl_of hf hmbt hbt
 rw [e]
 refine ⟨btw l x l.length, hf, hfx, hm, u1.1, u1.2, hcb, ?_, hmb, ?_, hmbt, b1.1, b1.2, hle.1, hle.2⟩
 · unfold chV
   rw [if_pos hcb, hnum]
   simp
 · unfold mbL
   rw [if_pos hmb]
theorem mbL_len (u lo : Int) (l : List R2) (u' lo' : Int) (l' : List R2) : (mbL u lo l u' lo' l').length ≤ 2 * l.length := by
 unfold mbL
 split
 · exact btw_len _ _ _
 · exact Nat.zero_le _
theorem unL_len (ms : List R3) : (unL ms).length ≤ ms.length := by
 unfold unL
 split
 · rw [undo_len]; exact Nat.le_refl _
 · exact Nat.zero_le _
theorem mbeF_len (u lo : Int) (l : List R2) (m : R3) : (mbeF u lo l m).2.2.length ≤ l.length := by
 unfold mbeF mvF
 split
 · split
   · exact Nat.le_of_eq (mvL_len l m)
   · exact Nat.zero_le _
 · exact Nat.zero_le _
end Go.Proofs.Ytphhelmcaehclaa
