/- ScriptFor: both. -/
import Derived.Maps.AppendAt
import Derived.IntWalk
import Derived.Test.YtihljhikhplegaaVM9
import Derived.Test.YtihljhikhplegaaVM1
namespace Go.Proofs.Ytihljhikhplegaa
open Go.RowKit
set_option linter.unusedVariables false
set_option linter.unusedSimpArgs false
theorem isDividend_any (z : Int) (b : Bool) (w : World) (h : inB z 0 99999999 = b) : Calls Try.prog 47 #[.int .i64 z] w fun e w' => e = .returned (.bool b) ∧ Below w.heap.size w w' := by
 go_enter Try.func47, Try.ntmps47
 go_wp2_with fail
 refine (within_b _ _ _ _ _ h).mono ?_
 rintro e w1 ⟨rfl, hb⟩
 go_wp2
 go_ret
 exact ⟨rfl, hb⟩
theorem sfF_short : ∀ f m, ∀ w ∈ sfF f m, w.length ≤ 2 := by
 intro f
 induction f with
 | zero => intro m w hw; cases hw
 | succ f ih =>
   intro m w hw
   rw [sfF] at hw
   split at hw
   · cases hw
   · rcases List.mem_append.1 hw with hw | hw
     · rcases List.mem_append.1 hw with hw | hw
       · split at hw
         · simp only [List.mem_singleton] at hw
           subst hw
           exact Nat.le_refl 2
         · cases hw
       · split at hw
         · simp only [List.mem_singleton] at hw
           subst hw
           exact Nat.le_succ 1
         · cases hw
     · exact ih _ w hw
theorem sf_meas {x y : Nat} {z : Int} (hz : z = (y : Int)) (h : y < x) : (intOf (.int .i64 z)).toNat < (intOf (.int .i64 (x : Int))).toNat := by
 subst hz
 show ((y : Int)).toNat < ((x : Int)).toNat
 rw [Int.toNat_natCast, Int.toNat_natCast]
 exact h
theorem sfT_def (m : Nat) : sfT m = str (jnL (sfF 8 m)) := by unfold sfT; rfl
theorem sf_nil (t : ByteArray) : t.toList = [] ↔ t.size = 0 := by
 rw [ByteArray.toList_eq, ← bl_size]
 exact List.length_eq_zero_iff.symm
theorem sf_ne {t : ByteArray} (h : t.size ≠ 0) : t.toList.isEmpty = false := by
 rw [List.isEmpty_eq_false_iff]
 intro e
 exact h ((sf_nil t).1 e)
def RetSf (z : Int) (w : World) (e : Ending) (w' : World) : Prop := e = .returned (.tuple #[.string ((sfO z).getD ⟨#[]⟩), .bool (sfO z).isSome]) ∧ Below w.heap.size w w'
set_option maxRecDepth 100000 in
set_option maxHeartbeats 8000000 in
theorem implScriptFor_any (z : Int) (w : World) (hz : -1 ≤ z ∧ z ≤ 100000000) : Calls Try.prog 19 #[.int .i64 z] w (RetSf z w) := by
 obtain ⟨i0, hi0, hz0, hz1, hz2⟩ := info_parts info_str
 unfold RetSf
 cases hin : inB z 0 99999999
 · rw [show sfO z = none by unfold sfO; rw [if_neg (by rw [hin]; simp)]]
   have HI := Lib.hid (fun w => isDividend_any z false w hin)
   clear hin
   go_enter Try.func19, Try.ntmps19
   go_wp2_with fail
   refine (HI.out _).mono ?_
   rintro e w1 ⟨rfl, hb⟩
   go_wp2
   go_ret2
   exact ⟨rfl, hb⟩
 · have HI := Lib.hid (fun w => isDividend_any z true w hin)
   have hin2 := inB_iff.1 hin
   rw [show sfO z = some (sfT z.toNat) by unfold sfO; rw [if_pos hin]]
   obtain ⟨m, rfl⟩ := Int.eq_ofNat_of_zero_le hin2.1
   rw [Int.toNat_natCast]
   have hm : m < 10 ^ 8 := by omega
   have HT := Lib.hid (sfT_def m)
   have HBL := Lib.hid (fun x => sfF_blank 8 m x)
   have HLN := Lib.hid (sfF_len 8 m)
   clear hin hin2 hz
   go_enter Try.func19, Try.ntmps19
   go_wp2_with fail
   refine (HI.out _).mono ?_
   rintro e w1 ⟨rfl, hb⟩
   have HB1 := Lib.hid hb
   clear hb
   go_wp2_with fail
   go_loopw [4, 5] (fun v i wr => ∃ (f x : Nat) (W : List (List UInt8)) (B0 : Option Addr) (c0 : Nat), v = .slice B0 W.length c0 ∧ i = .int .i64 (x : Int) ∧ x < 10 ^ f ∧ f ≤ 8 ∧ Hid (W ++ sfF f x = sfF 8 m) ∧ Hid (wr.ownsRow w.heap.size 9 1 (.slice B0 W.length c0) W.length (strsV W)) ∧ Hid (Below w.heap.size w wr)) (fun _ i _ => (intOf i).toNat)
   case atStart => exact ⟨8, m, [], none, 0, rfl, rfl, hm, Nat.le_refl _, Lib.hid (List.nil_append _), Lib.hid (World.ownsRow_nil _ _ _ _), HB1⟩
   case round =>
    clear HB1
    obtain ⟨f, x, W, B0, c0, rfl, rfl, hx, hf, HF, HO0, HB0⟩ := hrel
    have hxb : x < 10 ^ 8 := Nat.lt_of_lt_of_le hx (Nat.pow_le_pow_right (by decide) hf)
    have hxm : x ≤ 100000000 := by omega
    have hwl : W.length ≤ 16 := by have h1 := congrArg List.length HF.out; rw [List.length_append] at h1; have := HLN.out; omega
    by_cases hx0 : 0 < x
    · obtain ⟨f, rfl⟩ : ∃ k, f = k + 1 := by
       cases f with
       | zero => omega
       | succ k => exact ⟨k, rfl⟩
      have HF2 := Lib.hid (show W ++ (((if x % 10 > 0 then [[43, dig (x % 10)]] else []) ++ (if x ≥ 10 then [[60]] else [])) ++ sfF f (x / 10)) = sfF 8 m by rw [← sfF_step hx0]; exact HF.out)
      have hx10 : x / 10 < 10 ^ f := by rw [Nat.pow_succ] at hx; omega
      have e0 : (0 : Int) < (x : Int) := by omega
      have htm : (x : Int).tmod 10 = ((x % 10 : Nat) : Int) := by rw [Int.tmod_eq_emod_of_nonneg (by omega)]; omega
      have htd : (x : Int).tdiv 10 = ((x / 10 : Nat) : Int) := by rw [Int.tdiv_eq_ediv_of_nonneg (by omega)]; omega
      have hd9 : x % 10 < 10 := by omega
      by_cases hd : x % 10 > 0
      · have e1 : (0 : Int) < ((x % 10 : Nat) : Int) := by omega
        have HTX := Lib.hid (fun (w : World) => text_any ((x % 10 : Nat) : Int) w (by omega) (by omega))
        rw [show decI ((x % 10 : Nat) : Int) = ⟨#[dig (x % 10)]⟩ by rw [decI_pos, dec_small hd9]] at HTX
        rw [if_pos hd] at HF2
        obtain ⟨d, hdd⟩ : ∃ d, x % 10 = d := ⟨_, rfl⟩
        obtain ⟨y, hyy⟩ : ∃ y, x / 10 = y := ⟨_, rfl⟩
        rw [hdd] at HTX HF2 e1 htm hd9
        rw [hyy] at HF2 hx10 htd
        have Q5 := Lib.hid (show wrap64 ((y : Nat) : Int) = (y : Int) by unfold wrap64; omega)
        have HY := Lib.hid hyy
        clear hd hdd hyy
        by_cases h10 : x ≥ 10
        · have e2 : (10 : Int) ≤ (x : Int) := by omega
          rw [if_pos h10] at HF2
          have hw2 : (W ++ [[43, dig d]]).length ≤ 17 := by simp; omega
          clear h10
          go_wp2_with fail
          refine (HTX.out _).mono ?_
          rintro e w2 ⟨rfl, hb⟩
          have HO0 := Lib.hid (own_ext HO0.out hb)
          have HB0 := Lib.hid (ext_trans HB0.out hb)
          clear hb
          have m1 : W.length + 1 ≤ maxLen := by unfold maxLen; omega
          have m2 : (W.length + 1) * 16 ≤ 140737488355328 := by omega
          go_upto_region 9 with (at_builtin; refine wpList_append_own_at _ rfl (.tmp 17) (.tmp 22) 66 rfl w.heap.size 9 i0 _ 1 16 Try.underlying66 hi0 hz0 hz1 hz2 rfl (by decide) (.slice B0 (W.length) c0) (W.length) (strsV (W)) rfl (HO0.out.alloc (.cells #[.string (⟨#[43]⟩ ++ ⟨#[dig d]⟩)] 9)) _ 1 1 [.string (⟨#[43]⟩ ++ ⟨#[dig d]⟩)] rfl rfl (cells_new_at _ [.string (⟨#[43]⟩ ++ ⟨#[dig d]⟩)] _ (by simp)) (by simp [Value.oneCell']) m1 m2 (by have h0 := HB0.out.size; simp; omega) ?_; intro v1 x1 hown hgrow _ hat; obtain ⟨g1, c1, hv, _, _⟩ := hown.form (by omega); subst hv; have HGR := Lib.hid hgrow; have HOW := Lib.hid hown; clear hown hgrow hat)
          have HB1 := Lib.hid (below_grown' (HO0.out.alloc (.cells #[.string (⟨#[43]⟩ ++ ⟨#[dig d]⟩)] 9)) (Nat.le_refl _) (ext_alloc HB0.out (.cells #[.string (⟨#[43]⟩ ++ ⟨#[dig d]⟩)] 9)) HGR.out)
          have HL1 := Lib.hid (show (W ++ [[43, dig d]]).length = W.length + 1 by simp)
          have HO1 := Lib.hid (show x1.ownsRow w.heap.size 9 1 (.slice (some ⟨g1, 0, none⟩) (W.length + 1) c1) (W.length + 1) (strsV (W ++ [[43, dig d]])) by have h9 := HOW.out; rw [show (⟨#[43]⟩ ++ ⟨#[dig d]⟩ : ByteArray) = str [43, dig d] from bl_inj (by first | (rw [bl_append]; rfl) | rfl)] at h9; simpa [strsV] using h9)
          clear HOW HGR m1 m2
          have m1 : W.length + 1 + 1 ≤ maxLen := by unfold maxLen; omega
          have m2 : (W.length + 1 + 1) * 16 ≤ 140737488355328 := by omega
          go_wp2_with (at_builtin; refine wpList_append_own_at _ rfl (.tmp 26) (.tmp 27) 66 rfl w.heap.size 9 i0 _ 1 16 Try.underlying66 hi0 hz0 hz1 hz2 rfl (by decide) (.slice (some ⟨g1, 0, none⟩) (W.length + 1) c1) (W.length + 1) (strsV (W ++ [[43, dig d]])) rfl (HO1.out.alloc (.cells #[.string (⟨#[60]⟩)] 9)) _ 1 1 [.string (⟨#[60]⟩)] rfl rfl (cells_new_at _ [.string (⟨#[60]⟩)] _ (by simp)) (by simp [Value.oneCell']) m1 m2 (by have h0 := HB1.out.size; simp; omega) ?_; intro v2 x2 hown hgrow _ hat; obtain ⟨g2, c2, hv, _, _⟩ := hown.form (by omega); subst hv; have HGR := Lib.hid hgrow; have HOW := Lib.hid hown; clear hown hgrow hat)
          have HB2 := Lib.hid (below_grown' (HO1.out.alloc (.cells #[.string (⟨#[60]⟩)] 9)) (Nat.le_refl _) (ext_alloc HB1.out (.cells #[.string (⟨#[60]⟩)] 9)) HGR.out)
          have HL2 := Lib.hid (show (W ++ [[43, dig d]] ++ [[60]]).length = W.length + 1 + 1 by simp)
          have HO2 := Lib.hid (show x2.ownsRow w.heap.size 9 1 (.slice (some ⟨g2, 0, none⟩) (W.length + 1 + 1) c2) (W.length + 1 + 1) (strsV (W ++ [[43, dig d]] ++ [[60]])) by have h9 := HOW.out; rw [show (⟨#[60]⟩ : ByteArray) = str [60] from bl_inj (by first | (rw [bl_append]; rfl) | rfl)] at h9; simpa [strsV] using h9)
          clear HOW HGR m1 m2
          go_wp2
          go_roundw
          case rel => exact ⟨f, y, W ++ [[43, dig d]] ++ [[60]], some ⟨g2, 0, none⟩, c2, by rw [HL2.out], by rw [Q5.out], hx10, by omega, Lib.hid (by have h9 := HF2.out; simp only [List.nil_append, List.append_nil, List.append_assoc] at h9 ⊢; exact h9), Lib.hid (by rw [HL2.out]; exact HO2.out), HB2⟩
          case measure => have h6 := HY.out; exact sf_meas Q5.out (by omega)
        · have e2 : ¬ (10 : Int) ≤ (x : Int) := by omega
          rw [if_neg h10] at HF2
          clear h10
          go_wp2_with fail
          refine (HTX.out _).mono ?_
          rintro e w2 ⟨rfl, hb⟩
          have HO0 := Lib.hid (own_ext HO0.out hb)
          have HB0 := Lib.hid (ext_trans HB0.out hb)
          clear hb
          have m1 : W.length + 1 ≤ maxLen := by unfold maxLen; omega
          have m2 : (W.length + 1) * 16 ≤ 140737488355328 := by omega
          go_upto_region 9 with (at_builtin; refine wpList_append_own_at _ rfl (.tmp 17) (.tmp 22) 66 rfl w.heap.size 9 i0 _ 1 16 Try.underlying66 hi0 hz0 hz1 hz2 rfl (by decide) (.slice B0 (W.length) c0) (W.length) (strsV (W)) rfl (HO0.out.alloc (.cells #[.string (⟨#[43]⟩ ++ ⟨#[dig d]⟩)] 9)) _ 1 1 [.string (⟨#[43]⟩ ++ ⟨#[dig d]⟩)] rfl rfl (cells_new_at _ [.string (⟨#[43]⟩ ++ ⟨#[dig d]⟩)] _ (by simp)) (by simp [Value.oneCell']) m1 m2 (by have h0 := HB0.out.size; simp; omega) ?_; intro v1 x1 hown hgrow _ hat; obtain ⟨g1, c1, hv, _, _⟩ := hown.form (by omega); subst hv; have HGR := Lib.hid hgrow; have HOW := Lib.hid hown; clear hown hgrow hat)
          have HB1 := Lib.hid (below_grown' (HO0.out.alloc (.cells #[.string (⟨#[43]⟩ ++ ⟨#[dig d]⟩)] 9)) (Nat.le_refl _) (ext_alloc HB0.out (.cells #[.string (⟨#[43]⟩ ++ ⟨#[dig d]⟩)] 9)) HGR.out)
          have HL1 := Lib.hid (show (W ++ [[43, dig d]]).length = W.length + 1 by simp)
          have HO1 := Lib.hid (show x1.ownsRow w.heap.size 9 1 (.slice (some ⟨g1, 0, none⟩) (W.length + 1) c1) (W.length + 1) (strsV (W ++ [[43, dig d]])) by have h9 := HOW.out; rw [show (⟨#[43]⟩ ++ ⟨#[dig d]⟩ : ByteArray) = str [43, dig d] from bl_inj (by first | (rw [bl_append]; rfl) | rfl)] at h9; simpa [strsV] using h9)
          clear HOW HGR m1 m2
          go_wp2
          go_roundw
          case rel => exact ⟨f, y, W ++ [[43, dig d]], some ⟨g1, 0, none⟩, c1, by rw [HL1.out], by rw [Q5.out], hx10, by omega, Lib.hid (by have h9 := HF2.out; simp only [List.nil_append, List.append_nil, List.append_assoc] at h9 ⊢; exact h9), Lib.hid (by rw [HL1.out]; exact HO1.out), HB1⟩
          case measure => have h6 := HY.out; exact sf_meas Q5.out (by omega)
      · have e1 : ((x % 10 : Nat) : Int) = 0 := by omega
        have h10 : x ≥ 10 := by omega
        have e2 : (10 : Int) ≤ (x : Int) := by omega
        rw [if_neg hd, if_pos h10] at HF2
        rw [e1] at htm
        obtain ⟨y, hyy⟩ : ∃ y, x / 10 = y := ⟨_, rfl⟩
        rw [hyy] at HF2 hx10 htd
        have Q5 := Lib.hid (show wrap64 ((y : Nat) : Int) = (y : Int) by unfold wrap64; omega)
        have HY := Lib.hid hyy
        clear hd h10 e1 hyy
        have m1 : W.length + 1 ≤ maxLen := by unfold maxLen; omega
        have m2 : (W.length + 1) * 16 ≤ 140737488355328 := by omega
        go_wp2_with (at_builtin; refine wpList_append_own_at _ rfl (.tmp 26) (.tmp 27) 66 rfl w.heap.size 9 i0 _ 1 16 Try.underlying66 hi0 hz0 hz1 hz2 rfl (by decide) (.slice B0 (W.length) c0) (W.length) (strsV (W)) rfl (HO0.out.alloc (.cells #[.string (⟨#[60]⟩)] 9)) _ 1 1 [.string (⟨#[60]⟩)] rfl rfl (cells_new_at _ [.string (⟨#[60]⟩)] _ (by simp)) (by simp [Value.oneCell']) m1 m2 (by have h0 := HB0.out.size; simp; omega) ?_; intro v1 x1 hown hgrow _ hat; obtain ⟨g1, c1, hv, _, _⟩ := hown.form (by omega); subst hv; have HGR := Lib.hid hgrow; have HOW := Lib.hid hown; clear hown hgrow hat)
        have HB1 := Lib.hid (below_grown' (HO0.out.alloc (.cells #[.string (⟨#[60]⟩)] 9)) (Nat.le_refl _) (ext_alloc HB0.out (.cells #[.string (⟨#[60]⟩)] 9)) HGR.out)
        have HL1 := Lib.hid (show (W ++ [[60]]).length = W.length + 1 by simp)
        have HO1 := Lib.hid (show x1.ownsRow w.heap.size 9 1 (.slice (some ⟨g1, 0, none⟩) (W.length + 1) c1) (W.length + 1) (strsV (W ++ [[60]])) by have h9 := HOW.out; rw [show (⟨#[60]⟩ : ByteArray) = str [60] from bl_inj (by first | (rw [bl_append]; rfl) | rfl)] at h9; simpa [strsV] using h9)
        clear HOW HGR m1 m2
        go_wp2
        go_roundw
        case rel => exact ⟨f, y, W ++ [[60]], some ⟨g1, 0, none⟩, c1, by rw [HL1.out], by rw [Q5.out], hx10, by omega, Lib.hid (by have h9 := HF2.out; simp only [List.nil_append, List.append_nil, List.append_assoc] at h9 ⊢; exact h9), Lib.hid (by rw [HL1.out]; exact HO1.out), HB1⟩
        case measure => have h6 := HY.out; exact sf_meas Q5.out (by omega)
    · obtain rfl : x = 0 := by omega
      have hW : W = sfF 8 m := by have := HF.out; rw [sfF_zero, List.append_nil] at this; exact this
      have HJ := Lib.hid (fun (w : World) h => jn_any B0 W.length c0 ⟨#[32]⟩ (W.map str) w (by omega) (by decide) (by
       intro p hp
       obtain ⟨q, hq, rfl⟩ := List.mem_map.1 hp
       rw [str_size]
       rw [hW] at hq
       have := sfF_short 8 m q hq
       omega) h)
      have HV := Lib.hid (show jnTo ⟨#[32]⟩ (W.map str) W.length = sfT m by
       apply bl_inj
       have h1 := bl_jnTo (W.map str) W.length (by simp)
       rw [h1, HT.out, bl_str, ← hW, List.take_of_length_le (by simp), List.map_map]
       congr 1
       conv => rhs; rw [← List.map_id W]
       exact List.map_congr_left fun q _ => bl_str q)
      rw [HV.out] at HJ
      clear hW
      have hst : txsV (W.map str) = strsV W := by simp [txsV, strsV]
      go_wp2_with fail
      refine (HJ.out _ (by rw [hst]; exact Reads.of_own HO0.out)).mono ?_
      rintro e w2 ⟨rfl, hb⟩
      have HBZ := Lib.hid (ext_trans HB0.out hb)
      clear hb hst
      go_wp2
      go_ret2
      exact ⟨rfl, HBZ.out⟩

end Go.Proofs.Ytihljhikhplegaa
