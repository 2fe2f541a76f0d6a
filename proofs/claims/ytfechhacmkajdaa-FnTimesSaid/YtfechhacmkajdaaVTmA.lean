/- Digit products, doubling, wrong digits, casting out: both. -/
import Derived.Maps.AppendAt
import Derived.Test.YtfechhacmkajdaaVM8
import Derived.Test.YtfechhacmkajdaaVM4
import Derived.Test.YtfechhacmkajdaaVFrY
import Derived.Test.YtfechhacmkajdaaVM3
namespace Go.Proofs.Ytfechhacmkajdaa
open Go.RowKit
set_option linter.unusedVariables false
set_option linter.unusedSimpArgs false
theorem dj_none (v : Value) : v.ownBlock = none ∨ v.ownBlock ≠ Value.ownBlock (.slice none 0 0) := by
 rcases h : v.ownBlock with _ | q
 · exact .inl rfl
 · exact .inr (fun e => by cases e)
theorem dj_low {w : World} {B E s n H : Nat} {v : Value} {xs : List Value} (hv : w.ownsRow B E s v n xs) (hH : H < B) : v.ownBlock = none ∨ v.ownBlock ≠ Value.ownBlock (.slice (some ⟨H, 0, none⟩) 0 0) := by
 rcases h : v.ownBlock with _ | q
 · exact .inl rfl
 · refine .inr fun e => ?_
   have e2 : q = H := by injection e
   have := (hv.lt q h).1
   omega
theorem dj_next {w : World} {B E s n H : Nat} {v a b : Value} {xs : List Value} (hv : w.ownsRow B E s v n xs) (hd : v.ownBlock = none ∨ v.ownBlock ≠ a.ownBlock) (hH : w.heap.size ≤ H) (hb : b.ownBlock = a.ownBlock ∨ b.ownBlock = some H) : v.ownBlock = none ∨ v.ownBlock ≠ b.ownBlock := by
 rcases hb with e | e
 · rw [e]; exact hd
 · rcases h : v.ownBlock with _ | q
   · exact .inl rfl
   · refine .inr ?_
     rw [e]
     intro e2
     injection e2 with e2
     have := (hv.lt q h).2
     omega
def tw : Nat → Int
 | 0 => 1
 | n + 1 => 2 * tw n
theorem tw_succ (n : Nat) : tw (n + 1) = 2 * tw n := rfl
theorem tw_pos : ∀ n, 1 ≤ tw n := by
 intro n
 induction n with
 | zero => exact Int.le_refl _
 | succ n ih => rw [tw_succ]; omega
theorem tw_bound {y : Int} {f : Nat} (h0 : 0 ≤ y) (h : y * tw f ≤ 163823616) : y ≤ 163823616 := by
 have := Int.mul_le_mul_of_nonneg_left (tw_pos f) h0
 omega
theorem fac_parts {a b : Int} (h : facB a b = true) : inB a 0 9999 = true ∧ inB b 0 9999 = true := by
 unfold facB at h
 simpa using h
def dpB (a d : Int) : Bool := inB a 0 9999 && inB d 0 9
def dpL (a d : Int) : List Int := if dpB a d = true then (dgF a).map (fun x => x * d) else []
def dbB (a b : Int) : Bool := facB a b
def dbL (a b : Int) : List R2 := if dbB a b = true then dbl 14 a b else []
def wgB (a b s : Int) : Bool := facB a b && inB s 0 99999999
def wgL (a b s : Int) : List Int := if wgB a b s = true then wrg (a * b) s 8 else []
def ptB (a b : Int) : Bool := facB a b
def ptL (a b : Int) : List R3 := if ptB a b = true then ptsF a b else []
def coB (a b s : Int) : Bool := facB a b && decide (0 ≤ s)
def coV (a b s : Int) : Bool := coB a b s && decide (s % 9 = a * b % 9)

set_option maxRecDepth 100000 in
set_option maxHeartbeats 8000000 in
theorem implByDoubling_any (a b : Int) (w : World) : Calls Try.prog 14 #[.int .i64 a, .int .i64 b] w (RetSliceB w 54 2 (dbL a b).length (rowsV2 (dbL a b)) (dbB a b)) := by
 obtain ⟨i0, hi, hz0, hz1, hz2⟩ := info_parts info_rod
 unfold RetSliceB
 have HF0 := Lib.hid (fun (w : World) => areFactors_any a b w)
 cases hb0 : facB a b
 · have e : dbB a b = false := by unfold dbB; rw [hb0]
   rw [show dbL a b = [] by unfold dbL; rw [if_neg (by rw [e]; simp)], e]
   rw [hb0] at HF0
   clear e hb0
   go_enter Try.func14, Try.ntmps14
   go_wp2_with fail
   refine (HF0.out _).mono ?_
   rintro e wz ⟨rfl, rfl⟩
   go_wp2
   go_ret2
   exact ⟨none, 0, rfl, World.ownsRow_nil _ _ _ _, ext_refl _⟩
 have e : dbB a b = true := by unfold dbB; rw [hb0]; (try rfl)
 rw [show dbL a b = dbl 14 a b by unfold dbL; rw [if_pos e], e]
 rw [hb0] at HF0
 have ha := inB_iff.1 (fac_parts hb0).1
 have hb := inB_iff.1 (fac_parts hb0).2
 clear e hb0
 have hx14 : a < tw 14 := by rw [show tw 14 = 16384 from rfl]; omega
 have hy14 : b * tw 14 ≤ 163823616 := by rw [show tw 14 = 16384 from rfl]; omega
 have h0a := ha.1
 have h9a := ha.2
 have h0b := hb.1
 clear ha hb
 go_enter Try.func14, Try.ntmps14
 go_wp2_with fail
 refine (HF0.out _).mono ?_
 rintro e wz ⟨rfl, rfl⟩
 go_wp2_with fail
 go_loopw [0, 1, 6] (fun av bv out wr => ∃ (f : Nat) (x y : Int) (A : Option Addr) (c : Nat) (pre : List R2), av = .int .i64 x ∧ bv = .int .i64 y ∧ out = .slice A pre.length c ∧ 0 ≤ x ∧ x ≤ 9999 ∧ 0 ≤ y ∧ pre.length + f = 14 ∧ Hid (x < tw f) ∧ Hid (y * tw f ≤ 163823616) ∧ Hid (pre ++ dbl f x y = dbl 14 a b) ∧ Hid (wr.ownsRow w.heap.size 54 2 (.slice A pre.length c) pre.length (rowsV2 pre)) ∧ Hid (Below w.heap.size w wr)) (fun av _ _ _ => (intOf av).toNat)
 case atStart => exact ⟨14, a, b, none, 0, [], rfl, rfl, rfl, by omega, by omega, by omega, rfl, Lib.hid hx14, Lib.hid hy14, Lib.hid rfl, Lib.hid (World.ownsRow_nil _ _ _ _), Lib.hid (ext_refl _)⟩
 case round =>
  obtain ⟨f, x, y, A, c, pre, rfl, rfl, rfl, hx0, hx9, hy0, hpf, HTX, HTY, HP, HO, HX⟩ := hrel
  by_cases hx1 : 1 ≤ x
  · obtain ⟨f, rfl⟩ : ∃ k, f = k + 1 := by
     cases f with
     | zero => have h := HTX.out; rw [show tw 0 = 1 from rfl] at h; omega
     | succ k => exact ⟨k, rfl⟩
    obtain ⟨V, hV⟩ : ∃ V : World, V = wr := ⟨_, rfl⟩
    subst hV
    have hyb : y ≤ 163823616 := tw_bound hy0 HTY.out
    have HTX2 := Lib.hid (show x / 2 < tw f by have h := HTX.out; rw [tw_succ] at h; omega)
    have HTY2 := Lib.hid (show 2 * y * tw f ≤ 163823616 by have h := HTY.out; rw [tw_succ, ← Int.mul_assoc, Int.mul_comm y 2] at h; exact h)
    have HP2 := Lib.hid (show (pre ++ [⟨x, y⟩]) ++ dbl f (x / 2) (2 * y) = dbl 14 a b by have h := HP.out; rw [dbl_pos (by omega)] at h; rw [List.append_assoc]; exact h)
    have htd : x.tdiv 2 = x / 2 := Int.tdiv_eq_ediv_of_nonneg hx0
    have hxd : 0 ≤ x / 2 ∧ x / 2 < x := by omega
    obtain ⟨x2, hx2⟩ : ∃ o9, x / 2 = o9 := ⟨_, rfl⟩
    rw [hx2] at htd hxd HTX2 HP2
    have hw1 : IntKind.i64.wrap x2 = x2 := by rw [IntKind.wrap_i64]; omega
    have hm1 : y * 2 = 2 * y := Int.mul_comm _ _
    obtain ⟨y2, hy2⟩ : ∃ o9, 2 * y = o9 := ⟨_, rfl⟩
    have hy2b : 0 ≤ y2 ∧ y2 ≤ 400000000 := by omega
    rw [hy2] at hm1 HTY2 HP2
    have hw2 : IntKind.i64.wrap y2 = y2 := by rw [IntKind.wrap_i64]; omega
    have hw3 : wrap64 y2 = y2 := by unfold wrap64; omega
    have HY2 := Lib.hid hy2
    have hbV : w.heap.size ≤ V.heap.size := HX.out.size
    have m1 : pre.length + 1 ≤ maxLen := by unfold maxLen; omega
    have m2 : (pre.length + 1) * 16 ≤ 140737488355328 := by omega
    clear hx2
    clear hy2
    go_wp2_with (at_builtin; refine wpList_append_own_at _ rfl (.tmp 13) (.tmp 17) 34 rfl w.heap.size 54 i0 _ 2 16 Try.underlying34 hi hz0 hz1 hz2 rfl (by decide) (.slice A pre.length c) pre.length (rowsV2 pre) rfl (HO.out.alloc (.cells #[.int .i64 x, .int .i64 y] 54)) _ 1 1 [.int .i64 x, .int .i64 y] rfl rfl (cells_new_at V [.int .i64 x, .int .i64 y] 54 rfl) (by simp [Value.oneCell']) m1 m2 (Nat.le_trans hbV (by simp)) ?_; intro v9 w6 hown hgrow _ hat; obtain ⟨A4, c4, rfl⟩ := own_shape hown; have HGR := Lib.hid hgrow; have HOW := Lib.hid hown; have HAT := Lib.hid hat; clear hown hgrow hat)
    have HB6 := Lib.hid (below_grown' (HO.out.alloc (.cells #[.int .i64 x, .int .i64 y] 54)) (Nat.le_refl _) (ext_alloc HX.out (.cells #[.int .i64 x, .int .i64 y] 54)) HGR.out)
    have hlen : (pre ++ [(⟨x, y⟩ : R2)]).length = pre.length + 1 := by simp
    have HOW2 := Lib.hid (show w6.ownsRow w.heap.size 54 2 (.slice A4 (pre ++ [(⟨x, y⟩ : R2)]).length c4) (pre ++ [(⟨x, y⟩ : R2)]).length (rowsV2 (pre ++ [⟨x, y⟩])) by rw [hlen]; have h9 := HOW.out; simpa [rowsV2, R2.cells] using h9)
    rw [← hlen]
    have HLL := Lib.hid hlen
    clear hlen
    go_wp2
    go_roundw
    case rel => exact ⟨f, x2, y2, A4, c4, pre ++ [⟨x, y⟩], by go_num, by go_num, rfl, by omega, by omega, by omega, by rw [HLL.out]; omega, HTX2, HTY2, HP2, HOW2, HB6⟩
    case measure => simp [intOf]; omega
  · have HPE := HP.out
    rw [dbl_no (by omega), List.append_nil] at HPE
    have HPF := Lib.hid HPE
    clear HPE
    go_wp2
    go_ret2
    rw [← HPF.out]
    exact ⟨_, _, rfl, HO.out, HX.out⟩

set_option maxRecDepth 100000 in
set_option maxHeartbeats 8000000 in
theorem l9Rows_any (a b : Int) (w : World) (ha : 0 ≤ a ∧ a ≤ 9999) (hb : 0 ≤ b ∧ b ≤ 9999) : Calls Try.prog 32 #[.int .i64 a, .int .i64 b] w (RetSlice w 54 2 (dbl 14 a b).length (rowsV2 (dbl 14 a b))) := by
 obtain ⟨i0, hi, hz0, hz1, hz2⟩ := info_parts info_rod
 unfold RetSlice
 have hx14 : a < tw 14 := by rw [show tw 14 = 16384 from rfl]; omega
 have hy14 : b * tw 14 ≤ 163823616 := by rw [show tw 14 = 16384 from rfl]; omega
 have h0a := ha.1
 have h9a := ha.2
 have h0b := hb.1
 clear ha hb
 go_enter Try.func32, Try.ntmps32
 go_wp2_with fail
 go_loopw [0, 1, 5] (fun av bv out wr => ∃ (f : Nat) (x y : Int) (A : Option Addr) (c : Nat) (pre : List R2), av = .int .i64 x ∧ bv = .int .i64 y ∧ out = .slice A pre.length c ∧ 0 ≤ x ∧ x ≤ 9999 ∧ 0 ≤ y ∧ pre.length + f = 14 ∧ Hid (x < tw f) ∧ Hid (y * tw f ≤ 163823616) ∧ Hid (pre ++ dbl f x y = dbl 14 a b) ∧ Hid (wr.ownsRow w.heap.size 54 2 (.slice A pre.length c) pre.length (rowsV2 pre)) ∧ Hid (Below w.heap.size w wr)) (fun av _ _ _ => (intOf av).toNat)
 case atStart => exact ⟨14, a, b, _, _, [], rfl, rfl, rfl, by omega, by omega, by omega, rfl, Lib.hid hx14, Lib.hid hy14, Lib.hid rfl, Lib.hid (own_lit0 w 54 2), Lib.hid (ext_alloc (ext_refl w) (.cells #[] 54))⟩
 case round =>
  obtain ⟨f, x, y, A, c, pre, rfl, rfl, rfl, hx0, hx9, hy0, hpf, HTX, HTY, HP, HO, HX⟩ := hrel
  by_cases hx1 : 1 ≤ x
  · obtain ⟨f, rfl⟩ : ∃ k, f = k + 1 := by
     cases f with
     | zero => have h := HTX.out; rw [show tw 0 = 1 from rfl] at h; omega
     | succ k => exact ⟨k, rfl⟩
    obtain ⟨V, hV⟩ : ∃ V : World, V = wr := ⟨_, rfl⟩
    subst hV
    have hyb : y ≤ 163823616 := tw_bound hy0 HTY.out
    have HTX2 := Lib.hid (show x / 2 < tw f by have h := HTX.out; rw [tw_succ] at h; omega)
    have HTY2 := Lib.hid (show 2 * y * tw f ≤ 163823616 by have h := HTY.out; rw [tw_succ, ← Int.mul_assoc, Int.mul_comm y 2] at h; exact h)
    have HP2 := Lib.hid (show (pre ++ [⟨x, y⟩]) ++ dbl f (x / 2) (2 * y) = dbl 14 a b by have h := HP.out; rw [dbl_pos (by omega)] at h; rw [List.append_assoc]; exact h)
    have htd : x.tdiv 2 = x / 2 := Int.tdiv_eq_ediv_of_nonneg hx0
    have hxd : 0 ≤ x / 2 ∧ x / 2 < x := by omega
    obtain ⟨x2, hx2⟩ : ∃ o9, x / 2 = o9 := ⟨_, rfl⟩
    rw [hx2] at htd hxd HTX2 HP2
    have hw1 : IntKind.i64.wrap x2 = x2 := by rw [IntKind.wrap_i64]; omega
    have hm1 : y * 2 = 2 * y := Int.mul_comm _ _
    obtain ⟨y2, hy2⟩ : ∃ o9, 2 * y = o9 := ⟨_, rfl⟩
    have hy2b : 0 ≤ y2 ∧ y2 ≤ 400000000 := by omega
    rw [hy2] at hm1 HTY2 HP2
    have hw2 : IntKind.i64.wrap y2 = y2 := by rw [IntKind.wrap_i64]; omega
    have hw3 : wrap64 y2 = y2 := by unfold wrap64; omega
    have HY2 := Lib.hid hy2
    have hbV : w.heap.size ≤ V.heap.size := HX.out.size
    have m1 : pre.length + 1 ≤ maxLen := by unfold maxLen; omega
    have m2 : (pre.length + 1) * 16 ≤ 140737488355328 := by omega
    clear hx2
    clear hy2
    go_wp2_with (at_builtin; refine wpList_append_own_at _ rfl (.tmp 9) (.tmp 13) 34 rfl w.heap.size 54 i0 _ 2 16 Try.underlying34 hi hz0 hz1 hz2 rfl (by decide) (.slice A pre.length c) pre.length (rowsV2 pre) rfl (HO.out.alloc (.cells #[.int .i64 x, .int .i64 y] 54)) _ 1 1 [.int .i64 x, .int .i64 y] rfl rfl (cells_new_at V [.int .i64 x, .int .i64 y] 54 rfl) (by simp [Value.oneCell']) m1 m2 (Nat.le_trans hbV (by simp)) ?_; intro v9 w6 hown hgrow _ hat; obtain ⟨A4, c4, rfl⟩ := own_shape hown; have HGR := Lib.hid hgrow; have HOW := Lib.hid hown; have HAT := Lib.hid hat; clear hown hgrow hat)
    have HB6 := Lib.hid (below_grown' (HO.out.alloc (.cells #[.int .i64 x, .int .i64 y] 54)) (Nat.le_refl _) (ext_alloc HX.out (.cells #[.int .i64 x, .int .i64 y] 54)) HGR.out)
    have hlen : (pre ++ [(⟨x, y⟩ : R2)]).length = pre.length + 1 := by simp
    have HOW2 := Lib.hid (show w6.ownsRow w.heap.size 54 2 (.slice A4 (pre ++ [(⟨x, y⟩ : R2)]).length c4) (pre ++ [(⟨x, y⟩ : R2)]).length (rowsV2 (pre ++ [⟨x, y⟩])) by rw [hlen]; have h9 := HOW.out; simpa [rowsV2, R2.cells] using h9)
    rw [← hlen]
    have HLL := Lib.hid hlen
    clear hlen
    go_wp2
    go_roundw
    case rel => exact ⟨f, x2, y2, A4, c4, pre ++ [⟨x, y⟩], by go_num, by go_num, rfl, by omega, by omega, by omega, by rw [HLL.out]; omega, HTX2, HTY2, HP2, HOW2, HB6⟩
    case measure => simp [intOf]; omega
  · have HPE := HP.out
    rw [dbl_no (by omega), List.append_nil] at HPE
    have HPF := Lib.hid HPE
    clear HPE
    go_wp2
    go_ret
    rw [← HPF.out]
    exact ⟨_, _, rfl, HO.out, HX.out⟩
set_option maxRecDepth 100000 in
set_option maxHeartbeats 8000000 in
theorem specByDoubling_any (a b : Int) (w : World) : Calls Try.prog 15 #[.int .i64 a, .int .i64 b] w (RetSliceB w 54 2 (dbL a b).length (rowsV2 (dbL a b)) (dbB a b)) := by
 unfold RetSliceB
 have HF0 := Lib.hid (fun (w : World) => l9Both_any a b w)
 cases hb0 : facB a b
 · have e : dbB a b = false := by unfold dbB; rw [hb0]
   rw [show dbL a b = [] by unfold dbL; rw [if_neg (by rw [e]; simp)], e]
   rw [hb0] at HF0
   clear e hb0
   go_enter Try.func15, Try.ntmps15
   go_wp2_with fail
   refine (HF0.out _).mono ?_
   rintro e wz ⟨rfl, rfl⟩
   go_wp2
   go_ret2
   exact ⟨_, _, rfl, own_lit0 w 54 2, ext_alloc (ext_refl w) (.cells #[] 54)⟩
 have e : dbB a b = true := by unfold dbB; rw [hb0]; (try rfl)
 rw [show dbL a b = dbl 14 a b by unfold dbL; rw [if_pos e], e]
 rw [hb0] at HF0
 have HR := Lib.hid (fun (w : World) => l9Rows_any a b w (inB_iff.1 (fac_parts hb0).1) (inB_iff.1 (fac_parts hb0).2))
 unfold RetSlice at HR
 clear e hb0
 go_enter Try.func15, Try.ntmps15
 go_wp2_with fail
 refine (HF0.out _).mono ?_
 rintro e wz ⟨rfl, rfl⟩
 go_wp2_with fail
 refine (HR.out _).mono ?_
 rintro e w1 ⟨A, c, rfl, ho, hb⟩
 go_wp2
 go_ret2
 exact ⟨_, _, rfl, ho, hb⟩

end Go.Proofs.Ytfechhacmkajdaa
