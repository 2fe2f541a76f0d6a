/- Digit products, doubling, wrong digits, casting out: both. -/
import Derived.Maps.AppendAt
import Derived.Test.YtpddpkacpklbjaaVM8
import Derived.Test.YtpddpkacpklbjaaVM4
import Derived.Test.YtpddpkacpklbjaaVFrY
import Derived.Test.YtpddpkacpklbjaaVM3
namespace Go.Proofs.Ytpddpkacpklbjaa
open Go.RowKit
set_option linter.unusedVariables false
set_option linter.unusedSimpArgs false
theorem dj_none (v : Value) : v.ownBlock = none ∨ v.ownBlock ≠ Value.ownBlock (.slice none 0 0) := by
 rcases h : v.ownBlock with _ | q
 · exact .inl rfl
 · exact .inr (fun e => by cases e)
theorem dj_low {w : World} {B E s n H : Nat} {v : Value} {xs : List Value} (hv : w.ownsRow B E s v n xs) (hH : H < B) : v.ownBlock = none ∨ v.ownBlock ≠ Value.ownBlock (.slice (some ⟨H, 0, none⟩) 0 0) := by
 rcases h : v.ownBlock with _ | q
 · exact .inl rfl
 · refine .inr fun e => ?_
   have e2 : q = H := by injection e
   have := (hv.lt q h).1
   omega
theorem dj_next {w : World} {B E s n H : Nat} {v a b : Value} {xs : List Value} (hv : w.ownsRow B E s v n xs) (hd : v.ownBlock = none ∨ v.ownBlock ≠ a.ownBlock) (hH : w.heap.size ≤ H) (hb : b.ownBlock = a.ownBlock ∨ b.ownBlock = some H) : v.ownBlock = none ∨ v.ownBlock ≠ b.ownBlock := by
 rcases hb with e | e
 · rw [e]; exact hd
 · rcases h : v.ownBlock with _ | q
   · exact .inl rfl
   · refine .inr ?_
     rw [e]
     intro e2
     injection e2 with e2
     have := (hv.lt q h).2
     omega
def tw : Nat → Int
 | 0 => 1
 | n + 1 => 2 * tw n
theorem tw_succ (n : Nat) : tw (n + 1) = 2 * tw n := rfl
theorem tw_pos : ∀ n, 1 ≤ tw n := by
 intro n
 induction n with
 | zero => exact Int.le_refl _
 | succ n ih => rw [tw_succ]; omega
theorem tw_bound {y : Int} {f : Nat} (h0 : 0 ≤ y) (h : y * tw f ≤ 163823616) : y ≤ 163823616 := by
 have := Int.mul_le_mul_of_nonneg_left (tw_pos f) h0
 omega
theorem fac_parts {a b : Int} (h : facB a b = true) : inB a 0 9999 = true ∧ inB b 0 9999 = true := by
 unfold facB at h
 simpa using h
def dpB (a d : Int) : Bool := inB a 0 9999 && inB d 0 9
def dpL (a d : Int) : List Int := if dpB a d = true then (dgF a).map (fun x => x * d) else []
def dbB (a b : Int) : Bool := facB a b
def dbL (a b : Int) : List R2 := if dbB a b = true then dbl 14 a b else []
def wgB (a b s : Int) : Bool := facB a b && inB s 0 99999999
def wgL (a b s : Int) : List Int := if wgB a b s = true then wrg (a * b) s 8 else []
def ptB (a b : Int) : Bool := facB a b
def ptL (a b : Int) : List R3 := if ptB a b = true then ptsF a b else []
def coB (a b s : Int) : Bool := facB a b && decide (0 ≤ s)
def coV (a b s : Int) : Bool := coB a b s && decide (s % 9 = a * b % 9)

set_option maxRecDepth 100000 in
set_option maxHeartbeats 8000000 in
theorem implDigitProducts_any (a d : Int) (w : World) : Calls Try.prog 33 #[.int .i64 a, .int .i64 d] w (RetSliceB w 3 1 (dpL a d).length (intsV (dpL a d)) (dpB a d)) := by
 obtain ⟨i0, hi, hz0, hz1, hz2⟩ := info_parts info_int
 unfold RetSliceB
 have HF0 := Lib.hid (fun (w : World) => isFactor_any a w)
 have HF1 := Lib.hid (fun (w : World) => inB_within d 0 9 w)
 cases hb0 : inB a 0 9999
 · have e : dpB a d = false := by unfold dpB; rw [hb0]; rfl
   rw [show dpL a d = [] by unfold dpL; rw [if_neg (by rw [e]; simp)], e]
   rw [hb0] at HF0
   clear e hb0
   go_enter Try.func33, Try.ntmps33
   go_wp2_with fail
   refine (HF0.out _).mono ?_
   rintro e wz ⟨rfl, rfl⟩
   go_wp2
   go_ret2
   exact ⟨none, 0, rfl, World.ownsRow_nil _ _ _ _, ext_refl _⟩
 cases hb1 : inB d 0 9
 · have e : dpB a d = false := by unfold dpB; rw [hb0, hb1]; rfl
   rw [show dpL a d = [] by unfold dpL; rw [if_neg (by rw [e]; simp)], e]
   rw [hb0] at HF0
   rw [hb1] at HF1
   clear e hb0 hb1
   go_enter Try.func33, Try.ntmps33
   go_wp2_with fail
   refine (HF0.out _).mono ?_
   rintro e wz ⟨rfl, rfl⟩
   go_wp2_with fail
   refine (HF1.out _).mono ?_
   rintro e wz ⟨rfl, rfl⟩
   go_wp2
   go_ret2
   exact ⟨none, 0, rfl, World.ownsRow_nil _ _ _ _, ext_refl _⟩
 have e : dpB a d = true := by unfold dpB; rw [hb0]; rw [hb1]; (try rfl)
 rw [show dpL a d = (dgF a).map (fun x => x * d) by unfold dpL; rw [if_pos e], e]
 rw [hb0] at HF0
 rw [hb1] at HF1
 have ha := inB_iff.1 hb0
 have hd := inB_iff.1 hb1
 obtain ⟨hwf, hnum, hlen⟩ := dgF_facts ha.1 ha.2
 have HDG := Lib.hid (fun w => implDigits_any a w ha.1 (by omega))
 unfold RetSlice at HDG
 obtain ⟨ds, hds⟩ : ∃ ds, dgF a = ds := ⟨_, rfl⟩
 rw [show digT 9 a = ds from hds] at HDG
 rw [hds] at hwf hlen ⊢
 rw [List.length_map]
 obtain ⟨n, hn⟩ : ∃ n, ds.length = n := ⟨_, rfl⟩
 rw [hn] at HDG hlen ⊢
 have HN := Lib.hid hn
 have HWF := Lib.hid hwf
 clear hds hnum hn hwf e hb0 hb1
 go_enter Try.func33, Try.ntmps33
 go_wp2_with fail
 refine (HF0.out _).mono ?_
 rintro e wz ⟨rfl, rfl⟩
 go_wp2_with fail
 refine (HF1.out _).mono ?_
 rintro e wz ⟨rfl, rfl⟩
 go_wp2_with fail
 refine (HDG.out _).mono ?_
 rintro e w1 ⟨Ad, cd, rfl, ho1, hb1⟩
 have HD1 := Lib.hid (own_base (base' := w.heap.size) ho1 (Nat.le_refl _))
 have HX1 := Lib.hid hb1
 have HDJ1 := Lib.hid (show Value.ownBlock (.slice Ad n cd) = none ∨ Value.ownBlock (.slice Ad n cd) ≠ Value.ownBlock (.slice none 0 0) from dj_none _)
 clear ho1 hb1
 go_wp2_with fail
 go_loopw [6, 20] (fun out i wr => ∃ (k : Nat) (A : Option Addr) (c : Nat), k ≤ n ∧ i = .int .i64 k ∧ out = .slice A k c ∧ Hid (wr.ownsRow w.heap.size 3 1 (.slice A k c) k (intsV ((ds.take k).map (fun x => x * d)))) ∧ Hid (Below w.heap.size w wr) ∧ Hid (wr.ownsRow w.heap.size 3 1 (.slice Ad n cd) n (intsV ds)) ∧ Hid (Value.ownBlock (.slice Ad n cd) = none ∨ Value.ownBlock (.slice Ad n cd) ≠ Value.ownBlock (.slice A k c))) (fun _ i _ => n - (intOf i).toNat)
 case atStart => exact ⟨0, none, 0, Nat.zero_le _, rfl, rfl, Lib.hid (World.ownsRow_nil _ _ _ _), HX1, HD1, HDJ1⟩
 case round =>
  obtain ⟨k, A, c, hk, rfl, rfl, HO, HX, HD, HDJ⟩ := hrel
  by_cases hlt : k < n
  · obtain ⟨x, hx⟩ := list_split (l := ds) (k := k) (by rw [HN.out]; exact hlt)
    obtain ⟨V, hV⟩ : ∃ V : World, V = wr := ⟨_, rfl⟩
    subst hV
    obtain ⟨bd, od, rfl, hbd, c0⟩ := ints_at (Reads.of_own HD.out) hx
    have hxb := HWF.out.get hx
    have hv0 : 0 ≤ x * d := Int.mul_nonneg hxb.1 hd.1
    have hv1 : x * d ≤ 9 * 9 := Int.mul_le_mul hxb.2 hd.2 hd.1 (by omega)
    have HTK := Lib.hid (show (ds.take (k + 1)).map (fun x => x * d) = (ds.take k).map (fun x => x * d) ++ [x * d] by rw [List.take_add_one, hx]; simp)
    have hcm : d * x = x * d := Int.mul_comm _ _
    obtain ⟨v, hv⟩ : ∃ v, x * d = v := ⟨_, rfl⟩
    rw [hv] at hv0 hv1 HTK hcm
    have hw1 : IntKind.i64.wrap v = v := by rw [IntKind.wrap_i64]; omega
    have hw2 : wrap64 v = v := by unfold wrap64; omega
    have hbV : w.heap.size ≤ V.heap.size := HX.out.size
    have m1 : k + 1 ≤ maxLen := by unfold maxLen; omega
    have m2 : (k + 1) * 8 ≤ 140737488355328 := by omega
    have k1 : (k : Int) < (n : Int) := by omega
    have k0 : (0 : Int) ≤ (k : Int) := by omega
    clear hx
    go_wp2_with (at_builtin; refine wpList_append_own_at _ rfl (.tmp 24) (.tmp 28) 26 rfl w.heap.size 3 i0 _ 1 8 Try.underlying26 hi hz0 hz1 hz2 rfl (by decide) (.slice A k c) k (intsV ((ds.take k).map (fun x => x * d))) rfl (HO.out.alloc (.cells #[.int .i64 v] 3)) _ 1 1 [.int .i64 v] rfl rfl (cells_new_at V [.int .i64 v] 3 rfl) (by simp [Value.oneCell']) m1 m2 (Nat.le_trans hbV (by simp)) ?_; intro v9 w6 hown hgrow _ hat; obtain ⟨A4, c4, rfl⟩ := own_shape hown; have HGR := Lib.hid hgrow; have HOW := Lib.hid hown; have HAT := Lib.hid hat; clear hown hgrow hat)
    have HB6 := Lib.hid (below_grown' (HO.out.alloc (.cells #[.int .i64 v] 3)) (Nat.le_refl _) (ext_alloc HX.out (.cells #[.int .i64 v] 3)) HGR.out)
    have HD6 := Lib.hid ((HD.out.alloc (.cells #[.int .i64 v] 3)).kept HGR.out HDJ.out)
    have HDJ6 := Lib.hid (dj_next HD.out HDJ.out (H := _) (by simp) HAT.out)
    go_wp2
    go_roundw
    case rel => exact ⟨k + 1, A4, c4, by omega, by go_num, rfl, Lib.hid (by rw [HTK.out]; have h9 := HOW.out; simpa [intsV] using h9), HB6, HD6, HDJ6⟩
    case measure => simp [intOf]; omega
  · obtain rfl : k = n := by omega
    go_wp2
    go_ret2
    exact ⟨_, _, rfl, by have h9 := HO.out; rwa [List.take_of_length_le (by rw [HN.out]; exact Nat.le_refl _)] at h9, HX.out⟩

set_option maxRecDepth 100000 in
set_option maxHeartbeats 8000000 in
theorem specDigitProducts_any (a d : Int) (w : World) : Calls Try.prog 34 #[.int .i64 a, .int .i64 d] w (RetSliceB w 3 1 (dpL a d).length (intsV (dpL a d)) (dpB a d)) := by
 obtain ⟨i0, hi, hz0, hz1, hz2⟩ := info_parts info_int
 unfold RetSliceB
 have HF0 := Lib.hid (fun (w : World) => l9Factor_any a w)
 have HF1 := Lib.hid (fun (w : World) => inB_l1In d 0 9 w)
 cases hb0 : inB a 0 9999
 · have e : dpB a d = false := by unfold dpB; rw [hb0]; rfl
   rw [show dpL a d = [] by unfold dpL; rw [if_neg (by rw [e]; simp)], e]
   rw [hb0] at HF0
   clear e hb0
   go_enter Try.func34, Try.ntmps34
   go_wp2_with fail
   refine (HF0.out _).mono ?_
   rintro e wz ⟨rfl, rfl⟩
   go_wp2
   go_ret2
   exact ⟨_, _, rfl, own_lit0 w 3 1, ext_alloc (ext_refl w) (.cells #[] 3)⟩
 cases hb1 : inB d 0 9
 · have e : dpB a d = false := by unfold dpB; rw [hb0, hb1]; rfl
   rw [show dpL a d = [] by unfold dpL; rw [if_neg (by rw [e]; simp)], e]
   rw [hb0] at HF0
   rw [hb1] at HF1
   clear e hb0 hb1
   go_enter Try.func34, Try.ntmps34
   go_wp2_with fail
   refine (HF0.out _).mono ?_
   rintro e wz ⟨rfl, rfl⟩
   go_wp2_with fail
   refine (HF1.out _).mono ?_
   rintro e wz ⟨rfl, rfl⟩
   go_wp2
   go_ret2
   exact ⟨_, _, rfl, own_lit0 w 3 1, ext_alloc (ext_refl w) (.cells #[] 3)⟩
 have e : dpB a d = true := by unfold dpB; rw [hb0]; rw [hb1]; (try rfl)
 rw [show dpL a d = (dgF a).map (fun x => x * d) by unfold dpL; rw [if_pos e], e]
 rw [hb0] at HF0
 rw [hb1] at HF1
 have ha := inB_iff.1 hb0
 have hd := inB_iff.1 hb1
 obtain ⟨hwf, hnum, hlen⟩ := dgF_facts ha.1 ha.2
 have HDG := Lib.hid (fun w => specDigits_any a w ha.1 (by omega))
 unfold RetSlice at HDG
 obtain ⟨ds, hds⟩ : ∃ ds, dgF a = ds := ⟨_, rfl⟩
 rw [show digT 9 a = ds from hds] at HDG
 rw [hds] at hwf hlen ⊢
 rw [List.length_map]
 obtain ⟨n, hn⟩ : ∃ n, ds.length = n := ⟨_, rfl⟩
 rw [hn] at HDG hlen ⊢
 have HN := Lib.hid hn
 have HWF := Lib.hid hwf
 clear hds hnum hn hwf e hb0 hb1
 go_enter Try.func34, Try.ntmps34
 go_wp2_with fail
 refine (HF0.out _).mono ?_
 rintro e wz ⟨rfl, rfl⟩
 go_wp2_with fail
 refine (HF1.out _).mono ?_
 rintro e wz ⟨rfl, rfl⟩
 go_wp2_with fail
 refine (HDG.out _).mono ?_
 rintro e w1 ⟨Ad, cd, rfl, ho1, hb1⟩
 have HD1 := Lib.hid (own_base (base' := w.heap.size) ho1 (by simp))
 have HX1 := Lib.hid (ext_trans (ext_alloc (ext_refl w) (.cells #[] 3)) hb1)
 have HO1 := Lib.hid (own_ext (own_lit0 w 3 1) hb1)
 have HDJ1 := Lib.hid (show Value.ownBlock (.slice Ad n cd) = none ∨ Value.ownBlock (.slice Ad n cd) ≠ Value.ownBlock (.slice (some ⟨w.heap.size, 0, none⟩) 0 0) from dj_low ho1 (by simp))
 clear ho1 hb1
 go_wp2_with fail
 go_loopw [6, 8] (fun out i wr => ∃ (k : Nat) (A : Option Addr) (c : Nat), k ≤ n ∧ i = .int .i64 k ∧ out = .slice A k c ∧ Hid (wr.ownsRow w.heap.size 3 1 (.slice A k c) k (intsV ((ds.take k).map (fun x => x * d)))) ∧ Hid (Below w.heap.size w wr) ∧ Hid (wr.ownsRow w.heap.size 3 1 (.slice Ad n cd) n (intsV ds)) ∧ Hid (Value.ownBlock (.slice Ad n cd) = none ∨ Value.ownBlock (.slice Ad n cd) ≠ Value.ownBlock (.slice A k c))) (fun _ i _ => n - (intOf i).toNat)
 case atStart => exact ⟨0, _, _, Nat.zero_le _, rfl, rfl, HO1, HX1, HD1, HDJ1⟩
 case round =>
  obtain ⟨k, A, c, hk, rfl, rfl, HO, HX, HD, HDJ⟩ := hrel
  by_cases hlt : k < n
  · obtain ⟨x, hx⟩ := list_split (l := ds) (k := k) (by rw [HN.out]; exact hlt)
    obtain ⟨V, hV⟩ : ∃ V : World, V = wr := ⟨_, rfl⟩
    subst hV
    obtain ⟨bd, od, rfl, hbd, c0⟩ := ints_at (Reads.of_own HD.out) hx
    have hxb := HWF.out.get hx
    have hv0 : 0 ≤ x * d := Int.mul_nonneg hxb.1 hd.1
    have hv1 : x * d ≤ 9 * 9 := Int.mul_le_mul hxb.2 hd.2 hd.1 (by omega)
    have HTK := Lib.hid (show (ds.take (k + 1)).map (fun x => x * d) = (ds.take k).map (fun x => x * d) ++ [x * d] by rw [List.take_add_one, hx]; simp)
    have hcm : d * x = x * d := Int.mul_comm _ _
    obtain ⟨v, hv⟩ : ∃ v, x * d = v := ⟨_, rfl⟩
    rw [hv] at hv0 hv1 HTK hcm
    have hw1 : IntKind.i64.wrap v = v := by rw [IntKind.wrap_i64]; omega
    have hw2 : wrap64 v = v := by unfold wrap64; omega
    have hbV : w.heap.size ≤ V.heap.size := HX.out.size
    have m1 : k + 1 ≤ maxLen := by unfold maxLen; omega
    have m2 : (k + 1) * 8 ≤ 140737488355328 := by omega
    have k1 : (k : Int) < (n : Int) := by omega
    have k0 : (0 : Int) ≤ (k : Int) := by omega
    clear hx
    go_wp2_with (at_builtin; refine wpList_append_own_at _ rfl (.tmp 27) (.tmp 34) 26 rfl w.heap.size 3 i0 _ 1 8 Try.underlying26 hi hz0 hz1 hz2 rfl (by decide) (.slice A k c) k (intsV ((ds.take k).map (fun x => x * d))) rfl (HO.out.alloc (.cells #[.int .i64 v] 3)) _ 1 1 [.int .i64 v] rfl rfl (cells_new_at V [.int .i64 v] 3 rfl) (by simp [Value.oneCell']) m1 m2 (Nat.le_trans hbV (by simp)) ?_; intro v9 w6 hown hgrow _ hat; obtain ⟨A4, c4, rfl⟩ := own_shape hown; have HGR := Lib.hid hgrow; have HOW := Lib.hid hown; have HAT := Lib.hid hat; clear hown hgrow hat)
    have HB6 := Lib.hid (below_grown' (HO.out.alloc (.cells #[.int .i64 v] 3)) (Nat.le_refl _) (ext_alloc HX.out (.cells #[.int .i64 v] 3)) HGR.out)
    have HD6 := Lib.hid ((HD.out.alloc (.cells #[.int .i64 v] 3)).kept HGR.out HDJ.out)
    have HDJ6 := Lib.hid (dj_next HD.out HDJ.out (H := _) (by simp) HAT.out)
    go_wp2
    go_roundw
    case rel => exact ⟨k + 1, A4, c4, by omega, by go_num, rfl, Lib.hid (by rw [HTK.out]; have h9 := HOW.out; simpa [intsV] using h9), HB6, HD6, HDJ6⟩
    case measure => simp [intOf]; omega
  · obtain rfl : k = n := by omega
    go_wp2
    go_ret2
    exact ⟨_, _, rfl, by have h9 := HO.out; rwa [List.take_of_length_le (by rw [HN.out]; exact Nat.le_refl _)] at h9, HX.out⟩

set_option maxRecDepth 100000 in
set_option maxHeartbeats 8000000 in
theorem implByDoubling_any (a b : Int) (w : World) : Calls Try.prog 15 #[.int .i64 a, .int .i64 b] w (RetSliceB w 59 2 (dbL a b).length (rowsV2 (dbL a b)) (dbB a b)) := by
 obtain ⟨i0, hi, hz0, hz1, hz2⟩ := info_parts info_rod
 unfold RetSliceB
 have HF0 := Lib.hid (fun (w : World) => areFactors_any a b w)
 cases hb0 : facB a b
 · have e : dbB a b = false := by unfold dbB; rw [hb0]
   rw [show dbL a b = [] by unfold dbL; rw [if_neg (by rw [e]; simp)], e]
   rw [hb0] at HF0
   clear e hb0
   go_enter Try.func15, Try.ntmps15
   go_wp2_with fail
   refine (HF0.out _).mono ?_
   rintro e wz ⟨rfl, rfl⟩
   go_wp2
   go_ret2
   exact ⟨none, 0, rfl, World.ownsRow_nil _ _ _ _, ext_refl _⟩
 have e : dbB a b = true := by unfold dbB; rw [hb0]; (try rfl)
 rw [show dbL a b = dbl 14 a b by unfold dbL; rw [if_pos e], e]
 rw [hb0] at HF0
 have ha := inB_iff.1 (fac_parts hb0).1
 have hb := inB_iff.1 (fac_parts hb0).2
 clear e hb0
 have hx14 : a < tw 14 := by rw [show tw 14 = 16384 from rfl]; omega
 have hy14 : b * tw 14 ≤ 163823616 := by rw [show tw 14 = 16384 from rfl]; omega
 have h0a := ha.1
 have h9a := ha.2
 have h0b := hb.1
 clear ha hb
 go_enter Try.func15, Try.ntmps15
 go_wp2_with fail
 refine (HF0.out _).mono ?_
 rintro e wz ⟨rfl, rfl⟩
 go_wp2_with fail
 go_loopw [0, 1, 6] (fun av bv out wr => ∃ (f : Nat) (x y : Int) (A : Option Addr) (c : Nat) (pre : List R2), av = .int .i64 x ∧ bv = .int .i64 y ∧ out = .slice A pre.length c ∧ 0 ≤ x ∧ x ≤ 9999 ∧ 0 ≤ y ∧ pre.length + f = 14 ∧ Hid (x < tw f) ∧ Hid (y * tw f ≤ 163823616) ∧ Hid (pre ++ dbl f x y = dbl 14 a b) ∧ Hid (wr.ownsRow w.heap.size 59 2 (.slice A pre.length c) pre.length (rowsV2 pre)) ∧ Hid (Below w.heap.size w wr)) (fun av _ _ _ => (intOf av).toNat)
 case atStart => exact ⟨14, a, b, none, 0, [], rfl, rfl, rfl, by omega, by omega, by omega, rfl, Lib.hid hx14, Lib.hid hy14, Lib.hid rfl, Lib.hid (World.ownsRow_nil _ _ _ _), Lib.hid (ext_refl _)⟩
 case round =>
  obtain ⟨f, x, y, A, c, pre, rfl, rfl, rfl, hx0, hx9, hy0, hpf, HTX, HTY, HP, HO, HX⟩ := hrel
  by_cases hx1 : 1 ≤ x
  · obtain ⟨f, rfl⟩ : ∃ k, f = k + 1 := by
     cases f with
     | zero => have h := HTX.out; rw [show tw 0 = 1 from rfl] at h; omega
     | succ k => exact ⟨k, rfl⟩
    obtain ⟨V, hV⟩ : ∃ V : World, V = wr := ⟨_, rfl⟩
    subst hV
    have hyb : y ≤ 163823616 := tw_bound hy0 HTY.out
    have HTX2 := Lib.hid (show x / 2 < tw f by have h := HTX.out; rw [tw_succ] at h; omega)
    have HTY2 := Lib.hid (show 2 * y * tw f ≤ 163823616 by have h := HTY.out; rw [tw_succ, ← Int.mul_assoc, Int.mul_comm y 2] at h; exact h)
    have HP2 := Lib.hid (show (pre ++ [⟨x, y⟩]) ++ dbl f (x / 2) (2 * y) = dbl 14 a b by have h := HP.out; rw [dbl_pos (by omega)] at h; rw [List.append_assoc]; exact h)
    have htd : x.tdiv 2 = x / 2 := Int.tdiv_eq_ediv_of_nonneg hx0
    have hxd : 0 ≤ x / 2 ∧ x / 2 < x := by omega
    obtain ⟨x2, hx2⟩ : ∃ o9, x / 2 = o9 := ⟨_, rfl⟩
    rw [hx2] at htd hxd HTX2 HP2
    have hw1 : IntKind.i64.wrap x2 = x2 := by rw [IntKind.wrap_i64]; omega
    have hm1 : y * 2 = 2 * y := Int.mul_comm _ _
    obtain ⟨y2, hy2⟩ : ∃ o9, 2 * y = o9 := ⟨_, rfl⟩
    have hy2b : 0 ≤ y2 ∧ y2 ≤ 400000000 := by omega
    rw [hy2] at hm1 HTY2 HP2
    have hw2 : IntKind.i64.wrap y2 = y2 := by rw [IntKind.wrap_i64]; omega
    have hw3 : wrap64 y2 = y2 := by unfold wrap64; omega
    have HY2 := Lib.hid hy2
    have hbV : w.heap.size ≤ V.heap.size := HX.out.size
    have m1 : pre.length + 1 ≤ maxLen := by unfold maxLen; omega
    have m2 : (pre.length + 1) * 16 ≤ 140737488355328 := by omega
    clear hx2
    clear hy2
    go_wp2_with (at_builtin; refine wpList_append_own_at _ rfl (.tmp 13) (.tmp 17) 34 rfl w.heap.size 59 i0 _ 2 16 Try.underlying34 hi hz0 hz1 hz2 rfl (by decide) (.slice A pre.length c) pre.length (rowsV2 pre) rfl (HO.out.alloc (.cells #[.int .i64 x, .int .i64 y] 59)) _ 1 1 [.int .i64 x, .int .i64 y] rfl rfl (cells_new_at V [.int .i64 x, .int .i64 y] 59 rfl) (by simp [Value.oneCell']) m1 m2 (Nat.le_trans hbV (by simp)) ?_; intro v9 w6 hown hgrow _ hat; obtain ⟨A4, c4, rfl⟩ := own_shape hown; have HGR := Lib.hid hgrow; have HOW := Lib.hid hown; have HAT := Lib.hid hat; clear hown hgrow hat)
    have HB6 := Lib.hid (below_grown' (HO.out.alloc (.cells #[.int .i64 x, .int .i64 y] 59)) (Nat.le_refl _) (ext_alloc HX.out (.cells #[.int .i64 x, .int .i64 y] 59)) HGR.out)
    have hlen : (pre ++ [(⟨x, y⟩ : R2)]).length = pre.length + 1 := by simp
    have HOW2 := Lib.hid (show w6.ownsRow w.heap.size 59 2 (.slice A4 (pre ++ [(⟨x, y⟩ : R2)]).length c4) (pre ++ [(⟨x, y⟩ : R2)]).length (rowsV2 (pre ++ [⟨x, y⟩])) by rw [hlen]; have h9 := HOW.out; simpa [rowsV2, R2.cells] using h9)
    rw [← hlen]
    have HLL := Lib.hid hlen
    clear hlen
    go_wp2
    go_roundw
    case rel => exact ⟨f, x2, y2, A4, c4, pre ++ [⟨x, y⟩], by go_num, by go_num, rfl, by omega, by omega, by omega, by rw [HLL.out]; omega, HTX2, HTY2, HP2, HOW2, HB6⟩
    case measure => simp [intOf]; omega
  · have HPE := HP.out
    rw [dbl_no (by omega), List.append_nil] at HPE
    have HPF := Lib.hid HPE
    clear HPE
    go_wp2
    go_ret2
    rw [← HPF.out]
    exact ⟨_, _, rfl, HO.out, HX.out⟩

set_option maxRecDepth 100000 in
set_option maxHeartbeats 8000000 in
theorem l9Rows_any (a b : Int) (w : World) (ha : 0 ≤ a ∧ a ≤ 9999) (hb : 0 ≤ b ∧ b ≤ 9999) : Calls Try.prog 45 #[.int .i64 a, .int .i64 b] w (RetSlice w 59 2 (dbl 14 a b).length (rowsV2 (dbl 14 a b))) := by
 obtain ⟨i0, hi, hz0, hz1, hz2⟩ := info_parts info_rod
 unfold RetSlice
 have hx14 : a < tw 14 := by rw [show tw 14 = 16384 from rfl]; omega
 have hy14 : b * tw 14 ≤ 163823616 := by rw [show tw 14 = 16384 from rfl]; omega
 have h0a := ha.1
 have h9a := ha.2
 have h0b := hb.1
 clear ha hb
 go_enter Try.func45, Try.ntmps45
 go_wp2_with fail
 go_loopw [0, 1, 5] (fun av bv out wr => ∃ (f : Nat) (x y : Int) (A : Option Addr) (c : Nat) (pre : List R2), av = .int .i64 x ∧ bv = .int .i64 y ∧ out = .slice A pre.length c ∧ 0 ≤ x ∧ x ≤ 9999 ∧ 0 ≤ y ∧ pre.length + f = 14 ∧ Hid (x < tw f) ∧ Hid (y * tw f ≤ 163823616) ∧ Hid (pre ++ dbl f x y = dbl 14 a b) ∧ Hid (wr.ownsRow w.heap.size 59 2 (.slice A pre.length c) pre.length (rowsV2 pre)) ∧ Hid (Below w.heap.size w wr)) (fun av _ _ _ => (intOf av).toNat)
 case atStart => exact ⟨14, a, b, _, _, [], rfl, rfl, rfl, by omega, by omega, by omega, rfl, Lib.hid hx14, Lib.hid hy14, Lib.hid rfl, Lib.hid (own_lit0 w 59 2), Lib.hid (ext_alloc (ext_refl w) (.cells #[] 59))⟩
 case round =>
  obtain ⟨f, x, y, A, c, pre, rfl, rfl, rfl, hx0, hx9, hy0, hpf, HTX, HTY, HP, HO, HX⟩ := hrel
  by_cases hx1 : 1 ≤ x
  · obtain ⟨f, rfl⟩ : ∃ k, f = k + 1 := by
     cases f with
     | zero => have h := HTX.out; rw [show tw 0 = 1 from rfl] at h; omega
     | succ k => exact ⟨k, rfl⟩
    obtain ⟨V, hV⟩ : ∃ V : World, V = wr := ⟨_, rfl⟩
    subst hV
    have hyb : y ≤ 163823616 := tw_bound hy0 HTY.out
    have HTX2 := Lib.hid (show x / 2 < tw f by have h := HTX.out; rw [tw_succ] at h; omega)
    have HTY2 := Lib.hid (show 2 * y * tw f ≤ 163823616 by have h := HTY.out; rw [tw_succ, ← Int.mul_assoc, Int.mul_comm y 2] at h; exact h)
    have HP2 := Lib.hid (show (pre ++ [⟨x, y⟩]) ++ dbl f (x / 2) (2 * y) = dbl 14 a b by have h := HP.out; rw [dbl_pos (by omega)] at h; rw [List.append_assoc]; exact h)
    have htd : x.tdiv 2 = x / 2 := Int.tdiv_eq_ediv_of_nonneg hx0
    have hxd : 0 ≤ x / 2 ∧ x / 2 < x := by omega
    obtain ⟨x2, hx2⟩ : ∃ o9, x / 2 = o9 := ⟨_, rfl⟩
    rw [hx2] at htd hxd HTX2 HP2
    have hw1 : IntKind.i64.wrap x2 = x2 := by rw [IntKind.wrap_i64]; omega
    have hm1 : y * 2 = 2 * y := Int.mul_comm _ _
    obtain ⟨y2, hy2⟩ : ∃ o9, 2 * y = o9 := ⟨_, rfl⟩
    have hy2b : 0 ≤ y2 ∧ y2 ≤ 400000000 := by omega
    rw [hy2] at hm1 HTY2 HP2
    have hw2 : IntKind.i64.wrap y2 = y2 := by rw [IntKind.wrap_i64]; omega
    have hw3 : wrap64 y2 = y2 := by unfold wrap64; omega
    have HY2 := Lib.hid hy2
    have hbV : w.heap.size ≤ V.heap.size := HX.out.size
    have m1 : pre.length + 1 ≤ maxLen := by unfold maxLen; omega
    have m2 : (pre.length + 1) * 16 ≤ 140737488355328 := by omega
    clear hx2
    clear hy2
    go_wp2_with (at_builtin; refine wpList_append_own_at _ rfl (.tmp 9) (.tmp 13) 34 rfl w.heap.size 59 i0 _ 2 16 Try.underlying34 hi hz0 hz1 hz2 rfl (by decide) (.slice A pre.length c) pre.length (rowsV2 pre) rfl (HO.out.alloc (.cells #[.int .i64 x, .int .i64 y] 59)) _ 1 1 [.int .i64 x, .int .i64 y] rfl rfl (cells_new_at V [.int .i64 x, .int .i64 y] 59 rfl) (by simp [Value.oneCell']) m1 m2 (Nat.le_trans hbV (by simp)) ?_; intro v9 w6 hown hgrow _ hat; obtain ⟨A4, c4, rfl⟩ := own_shape hown; have HGR := Lib.hid hgrow; have HOW := Lib.hid hown; have HAT := Lib.hid hat; clear hown hgrow hat)
    have HB6 := Lib.hid (below_grown' (HO.out.alloc (.cells #[.int .i64 x, .int .i64 y] 59)) (Nat.le_refl _) (ext_alloc HX.out (.cells #[.int .i64 x, .int .i64 y] 59)) HGR.out)
    have hlen : (pre ++ [(⟨x, y⟩ : R2)]).length = pre.length + 1 := by simp
    have HOW2 := Lib.hid (show w6.ownsRow w.heap.size 59 2 (.slice A4 (pre ++ [(⟨x, y⟩ : R2)]).length c4) (pre ++ [(⟨x, y⟩ : R2)]).length (rowsV2 (pre ++ [⟨x, y⟩])) by rw [hlen]; have h9 := HOW.out; simpa [rowsV2, R2.cells] using h9)
    rw [← hlen]
    have HLL := Lib.hid hlen
    clear hlen
    go_wp2
    go_roundw
    case rel => exact ⟨f, x2, y2, A4, c4, pre ++ [⟨x, y⟩], by go_num, by go_num, rfl, by omega, by omega, by omega, by rw [HLL.out]; omega, HTX2, HTY2, HP2, HOW2, HB6⟩
    case measure => simp [intOf]; omega
  · have HPE := HP.out
    rw [dbl_no (by omega), List.append_nil] at HPE
    have HPF := Lib.hid HPE
    clear HPE
    go_wp2
    go_ret
    rw [← HPF.out]
    exact ⟨_, _, rfl, HO.out, HX.out⟩
set_option maxRecDepth 100000 in
set_option maxHeartbeats 8000000 in
theorem specByDoubling_any (a b : Int) (w : World) : Calls Try.prog 16 #[.int .i64 a, .int .i64 b] w (RetSliceB w 59 2 (dbL a b).length (rowsV2 (dbL a b)) (dbB a b)) := by
 unfold RetSliceB
 have HF0 := Lib.hid (fun (w : World) => l9Both_any a b w)
 cases hb0 : facB a b
 · have e : dbB a b = false := by unfold dbB; rw [hb0]
   rw [show dbL a b = [] by unfold dbL; rw [if_neg (by rw [e]; simp)], e]
   rw [hb0] at HF0
   clear e hb0
   go_enter Try.func16, Try.ntmps16
   go_wp2_with fail
   refine (HF0.out _).mono ?_
   rintro e wz ⟨rfl, rfl⟩
   go_wp2
   go_ret2
   exact ⟨_, _, rfl, own_lit0 w 59 2, ext_alloc (ext_refl w) (.cells #[] 59)⟩
 have e : dbB a b = true := by unfold dbB; rw [hb0]; (try rfl)
 rw [show dbL a b = dbl 14 a b by unfold dbL; rw [if_pos e], e]
 rw [hb0] at HF0
 have HR := Lib.hid (fun (w : World) => l9Rows_any a b w (inB_iff.1 (fac_parts hb0).1) (inB_iff.1 (fac_parts hb0).2))
 unfold RetSlice at HR
 clear e hb0
 go_enter Try.func16, Try.ntmps16
 go_wp2_with fail
 refine (HF0.out _).mono ?_
 rintro e wz ⟨rfl, rfl⟩
 go_wp2_with fail
 refine (HR.out _).mono ?_
 rintro e w1 ⟨A, c, rfl, ho, hb⟩
 go_wp2
 go_ret2
 exact ⟨_, _, rfl, ho, hb⟩

set_option maxRecDepth 100000 in
set_option maxHeartbeats 8000000 in
theorem implWrongDigits_any (a b s : Int) (w : World) : Calls Try.prog 27 #[.int .i64 a, .int .i64 b, .int .i64 s] w (RetSliceB w 3 1 (wgL a b s).length (intsV (wgL a b s)) (wgB a b s)) := by
 obtain ⟨i0, hi, hz0, hz1, hz2⟩ := info_parts info_int
 unfold RetSliceB
 have HF0 := Lib.hid (fun (w : World) => areFactors_any a b w)
 have HF1 := Lib.hid (fun (w : World) => inB_within s 0 99999999 w)
 cases hb0 : facB a b
 · have e : wgB a b s = false := by unfold wgB; rw [hb0]; rfl
   rw [show wgL a b s = [] by unfold wgL; rw [if_neg (by rw [e]; simp)], e]
   rw [hb0] at HF0
   clear e hb0
   go_enter Try.func27, Try.ntmps27
   go_wp2_with fail
   refine (HF0.out _).mono ?_
   rintro e wz ⟨rfl, rfl⟩
   go_wp2
   go_ret2
   exact ⟨none, 0, rfl, World.ownsRow_nil _ _ _ _, ext_refl _⟩
 cases hb1 : inB s 0 99999999
 · have e : wgB a b s = false := by unfold wgB; rw [hb0, hb1]; rfl
   rw [show wgL a b s = [] by unfold wgL; rw [if_neg (by rw [e]; simp)], e]
   rw [hb0] at HF0
   rw [hb1] at HF1
   clear e hb0 hb1
   go_enter Try.func27, Try.ntmps27
   go_wp2_with fail
   refine (HF0.out _).mono ?_
   rintro e wz ⟨rfl, rfl⟩
   go_wp2_with fail
   refine (HF1.out _).mono ?_
   rintro e wz ⟨rfl, rfl⟩
   go_wp2
   go_ret2
   exact ⟨none, 0, rfl, World.ownsRow_nil _ _ _ _, ext_refl _⟩
 have e : wgB a b s = true := by unfold wgB; rw [hb0]; rw [hb1]; (try rfl)
 rw [show wgL a b s = wrg (a * b) s 8 by unfold wgL; rw [if_pos e], e]
 rw [hb0] at HF0
 rw [hb1] at HF1
 have hab := (ptsF_facts (a := a) (b := b) hb0).2.2.2
 have hs := inB_iff.1 hb1
 obtain ⟨p, hp⟩ : ∃ o9, a * b = o9 := ⟨_, rfl⟩
 rw [hp] at hab ⊢
 have hw0 : IntKind.i64.wrap p = p := by rw [IntKind.wrap_i64]; omega
 have hw0' : wrap64 p = p := by unfold wrap64; omega
 clear e hb0 hb1
 go_enter Try.func27, Try.ntmps27
 go_wp2_with fail
 refine (HF0.out _).mono ?_
 rintro e wz ⟨rfl, rfl⟩
 go_wp2_with fail
 refine (HF1.out _).mono ?_
 rintro e wz ⟨rfl, rfl⟩
 go_wp2_with fail
 go_loopw [8, 9] (fun out kv wr => ∃ (k : Nat) (A : Option Addr) (c : Nat) (L : List Int), kv = .int .i64 (k : Int) ∧ out = .slice A L.length c ∧ k ≤ 8 ∧ L.length ≤ k ∧ Hid (wrg p s k = L) ∧ Hid (wr.ownsRow w.heap.size 3 1 (.slice A L.length c) L.length (intsV L)) ∧ Hid (Below w.heap.size w wr)) (fun _ kv _ => 8 - (intOf kv).toNat)
 case atStart => exact ⟨0, none, 0, [], rfl, rfl, Nat.zero_le _, Nat.zero_le _, Lib.hid rfl, Lib.hid (World.ownsRow_nil _ _ _ _), Lib.hid (ext_refl _)⟩
 case round =>
  obtain ⟨k, A, c, L, rfl, rfl, hk, hLk, HL, HO, HX⟩ := hrel
  by_cases hlt : k < 8
  · obtain ⟨V, hV⟩ : ∃ V : World, V = wr := ⟨_, rfl⟩
    subst hV
    have k1 : (k : Int) < 8 := by omega
    have HPW := Lib.hid (fun (w : World) => power_any k w (by omega))
    have HWR := Lib.hid (show wrg p s (k + 1) = L ++ (if s / pw k % 10 = p / pw k % 10 then [] else [(k : Int)]) by rw [wrg, HL.out])
    have hp1 := pw_pos k
    obtain ⟨P, hP⟩ : ∃ o9, pw k = o9 := ⟨_, rfl⟩
    rw [hP] at HPW HWR hp1
    have hPz : P ≠ 0 := by omega
    have t1 : s.tdiv P = s / P := Int.tdiv_eq_ediv_of_nonneg hs.1
    have t2 : p.tdiv P = p / P := Int.tdiv_eq_ediv_of_nonneg hab.1
    have b1 : 0 ≤ s / P ∧ s / P ≤ s := ⟨Int.ediv_nonneg hs.1 (by omega), Int.ediv_le_self _ hs.1⟩
    have b2 : 0 ≤ p / P ∧ p / P ≤ p := ⟨Int.ediv_nonneg hab.1 (by omega), Int.ediv_le_self _ hab.1⟩
    obtain ⟨s1, hs1⟩ : ∃ o9, s / P = o9 := ⟨_, rfl⟩
    obtain ⟨p1, hp1'⟩ : ∃ o9, p / P = o9 := ⟨_, rfl⟩
    rw [hs1] at t1 b1 HWR
    rw [hp1'] at t2 b2 HWR
    have w1 : IntKind.i64.wrap s1 = s1 := by rw [IntKind.wrap_i64]; omega
    have w2 : IntKind.i64.wrap p1 = p1 := by rw [IntKind.wrap_i64]; omega
    have t3 : s1.tmod 10 = s1 % 10 := Int.tmod_eq_emod_of_nonneg b1.1
    have t4 : p1.tmod 10 = p1 % 10 := Int.tmod_eq_emod_of_nonneg b2.1
    obtain ⟨sd, hsd⟩ : ∃ o9, s1 % 10 = o9 := ⟨_, rfl⟩
    obtain ⟨pd, hpd⟩ : ∃ o9, p1 % 10 = o9 := ⟨_, rfl⟩
    rw [hsd] at t3 HWR
    rw [hpd] at t4 HWR
    have hbV : w.heap.size ≤ V.heap.size := HX.out.size
    have m1 : L.length + 1 ≤ maxLen := by unfold maxLen; omega
    have m2 : (L.length + 1) * 8 ≤ 140737488355328 := by omega
    clear hP hs1 hp1' hsd hpd
    by_cases hd : sd = pd
    · subst hd
      rw [if_pos rfl, List.append_nil] at HWR
      have hne : (sd != sd) = false := by simp
      go_wp2_with fail
      (refine wp_region_later (by kernel_rfl) (by kernel_rfl) ?_; (repeat (go_big_quiet_step ((go_at_call 61; exact Calls.later_same (HPW.out _))))); refine wpQuiet_nil ?_; intro wq hw1; obtain ⟨⟨wl, hb⟩, hw1'⟩ := hw1; simp only at hw1'; subst hw1')
      have HOq := Lib.hid (own_ext HO.out hb)
      have HXq := Lib.hid (ext_trans HX.out hb)
      clear hb
      go_wp2
      go_roundw
      case rel => exact ⟨k + 1, A, c, L, by go_num, rfl, by omega, by omega, HWR, HOq, HXq⟩
      case measure => simp [intOf]; omega
    · rw [if_neg hd] at HWR
      have hne : (sd != pd) = true := by simpa using hd
      have hne2 : (pd != sd) = true := by simpa using Ne.symm hd
      go_wp2_with fail
      (refine wp_region_later (by kernel_rfl) (by kernel_rfl) ?_; (repeat (go_big_quiet_step ((go_at_call 61; exact Calls.later_same (HPW.out _))))); refine wpQuiet_nil ?_; intro wq hw1; obtain ⟨⟨wl, hb⟩, hw1'⟩ := hw1; simp only at hw1'; subst hw1')
      have HOq := Lib.hid (own_ext HO.out hb)
      have HXq := Lib.hid (ext_trans HX.out hb)
      clear hb
      have hbV : w.heap.size ≤ wq.heap.size := HXq.out.size
      go_wp2_with (at_builtin; refine wpList_append_own_at _ rfl (.tmp 36) (.tmp 38) 26 rfl w.heap.size 3 i0 _ 1 8 Try.underlying26 hi hz0 hz1 hz2 rfl (by decide) (.slice A L.length c) L.length (intsV L) rfl (HOq.out.alloc (.cells #[.int .i64 (k : Int)] 3)) _ 1 1 [.int .i64 (k : Int)] rfl rfl (cells_new_at wq [.int .i64 (k : Int)] 3 rfl) (by simp [Value.oneCell']) m1 m2 (Nat.le_trans hbV (by simp)) ?_; intro v9 w6 hown hgrow _ hat; obtain ⟨A4, c4, rfl⟩ := own_shape hown; have HGR := Lib.hid hgrow; have HOW := Lib.hid hown; have HAT := Lib.hid hat; clear hown hgrow hat)
      have HB6 := Lib.hid (below_grown' (HOq.out.alloc (.cells #[.int .i64 (k : Int)] 3)) (Nat.le_refl _) (ext_alloc HXq.out (.cells #[.int .i64 (k : Int)] 3)) HGR.out)
      have hlen : (L ++ [(k : Int)]).length = L.length + 1 := by simp
      have HOW2 := Lib.hid (show w6.ownsRow w.heap.size 3 1 (.slice A4 (L ++ [(k : Int)]).length c4) (L ++ [(k : Int)]).length (intsV (L ++ [(k : Int)])) by rw [hlen]; have h9 := HOW.out; simpa [intsV] using h9)
      rw [← hlen]
      have HLL := Lib.hid hlen
      clear hlen
      go_wp2
      go_roundw
      case rel => exact ⟨k + 1, A4, c4, L ++ [(k : Int)], by go_num, rfl, by omega, by rw [HLL.out]; omega, HWR, HOW2, HB6⟩
      case measure => simp [intOf]; omega
  · obtain rfl : k = 8 := by omega
    have HLE := HL.out
    subst HLE
    go_wp2
    go_ret2
    exact ⟨_, _, rfl, HO.out, HX.out⟩

set_option maxRecDepth 100000 in
set_option maxHeartbeats 8000000 in
theorem specWrongDigits_any (a b s : Int) (w : World) : Calls Try.prog 28 #[.int .i64 a, .int .i64 b, .int .i64 s] w (RetSliceB w 3 1 (wgL a b s).length (intsV (wgL a b s)) (wgB a b s)) := by
 obtain ⟨i0, hi, hz0, hz1, hz2⟩ := info_parts info_int
 unfold RetSliceB
 have HF0 := Lib.hid (fun (w : World) => l9Both_any a b w)
 have HF1 := Lib.hid (fun (w : World) => inB_l1In s 0 99999999 w)
 cases hb0 : facB a b
 · have e : wgB a b s = false := by unfold wgB; rw [hb0]; rfl
   rw [show wgL a b s = [] by unfold wgL; rw [if_neg (by rw [e]; simp)], e]
   rw [hb0] at HF0
   clear e hb0
   go_enter Try.func28, Try.ntmps28
   go_wp2_with fail
   refine (HF0.out _).mono ?_
   rintro e wz ⟨rfl, rfl⟩
   go_wp2
   go_ret2
   exact ⟨_, _, rfl, own_lit0 w 3 1, ext_alloc (ext_refl w) (.cells #[] 3)⟩
 cases hb1 : inB s 0 99999999
 · have e : wgB a b s = false := by unfold wgB; rw [hb0, hb1]; rfl
   rw [show wgL a b s = [] by unfold wgL; rw [if_neg (by rw [e]; simp)], e]
   rw [hb0] at HF0
   rw [hb1] at HF1
   clear e hb0 hb1
   go_enter Try.func28, Try.ntmps28
   go_wp2_with fail
   refine (HF0.out _).mono ?_
   rintro e wz ⟨rfl, rfl⟩
   go_wp2_with fail
   refine (HF1.out _).mono ?_
   rintro e wz ⟨rfl, rfl⟩
   go_wp2
   go_ret2
   exact ⟨_, _, rfl, own_lit0 w 3 1, ext_alloc (ext_refl w) (.cells #[] 3)⟩
 have e : wgB a b s = true := by unfold wgB; rw [hb0]; rw [hb1]; (try rfl)
 rw [show wgL a b s = wrg (a * b) s 8 by unfold wgL; rw [if_pos e], e]
 rw [hb0] at HF0
 rw [hb1] at HF1
 have hab := (ptsF_facts (a := a) (b := b) hb0).2.2.2
 have hs := inB_iff.1 hb1
 obtain ⟨p, hp⟩ : ∃ o9, a * b = o9 := ⟨_, rfl⟩
 rw [hp] at hab ⊢
 have hw0 : IntKind.i64.wrap p = p := by rw [IntKind.wrap_i64]; omega
 have hw0' : wrap64 p = p := by unfold wrap64; omega
 clear e hb0 hb1
 go_enter Try.func28, Try.ntmps28
 go_wp2_with fail
 refine (HF0.out _).mono ?_
 rintro e wz ⟨rfl, rfl⟩
 go_wp2_with fail
 refine (HF1.out _).mono ?_
 rintro e wz ⟨rfl, rfl⟩
 go_wp2_with fail
 go_loopw [8, 9] (fun out kv wr => ∃ (k : Nat) (A : Option Addr) (c : Nat) (L : List Int), kv = .int .i64 (k : Int) ∧ out = .slice A L.length c ∧ k ≤ 8 ∧ L.length ≤ k ∧ Hid (wrg p s k = L) ∧ Hid (wr.ownsRow w.heap.size 3 1 (.slice A L.length c) L.length (intsV L)) ∧ Hid (Below w.heap.size w wr)) (fun _ kv _ => 8 - (intOf kv).toNat)
 case atStart => exact ⟨0, _, _, [], rfl, rfl, Nat.zero_le _, Nat.zero_le _, Lib.hid rfl, Lib.hid (own_lit0 w 3 1), Lib.hid (ext_alloc (ext_refl w) (.cells #[] 3))⟩
 case round =>
  obtain ⟨k, A, c, L, rfl, rfl, hk, hLk, HL, HO, HX⟩ := hrel
  by_cases hlt : k < 8
  · obtain ⟨V, hV⟩ : ∃ V : World, V = wr := ⟨_, rfl⟩
    subst hV
    have k1 : (k : Int) < 8 := by omega
    have HPW := Lib.hid (fun (w : World) => l2Power_any (k : Int) k w rfl (by omega))
    have HWR := Lib.hid (show wrg p s (k + 1) = L ++ (if s / pw k % 10 = p / pw k % 10 then [] else [(k : Int)]) by rw [wrg, HL.out])
    have hp1 := pw_pos k
    obtain ⟨P, hP⟩ : ∃ o9, pw k = o9 := ⟨_, rfl⟩
    rw [hP] at HPW HWR hp1
    have hPz : P ≠ 0 := by omega
    have t1 : s.tdiv P = s / P := Int.tdiv_eq_ediv_of_nonneg hs.1
    have t2 : p.tdiv P = p / P := Int.tdiv_eq_ediv_of_nonneg hab.1
    have b1 : 0 ≤ s / P ∧ s / P ≤ s := ⟨Int.ediv_nonneg hs.1 (by omega), Int.ediv_le_self _ hs.1⟩
    have b2 : 0 ≤ p / P ∧ p / P ≤ p := ⟨Int.ediv_nonneg hab.1 (by omega), Int.ediv_le_self _ hab.1⟩
    obtain ⟨s1, hs1⟩ : ∃ o9, s / P = o9 := ⟨_, rfl⟩
    obtain ⟨p1, hp1'⟩ : ∃ o9, p / P = o9 := ⟨_, rfl⟩
    rw [hs1] at t1 b1 HWR
    rw [hp1'] at t2 b2 HWR
    have w1 : IntKind.i64.wrap s1 = s1 := by rw [IntKind.wrap_i64]; omega
    have w2 : IntKind.i64.wrap p1 = p1 := by rw [IntKind.wrap_i64]; omega
    have t3 : s1.tmod 10 = s1 % 10 := Int.tmod_eq_emod_of_nonneg b1.1
    have t4 : p1.tmod 10 = p1 % 10 := Int.tmod_eq_emod_of_nonneg b2.1
    obtain ⟨sd, hsd⟩ : ∃ o9, s1 % 10 = o9 := ⟨_, rfl⟩
    obtain ⟨pd, hpd⟩ : ∃ o9, p1 % 10 = o9 := ⟨_, rfl⟩
    rw [hsd] at t3 HWR
    rw [hpd] at t4 HWR
    have hbV : w.heap.size ≤ V.heap.size := HX.out.size
    have m1 : L.length + 1 ≤ maxLen := by unfold maxLen; omega
    have m2 : (L.length + 1) * 8 ≤ 140737488355328 := by omega
    clear hP hs1 hp1' hsd hpd
    by_cases hd : sd = pd
    · subst hd
      rw [if_pos rfl, List.append_nil] at HWR
      have hne : (sd != sd) = false := by simp
      go_wp2_with fail
      (refine wp_region_later (by kernel_rfl) (by kernel_rfl) ?_; (repeat (go_big_quiet_step ((go_at_call 44; exact Calls.later_same (HPW.out _))))); refine wpQuiet_nil ?_; intro wq hw1; obtain ⟨⟨wl, hb⟩, hw1'⟩ := hw1; simp only at hw1'; subst hw1')
      have HOq := Lib.hid (own_ext HO.out hb)
      have HXq := Lib.hid (ext_trans HX.out hb)
      clear hb
      go_wp2
      go_roundw
      case rel => exact ⟨k + 1, A, c, L, by go_num, rfl, by omega, by omega, HWR, HOq, HXq⟩
      case measure => simp [intOf]; omega
    · rw [if_neg hd] at HWR
      have hne : (sd != pd) = true := by simpa using hd
      have hne2 : (pd != sd) = true := by simpa using Ne.symm hd
      go_wp2_with fail
      (refine wp_region_later (by kernel_rfl) (by kernel_rfl) ?_; (repeat (go_big_quiet_step ((go_at_call 44; exact Calls.later_same (HPW.out _))))); refine wpQuiet_nil ?_; intro wq hw1; obtain ⟨⟨wl, hb⟩, hw1'⟩ := hw1; simp only at hw1'; subst hw1')
      have HOq := Lib.hid (own_ext HO.out hb)
      have HXq := Lib.hid (ext_trans HX.out hb)
      clear hb
      have hbV : w.heap.size ≤ wq.heap.size := HXq.out.size
      go_wp2_with (at_builtin; refine wpList_append_own_at _ rfl (.tmp 38) (.tmp 40) 26 rfl w.heap.size 3 i0 _ 1 8 Try.underlying26 hi hz0 hz1 hz2 rfl (by decide) (.slice A L.length c) L.length (intsV L) rfl (HOq.out.alloc (.cells #[.int .i64 (k : Int)] 3)) _ 1 1 [.int .i64 (k : Int)] rfl rfl (cells_new_at wq [.int .i64 (k : Int)] 3 rfl) (by simp [Value.oneCell']) m1 m2 (Nat.le_trans hbV (by simp)) ?_; intro v9 w6 hown hgrow _ hat; obtain ⟨A4, c4, rfl⟩ := own_shape hown; have HGR := Lib.hid hgrow; have HOW := Lib.hid hown; have HAT := Lib.hid hat; clear hown hgrow hat)
      have HB6 := Lib.hid (below_grown' (HOq.out.alloc (.cells #[.int .i64 (k : Int)] 3)) (Nat.le_refl _) (ext_alloc HXq.out (.cells #[.int .i64 (k : Int)] 3)) HGR.out)
      have hlen : (L ++ [(k : Int)]).length = L.length + 1 := by simp
      have HOW2 := Lib.hid (show w6.ownsRow w.heap.size 3 1 (.slice A4 (L ++ [(k : Int)]).length c4) (L ++ [(k : Int)]).length (intsV (L ++ [(k : Int)])) by rw [hlen]; have h9 := HOW.out; simpa [intsV] using h9)
      rw [← hlen]
      have HLL := Lib.hid hlen
      clear hlen
      go_wp2
      go_roundw
      case rel => exact ⟨k + 1, A4, c4, L ++ [(k : Int)], by go_num, rfl, by omega, by rw [HLL.out]; omega, HWR, HOW2, HB6⟩
      case measure => simp [intOf]; omega
  · obtain rfl : k = 8 := by omega
    have HLE := HL.out
    subst HLE
    go_wp2
    go_ret2
    exact ⟨_, _, rfl, HO.out, HX.out⟩

set_option maxRecDepth 100000 in
set_option maxHeartbeats 8000000 in
theorem implCastingOut_any (a b s : Int) (w : World) (hs9 : s ≤ 9223372036854775807) : Calls Try.prog 29 #[.int .i64 a, .int .i64 b, .int .i64 s] w (fun e w' => e = .returned (.tuple #[.bool (coV a b s), .bool (coB a b s)]) ∧ Below w.heap.size w w') := by
 have HF := Lib.hid (fun (w : World) => areFactors_any a b w)
 cases hb0 : facB a b
 · rw [show coV a b s = false by unfold coV coB; rw [hb0]; rfl, show coB a b s = false by unfold coB; rw [hb0]; rfl]
   rw [hb0] at HF
   clear hb0
   go_enter Try.func29, Try.ntmps29
   go_wp2_with fail
   refine (HF.out _).mono ?_
   rintro e wz ⟨rfl, rfl⟩
   go_wp2
   go_ret2
   exact ⟨rfl, ext_refl _⟩
 by_cases hs : s < 0
 · rw [show coV a b s = false by unfold coV coB; rw [hb0, decide_eq_false (show ¬ 0 ≤ s by omega)]; rfl, show coB a b s = false by unfold coB; rw [hb0, decide_eq_false (show ¬ 0 ≤ s by omega)]; rfl]
   rw [hb0] at HF
   clear hb0
   go_enter Try.func29, Try.ntmps29
   go_wp2_with fail
   refine (HF.out _).mono ?_
   rintro e wz ⟨rfl, rfl⟩
   go_wp2
   go_ret2
   exact ⟨rfl, ext_refl _⟩
 have hab := (ptsF_facts (a := a) (b := b) hb0).2.2.2
 rw [show coB a b s = true by unfold coB; rw [hb0, decide_eq_true (show 0 ≤ s by omega)]; rfl, show coV a b s = decide (s % 9 = a * b % 9) by unfold coV coB; rw [hb0, decide_eq_true (show 0 ≤ s by omega)]; rfl]
 rw [hb0] at HF
 obtain ⟨p, hp⟩ : ∃ o9, a * b = o9 := ⟨_, rfl⟩
 rw [hp] at hab ⊢
 have hw0 : IntKind.i64.wrap p = p := by rw [IntKind.wrap_i64]; omega
 have hw0' : wrap64 p = p := by unfold wrap64; omega
 have t1 : s.tmod 9 = s % 9 := Int.tmod_eq_emod_of_nonneg (by omega)
 have t2 : p.tmod 9 = p % 9 := Int.tmod_eq_emod_of_nonneg hab.1
 obtain ⟨s1, hs1⟩ : ∃ o9, s % 9 = o9 := ⟨_, rfl⟩
 obtain ⟨p1, hp1⟩ : ∃ o9, p % 9 = o9 := ⟨_, rfl⟩
 rw [hs1] at t1 ⊢
 rw [hp1] at t2 ⊢
 clear hb0 hs1 hp1
 have key : (s1 == p1) = decide (s1 = p1) := by by_cases h : s1 = p1 <;> simp [h]
 have key2 : (p1 == s1) = decide (s1 = p1) := by
  by_cases h : s1 = p1
  · subst h; simp
  · rw [decide_eq_false h]; simp; exact fun e => h e.symm
 rw [← key]
 go_enter Try.func29, Try.ntmps29
 go_wp2_with fail
 refine (HF.out _).mono ?_
 rintro e wz ⟨rfl, rfl⟩
 clear key key2
 go_wp2
 go_ret2
 exact ⟨rfl, ext_refl _⟩

set_option maxRecDepth 100000 in
set_option maxHeartbeats 8000000 in
theorem specCastingOut_any (a b s : Int) (w : World) (hs9 : s ≤ 9223372036854775807) : Calls Try.prog 31 #[.int .i64 a, .int .i64 b, .int .i64 s] w (fun e w' => e = .returned (.tuple #[.bool (coV a b s), .bool (coB a b s)]) ∧ Below w.heap.size w w') := by
 have HF := Lib.hid (fun (w : World) => l9Both_any a b w)
 cases hb0 : facB a b
 · rw [show coV a b s = false by unfold coV coB; rw [hb0]; rfl, show coB a b s = false by unfold coB; rw [hb0]; rfl]
   rw [hb0] at HF
   clear hb0
   go_enter Try.func31, Try.ntmps31
   go_wp2_with fail
   refine (HF.out _).mono ?_
   rintro e wz ⟨rfl, rfl⟩
   go_wp2
   go_ret2
   exact ⟨rfl, ext_refl _⟩
 by_cases hs : s < 0
 · rw [show coV a b s = false by unfold coV coB; rw [hb0, decide_eq_false (show ¬ 0 ≤ s by omega)]; rfl, show coB a b s = false by unfold coB; rw [hb0, decide_eq_false (show ¬ 0 ≤ s by omega)]; rfl]
   rw [hb0] at HF
   clear hb0
   go_enter Try.func31, Try.ntmps31
   go_wp2_with fail
   refine (HF.out _).mono ?_
   rintro e wz ⟨rfl, rfl⟩
   go_wp2
   go_ret2
   exact ⟨rfl, ext_refl _⟩
 have hab := (ptsF_facts (a := a) (b := b) hb0).2.2.2
 rw [show coB a b s = true by unfold coB; rw [hb0, decide_eq_true (show 0 ≤ s by omega)]; rfl, show coV a b s = decide (s % 9 = a * b % 9) by unfold coV coB; rw [hb0, decide_eq_true (show 0 ≤ s by omega)]; rfl]
 rw [hb0] at HF
 obtain ⟨p, hp⟩ : ∃ o9, a * b = o9 := ⟨_, rfl⟩
 rw [hp] at hab ⊢
 have hw0 : IntKind.i64.wrap p = p := by rw [IntKind.wrap_i64]; omega
 have hw0' : wrap64 p = p := by unfold wrap64; omega
 have t1 : s.tmod 9 = s % 9 := Int.tmod_eq_emod_of_nonneg (by omega)
 have t2 : p.tmod 9 = p % 9 := Int.tmod_eq_emod_of_nonneg hab.1
 obtain ⟨s1, hs1⟩ : ∃ o9, s % 9 = o9 := ⟨_, rfl⟩
 obtain ⟨p1, hp1⟩ : ∃ o9, p % 9 = o9 := ⟨_, rfl⟩
 rw [hs1] at t1 ⊢
 rw [hp1] at t2 ⊢
 clear hb0 hs1 hp1
 have key : (s1 == p1) = decide (s1 = p1) := by by_cases h : s1 = p1 <;> simp [h]
 have key2 : (p1 == s1) = decide (s1 = p1) := by
  by_cases h : s1 = p1
  · subst h; simp
  · rw [decide_eq_false h]; simp; exact fun e => h e.symm
 rw [← key2]
 go_enter Try.func31, Try.ntmps31
 go_wp2_with fail
 refine (HF.out _).mono ?_
 rintro e wz ⟨rfl, rfl⟩
 clear key key2
 go_wp2
 go_ret2
 exact ⟨rfl, ext_refl _⟩

end Go.Proofs.Ytpddpkacpklbjaa
