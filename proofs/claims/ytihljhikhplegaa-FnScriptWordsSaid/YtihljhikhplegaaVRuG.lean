/- A plain word carried out: the reference's. -/
import Derived.Test.YtihljhikhplegaaVM7
namespace Go.Proofs.Ytihljhikhplegaa
open Go.RowKit
set_option linter.unusedVariables false
set_option linter.unusedSimpArgs false
theorem plain_inv {l : List UInt8} {c : UInt8} {d : Nat} (h : plainO l = some (c, d)) : ((c = 60 ∨ c = 62 ∨ c = 99) ∧ d = 0 ∧ l = [c]) ∨ ((c = 43 ∨ c = 45) ∧ ∃ e : UInt8, l = [c, e] ∧ 49 ≤ e.toNat ∧ e.toNat ≤ 57 ∧ d = e.toNat - 48) := by
 unfold plainO at h
 split at h
 · split at h
   · rename_i hc
     injection h with h
     injection h with h1 h2
     subst h1 h2
     exact .inl ⟨hc, rfl, rfl⟩
   · cases h
 · split at h
   · rename_i hc
     injection h with h
     injection h with h1 h2
     subst h1 h2
     have hd := hc.2
     simp only [digB, decide_eq_true_eq] at hd
     exact .inr ⟨hc.1, _, rfl, hd.1, hd.2, rfl⟩
   · cases h
 · cases h
theorem rodsD_std {ds : List Int} (h : WF ds) : stdB (rodsD ds) = true := by
 unfold stdB rodsD
 rw [List.all_eq_true]
 intro r hr
 rw [List.mem_map] at hr
 obtain ⟨d, hd, rfl⟩ := hr
 have := h d hd
 unfold stdR rodD
 simp only [Bool.and_eq_true, decide_eq_true_eq]
 omega
theorem hvR {p q : Prop} (h : p) (k : p → q) : q := k h
/-- a word's frame, rod, moves -/
def RetO1 (B : Nat) (u lo : Int) (n : Nat) (o : Option (WS × Nat)) (w : World) (e : Ending) (w' : World) : Prop :=
 ∃ (U LO : Int) (A : Option Addr) (k c : Nat) (z : Int) (M : Option Addr) (m d : Nat), e = .returned (.tuple #[frV U LO A k c, .int .i64 z, .slice M m d, .bool o.isSome]) ∧
  (∀ q, o = some q → U = u ∧ LO = lo ∧ k = n ∧ z = (q.2 : Int) ∧ m = q.1.ms.length ∧ w'.ownsRow B 96 2 (.slice A k c) k (rowsV2 (rodsD q.1.ds)) ∧ w'.ownsRow B 75 3 (.slice M m d) m (rowsV3 q.1.ms)) ∧ Below w.heap.size w w'
set_option maxRecDepth 100000 in
set_option maxHeartbeats 8000000 in
theorem l15One_any (B : Nat) (u lo : Int) (n r : Nat) (A : Option Addr) (c : Nat) (ds : List Int) (x : RW) (p : ByteArray) (w : World) (hx : okW x) (hp : plainO (bl p) = some (x.what, x.digit)) (hpz : p.size ≤ 80) (hu : 1 ≤ u ∧ u ≤ 2) (hlo : 4 ≤ lo ∧ lo ≤ 5) (hi : Inv n (⟨ds, [], 0⟩, r)) (hn8 : n ≤ 8) (hB : B ≤ w.heap.size) (h : w.ownsRow B 96 2 (.slice A n c) n (rowsV2 (rodsD ds))) :
 Calls Try.prog 70 #[.string p, frV u lo A n c, .int .i64 (r : Int)] w (RetO1 B u lo n (stO n x (⟨ds, [], 0⟩, r)) w) := by
 obtain ⟨hwf, hnl, hrn⟩ := hi
 dsimp only at hwf hnl hrn
 have hn1 : 1 ≤ n := by omega
 have hnb : n ≤ 1048576 := by omega
 have hfr := Lib.hid (rodsD_good hu hlo hwf hnl hn1 hn8)
 obtain ⟨xt, xc, xd⟩ := x
 dsimp only at hp
 obtain ⟨O, hO⟩ : ∃ O, stO n ⟨xt, xc, xd⟩ (⟨ds, [], 0⟩, r) = O := ⟨_, rfl⟩
 rw [hO]
 have e60 := lit_iff p [60]
 have e62 := lit_iff p [62]
 have e99 := lit_iff p [99]
 have BF0 := Lib.hid (((Blk.born w #[.int .i64 u, .int .i64 lo, .slice A n c] 26 (H := w.heap.size) rfl).al (.cells #[.int .i64 0, .int .i64 0, .slice none 0 0] 26)).al (.cells #[] 75))
 have HO0 := Lib.hid (own_lit_at ((w.alloc (.cells #[.int .i64 u, .int .i64 lo, .slice A n c] 26)).alloc (.cells #[.int .i64 0, .int .i64 0, .slice none 0 0] 26)) 75 3 (H := w.heap.size + 1 + 1) (B := w.heap.size) (by simp) (by omega))
 have BR0 := Lib.hid ((Blk.born (w.alloc (.cells #[.int .i64 u, .int .i64 lo, .slice A n c] 26)) #[.int .i64 0, .int .i64 0, .slice none 0 0] 26 (H := w.heap.size + 1) (by simp)).al (.cells #[] 75))
 have hbx := Lib.hid (ext_alloc (ext_alloc (ext_alloc (ext_refl w) (.cells #[.int .i64 u, .int .i64 lo, .slice A n c] 26)) (.cells #[.int .i64 0, .int .i64 0, .slice none 0 0] 26)) (.cells #[] 75))
 have H := Lib.hid h
 have H0 := Lib.hid (own_ext h hbx.out)
 have HG1 := Lib.hid (fun (cs : Array Value) => own_ext h (ext_alloc (ext_alloc (ext_alloc (ext_refl w) (.cells #[.int .i64 u, .int .i64 lo, .slice A n c] 26)) (.cells cs 26)) (.cells #[] 75)))
 have HG2 := Lib.hid (fun (cs : Array Value) => own_lit_at ((w.alloc (.cells #[.int .i64 u, .int .i64 lo, .slice A n c] 26)).alloc (.cells cs 26)) 75 3 (H := w.heap.size + 1 + 1) (B := w.heap.size) (by simp) (by omega))
 have HG3 := Lib.hid (fun (cs : Array Value) => ext_alloc (ext_alloc (ext_alloc (ext_refl w) (.cells #[.int .i64 u, .int .i64 lo, .slice A n c] 26)) (.cells cs 26)) (.cells #[] 75))
 have HWF := Lib.hid hwf
 have HNL := Lib.hid hnl
 have hle1 := Nat.le_succ w.heap.size
 clear h hwf hnl
 rcases plain_inv hp with ⟨hc, hd, hl⟩ | ⟨hc, y, hl, y1, y2, hd⟩
 · rw [hl] at e60 e62 e99
   rcases hc with e | e | e
   · rw [e] at e60 e62 e99
     rw [decide_eq_true rfl] at e60
     rw [decide_eq_false (by decide)] at e62
     have hO2 : (if 0 < r then some ((⟨ds, [], 0⟩ : WS), r - 1) else none) = O := by rw [← hO]; unfold stO; dsimp only; rw [if_pos e]
     have HO := Lib.hid hO2
     clear hO hO2 hl hp e hd e99
     by_cases hcd : 0 < r
     · rw [if_pos hcd] at HO
       have HC := Lib.hid hcd
       have hci : 0 < r := by omega
       clear hcd
       go_enter Try.func70, Try.ntmps70
       go_wp2
       refine bodyPost_ret (v := .tuple #[frV u lo A n c, .int .i64 ((r : Int) - 1), .slice (some ⟨w.heap.size + 1 + 1, 0, none⟩) 0 0, .bool true]) (by simp [results, Try.results70, go_sem, *]) rfl ?_
       refine ⟨u, lo, A, n, c, (r : Int) - 1, some ⟨w.heap.size + 1 + 1, 0, none⟩, 0, 0, by rw [← HO.out]; rfl, fun q hq => ?_, ?_⟩
       · rw [← HO.out] at hq
         injection hq with hq
         subst hq
         refine ⟨rfl, rfl, rfl, by have := HC.out; dsimp only; omega, rfl, ?_, ?_⟩
         · exact HG1.out _
         · exact own_base (base := w.heap.size) (HG2.out _) hB
       · first | (with_reducible exact HG3.out _) | exact ext_drew (HG3.out _)
     · rw [if_neg hcd] at HO
       have HC := Lib.hid hcd
       have hci : r = 0 := by omega
       clear hcd
       go_enter Try.func70, Try.ntmps70
       go_wp2
       refine bodyPost_ret (v := .tuple #[frV u lo A n c, .int .i64 ((r : Int) - 1), .slice (some ⟨w.heap.size + 1 + 1, 0, none⟩) 0 0, .bool false]) (by simp [results, Try.results70, go_sem, *]) rfl ?_
       refine ⟨u, lo, A, n, c, (r : Int) - 1, some ⟨w.heap.size + 1 + 1, 0, none⟩, 0, 0, by rw [← HO.out]; rfl, fun q hq => ?_, ?_⟩
       · rw [← HO.out] at hq
         cases hq
       · first | (with_reducible exact HG3.out _) | exact ext_drew (HG3.out _)
   · rw [e] at e60 e62 e99
     rw [decide_eq_false (by decide)] at e60
     rw [decide_eq_true rfl] at e62
     have hO2 : (if r + 1 < n then some ((⟨ds, [], 0⟩ : WS), r + 1) else none) = O := by rw [← hO]; unfold stO; dsimp only; rw [if_neg (show ¬ xc = 60 by rw [e]; decide), if_pos e]
     have HO := Lib.hid hO2
     clear hO hO2 hl hp e hd e99
     by_cases hcd : r + 1 < n
     · rw [if_pos hcd] at HO
       have HC := Lib.hid hcd
       have hci : (r : Int) + 1 < (n : Int) := by omega
       clear hcd
       go_enter Try.func70, Try.ntmps70
       go_wp2
       go_region
       go_wp2
       refine bodyPost_ret (v := .tuple #[frV u lo A n c, .int .i64 ((r : Int) + 1), .slice (some ⟨w.heap.size + 1 + 1, 0, none⟩) 0 0, .bool true]) (by simp [results, Try.results70, go_sem, *]) rfl ?_
       refine ⟨u, lo, A, n, c, (r : Int) + 1, some ⟨w.heap.size + 1 + 1, 0, none⟩, 0, 0, by rw [← HO.out]; rfl, fun q hq => ?_, ?_⟩
       · rw [← HO.out] at hq
         injection hq with hq
         subst hq
         refine ⟨rfl, rfl, rfl, by have := HC.out; dsimp only; omega, rfl, ?_, ?_⟩
         · exact HG1.out _
         · exact own_base (base := w.heap.size) (HG2.out _) hB
       · first | (with_reducible exact HG3.out _) | exact ext_drew (HG3.out _)
     · rw [if_neg hcd] at HO
       have HC := Lib.hid hcd
       have hci : ¬ (r : Int) + 1 < (n : Int) := by omega
       clear hcd
       go_enter Try.func70, Try.ntmps70
       go_wp2
       go_region
       go_wp2
       refine bodyPost_ret (v := .tuple #[frV u lo A n c, .int .i64 ((r : Int) + 1), .slice (some ⟨w.heap.size + 1 + 1, 0, none⟩) 0 0, .bool false]) (by simp [results, Try.results70, go_sem, *]) rfl ?_
       refine ⟨u, lo, A, n, c, (r : Int) + 1, some ⟨w.heap.size + 1 + 1, 0, none⟩, 0, 0, by rw [← HO.out]; rfl, fun q hq => ?_, ?_⟩
       · rw [← HO.out] at hq
         cases hq
       · first | (with_reducible exact HG3.out _) | exact ext_drew (HG3.out _)
   · rw [e] at e60 e62 e99
     rw [decide_eq_false (by decide)] at e60
     rw [decide_eq_false (by decide)] at e62
     rw [decide_eq_true rfl] at e99
     obtain ⟨y, hy⟩ := list_split (l := ds) (k := r) (by rw [HNL.out]; exact hrn)
     obtain ⟨y0, y9⟩ := HWF.out.get hy
     have hO2 : some ((⟨ds.set r 0, turnM r y 0, 0⟩ : WS), r) = O := by
      rw [← hO]
      unfold stO
      dsimp only
      rw [if_neg (show ¬ xc = 60 by rw [e]; decide), if_neg (show ¬ xc = 62 by rw [e]; decide), if_pos e, List.getD_eq_getElem?_getD, hy]
      rfl
     have HO := Lib.hid hO2
     have HY := Lib.hid hy
     clear hO hO2 hl hp e hd hy
     go_enter Try.func70, Try.ntmps70
     go_wp2_with fail
     refine (setRod_yes 0 u lo A n c r (rodsD ds) _ hfr.out hrn (Reads.of_own H0.out)).mono ?_
     rintro e w1 ⟨A1, c1, rfl, hr1, hb1⟩
     have hr1 := Lib.hid (show w1.ownsRow w.heap.size 96 2 (.slice A1 n c1) n (rowsV2 (rodsD (ds.set r 0))) by
      rw [rodsD_set]
      have := own_base (base' := w.heap.size) hr1 hbx.out.size
      rw [List.length_set, rodsD_len, HNL.out] at this
      exact this)
     have HA1 := Lib.hid (show ((rodsD ds).set r (rodD 0)).length = n by rw [List.length_set, rodsD_len]; exact HNL.out)
     have BF1 := Lib.hid (BF0.out.ext hb1)
     have BR1 := Lib.hid (BR0.out.ext hb1)
     have H1 := Lib.hid (own_ext H0.out hb1)
     have hb2 := Lib.hid (ext_trans hbx.out hb1)
     clear hb1
     dsimp only
     rw [HA1.out]
     go_upto_region 9 with fail
     obtain ⟨N, hN⟩ : ∃ N, N = w1.heap.size := ⟨_, rfl⟩
     obtain ⟨W, hW⟩ : ∃ W, W = w1.alloc (.cells #[.int .i64 u, .int .i64 lo, .slice A1 n c1] 26) := ⟨_, rfl⟩
     have BNW := Lib.hid (show Blk W N 26 #[.int .i64 u, .int .i64 lo, .slice A1 n c1] by rw [hW]; exact Blk.born _ _ _ hN)
     have BFW := Lib.hid (show Blk W w.heap.size 26 #[.int .i64 u, .int .i64 lo, .slice A n c] by rw [hW]; exact BF1.out.al _)
     have BRW := Lib.hid (show Blk W (w.heap.size + 1) 26 #[.int .i64 0, .int .i64 0, .slice none 0 0] by rw [hW]; exact BR1.out.al _)
     have HW1 := Lib.hid (show W.ownsRow B 96 2 (.slice A n c) n (rowsV2 (rodsD ds)) by rw [hW]; exact H1.out.alloc _)
     have hrW := Lib.hid (show W.ownsRow w.heap.size 96 2 (.slice A1 n c1) n (rowsV2 (rodsD (ds.set r 0))) by rw [hW]; exact hr1.out.alloc _)
     have hbW := Lib.hid (show Below w.heap.size w W by rw [hW]; exact ext_alloc hb2.out _)
     have HWN := Lib.hid (And.intro hW hN)
     rw [← hN, ← hW]
     clear hN hW
     obtain ⟨b, o, hA, hbb, d0, d1⟩ := rows_at2 (Reads.of_own HW1.out) (rodsD_get HY.out)
     subst hA
     obtain ⟨f0, f1, f2⟩ := BFW.out.q3
     obtain ⟨g0, g1, g2⟩ := BNW.out.q3
     obtain ⟨s0, s1, s2⟩ := BRW.out.q3
     obtain ⟨z0, z1, z2⟩ := BRW.out.z3
     have hlN := BNW.out.lt
     have hlF := BFW.out.lt
     have hlR := BRW.out.lt
     have d0 : W.cell? ⟨b, o + r * 2, none⟩ = some (.int .i64 (y / 5)) := d0
     have d1 : W.cell? ⟨b, o + r * 2 + 1, none⟩ = some (.int .i64 (y % 5)) := d1
     go_region_law (first
      | (go_simp; go_at_call 85; (refine (l2Value_rod y _ y0 y9).mono ?_); rintro e wA ⟨rfl, hbA⟩; refine hvR (p := Below W.heap.size W wA) ?_ fun hcA => ?_; (focus ((repeat (first | (with_reducible exact ext_refl _) | (with_reducible refine ext_drew ?_) | (with_reducible refine ext_trans ?_ hbA))); done)); obtain ⟨g0A, g1A, g2A⟩ := (BNW.out.ext hcA).q3; obtain ⟨s0A, s1A, s2A⟩ := (BRW.out.ext hcA).q3; obtain ⟨z0A, z1A, z2A⟩ := (BRW.out.ext hcA).z3; have hlRA := (BRW.out.ext hcA).lt; have hcA := Lib.hid hcA)
      | (go_simp; go_at_call 84; (refine (l6Turn_any r y 0 _ y0 y9 (Int.le_refl 0) (by omega)).mono ?_); rintro e wT ⟨Am, cm, rfl, hmm, hbT⟩; refine hvR (p := Below W.heap.size W wT) ?_ fun hcT => ?_; (focus ((repeat (first | (with_reducible exact hcA.out) | (with_reducible refine ext_drew ?_) | (with_reducible refine ext_trans ?_ hbT))); done)); obtain ⟨g0T, g1T, g2T⟩ := (BNW.out.ext hcT).q3; obtain ⟨s0T, s1T, s2T⟩ := (BRW.out.ext hcT).q3; obtain ⟨z0T, z1T, z2T⟩ := (BRW.out.ext hcT).z3; have hlRT := (BRW.out.ext hcT).lt; have hcT := Lib.hid hcT; have hmm := Lib.hid hmm))
     all_goals
      go_wp2
      refine bodyPost_ret (v := .tuple #[frV u lo A1 n c1, .int .i64 (r : Int), .slice Am (turnM r y 0).length cm, .bool true]) (by simp [results, Try.results70, go_sem, *]) rfl ?_
      refine ⟨u, lo, A1, n, c1, r, Am, (turnM r y 0).length, cm, by rw [← HO.out]; rfl, fun q hq => ?_, ?_⟩
      · rw [← HO.out] at hq
        injection hq with hq
        subst hq
        refine ⟨rfl, rfl, rfl, rfl, rfl, ?_, ?_⟩
        · refine own_base (base := w.heap.size) ?_ hB
          exact fill_own' (own_ext hrW.out hcT.out) (own_nbT (own_ext hrW.out hcT.out) (BRW.out.ext hcT.out) (by decide))
        · exact own_base (fill_own' hmm.out (own_nbT hmm.out (BRW.out.ext hcT.out) (by decide))) (by have e1 := hbW.out.size; first | omega | (have e2 := hcA.out.size; omega))
      · exact fill_below (ext_trans hbW.out hcT.out) hle1
 · have hpz2 : p.size = 2 := by rw [← bl_size, hl]; rfl
   have hp0 : 0 < p.size := by omega
   have hp1 : 1 < p.size := by omega
   have h0 : p[0]'hp0 = xc := by have := bl_get hp0; rw [hl] at this; simpa using this.symm
   have h1 : p[1]'hp1 = y := by have := bl_get hp1; rw [hl] at this; simpa using this.symm
   rw [hl] at e60 e62 e99
   rw [decide_eq_false (by simp)] at e60 e62 e99
   have hdx : ((xd : Nat) : Int) = ((p[1]'hp1).toNat : Int) - 48 := by rw [h1]; omega
   have y1' : 49 ≤ (p[1]'hp1).toNat := by rw [h1]; exact y1
   have y2' : (p[1]'hp1).toNat ≤ 57 := by rw [h1]; exact y2
   have HD := Lib.hid hdx
   have hd9 : xd ≤ 9 := by omega
   have hin := inB_iff.2 (show (0 : Int) ≤ (r : Int) ∧ (r : Int) ≤ (n : Int) - 1 by omega)
   have hind := inB_iff.2 (show (0 : Int) ≤ (xd : Int) ∧ (xd : Int) ≤ 9 by omega)
   have hgood : goodB u lo (rodsD ds) = true := by
    rw [goodB, hfr.out, Bool.true_and]
    exact rodsD_std HWF.out
   rcases hc with e | e
   · have hb0 : (((p[0]'hp0).toNat : Int) == 43) = true := by rw [h0, e]; rfl
     have hb00 : ((p[0]'hp0).toNat : Int) = 43 := by rw [h0, e]; rfl
     have hO2 : (if canB (rodsD ds) ((xd : Int) * pw (n - (r + 1))) = true then some (addS (r + 1) xd ⟨ds, [], 0⟩, r) else none) = O := by rw [← hO]; unfold stO; dsimp only; rw [if_neg (show ¬ xc = 60 by rw [e]; decide), if_neg (show ¬ xc = 62 by rw [e]; decide), if_neg (show ¬ xc = 99 by rw [e]; decide), if_pos e]
     have HO := Lib.hid hO2
     have EB := Lib.hid (show addDigitB u lo (rodsD ds) (r : Int) (xd : Int) = canB (rodsD ds) ((xd : Int) * pw (n - (r + 1))) by
      unfold addDigitB
      rw [hgood, rodsD_len, HNL.out, hin, hind]
      rfl)
     have HM := Lib.hid (fun (w : World) h => specAddDigitMoves_any u lo A n c (rodsD ds) (r : Int) (xd : Int) w hnb h)
     have HF := Lib.hid (fun (w : World) h => specAddDigit_any u lo A n c (rodsD ds) (r : Int) (xd : Int) w hnb h)
     unfold RetMv at HM
     unfold RetFrB at HF
     obtain ⟨F, hF⟩ : ∃ F, addDF u lo (rodsD ds) (r : Int) (xd : Int) = F := ⟨_, rfl⟩
     obtain ⟨M, hM⟩ : ∃ M, addDms u lo (rodsD ds) (r : Int) (xd : Int) = M := ⟨_, rfl⟩
     obtain ⟨ok, hok⟩ : ∃ ok, addDigitB u lo (rodsD ds) (r : Int) (xd : Int) = ok := ⟨_, rfl⟩
     rw [hM, hok] at HM
     rw [hF, hok] at HF
     have HFF := Lib.hid hF
     have HMM := Lib.hid hM
     have HOK := Lib.hid hok
     rw [HD.out] at HM HF
     obtain ⟨U, LO, FL⟩ := F
     dsimp only at HF
     clear hF hM hok hO hO2 hl hp e hd h0 h1 hdx y1 y2 hgood hin hind
     go_enter Try.func70, Try.ntmps70
     go_wp2_with fail
     refine (HM.out _ (Reads.of_own H0.out)).mono ?_
     rintro e w1 ⟨Am, cm, rfl, hm1, hb1⟩
     have hm1 := Lib.hid (own_base (base' := w.heap.size) hm1 hbx.out.size)
     have BF1 := Lib.hid (BF0.out.ext hb1)
     have BR1 := Lib.hid (BR0.out.ext hb1)
     have H1 := Lib.hid (own_ext H0.out hb1)
     have hb2 := Lib.hid (ext_trans hbx.out hb1)
     obtain ⟨f0, f1, f2⟩ := BF1.out.q3
     clear hb1
     go_wp2_with fail
     refine (HF.out _ (Reads.of_own H1.out)).mono ?_
     rintro e w2 ⟨A1, c1, rfl, hr1, hb3⟩
     have hr2 := Lib.hid (own_base (base' := w.heap.size) hr1 hb2.out.size)
     have hm2 := Lib.hid (own_ext hm1.out hb3)
     have BR2 := Lib.hid (BR1.out.ext hb3)
     have hb4 := Lib.hid (ext_trans hb2.out hb3)
     obtain ⟨s0, s1, s2⟩ := BR2.out.q3
     obtain ⟨z0, z1, z2⟩ := BR2.out.z3
     have hRl := BR2.out.lt
     clear hb3 hr1 f0 f1 f2
     have hne1 : ¬ w2.heap.size = w.heap.size + 1 := by omega
     have hne2 : ¬ w.heap.size + 1 = w2.heap.size := by omega
     go_wp2
     refine bodyPost_ret (v := .tuple #[frV U LO A1 FL.length c1, .int .i64 (r : Int), .slice Am M.length cm, .bool ok]) (by simp [results, Try.results70, go_sem, *]) rfl ?_
     refine ⟨U, LO, A1, FL.length, c1, r, Am, M.length, cm, ?_, fun q hq => ?_, ?_⟩
     · rw [← HO.out, ← HOK.out, EB.out]
       cases hcb : canB (rodsD ds) ((xd : Int) * pw (n - (r + 1)))
       · rw [if_neg (by decide)]; rfl
       · rw [if_pos rfl]; rfl
     · cases hcb : canB (rodsD ds) ((xd : Int) * pw (n - (r + 1)))
       · rw [← HO.out, hcb, if_neg (by decide)] at hq
         cases hq
       · rw [← HO.out, hcb, if_pos rfl] at hq
         injection hq with hq
         subst hq
         have eF := HFF.out
         unfold addDF at eF
         rw [if_pos (by rw [EB.out]; exact hcb), show ((r : Int).toNat) = r from rfl, dsOf_rodsD] at eF
         injection eF with e1 e2
         injection e2 with e2 e3
         have eM := HMM.out
         unfold addDms at eM
         rw [if_pos (by rw [EB.out]; exact hcb), show ((r : Int).toNat) = r from rfl, dsOf_rodsD] at eM
         have hFL : FL.length = n := by rw [← e3, rodsD_len, addS_len]; exact HNL.out
         refine ⟨e1.symm, e2.symm, hFL, rfl, by rw [← eM], ?_, ?_⟩
         · dsimp only
           rw [e3]
           refine own_base (base := w.heap.size) ?_ hB
           have hr3 := hr2.out
           rw [hFL] at hr3
           rw [hFL]
           repeat (first | (with_reducible exact hr3) | (with_reducible refine World.ownsRow.alloc ?_ _) | (with_reducible refine fill_own' ?_ (own_nbT hr3 BR2.out (by decide))))
         · dsimp only
           rw [eM]
           refine own_base (base := w.heap.size) ?_ hB
           repeat (first | (with_reducible exact hm2.out) | (with_reducible refine World.ownsRow.alloc ?_ _) | (with_reducible refine fill_own' ?_ (own_nbT hm2.out BR2.out (by decide))))
     · repeat (first | (with_reducible exact hb4.out) | (with_reducible refine ext_alloc ?_ _) | (with_reducible refine fill_below ?_ hle1))
   · have hb0 : (((p[0]'hp0).toNat : Int) == 43) = false := by rw [h0, e]; rfl
     have hb00 : ((p[0]'hp0).toNat : Int) = 45 := by rw [h0, e]; rfl
     have hO2 : (if canTB (rodsD ds) ((xd : Int) * pw (n - (r + 1))) = true then some (takeS (r + 1) xd ⟨ds, [], 0⟩, r) else none) = O := by rw [← hO]; unfold stO; dsimp only; rw [if_neg (show ¬ xc = 60 by rw [e]; decide), if_neg (show ¬ xc = 62 by rw [e]; decide), if_neg (show ¬ xc = 99 by rw [e]; decide), if_neg (show ¬ xc = 43 by rw [e]; decide)]
     have HO := Lib.hid hO2
     have EB := Lib.hid (show takeDigitB u lo (rodsD ds) (r : Int) (xd : Int) = canTB (rodsD ds) ((xd : Int) * pw (n - (r + 1))) by
      unfold takeDigitB
      rw [hgood, rodsD_len, HNL.out, hin, hind]
      rfl)
     have HM := Lib.hid (fun (w : World) h => specTakeDigitMoves_any u lo A n c (rodsD ds) (r : Int) (xd : Int) w hnb h)
     have HF := Lib.hid (fun (w : World) h => specTakeDigit_any u lo A n c (rodsD ds) (r : Int) (xd : Int) w hnb h)
     unfold RetMv at HM
     unfold RetFrB at HF
     obtain ⟨F, hF⟩ : ∃ F, takeDF u lo (rodsD ds) (r : Int) (xd : Int) = F := ⟨_, rfl⟩
     obtain ⟨M, hM⟩ : ∃ M, takeDms u lo (rodsD ds) (r : Int) (xd : Int) = M := ⟨_, rfl⟩
     obtain ⟨ok, hok⟩ : ∃ ok, takeDigitB u lo (rodsD ds) (r : Int) (xd : Int) = ok := ⟨_, rfl⟩
     rw [hM, hok] at HM
     rw [hF, hok] at HF
     have HFF := Lib.hid hF
     have HMM := Lib.hid hM
     have HOK := Lib.hid hok
     rw [HD.out] at HM HF
     obtain ⟨U, LO, FL⟩ := F
     dsimp only at HF
     clear hF hM hok hO hO2 hl hp e hd h0 h1 hdx y1 y2 hgood hin hind
     go_enter Try.func70, Try.ntmps70
     go_wp2_with fail
     refine (HM.out _ (Reads.of_own H0.out)).mono ?_
     rintro e w1 ⟨Am, cm, rfl, hm1, hb1⟩
     have hm1 := Lib.hid (own_base (base' := w.heap.size) hm1 hbx.out.size)
     have BF1 := Lib.hid (BF0.out.ext hb1)
     have BR1 := Lib.hid (BR0.out.ext hb1)
     have H1 := Lib.hid (own_ext H0.out hb1)
     have hb2 := Lib.hid (ext_trans hbx.out hb1)
     obtain ⟨f0, f1, f2⟩ := BF1.out.q3
     clear hb1
     go_wp2_with fail
     refine (HF.out _ (Reads.of_own H1.out)).mono ?_
     rintro e w2 ⟨A1, c1, rfl, hr1, hb3⟩
     have hr2 := Lib.hid (own_base (base' := w.heap.size) hr1 hb2.out.size)
     have hm2 := Lib.hid (own_ext hm1.out hb3)
     have BR2 := Lib.hid (BR1.out.ext hb3)
     have hb4 := Lib.hid (ext_trans hb2.out hb3)
     obtain ⟨s0, s1, s2⟩ := BR2.out.q3
     obtain ⟨z0, z1, z2⟩ := BR2.out.z3
     have hRl := BR2.out.lt
     clear hb3 hr1 f0 f1 f2
     have hne1 : ¬ w2.heap.size = w.heap.size + 1 := by omega
     have hne2 : ¬ w.heap.size + 1 = w2.heap.size := by omega
     go_wp2
     refine bodyPost_ret (v := .tuple #[frV U LO A1 FL.length c1, .int .i64 (r : Int), .slice Am M.length cm, .bool ok]) (by simp [results, Try.results70, go_sem, *]) rfl ?_
     refine ⟨U, LO, A1, FL.length, c1, r, Am, M.length, cm, ?_, fun q hq => ?_, ?_⟩
     · rw [← HO.out, ← HOK.out, EB.out]
       cases hcb : canTB (rodsD ds) ((xd : Int) * pw (n - (r + 1)))
       · rw [if_neg (by decide)]; rfl
       · rw [if_pos rfl]; rfl
     · cases hcb : canTB (rodsD ds) ((xd : Int) * pw (n - (r + 1)))
       · rw [← HO.out, hcb, if_neg (by decide)] at hq
         cases hq
       · rw [← HO.out, hcb, if_pos rfl] at hq
         injection hq with hq
         subst hq
         have eF := HFF.out
         unfold takeDF at eF
         rw [if_pos (by rw [EB.out]; exact hcb), show ((r : Int).toNat) = r from rfl, dsOf_rodsD] at eF
         injection eF with e1 e2
         injection e2 with e2 e3
         have eM := HMM.out
         unfold takeDms at eM
         rw [if_pos (by rw [EB.out]; exact hcb), show ((r : Int).toNat) = r from rfl, dsOf_rodsD] at eM
         have hFL : FL.length = n := by rw [← e3, rodsD_len, takeS_len]; exact HNL.out
         refine ⟨e1.symm, e2.symm, hFL, rfl, by rw [← eM], ?_, ?_⟩
         · dsimp only
           rw [e3]
           refine own_base (base := w.heap.size) ?_ hB
           have hr3 := hr2.out
           rw [hFL] at hr3
           rw [hFL]
           repeat (first | (with_reducible exact hr3) | (with_reducible refine World.ownsRow.alloc ?_ _) | (with_reducible refine fill_own' ?_ (own_nbT hr3 BR2.out (by decide))))
         · dsimp only
           rw [eM]
           refine own_base (base := w.heap.size) ?_ hB
           repeat (first | (with_reducible exact hm2.out) | (with_reducible refine World.ownsRow.alloc ?_ _) | (with_reducible refine fill_own' ?_ (own_nbT hm2.out BR2.out (by decide))))
     · repeat (first | (with_reducible exact hb4.out) | (with_reducible refine ext_alloc ?_ _) | (with_reducible refine fill_below ?_ hle1))

end Go.Proofs.Ytihljhikhplegaa
