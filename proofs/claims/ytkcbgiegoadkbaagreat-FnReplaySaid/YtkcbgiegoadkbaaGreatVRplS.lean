/- ReplayLog: the reference, walked. -/
import Derived.Test.YtkcbgiegoadkbaaGreatVM12
namespace Go.Proofs.YtkcbgiegoadkbaaGreat
open Go.RowKit
set_option linter.unusedVariables false
set_option linter.unusedSimpArgs false
set_option maxRecDepth 100000 in
set_option maxHeartbeats 4000000 in
theorem specRpl_bad1 (day : Int) (d p : ByteArray) (z : Int) (w : World) (hd : d.size ≤ 2000000) (hp : p.size ≤ 2000000) (hday : inB day 0 4000 = false) :
 Calls Tryz.prog 7 #[.int .i64 day, logV d p z] w (RetRpl 0 false w) := by
 have HN := Lib.hid (fun (w : World) => specNewConsole_any day w)
 unfold RetConB newD at HN
 rw [hday] at HN
 have HL := Lib.hid (fun (w : World) => implRecords_any d p z w hd hp)
 have HV := Lib.hid (fun (w : World) => l27Log_small d p z w hd hp)
 unfold RetSliceB at HL
 skip
 obtain ⟨D, hD⟩ : ∃ D, (if false = true then day else 0) = D := ⟨_, rfl⟩
 rw [hD] at HN
 obtain ⟨L, hL⟩ : ∃ L, lrL d p z = L := ⟨_, rfl⟩
 rw [hL] at HL
 obtain ⟨n, hn⟩ : ∃ n, L.length = n := ⟨_, rfl⟩
 rw [hn] at HL
 clear hday hD hL hn
 go_enter Tryz.func7, Tryz.ntmps7
 go_wp2_with fail
 refine (HN.out _).mono ?_
 rintro e w1 ⟨A0, c0, rfl, ho1, hb1⟩
 have b1 := Lib.hid (ext_trans (ext_alloc (ext_refl w) _) hb1)
 have B1 : Hid (Blk w1 w.heap.size 25 #[.string d, .string p, .int .i64 z]) := Lib.hid ((Blk.new w _ _).ext hb1)
 have s1 := B1.out.lt
 clear hb1 ho1
 obtain ⟨l10, l11, l12⟩ := B1.out.q3
 go_wp2
 go_ret2
 exact ⟨rfl, (by repeat (first | (with_reducible exact b1.out) | (with_reducible refine ext_alloc ?_ _)))⟩
set_option maxRecDepth 100000 in
set_option maxHeartbeats 4000000 in
theorem specRpl_bad2 (day : Int) (d p : ByteArray) (z : Int) (w : World) (hd : d.size ≤ 2000000) (hp : p.size ≤ 2000000) (hday : inB day 0 4000 = true) (hlog : logB d p z = false) :
 Calls Tryz.prog 7 #[.int .i64 day, logV d p z] w (RetRpl 0 false w) := by
 have HN := Lib.hid (fun (w : World) => specNewConsole_any day w)
 unfold RetConB newD at HN
 rw [hday] at HN
 have HL := Lib.hid (fun (w : World) => implRecords_any d p z w hd hp)
 have HV := Lib.hid (fun (w : World) => l27Log_small d p z w hd hp)
 unfold RetSliceB at HL
 rw [hlog] at HL HV
 obtain ⟨D, hD⟩ : ∃ D, (if true = true then day else 0) = D := ⟨_, rfl⟩
 rw [hD] at HN
 obtain ⟨L, hL⟩ : ∃ L, lrL d p z = L := ⟨_, rfl⟩
 rw [hL] at HL
 obtain ⟨n, hn⟩ : ∃ n, L.length = n := ⟨_, rfl⟩
 rw [hn] at HL
 clear hday hD hL hn hlog
 go_enter Tryz.func7, Tryz.ntmps7
 go_wp2_with fail
 refine (HN.out _).mono ?_
 rintro e w1 ⟨A0, c0, rfl, ho1, hb1⟩
 have b1 := Lib.hid (ext_trans (ext_alloc (ext_refl w) _) hb1)
 have B1 : Hid (Blk w1 w.heap.size 25 #[.string d, .string p, .int .i64 z]) := Lib.hid ((Blk.new w _ _).ext hb1)
 have s1 := B1.out.lt
 clear hb1 ho1
 obtain ⟨l10, l11, l12⟩ := B1.out.q3
 obtain ⟨w2, hw2⟩ : ∃ w2, w2 = w1.alloc (.cells #[.int .i64 D, .slice A0 0 c0, .int .i64 0, .int .i64 0, .string ⟨#[]⟩, .string ⟨#[]⟩, .int .i64 0] 34) := ⟨_, rfl⟩
 have e2 : Below w1.heap.size w1 w2 := by rw [hw2]; exact ext_alloc (ext_refl _) _
 have B2 := Lib.hid (B1.out.ext e2)
 have b2 := Lib.hid (ext_trans b1.out e2)
 have s2 := B2.out.lt
 clear e2
 go_wp2_with fail
 rw [← hw2]
 clear hw2 l10 l11 l12
 obtain ⟨l20, l21, l22⟩ := B2.out.q3
 with_reducible refine (HV.out _).mono ?_
 rintro e w3 ⟨rfl, hb3⟩
 have b3 := Lib.hid (ext_trans b2.out hb3)
 clear hb3
 go_wp2
 go_ret2
 exact ⟨rfl, (by repeat (first | (with_reducible exact b3.out) | (with_reducible refine ext_alloc ?_ _)))⟩
set_option maxRecDepth 100000 in
set_option maxHeartbeats 4000000 in
theorem specRpl_go (day : Int) (d p : ByteArray) (z : Int) (w : World) (hd : d.size ≤ 2000000) (hp : p.size ≤ 2000000) (hday : inB day 0 4000 = true) (hlog : logB d p z = true) :
 Calls Tryz.prog 7 #[.int .i64 day, logV d p z] w (RetRpl (rpl (con0 day) (lrL d p z)) true w) := by
 have HN := Lib.hid (fun (w : World) => specNewConsole_any day w)
 unfold RetConB newD at HN
 rw [hday, if_pos rfl] at HN
 have HV := Lib.hid (fun (w : World) => l27Log_small d p z w hd hp)
 rw [hlog] at HV
 have HL := Lib.hid (fun (w : World) => specRecords_any d p z w hd hp)
 unfold RetSliceB at HL
 rw [hlog] at HL
 have hlen := lrL_len d p z
 obtain ⟨rs, hrs⟩ : ∃ rs, lrL d p z = rs := ⟨_, rfl⟩
 have hrb : ∀ r ∈ rs, recB r.1 r.2 = true := by rw [← hrs]; exact lrL_mem d p z
 have HRB := Lib.hid hrb
 clear hrb
 rw [hrs] at HL hlen ⊢
 obtain ⟨n, hn⟩ : ∃ n, rs.length = n := ⟨_, rfl⟩
 rw [hn] at HL hlen
 obtain ⟨R, hR⟩ : ∃ R, rpl (con0 day) rs = R := ⟨_, rfl⟩
 have hRle := rpl_le rs (con0 day)
 rw [hR, hn] at hRle
 rw [hR]
 have HNL := Lib.hid hn
 have HR0 := Lib.hid hR
 clear hrs hn hR hday hlog
 go_enter Tryz.func7, Tryz.ntmps7
 go_wp2_with fail
 refine (HN.out _).mono ?_
 rintro e w1 ⟨A0, c0, rfl, ho1, hb1⟩
 have B1 : Hid (Blk w1 w.heap.size 25 #[.string d, .string p, .int .i64 z]) := Lib.hid ((Blk.new w _ _).ext hb1)
 have O1 := Lib.hid (own_base (base' := w.heap.size) ho1 (by simp))
 have b1 := Lib.hid (ext_trans (ext_alloc (ext_refl w) _) hb1)
 have s1 := B1.out.lt
 clear hb1 ho1
 obtain ⟨l10, l11, l12⟩ := B1.out.q3
 obtain ⟨w2, hw2⟩ : ∃ w2, w2 = w1.alloc (.cells #[.int .i64 day, .slice A0 0 c0, .int .i64 0, .int .i64 0, .string ⟨#[]⟩, .string ⟨#[]⟩, .int .i64 0] 34) := ⟨_, rfl⟩
 have e2 : Below w1.heap.size w1 w2 := by rw [hw2]; exact ext_alloc (ext_refl _) _
 have B2 := Lib.hid (B1.out.ext e2)
 have G2 : Hid (Blk w2 w1.heap.size 34 #[.int .i64 day, .slice A0 0 c0, .int .i64 0, .int .i64 0, .string ⟨#[]⟩, .string ⟨#[]⟩, .int .i64 0]) := Lib.hid (by rw [hw2]; exact Blk.new _ _ _)
 have O2 := Lib.hid (own_ext O1.out e2)
 have b2 := Lib.hid (ext_trans b1.out e2)
 have s2 := B2.out.lt
 clear e2
 go_wp2_with fail
 rw [← hw2]
 clear hw2 l10 l11 l12
 obtain ⟨l20, l21, l22⟩ := B2.out.q3
 with_reducible refine (HV.out _).mono ?_
 rintro e v2 ⟨rfl, hbv⟩
 have B2 := Lib.hid (B2.out.ext hbv)
 have G2 := Lib.hid (G2.out.ext hbv)
 have O2 := Lib.hid (own_ext O2.out hbv)
 have b2 := Lib.hid (ext_trans b2.out hbv)
 have s2 := B2.out.lt
 clear hbv l20 l21 l22
 obtain ⟨l30, l31, l32⟩ := B2.out.q3
 go_wp2_with fail
 with_reducible refine (HL.out _).mono ?_
 rintro e w3 ⟨Ar, cr, rfl, ho3, hb3⟩
 have G3 := Lib.hid (G2.out.ext hb3)
 have O3 := Lib.hid (own_ext O2.out hb3)
 have b3 := Lib.hid (ext_trans b2.out hb3)
 have Q3 := Lib.hid (own_base (base' := w.heap.size) ho3 b2.out.size)
 clear hb3 ho3
 go_wp2_with fail
 go_loopw [10, 11] (fun r i wr => ∃ (k : Nat) (D P Q : Int) (L : List R5) (A' : Option Addr) (c' : Nat) (p' : ByteArray) (z' : Int), k ≤ n ∧ i = .int .i64 k ∧ Hid (stTo (con0 day) rs k = ((D, L, P, Q), ⟨#[]⟩, p', z')) ∧ Hid (R = k + rpl ((D, L, P, Q), ⟨#[]⟩, p', z') (rs.drop k)) ∧ Hid (Blk wr w1.heap.size 34 #[.int .i64 D, .slice A' L.length c', .int .i64 P, .int .i64 Q, .string ⟨#[]⟩, .string p', .int .i64 z']) ∧ Hid (wr.ownsRow w.heap.size 111 5 (.slice A' L.length c') L.length (rowsV L)) ∧ Hid (wr.ownsRow w.heap.size 60 2 (.slice Ar n cr) n (recsV rs)) ∧ Hid (Below w.heap.size w wr)) (fun _ i _ => n - (intOf i).toNat)
 case atStart => exact ⟨0, day, 0, 0, [], A0, c0, ⟨#[]⟩, 0, Nat.zero_le _, rfl, Lib.hid (stTo_zero _ _), Lib.hid (by rw [Nat.zero_add, List.drop_zero]; exact HR0.out.symm), G3, O3, Q3, b3⟩
 case round =>
  obtain ⟨k, D, P, Q, L, A', c', p', z', hk, rfl, HST, HRP, HG, HO, HQ, HB⟩ := hrel
  obtain ⟨_, hps, hLl⟩ := st_inv _ _ HST.out (by rw [HNL.out]; exact hk)
  have hps : p'.size ≤ 0 + k * 405 := hps
  have hLl : L.length ≤ 0 ∨ L.length ≤ 8 := hLl
  have sG := HG.out.lt
  obtain ⟨x0, x1, x2, x3, x4, x5, x6⟩ := HG.out.q7
  obtain ⟨fx0, fx1, fx2, fx3, fx4, fx5, fx6⟩ := HG.out.z7
  by_cases hlt : k < n
  · obtain ⟨r, hr⟩ := list_split (l := rs) (k := k) (by rw [HNL.out]; exact hlt)
    have hstep := rpl_step (C := ((D, L, P, Q), ⟨#[]⟩, p', z')) hr
    have hnext := stTo_succ HST.out hr
    have hrsz := rec_parts (HRB.out r (List.mem_of_getElem? hr))
    have HEX := Lib.hid (fun (w : World) hA h => specEx_any D P Q ⟨#[]⟩ p' z' A' L.length c' L r.1 w (by omega) (by decide) (by omega) (by omega) hA h)
    rcases hC : exC ((D, L, P, Q), ⟨#[]⟩, p', z') r.1 with ⟨⟨D5, L5, P5, Q5⟩, d5, P2, Z2⟩
    have hd5 : d5 = ⟨#[]⟩ := by have := congrArg (fun C : Con => C.2.1) hC; exact this.symm
    subst hd5
    obtain ⟨tx, htx⟩ : ∃ tx, exR ((D, L, P, Q), ⟨#[]⟩, p', z') r.1 = tx := ⟨_, rfl⟩
    rw [hC, htx] at hstep
    rw [hC] at hnext
    have hq1 : exQ (D, L, P, Q) ⟨#[]⟩ p' z' r.1 = (D5, L5, P5, Q5) := congrArg (fun C : Con => C.1) hC
    have hq2 : exP (D, L, P, Q) ⟨#[]⟩ p' z' r.1 = P2 := congrArg (fun C : Con => C.2.2.1) hC
    have hq3 : exZ (D, L, P, Q) ⟨#[]⟩ p' z' r.1 = Z2 := congrArg (fun C : Con => C.2.2.2) hC
    have hq4 : exT (D, L, P, Q) ⟨#[]⟩ p' z' r.1 = tx := htx
    rw [hq1, hq2, hq3, hq4] at HEX
    obtain ⟨rc, rr⟩ := r
    simp only at hstep HEX
    have HC0 := Lib.hid (recs_at (Reads.of_own HQ.out) hr)
    have HNX := Lib.hid hnext
    have hlt' : (k : Int) < (n : Int) := by omega
    have hk0 : (0 : Int) ≤ (k : Int) := by omega
    have hne0 := Lib.hid (own_nb HO.out HG.out (by decide))
    have hneQ := Lib.hid (own_nb HQ.out HG.out (by decide))
    obtain ⟨gr, og, hAr, hgr, e0, e1⟩ := HC0.out
    have hgr2 : gr < wr.heap.size := hgr
    subst hAr
    have HRR := Lib.hid hr
    clear hC htx hnext hq1 hq2 hq3 hq4 hr
    go_wp2_with fail
    go_cut [10] (fun s8 wx => s8 = .string tx ∧ ∃ (A5 : Option Addr) (c5 : Nat), Blk wx w1.heap.size 34 #[.int .i64 D5, .slice A5 L5.length c5, .int .i64 P5, .int .i64 Q5, .string ⟨#[]⟩, .string P2, .int .i64 Z2] ∧ wx.ownsRow w.heap.size 111 5 (.slice A5 L5.length c5) L5.length (rowsV L5) ∧ wx.ownsRow w.heap.size 60 2 (.slice (some ⟨gr, og, none⟩) n cr) n (recsV rs) ∧ Below w.heap.size w wx)
    case first =>
     go_region_with (first | (go_at_call 18; refine (HEX.out wr.drew (slOk_own HO.out) (Reads.ext (w := wr) (w' := wr.drew) (Reads.of_own HO.out) (ext_drew (ext_refl _)) (Nat.le_refl _))).mono ?_; rintro e w5 ⟨A5, c5, rfl, ho5, hb5⟩; have ho5 := Lib.hid ho5; have X5 := HG.out.ext (ext_trans (ext_drew (ext_refl _)) hb5); obtain ⟨y50, y51, y52, y53, y54, y55, y56⟩ := X5.q7; obtain ⟨fy50, fy51, fy52, fy53, fy54, fy55, fy56⟩ := X5.z7; clear X5; have zs5 := hb5.size; have zX5 : w1.heap.size < w5.heap.size := (by (try simp at zs5); omega)))
     all_goals (go_wp2_with fail; go_meet)
     all_goals
      have e5 : Below wr.heap.size wr w5 := ext_trans (ext_drew (ext_refl _)) hb5
      have HG5 := HG.out.ext e5
      have hne5 := own_nb ho5.out HG5 (by decide)
      refine ⟨rfl, A5, c5, ?_, ?_, ?_, ?_⟩
      · have := ((((((HG5.set_ 0 (.int .i64 D5)).set_ 1 (.slice A5 L5.length c5)).set_ 2 (.int .i64 P5)).set_ 3 (.int .i64 Q5)).set_ 4 (.string ⟨#[]⟩)).set_ 5 (.string P2)).set_ 6 (.int .i64 Z2)
        simpa using this
      · iterate 7 with_reducible refine own_set_nb ?_ hne5 _
        exact own_base ho5.out HB.out.size
      · iterate 7 with_reducible refine own_set_nb ?_ hneQ.out _
        exact own_ext HQ.out e5
      · iterate 7 with_reducible refine ext_set ?_ (by show w.heap.size ≤ w1.heap.size; omega) _
        exact ext_trans HB.out e5
    case rest =>
     obtain ⟨rfl, A5, c5, gx, go, gq, gb⟩ := hcut
     obtain ⟨w7, hw7⟩ : ∃ w7, w7 = wc := ⟨_, rfl⟩
     subst hw7
     have G7 := Lib.hid gx
     have O7 := Lib.hid go
     have Q7 := Lib.hid gq
     have b7 := Lib.hid gb
     have HC7 := Lib.hid (recs_at (Reads.of_own Q7.out) HRR.out)
     clear gx go gq gb e0 e1 x0 fx0 x1 fx1 x2 fx2 x3 fx3 x4 fx4 x5 fx5 x6 fx6
     obtain ⟨g7, o7, hA7, hg7, e0, e1⟩ := HC7.out
     injection hA7 with hA7
     injection hA7 with hA7 hA8
     subst hA7 hA8
     simp only at e0 e1
     by_cases heq : tx = rr
     · have hne1 := ba_nyes heq
       have hne2 := ba_yes heq
       have hRP := HRP.out
       rw [hstep, if_pos heq] at hRP
       have HRP2 : Hid (R = k + 1 + rpl ((D5, L5, P5, Q5), ⟨#[]⟩, P2, Z2) (rs.drop (k + 1))) := Lib.hid (by omega)
       clear hRP hstep
       clear heq
       go_wp2
       go_roundw
       case rel => exact ⟨k + 1, D5, P5, Q5, L5, A5, c5, P2, Z2, by omega, by go_num, HNX, HRP2, G7, O7, Q7, b7⟩
       case measure => simp [intOf]; omega
     · have hne1 := ba_nno heq
       have hne2 := ba_no heq
       have hRP := HRP.out
       rw [hstep, if_neg heq, Nat.add_zero] at hRP
       subst hRP
       clear hstep
       clear heq
       go_wp2
       go_ret2
       exact ⟨rfl, b7.out⟩
  · have hkn : k = n := by omega
    have hfin := HRP.out
    rw [List.drop_of_length_le (by rw [HNL.out]; omega)] at hfin
    have HF := Lib.hid (show R = n from by rw [← hkn]; exact hfin)
    have hlt2 : ¬ (k : Int) < (n : Int) := by omega
    clear hfin hRle hkn hlt hps hLl hk
    go_wp2
    go_ret2
    exact ⟨by rw [HF.out]; first | rfl | go_num, HB.out⟩
end Go.Proofs.YtkcbgiegoadkbaaGreat
