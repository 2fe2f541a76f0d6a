/- A move of beads is drawn. -/
import Derived.Test.YtphhelmcaehclaaVM9
import Derived.Test.YtphhelmcaehclaaVAdA
import Derived.Test.YtphhelmcaehclaaVFdB
namespace Go.Proofs.Ytphhelmcaehclaa
open Go.RowKit
set_option linter.unusedVariables false
set_option linter.unusedSimpArgs false
def DrawMv (g a K : Nat) (w : World) (e : Ending) (w' : World) : Prop := ∃ (m : R3) (a' : Nat), e = .returned m.val ∧ (-10 ≤ m.a ∧ m.a ≤ 10) ∧ (-10 ≤ m.b ∧ m.b ≤ 10) ∧ (-10 ≤ m.c ∧ m.c ≤ 10) ∧ a' ≤ a + K ∧ CurAt w' g a' ∧ Gr g w w'
set_option maxRecDepth 100000 in
set_option maxHeartbeats 8000000 in
theorem bead_any (g a S : Nat) (u lo : Int) (A : Option Addr) (c : Nat) (l : List R2) (w : World) (h : CurAt w g a) (ha : a ≤ 500000000000) (hgS : g < S) (hr : w.ownsRow S 96 2 (.slice A l.length c) l.length (rowsV2 l)) (hIN : FrIn u lo l) :
 Calls Try.prog 70 #[.pointer (some ⟨g, 0, none⟩), frV u lo A l.length c] w (DrawMv g a 20 w) := by
 have hgw : g < w.heap.size := h.lt
 have hl1 : 1 ≤ l.length := hIN.2.2.2.2.1
 have hl9 : l.length ≤ 9 := hIN.2.2.2.2.2.1
 have HIN := Lib.hid hIN
 have BF0 := Lib.hid ((Blk.born w #[.int .i64 u, .int .i64 lo, .slice A l.length c] 26 (H := w.heap.size) rfl).al (.cells #[.int .i64 0, .int .i64 0, .int .i64 0] 75))
 have BR0 := Lib.hid (Blk.born (w.alloc (.cells #[.int .i64 u, .int .i64 lo, .slice A l.length c] 26)) #[.int .i64 0, .int .i64 0, .int .i64 0] 75 (H := w.heap.size + 1) (by simp))
 have HC0 := Lib.hid (h.ext (ext_alloc (ext_alloc (ext_refl w) (.cells #[.int .i64 u, .int .i64 lo, .slice A l.length c] 26)) (.cells #[.int .i64 0, .int .i64 0, .int .i64 0] 75)))
 have HG0 := Lib.hid ((Gr.alloc g w (.cells #[.int .i64 u, .int .i64 lo, .slice A l.length c] 26)).trans (Gr.alloc g _ (.cells #[.int .i64 0, .int .i64 0, .int .i64 0] 75)))
 have HR0 := Lib.hid ((hr.alloc (.cells #[.int .i64 u, .int .i64 lo, .slice A l.length c] 26)).alloc (.cells #[.int .i64 0, .int .i64 0, .int .i64 0] 75))
 clear h hIN hr
 go_enter Try.func70, Try.ntmps70
 have HMO := Lib.hid (fun w => mostL_any 1 (l.length : Int) w)
 rw [show (if (l.length : Int) < 1 then 1 else (l.length : Int)) = (l.length : Int) by rw [if_neg (by omega)]] at HMO
 obtain ⟨bfq0, bfq1, bfq2⟩ := BF0.out.q3
 obtain ⟨bfz0, bfz1, bfz2⟩ := BF0.out.z3
 have lbf := BF0.out.lt
 obtain ⟨brq0, brq1, brq2⟩ := BR0.out.q3
 obtain ⟨brz0, brz1, brz2⟩ := BR0.out.z3
 have lbr := BR0.out.lt
 go_wp2_with fail
 refine (HMO.out _).mono ?_
 rintro e wz ⟨rfl, rfl⟩
 go_wp2_with fail
 refine (pick_any g a l.length _ HC0.out (by omega) (by omega) (by omega)).mono ?_
 rintro e w1 ⟨v, a1, rfl, v0, v1, ha1, hc, hg⟩
 have HC1 := Lib.hid hc
 have HG1 := Lib.hid (HG0.out.trans hg)
 have BF1 := Lib.hid (BF0.out.gr hg (by omega))
 have BR1 := Lib.hid (BR0.out.gr hg (by omega))
 have HR1 := Lib.hid (own_gr HR0.out hg hgS)
 clear bfq0 bfz0 bfq1 bfz1 bfq2 bfz2 lbf brq0 brz0 brq1 brz1 brq2 brz2 lbr
 clear hc hg HC0 HG0 BF0 BR0 HR0
 obtain ⟨bfq0, bfq1, bfq2⟩ := BF1.out.q3
 obtain ⟨bfz0, bfz1, bfz2⟩ := BF1.out.z3
 have lbf := BF1.out.lt
 obtain ⟨brq0, brq1, brq2⟩ := BR1.out.q3
 obtain ⟨brz0, brz1, brz2⟩ := BR1.out.z3
 have lbr := BR1.out.lt
 go_wp2_with fail
 refine (pick_any g a1 2 _ HC1.out (by omega) (by omega) (by omega)).mono ?_
 rintro e w2 ⟨p, a2, rfl, p0, p1, ha2, hc, hg⟩
 have HC2 := Lib.hid hc
 have HG2 := Lib.hid (HG1.out.trans hg)
 have BF2 := Lib.hid (BF1.out.gr hg (by omega))
 have BR2 := Lib.hid (BR1.out.gr hg (by omega))
 have HR2 := Lib.hid (own_gr HR1.out hg hgS)
 clear bfq0 bfz0 bfq1 bfz1 bfq2 bfz2 lbf brq0 brz0 brq1 brz1 brq2 brz2 lbr
 clear hc hg HC1 HG1 BF1 BR1 HR1
 obtain ⟨bfq0, bfq1, bfq2⟩ := BF2.out.q3
 obtain ⟨bfz0, bfz1, bfz2⟩ := BF2.out.z3
 have lbf := BF2.out.lt
 obtain ⟨brq0, brq1, brq2⟩ := BR2.out.q3
 obtain ⟨brz0, brz1, brz2⟩ := BR2.out.z3
 have lbr := BR2.out.lt
 go_wp2_with fail
 refine (among_lit g a2 (-3) 5 [1, 1, -1, 2, -2, 4, -3, 5] 3 _ HC2.out (by omega) (by decide) (by decide) (by decide) _ rfl (by simp)).mono ?_
 rintro e w3 ⟨y, a3, rfl, y0, y1, ha3, hc, hg⟩
 have HC3 := Lib.hid hc
 have HG3 := Lib.hid (HG2.out.trans hg)
 have BF3 := Lib.hid (BF2.out.gr hg (by omega))
 have BR3 := Lib.hid (BR2.out.gr hg (by omega))
 have HR3 := Lib.hid (own_gr HR2.out hg hgS)
 clear bfq0 bfz0 bfq1 bfz1 bfq2 bfz2 lbf brq0 brz0 brq1 brz1 brq2 brz2 lbr
 clear hc hg HC2 HG2 BF2 BR2 HR2
 obtain ⟨bfq0, bfq1, bfq2⟩ := BF3.out.q3
 obtain ⟨bfz0, bfz1, bfz2⟩ := BF3.out.z3
 have lbf := BF3.out.lt
 obtain ⟨brq0, brq1, brq2⟩ := BR3.out.q3
 obtain ⟨brz0, brz1, brz2⟩ := BR3.out.z3
 have lbr := BR3.out.lt
 obtain ⟨vn, rfl⟩ := Int.eq_ofNat_of_zero_le v0
 have hvn : vn < l.length := by omega
 obtain ⟨NQ, hNQ⟩ : ∃ N, N = w3.heap.size := ⟨_, rfl⟩
 obtain ⟨w4, hW4⟩ : ∃ y9 : World, y9 = w3.alloc (.cells #[.int .i64 (vn : Int), .int .i64 p, .int .i64 y] 75) := ⟨_, rfl⟩
 have HC4 := Lib.hid (show CurAt w4 g a3 by rw [hW4]; exact HC3.out.ext (ext_alloc (ext_refl _) _))
 have HG4 := Lib.hid (show Gr g w w4 by rw [hW4]; exact HG3.out.trans (Gr.alloc _ _ _))
 have BF4 := Lib.hid ((BF3.out.al (.cells #[.int .i64 (vn : Int), .int .i64 p, .int .i64 y] 75)))
 rw [← hW4] at BF4
 have BR4 := Lib.hid ((BR3.out.al (.cells #[.int .i64 (vn : Int), .int .i64 p, .int .i64 y] 75)))
 rw [← hW4] at BR4
 have HR4 := Lib.hid (HR3.out.alloc (.cells #[.int .i64 (vn : Int), .int .i64 p, .int .i64 y] 75))
 rw [← hW4] at HR4
 have BQ4 := Lib.hid (show Blk w4 NQ 75 #[.int .i64 (vn : Int), .int .i64 p, .int .i64 y] by rw [hW4]; exact Blk.born w3 _ 75 (H := NQ) hNQ)
 have hsNQ := HG3.out.size
 have hlNQ := HC3.out.lt
 go_upto_region 2 with fail
 rw [← hNQ, ← hW4]
 have hgNQ : g < NQ := by omega
 have hwNQ : w.heap.size ≤ NQ := by omega
 have hRNQ : NQ ≠ w.heap.size + 1 := by omega
 clear bfq0 bfz0 bfq1 bfz1 bfq2 bfz2 lbf brq0 brz0 brq1 brz1 brq2 brz2 lbr
 clear hW4 hNQ HC3 HG3 BF3 BR3 HR3
 obtain ⟨bfq0, bfq1, bfq2⟩ := BF4.out.q3
 obtain ⟨bfz0, bfz1, bfz2⟩ := BF4.out.z3
 have lbf := BF4.out.lt
 obtain ⟨brq0, brq1, brq2⟩ := BR4.out.q3
 obtain ⟨brz0, brz1, brz2⟩ := BR4.out.z3
 have lbr := BR4.out.lt
 obtain ⟨bqq0, bqq1, bqq2⟩ := BQ4.out.q3
 obtain ⟨bqz0, bqz1, bqz2⟩ := BQ4.out.z3
 have lbq := BQ4.out.lt
 have hgN := hgNQ
 have hwN := hwNQ
 have hNR := hRNQ
 go_wp2_with fail
 refine (one_any g a3 4 _ HC4.out (by omega) (by omega) (by omega)).mono ?_
 rintro e w5 ⟨B, a5, rfl, ha5, hc, hg⟩
 have HC5 := Lib.hid hc
 have HG5 := Lib.hid (HG4.out.trans hg)
 have BF5 := Lib.hid (BF4.out.gr hg (by omega))
 have BR5 := Lib.hid (BR4.out.gr hg (by omega))
 have BQ5 := Lib.hid (BQ4.out.gr hg (by omega))
 have HR5 := Lib.hid (own_gr HR4.out hg hgS)
 clear bfq0 bfz0 bfq1 bfz1 bfq2 bfz2 lbf brq0 brz0 brq1 brz1 brq2 brz2 lbr bqq0 bqz0 bqq1 bqz1 bqq2 bqz2 lbq
 clear hc hg HC4 HG4 BF4 BR4 BQ4 HR4
 obtain ⟨bfq0, bfq1, bfq2⟩ := BF5.out.q3
 obtain ⟨bfz0, bfz1, bfz2⟩ := BF5.out.z3
 have lbf := BF5.out.lt
 obtain ⟨brq0, brq1, brq2⟩ := BR5.out.q3
 obtain ⟨brz0, brz1, brz2⟩ := BR5.out.z3
 have lbr := BR5.out.lt
 obtain ⟨bqq0, bqq1, bqq2⟩ := BQ5.out.q3
 obtain ⟨bqz0, bqz1, bqz2⟩ := BQ5.out.z3
 have lbq := BQ5.out.lt
 go_upto_if 27 with fail
 go_cut [] (fun wx => ∃ (y9 : Int) (a9 : Nat), (-10 ≤ y9 ∧ y9 ≤ 10) ∧ a9 ≤ a + 14 ∧ Hid (CurAt wx g a9) ∧ Hid (Gr g w wx) ∧ Hid (Blk wx NQ 75 #[.int .i64 (vn : Int), .int .i64 p, .int .i64 y9]) ∧ Hid (Blk wx (w.heap.size + 1) 75 #[.int .i64 0, .int .i64 0, .int .i64 0]))
 case first =>
  cases B
  · obtain ⟨x, hx⟩ := list_split (l := l) (k := vn) hvn
    have hxb := HIN.out.2.2.2.2.2.2 x (List.mem_of_getElem? hx)
    have hlo := HIN.out
    obtain ⟨b9, o9, hA9, hbb, c0, c1⟩ := rows_at2 (Reads.of_own HR5.out) hx
    subst hA9
    have vk0 : (0 : Int) ≤ (vn : Int) := by omega
    have vk1 : (vn : Int) < (l.length : Int) := by omega
    obtain ⟨NX, hNX⟩ : ∃ N, N = w5.heap.size := ⟨_, rfl⟩
    obtain ⟨w6, hW6⟩ : ∃ y9 : World, y9 = w5.alloc (.cells #[.int .i64 x.a, .int .i64 x.b] 96) := ⟨_, rfl⟩
    have HC6 := Lib.hid (show CurAt w6 g a5 by rw [hW6]; exact HC5.out.ext (ext_alloc (ext_refl _) _))
    have HG6 := Lib.hid (show Gr g w w6 by rw [hW6]; exact HG5.out.trans (Gr.alloc _ _ _))
    have BF6 := Lib.hid ((BF5.out.al (.cells #[.int .i64 x.a, .int .i64 x.b] 96)))
    rw [← hW6] at BF6
    have BR6 := Lib.hid ((BR5.out.al (.cells #[.int .i64 x.a, .int .i64 x.b] 96)))
    rw [← hW6] at BR6
    have BQ6 := Lib.hid ((BQ5.out.al (.cells #[.int .i64 x.a, .int .i64 x.b] 96)))
    rw [← hW6] at BQ6
    have HR6 := Lib.hid (HR5.out.alloc (.cells #[.int .i64 x.a, .int .i64 x.b] 96))
    rw [← hW6] at HR6
    have BX6 := Lib.hid (show Blk w6 NX 96 #[.int .i64 x.a, .int .i64 x.b] by rw [hW6]; exact Blk.born w5 _ 96 (H := NX) hNX)
    have hsNX := HG5.out.size
    have hlNX := HC5.out.lt
    go_upto_region 4 with fail
    rw [← hNX, ← hW6]
    have hgNX : g < NX := by omega
    have hwNX : w.heap.size ≤ NX := by omega
    have hRNX : NX ≠ w.heap.size + 1 := by omega
    clear bfq0 bfz0 bfq1 bfz1 bfq2 bfz2 lbf brq0 brz0 brq1 brz1 brq2 brz2 lbr bqq0 bqz0 bqq1 bqz1 bqq2 bqz2 lbq
    clear hW6 hNX HC5 HG5 BF5 BR5 BQ5 HR5
    obtain ⟨bfq0, bfq1, bfq2⟩ := BF6.out.q3
    obtain ⟨bfz0, bfz1, bfz2⟩ := BF6.out.z3
    have lbf := BF6.out.lt
    obtain ⟨brq0, brq1, brq2⟩ := BR6.out.q3
    obtain ⟨brz0, brz1, brz2⟩ := BR6.out.z3
    have lbr := BR6.out.lt
    obtain ⟨bqq0, bqq1, bqq2⟩ := BQ6.out.q3
    obtain ⟨bqz0, bqz1, bqz2⟩ := BQ6.out.z3
    have lbq := BQ6.out.lt
    obtain ⟨bxq0, bxq1⟩ := BX6.out.q2
    obtain ⟨bxz0, bxz1⟩ := BX6.out.z2
    have lbx := BX6.out.lt
    clear c0 c1 hbb
    rcases (show p = 0 ∨ p = 1 by omega) with rfl | rfl
    · have HLE := Lib.hid (fun w => least_any 1 x.a w)
      obtain ⟨t9, ht9⟩ : ∃ t9, (if (1 : Int) < x.a then 1 else x.a) = t9 := ⟨_, rfl⟩
      rw [ht9] at HLE
      have htb : -1 ≤ t9 ∧ t9 ≤ 1 := by split at ht9 <;> omega
      clear ht9
      have s1 : wrap64 (2 * t9) = 2 * t9 := by unfold wrap64; omega
      have s2 : wrap64 (1 - 2 * t9) = 1 - 2 * t9 := by unfold wrap64; omega
      go_wp2_with fail
      refine (HLE.out _).mono ?_
      rintro e wz ⟨rfl, rfl⟩
      go_wp2_with fail
      go_meet
      exact ⟨(1 - 2 * t9), a5, by omega, by omega, Lib.hid (HC6.out.far (p := ⟨NQ, 2, none⟩) hgN _), Lib.hid (HG6.out.setNew (p := ⟨NQ, 2, none⟩) hwN _), Lib.hid (BQ6.out.set_ 2 _), Lib.hid (BR6.out.setF (p := ⟨NQ, 2, none⟩) hNR _)⟩
    · have s1 : wrap64 (-x.b) = -x.b := by unfold wrap64; omega
      have s2 : wrap64 (lo - x.b) = lo - x.b := by unfold wrap64; have := hlo.2.2.1; have := hlo.2.2.2.1; omega
      go_wp2_with fail
      refine (among_lit g a5 (-10) 10 [-x.b, lo - x.b, 1] 3 _ HC6.out (by omega) (by intro z hz; simp only [List.mem_cons, List.not_mem_nil, or_false] at hz; have := hlo.2.2.1; have := hlo.2.2.2.1; omega) (by simp) (by simp) _ rfl (by simp)).mono ?_
      rintro e w7 ⟨z, a7, rfl, z0, z1, ha7, hc, hg⟩
      have HC7 := Lib.hid hc
      have HG7 := Lib.hid (HG6.out.trans hg)
      have BF7 := Lib.hid (BF6.out.gr hg (by omega))
      have BR7 := Lib.hid (BR6.out.gr hg (by omega))
      have BQ7 := Lib.hid (BQ6.out.gr hg (by omega))
      have BX7 := Lib.hid (BX6.out.gr hg (by omega))
      have HR7 := Lib.hid (own_gr HR6.out hg hgS)
      clear bfq0 bfz0 bfq1 bfz1 bfq2 bfz2 lbf brq0 brz0 brq1 brz1 brq2 brz2 lbr bqq0 bqz0 bqq1 bqz1 bqq2 bqz2 lbq bxq0 bxz0 bxq1 bxz1 lbx
      clear hc hg HC6 HG6 BF6 BR6 BQ6 BX6 HR6
      obtain ⟨bfq0, bfq1, bfq2⟩ := BF7.out.q3
      obtain ⟨bfz0, bfz1, bfz2⟩ := BF7.out.z3
      have lbf := BF7.out.lt
      obtain ⟨brq0, brq1, brq2⟩ := BR7.out.q3
      obtain ⟨brz0, brz1, brz2⟩ := BR7.out.z3
      have lbr := BR7.out.lt
      obtain ⟨bqq0, bqq1, bqq2⟩ := BQ7.out.q3
      obtain ⟨bqz0, bqz1, bqz2⟩ := BQ7.out.z3
      have lbq := BQ7.out.lt
      obtain ⟨bxq0, bxq1⟩ := BX7.out.q2
      obtain ⟨bxz0, bxz1⟩ := BX7.out.z2
      have lbx := BX7.out.lt
      go_wp2_with fail
      go_meet
      exact ⟨z, a7, by omega, by omega, Lib.hid (HC7.out.far (p := ⟨NQ, 2, none⟩) hgN _), Lib.hid (HG7.out.setNew (p := ⟨NQ, 2, none⟩) hwN _), Lib.hid (BQ7.out.set_ 2 _), Lib.hid (BR7.out.setF (p := ⟨NQ, 2, none⟩) hNR _)⟩
  · go_wp2_with fail
    go_meet
    exact ⟨y, a5, by omega, by omega, HC5, HG5, BQ5, BR5⟩
 case rest =>
  clear bfq0 bfz0 bfq1 bfz1 bfq2 bfz2 lbf brq0 brz0 brq1 brz1 brq2 brz2 lbr bqq0 bqz0 bqq1 bqz1 bqq2 bqz2 lbq
  obtain ⟨y9, a9, hy9, ha9, HC20, HG20, BQ20, BR20⟩ := hcut
  obtain ⟨w20, hw20⟩ : ∃ x : World, x = wc := ⟨_, rfl⟩
  subst hw20
  clear HC5 HG5 BF5 BR5 BQ5 HR5
  obtain ⟨brq0, brq1, brq2⟩ := BR20.out.q3
  obtain ⟨brz0, brz1, brz2⟩ := BR20.out.z3
  have lbr := BR20.out.lt
  obtain ⟨bqq0, bqq1, bqq2⟩ := BQ20.out.q3
  obtain ⟨bqz0, bqz1, bqz2⟩ := BQ20.out.z3
  have lbq := BQ20.out.lt
  go_wp2_with fail
  refine (pick_any g a9 64 _ HC20.out (by omega) (by omega) (by omega)).mono ?_
  rintro e w21 ⟨s, a21, rfl, s0, s1, ha21, hc, hg⟩
  have HC21 := Lib.hid hc
  have HG21 := Lib.hid (HG20.out.trans hg)
  have BR21 := Lib.hid (BR20.out.gr hg (by omega))
  have BQ21 := Lib.hid (BQ20.out.gr hg (by omega))
  clear brq0 brz0 brq1 brz1 brq2 brz2 lbr bqq0 bqz0 bqq1 bqz1 bqq2 bqz2 lbq
  clear hc hg HC20 HG20 BR20 BQ20
  obtain ⟨brq0, brq1, brq2⟩ := BR21.out.q3
  obtain ⟨brz0, brz1, brz2⟩ := BR21.out.z3
  have lbr := BR21.out.lt
  obtain ⟨bqq0, bqq1, bqq2⟩ := BQ21.out.q3
  obtain ⟨bqz0, bqz1, bqz2⟩ := BQ21.out.z3
  have lbq := BQ21.out.lt
  rcases (show s = 0 ∨ s = 1 ∨ s = 2 ∨ (s ≠ 0 ∧ s ≠ 1 ∧ s ≠ 2) by omega) with rfl | rfl | rfl | ⟨h0, h1, h2⟩
  · go_wp2_with fail
    refine (among_lit g a21 (-1) 8 [-1, 7, 8] 3 _ HC21.out (by omega) (by decide) (by decide) (by decide) _ rfl (by simp)).mono ?_
    rintro e w22 ⟨z, a22, rfl, z0, z1, ha22, hc, hg⟩
    have HC22 := Lib.hid hc
    have HG22 := Lib.hid (HG21.out.trans hg)
    have BR22 := Lib.hid (BR21.out.gr hg (by omega))
    have BQ22 := Lib.hid (BQ21.out.gr hg (by omega))
    clear brq0 brz0 brq1 brz1 brq2 brz2 lbr bqq0 bqz0 bqq1 bqz1 bqq2 bqz2 lbq
    clear hc hg HC21 HG21 BR21 BQ21
    obtain ⟨brq0, brq1, brq2⟩ := BR22.out.q3
    obtain ⟨brz0, brz1, brz2⟩ := BR22.out.z3
    have lbr := BR22.out.lt
    obtain ⟨bqq0, bqq1, bqq2⟩ := BQ22.out.q3
    obtain ⟨bqz0, bqz1, bqz2⟩ := BQ22.out.z3
    have lbq := BQ22.out.lt
    go_wp2
    refine bodyPost_ret (v := .agg #[.int .i64 z, .int .i64 p, .int .i64 y9]) (by simp [results, Try.results70, go_sem, *]) rfl ?_
    exact ⟨⟨z, p, y9⟩, a22, rfl, by dsimp only; omega, by dsimp only; omega, by dsimp only; omega, by omega, ((((HC22.out.far (p := ⟨NQ, 0, none⟩) hgN _).far (p := ⟨w.heap.size + 1, 0, none⟩) (by show g < w.heap.size + 1; omega) _).far (p := ⟨w.heap.size + 1, 1, none⟩) (by show g < w.heap.size + 1; omega) _).far (p := ⟨w.heap.size + 1, 2, none⟩) (by show g < w.heap.size + 1; omega) _), ((((HG22.out.setNew (p := ⟨NQ, 0, none⟩) hwN _).setNew (p := ⟨w.heap.size + 1, 0, none⟩) (by show w.heap.size ≤ w.heap.size + 1; omega) _).setNew (p := ⟨w.heap.size + 1, 1, none⟩) (by show w.heap.size ≤ w.heap.size + 1; omega) _).setNew (p := ⟨w.heap.size + 1, 2, none⟩) (by show w.heap.size ≤ w.heap.size + 1; omega) _)⟩
  · go_wp2_with fail
    refine (among_lit g a21 (-6) 6 [0, 6, -6] 3 _ HC21.out (by omega) (by decide) (by decide) (by decide) _ rfl (by simp)).mono ?_
    rintro e w22 ⟨z, a22, rfl, z0, z1, ha22, hc, hg⟩
    have HC22 := Lib.hid hc
    have HG22 := Lib.hid (HG21.out.trans hg)
    have BR22 := Lib.hid (BR21.out.gr hg (by omega))
    have BQ22 := Lib.hid (BQ21.out.gr hg (by omega))
    clear brq0 brz0 brq1 brz1 brq2 brz2 lbr bqq0 bqz0 bqq1 bqz1 bqq2 bqz2 lbq
    clear hc hg HC21 HG21 BR21 BQ21
    obtain ⟨brq0, brq1, brq2⟩ := BR22.out.q3
    obtain ⟨brz0, brz1, brz2⟩ := BR22.out.z3
    have lbr := BR22.out.lt
    obtain ⟨bqq0, bqq1, bqq2⟩ := BQ22.out.q3
    obtain ⟨bqz0, bqz1, bqz2⟩ := BQ22.out.z3
    have lbq := BQ22.out.lt
    go_wp2
    refine bodyPost_ret (v := .agg #[.int .i64 (vn : Int), .int .i64 p, .int .i64 z]) (by simp [results, Try.results70, go_sem, *]) rfl ?_
    exact ⟨⟨(vn : Int), p, z⟩, a22, rfl, by dsimp only; omega, by dsimp only; omega, by dsimp only; omega, by omega, ((((HC22.out.far (p := ⟨NQ, 2, none⟩) hgN _).far (p := ⟨w.heap.size + 1, 0, none⟩) (by show g < w.heap.size + 1; omega) _).far (p := ⟨w.heap.size + 1, 1, none⟩) (by show g < w.heap.size + 1; omega) _).far (p := ⟨w.heap.size + 1, 2, none⟩) (by show g < w.heap.size + 1; omega) _), ((((HG22.out.setNew (p := ⟨NQ, 2, none⟩) hwN _).setNew (p := ⟨w.heap.size + 1, 0, none⟩) (by show w.heap.size ≤ w.heap.size + 1; omega) _).setNew (p := ⟨w.heap.size + 1, 1, none⟩) (by show w.heap.size ≤ w.heap.size + 1; omega) _).setNew (p := ⟨w.heap.size + 1, 2, none⟩) (by show w.heap.size ≤ w.heap.size + 1; omega) _)⟩
  · go_wp2_with fail
    refine (among_lit g a21 (-1) 2 [-1, 2] 3 _ HC21.out (by omega) (by decide) (by decide) (by decide) _ rfl (by simp)).mono ?_
    rintro e w22 ⟨z, a22, rfl, z0, z1, ha22, hc, hg⟩
    have HC22 := Lib.hid hc
    have HG22 := Lib.hid (HG21.out.trans hg)
    have BR22 := Lib.hid (BR21.out.gr hg (by omega))
    have BQ22 := Lib.hid (BQ21.out.gr hg (by omega))
    clear brq0 brz0 brq1 brz1 brq2 brz2 lbr bqq0 bqz0 bqq1 bqz1 bqq2 bqz2 lbq
    clear hc hg HC21 HG21 BR21 BQ21
    obtain ⟨brq0, brq1, brq2⟩ := BR22.out.q3
    obtain ⟨brz0, brz1, brz2⟩ := BR22.out.z3
    have lbr := BR22.out.lt
    obtain ⟨bqq0, bqq1, bqq2⟩ := BQ22.out.q3
    obtain ⟨bqz0, bqz1, bqz2⟩ := BQ22.out.z3
    have lbq := BQ22.out.lt
    go_wp2
    refine bodyPost_ret (v := .agg #[.int .i64 (vn : Int), .int .i64 z, .int .i64 y9]) (by simp [results, Try.results70, go_sem, *]) rfl ?_
    exact ⟨⟨(vn : Int), z, y9⟩, a22, rfl, by dsimp only; omega, by dsimp only; omega, by dsimp only; omega, by omega, ((((HC22.out.far (p := ⟨NQ, 1, none⟩) hgN _).far (p := ⟨w.heap.size + 1, 0, none⟩) (by show g < w.heap.size + 1; omega) _).far (p := ⟨w.heap.size + 1, 1, none⟩) (by show g < w.heap.size + 1; omega) _).far (p := ⟨w.heap.size + 1, 2, none⟩) (by show g < w.heap.size + 1; omega) _), ((((HG22.out.setNew (p := ⟨NQ, 1, none⟩) hwN _).setNew (p := ⟨w.heap.size + 1, 0, none⟩) (by show w.heap.size ≤ w.heap.size + 1; omega) _).setNew (p := ⟨w.heap.size + 1, 1, none⟩) (by show w.heap.size ≤ w.heap.size + 1; omega) _).setNew (p := ⟨w.heap.size + 1, 2, none⟩) (by show w.heap.size ≤ w.heap.size + 1; omega) _)⟩
  · have f0 : (s == 0) = false := by simpa using h0
    have f1 : (s == 1) = false := by simpa using h1
    have f2 : (s == 2) = false := by simpa using h2
    go_wp2
    refine bodyPost_ret (v := .agg #[.int .i64 (vn : Int), .int .i64 p, .int .i64 y9]) (by simp [results, Try.results70, go_sem, *]) rfl ?_
    exact ⟨⟨(vn : Int), p, y9⟩, a21, rfl, by dsimp only; omega, by dsimp only; omega, by dsimp only; omega, by omega, (((HC21.out.far (p := ⟨w.heap.size + 1, 0, none⟩) (by show g < w.heap.size + 1; omega) _).far (p := ⟨w.heap.size + 1, 1, none⟩) (by show g < w.heap.size + 1; omega) _).far (p := ⟨w.heap.size + 1, 2, none⟩) (by show g < w.heap.size + 1; omega) _), (((HG21.out.setNew (p := ⟨w.heap.size + 1, 0, none⟩) (by show w.heap.size ≤ w.heap.size + 1; omega) _).setNew (p := ⟨w.heap.size + 1, 1, none⟩) (by show w.heap.size ≤ w.heap.size + 1; omega) _).setNew (p := ⟨w.heap.size + 1, 2, none⟩) (by show w.heap.size ≤ w.heap.size + 1; omega) _)⟩
end Go.Proofs.Ytphhelmcaehclaa
