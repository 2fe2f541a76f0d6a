/- Moves of beads are drawn. -/
import Derived.Test.YtphhelmcaehclaaVM9
import Derived.Test.YtphhelmcaehclaaVMvE
namespace Go.Proofs.Ytphhelmcaehclaa
open Go.RowKit
set_option linter.unusedVariables false
set_option linter.unusedSimpArgs false
def DrawMvs (g a K : Nat) (w : World) (e : Ending) (w' : World) : Prop := ∃ (ms : List R3) (B : Option Addr) (cb a' : Nat), e = .returned (.slice B ms.length cb) ∧ ms.length ≤ 61 ∧ w'.ownsRow w.heap.size 75 3 (.slice B ms.length cb) ms.length (rowsV3 ms) ∧ a' ≤ a + K ∧ CurAt w' g a' ∧ Gr g w w'
def lenOfV : Value → Nat | .slice _ n _ => n | _ => 0
theorem fr_in {u lo : Int} {l : List R2} (h : frB u lo l = true) : FrIn u lo l := by
 have hh := frB_head h
 refine ⟨by omega, by omega, by omega, by omega, hh.2.2.1, by omega, fun x hx => ?_⟩
 obtain ⟨k, hk⟩ := List.mem_iff_getElem?.1 hx
 have := frB_rod h hk
 omega
theorem mbe_in (u lo : Int) (l : List R2) (m : R3) : mbeB u lo l m = true → FrIn (mbeF u lo l m).1 (mbeF u lo l m).2.1 (mbeF u lo l m).2.2 := by
 intro h
 unfold mbeB at h
 have h1 : (frB u lo l && okM m) = true := by simp only [Bool.and_eq_true] at h ⊢; exact h.1
 have h2 : mvB u lo l m = true := by simp only [Bool.and_eq_true] at h; exact h.2
 unfold mbeF mvF
 rw [if_pos h1, if_pos h2]
 exact fr_in (mvB_fr h2)
set_option maxRecDepth 100000 in
set_option maxHeartbeats 16000000 in
theorem beads_any (g a S : Nat) (u lo : Int) (A : Option Addr) (c : Nat) (l : List R2) (w : World) (h : CurAt w g a) (ha : a ≤ 400000000000) (hgS : g < S) (hr : w.ownsRow S 96 2 (.slice A l.length c) l.length (rowsV2 l)) (hIN : FrIn u lo l) :
 Calls Try.prog 35 #[.pointer (some ⟨g, 0, none⟩), frV u lo A l.length c] w (DrawMvs g a 700 w) := by
 obtain ⟨i0, hi, hz0, hz1, hz2⟩ := info_parts info_mv
 have hgw : g < w.heap.size := h.lt
 have HIN := Lib.hid hIN
 obtain ⟨NN, hNN⟩ : ∃ N, N = w.heap.size + 1 + 1 := ⟨_, rfl⟩
 obtain ⟨W0, hW0⟩ : ∃ y9 : World, y9 = ((w.alloc (.cells #[.int .i64 u, .int .i64 lo, .slice A l.length c] 26)).alloc (.cells #[] 75)).alloc (.cells #[.int .i64 u, .int .i64 lo, .slice A l.length c] 26) := ⟨_, rfl⟩
 have BN0 := Lib.hid (show Blk W0 NN 26 #[.int .i64 u, .int .i64 lo, .slice A l.length c] by rw [hW0]; exact Blk.born ((w.alloc (.cells #[.int .i64 u, .int .i64 lo, .slice A l.length c] 26)).alloc (.cells #[] 75)) _ 26 (H := NN) (by rw [hNN]; simp))
 have HO0 := Lib.hid (show W0.ownsRow w.heap.size 75 3 (.slice (some ⟨w.heap.size + 1, 0, none⟩) 0 0) 0 (rowsV3 []) by rw [hW0]; exact (own_lit_at (w.alloc (.cells #[.int .i64 u, .int .i64 lo, .slice A l.length c] 26)) 75 3 (H := w.heap.size + 1) (B := w.heap.size) (by simp) (by omega)).alloc _)
 have HC0 := Lib.hid (show CurAt W0 g a by rw [hW0]; exact ((h.ext (ext_alloc (ext_refl w) _)).ext (ext_alloc (ext_refl _) _)).ext (ext_alloc (ext_refl _) _))
 have HG0 := Lib.hid (show Gr g w W0 by rw [hW0]; exact ((Gr.alloc g w _).trans (Gr.alloc g _ _)).trans (Gr.alloc g _ _))
 have HR0 := Lib.hid (show W0.ownsRow (g + 1) 96 2 (.slice A l.length c) l.length (rowsV2 l) by rw [hW0]; exact own_base (((hr.alloc _).alloc _).alloc _) hgS)
 have hgN : g < NN := by omega
 have hwN : w.heap.size ≤ NN := by omega
 clear h hIN hr
 go_enter Try.func35, Try.ntmps35
 go_upto_region 3 with fail
 rw [← hNN, ← hW0]
 clear hNN hW0
 go_wp2_with fail
 refine (pick_any g a 9 _ HC0.out (by omega) (by omega) (by omega)).mono ?_
 rintro e w1 ⟨kz, a1, rfl, kz0, kz1, ha1, hc, hg⟩
 obtain ⟨k, rfl⟩ := Int.eq_ofNat_of_zero_le kz0
 have HC1 := Lib.hid hc
 have HG1 := Lib.hid (HG0.out.trans hg)
 have BN1 := Lib.hid (BN0.out.gr hg (by omega))
 have HO1 := Lib.hid (own_gr HO0.out hg hgw)
 have HR1 := Lib.hid (own_gr HR0.out hg (Nat.lt_succ_self g))
 clear hc hg HC0 HG0 BN0 HO0 HR0
 go_wp2_with fail
 go_loopw [5, 7] (fun ov kv wr => ∃ (k p cb a1 : Nat) (B : Option Addr) (ms : List R3) (u1 lo1 : Int) (A1 : Option Addr) (c1 : Nat) (l1 : List R2), ov = .slice B p cb ∧ kv = .int .i64 (k : Int) ∧ k + p ≤ 8 ∧ Hid (ms.length = p) ∧ Hid (FrIn u1 lo1 l1) ∧ a1 + 23 * k ≤ a + 300 ∧ Hid (CurAt wr g a1) ∧ Hid (Gr g w wr) ∧ Hid (wr.ownsRow w.heap.size 75 3 (.slice B p cb) p (rowsV3 ms)) ∧ Hid (Blk wr NN 26 #[.int .i64 u1, .int .i64 lo1, .slice A1 l1.length c1]) ∧ Hid (wr.ownsRow (g + 1) 96 2 (.slice A1 l1.length c1) l1.length (rowsV2 l1))) (fun _ kv _ => (intOf kv).toNat)
 case atStart => exact ⟨k, 0, 0, a1, _, [], u, lo, A, c, l, rfl, rfl, by omega, Lib.hid rfl, HIN, by omega, HC1, HG1, HO1, BN1, HR1⟩
 case round =>
  clear HC1 HG1 HO1 BN1 HR1 HIN ha1 kz0 kz1
  obtain ⟨k, p, cb, a1, B, ms, u1, lo1, A1, c1, l1, rfl, rfl, hkp, HL, HIN, ha1, HC1, HG1, HO1, BN1, HR1⟩ := hrel
  obtain ⟨V, hV⟩ : ∃ V : World, V = wr := ⟨_, rfl⟩
  subst hV
  by_cases hk : 0 < k
  · obtain ⟨x0, x1, x2⟩ := BN1.out.q3
    have lx := BN1.out.lt
    have hk1 : (0 : Int) < (k : Int) := by omega
    have hk2 : IntKind.i64.wrap ((k : Int) - 1) = (k : Int) - 1 := by rw [IntKind.wrap_i64]; omega
    go_wp2_with fail
    refine (bead_any g a1 (g + 1) u1 lo1 A1 c1 l1 _ HC1.out (by omega) (Nat.lt_succ_self g) HR1.out HIN.out).mono ?_
    rintro e w2 ⟨m, a2, rfl, hma, hmb, hmc, ha2, hc, hg⟩
    have HC2 := Lib.hid hc
    have HG2 := Lib.hid (HG1.out.trans hg)
    have BN2 := Lib.hid (BN1.out.gr hg (by omega))
    have HO2 := Lib.hid (own_gr HO1.out hg hgw)
    have HR2 := Lib.hid (own_gr HR1.out hg (Nat.lt_succ_self g))
    obtain ⟨MM, hMM⟩ : ∃ N, N = w2.heap.size := ⟨_, rfl⟩
    obtain ⟨w3, hW3⟩ : ∃ y9 : World, y9 = w2.alloc (.cells #[.int .i64 m.a, .int .i64 m.b, .int .i64 m.c] 75) := ⟨_, rfl⟩
    have BM3 := Lib.hid (show Blk w3 MM 75 #[.int .i64 m.a, .int .i64 m.b, .int .i64 m.c] by rw [hW3]; exact Blk.born w2 _ 75 (H := MM) hMM)
    have HC3 := Lib.hid (show CurAt w3 g a2 by rw [hW3]; exact HC2.out.ext (ext_alloc (ext_refl _) _))
    have HG3 := Lib.hid (show Gr g w w3 by rw [hW3]; exact HG2.out.trans (Gr.alloc _ _ _))
    have BN3 := Lib.hid (show Blk w3 NN 26 #[.int .i64 u1, .int .i64 lo1, .slice A1 l1.length c1] by rw [hW3]; exact BN2.out.al _)
    have HO3 := Lib.hid (show w3.ownsRow w.heap.size 75 3 (.slice B p cb) p (rowsV3 ms) by rw [hW3]; exact HO2.out.alloc _)
    have HR3 := Lib.hid (show w3.ownsRow (g + 1) 96 2 (.slice A1 l1.length c1) l1.length (rowsV2 l1) by rw [hW3]; exact HR2.out.alloc _)
    have hMg : g < MM := by have := HC2.out.lt; omega
    have hMw : w.heap.size ≤ MM := by have := HG2.out.size; omega
    go_upto_region 7 with fail
    rw [← hMM, ← hW3]
    clear hMM hW3 hc hg x0 x1 x2 lx HC1 HG1 BN1 HO1 HR1 HC2 HG2 BN2 HO2 HR2
    have hl9 : l1.length ≤ 9 := HIN.out.2.2.2.2.2.1
    have HMV := Lib.hid (fun (w : World) h => specMoveBeads_any u1 lo1 A1 l1.length c1 l1 m w (by omega) h)
    have HNF := Lib.hid (mbe_in u1 lo1 l1 m)
    obtain ⟨R, hR⟩ : ∃ o9, mbeF u1 lo1 l1 m = o9 := ⟨_, rfl⟩
    obtain ⟨ok, hok⟩ : ∃ o9, mbeB u1 lo1 l1 m = o9 := ⟨_, rfl⟩
    rw [hR, hok] at HMV HNF
    obtain ⟨U, LO, L⟩ := R
    unfold RetFrB at HMV
    dsimp only at HMV HNF
    clear hR hok
    obtain ⟨x0, x1, x2⟩ := BN3.out.q3
    have lx := BN3.out.lt
    obtain ⟨v0, v1, v2⟩ := BM3.out.q3
    have lv := BM3.out.lt
    go_wp2_with fail
    unfold R3.val at HMV
    refine (HMV.out _ (Reads.of_own HR3.out)).mono ?_
    rintro e w4 ⟨A2, c2, rfl, ho, hb⟩
    obtain ⟨NX, hNX⟩ : ∃ N, N = w4.heap.size := ⟨_, rfl⟩
    obtain ⟨V5, hV5⟩ : ∃ y9 : World, y9 = w4.alloc (.cells #[.int .i64 U, .int .i64 LO, .slice A2 L.length c2] 26) := ⟨_, rfl⟩
    have hs3 := HC3.out.lt
    have BX5 := Lib.hid (show Blk V5 NX 26 #[.int .i64 U, .int .i64 LO, .slice A2 L.length c2] by rw [hV5]; exact Blk.born w4 _ 26 (H := NX) hNX)
    have BM5 := Lib.hid (show Blk V5 MM 75 #[.int .i64 m.a, .int .i64 m.b, .int .i64 m.c] by rw [hV5]; exact (BM3.out.ext hb).al _)
    have HC5 := Lib.hid (show CurAt V5 g a2 by rw [hV5]; exact (HC3.out.ext hb).ext (ext_alloc (ext_refl _) _))
    have HG5 := Lib.hid (show Gr g w V5 by rw [hV5]; exact (HG3.out.trans (Gr.of_ext hb)).trans (Gr.alloc _ _ _))
    have BN5 := Lib.hid (show Blk V5 NN 26 #[.int .i64 u1, .int .i64 lo1, .slice A1 l1.length c1] by rw [hV5]; exact (BN3.out.ext hb).al _)
    have HO5 := Lib.hid (show V5.ownsRow w.heap.size 75 3 (.slice B p cb) p (rowsV3 ms) by rw [hV5]; exact (own_ext HO3.out hb).alloc _)
    have HR5 := Lib.hid (show V5.ownsRow (g + 1) 96 2 (.slice A1 l1.length c1) l1.length (rowsV2 l1) by rw [hV5]; exact (own_ext HR3.out hb).alloc _)
    have HX5 := Lib.hid (show V5.ownsRow (g + 1) 96 2 (.slice A2 L.length c2) L.length (rowsV2 L) by rw [hV5]; exact (own_base ho hs3).alloc _)
    have hXw : w.heap.size ≤ NX := by have := HG3.out.size; have := hb.size; omega
    have hXN : NX ≠ NN := by have := BN3.out.lt; have := hb.size; omega
    have hXM : NX ≠ MM := by have := BM3.out.lt; have := hb.size; omega
    go_upto_region 8 with fail
    rw [← hNX, ← hV5]
    clear hNX hV5 ho hb x0 x1 x2 lx v0 v1 v2 lv HC3 HG3 BN3 HO3 HR3 BM3 HMV hs3
    have hbV := HG5.out.size
    have m1 : p + 1 ≤ maxLen := by unfold maxLen; omega
    have m2 : (p + 1) * 24 ≤ 140737488355328 := by omega
    obtain ⟨v0, v1, v2⟩ := BM5.out.q3
    have lv := BM5.out.lt
    have hkz : IntKind.i64.wrap ((k : Int) - 1) = (k : Int) - 1 := by rw [IntKind.wrap_i64]; omega
    have hkn : ((k - 1 : Nat) : Int) = (k : Int) - 1 := by omega
    rcases ok with _ | _
    · go_wp2_with fail
      refine (one_any g a2 8 _ HC5.out (by omega) (by omega) (by omega)).mono ?_
      rintro e w8 ⟨bb, a8, rfl, ha8, hc, hg⟩
      have HC8 := Lib.hid hc
      have HG8 := Lib.hid (HG5.out.trans hg)
      have BN8 := Lib.hid (BN5.out.gr hg (by omega))
      have BM8 := Lib.hid (BM5.out.gr hg (by omega))
      have HO8 := Lib.hid (own_gr HO5.out hg hgw)
      have HR8 := Lib.hid (own_gr HR5.out hg (Nat.lt_succ_self g))
      clear hc hg HC5 HG5 BN5 BM5 HO5 HR5 BX5 HX5 v0 v1 v2 lv hbV
      have hbV := HG8.out.size
      obtain ⟨v0, v1, v2⟩ := BM8.out.q3
      have lv := BM8.out.lt
      cases bb
      · go_wp2
        go_roundw
        case rel => exact ⟨k - 1, p, cb, a8, B, ms, u1, lo1, A1, c1, l1, rfl, by rw [hkn], by omega, HL, HIN, by omega, HC8, HG8, HO8, BN8, HR8⟩
        case measure => simp [intOf] <;> omega
      · go_wp2_with (at_builtin; refine wpList_appO rfl (.tmp 36) (.tmp 38) 27 rfl w.heap.size 75 i0 _ 3 24 Try.underlying27 hi hz0 hz1 hz2 rfl (by decide) (.slice B p cb) p (rowsV3 ms) rfl (HO8.out.alloc (.cells #[.int .i64 m.a, .int .i64 m.b, .int .i64 m.c] 75)) (some ⟨w8.heap.size, 0, none⟩) 1 1 [.int .i64 m.a, .int .i64 m.b, .int .i64 m.c] rfl w.heap.size (lit_ownV (B := w.heap.size) w8 75 3 [.int .i64 m.a, .int .i64 m.b, .int .i64 m.c] rfl hbV (by rfl)) (ints_oneV [m.a, m.b, m.c]) m1 m2 (Nat.le_trans hbV (by simp)) ?_; intro B4 cb4 w6 hown hgrow; have HGR := Lib.hid hgrow; have HOW := Lib.hid hown; clear hown hgrow)
        have hrow : ∀ b9, Value.ownBlock (.slice B p cb) = some b9 → w.heap.size ≤ b9 := fun b9 e9 => (HO8.out.lt _ e9).1
        have HC6 := Lib.hid ((HC8.out.ext (ext_alloc (ext_refl _) (.cells #[.int .i64 m.a, .int .i64 m.b, .int .i64 m.c] 75))).grown HGR.out (fun b9 e9 => Nat.lt_of_lt_of_le hgw (hrow b9 e9)))
        have HG6 := Lib.hid ((HG8.out.trans (Gr.alloc _ _ (.cells #[.int .i64 m.a, .int .i64 m.b, .int .i64 m.c] 75))).grown HGR.out hrow)
        have HO6 := Lib.hid (show w6.ownsRow w.heap.size 75 3 (.slice B4 (p + 1) cb4) (p + 1) (rowsV3 (ms ++ [m])) by have h9 := HOW.out; simpa [rowsV3, R3.cells] using h9)
        have BN6 := Lib.hid ((BN8.out.al (.cells #[.int .i64 m.a, .int .i64 m.b, .int .i64 m.c] 75)).grownF HGR.out (own_nbT HO8.out BN8.out (by decide)))
        have HR6 := Lib.hid ((HR8.out.alloc (.cells #[.int .i64 m.a, .int .i64 m.b, .int .i64 m.c] 75)).kept HGR.out (own_neT HR8.out HO8.out (by decide)))
        clear HC8 HG8 HO8 BN8 HR8 HGR HOW hrow
        go_wp2
        go_roundw
        case rel => exact ⟨k - 1, p + 1, cb4, a8, B4, ms ++ [m], u1, lo1, A1, c1, l1, rfl, by rw [hkn], by omega, Lib.hid (by rw [List.length_append, HL.out]; rfl), HIN, by omega, HC6, HG6, HO6, BN6, HR6⟩
        case measure => simp [intOf] <;> omega
    · go_upto_region 10 with (at_builtin; refine wpList_appO rfl (.tmp 29) (.tmp 31) 27 rfl w.heap.size 75 i0 _ 3 24 Try.underlying27 hi hz0 hz1 hz2 rfl (by decide) (.slice B p cb) p (rowsV3 ms) rfl (HO5.out.alloc (.cells #[.int .i64 m.a, .int .i64 m.b, .int .i64 m.c] 75)) (some ⟨V5.heap.size, 0, none⟩) 1 1 [.int .i64 m.a, .int .i64 m.b, .int .i64 m.c] rfl w.heap.size (lit_ownV (B := w.heap.size) V5 75 3 [.int .i64 m.a, .int .i64 m.b, .int .i64 m.c] rfl hbV (by rfl)) (ints_oneV [m.a, m.b, m.c]) m1 m2 (Nat.le_trans hbV (by simp)) ?_; intro B4 cb4 w6 hown hgrow; have HGR := Lib.hid hgrow; have HOW := Lib.hid hown; clear hown hgrow)
      have BX6 := Lib.hid ((BX5.out.al (.cells #[.int .i64 m.a, .int .i64 m.b, .int .i64 m.c] 75)).grownF HGR.out (own_nbT HO5.out BX5.out (by decide)))
      have HX6 := Lib.hid ((HX5.out.alloc (.cells #[.int .i64 m.a, .int .i64 m.b, .int .i64 m.c] 75)).kept HGR.out (own_neT HX5.out HO5.out (by decide)))
      have hrow : ∀ b9, Value.ownBlock (.slice B p cb) = some b9 → w.heap.size ≤ b9 := fun b9 e9 => (HO5.out.lt _ e9).1
      have HC6 := Lib.hid ((HC5.out.ext (ext_alloc (ext_refl _) (.cells #[.int .i64 m.a, .int .i64 m.b, .int .i64 m.c] 75))).grown HGR.out (fun b9 e9 => Nat.lt_of_lt_of_le hgw (hrow b9 e9)))
      have HG6 := Lib.hid ((HG5.out.trans (Gr.alloc _ _ (.cells #[.int .i64 m.a, .int .i64 m.b, .int .i64 m.c] 75))).grown HGR.out hrow)
      have HO6 := Lib.hid (show w6.ownsRow w.heap.size 75 3 (.slice B4 (p + 1) cb4) (p + 1) (rowsV3 (ms ++ [m])) by have h9 := HOW.out; simpa [rowsV3, R3.cells] using h9)
      have BN6 := Lib.hid ((BN5.out.al (.cells #[.int .i64 m.a, .int .i64 m.b, .int .i64 m.c] 75)).grownF HGR.out (own_nbT HO5.out BN5.out (by decide)))
      have HR6 := Lib.hid ((HR5.out.alloc (.cells #[.int .i64 m.a, .int .i64 m.b, .int .i64 m.c] 75)).kept HGR.out (own_neT HR5.out HO5.out (by decide)))
      clear HC5 HG5 HO5 BN5 HR5 HGR HOW hrow
      clear v0 v1 v2 lv
      obtain ⟨t0, t1, t2⟩ := BX6.out.q3
      have lt := BX6.out.lt
      obtain ⟨x0, x1, x2⟩ := BN6.out.q3
      obtain ⟨y0, y1, y2⟩ := BN6.out.z3
      have lx := BN6.out.lt
      have HO7 := Lib.hid (fill_own' (a := .int .i64 U) (b := .int .i64 LO) (c := .slice A2 L.length c2) HO6.out (own_nbT HO6.out BN6.out (by decide)))
      have HX7 := Lib.hid (fill_own' (a := .int .i64 U) (b := .int .i64 LO) (c := .slice A2 L.length c2) HX6.out (own_nbT HX6.out BN6.out (by decide)))
      have BN7 := Lib.hid (fr_put (a := .int .i64 U) (b := .int .i64 LO) (c := .slice A2 L.length c2) BN6.out)
      have HC7 := Lib.hid (((HC6.out.far (p := ⟨NN, 0, none⟩) hgN (.int .i64 U)).far (p := ⟨NN, 1, none⟩) hgN (.int .i64 LO)).far (p := ⟨NN, 2, none⟩) hgN (.slice A2 L.length c2))
      have HG7 := Lib.hid (((HG6.out.setNew (p := ⟨NN, 0, none⟩) hwN (.int .i64 U)).setNew (p := ⟨NN, 1, none⟩) hwN (.int .i64 LO)).setNew (p := ⟨NN, 2, none⟩) hwN (.slice A2 L.length c2))
      go_wp2
      go_roundw
      case rel => exact ⟨k - 1, p + 1, cb4, a2, B4, ms ++ [m], U, LO, A2, c2, L, rfl, by rw [hkn], by omega, Lib.hid (by rw [List.length_append, HL.out]; rfl), Lib.hid (HNF.out rfl), by omega, HC7, HG7, HO7, BN7, HX7⟩
      case measure => simp [intOf] <;> omega
  · obtain rfl : k = 0 := by omega
    go_wp2_with fail
    refine (one_any g a1 40 _ HC1.out (by omega) (by omega) (by omega)).mono ?_
    rintro e w2 ⟨bb, a2, rfl, ha2, hc, hg⟩
    have HC2 := Lib.hid hc
    have HG2 := Lib.hid (HG1.out.trans hg)
    have HO2 := Lib.hid (own_gr HO1.out hg hgw)
    have hp8 : p ≤ 8 := by omega
    clear hc hg HC1 HG1 HO1 BN1 HR1
    cases bb
    · go_wp2
      go_ret
      exact ⟨ms, B, cb, a2, by rw [HL.out]; rfl, by rw [HL.out]; omega, by rw [HL.out]; exact HO2.out, by omega, HC2.out, HG2.out⟩
    · go_wp2_with fail
      go_loopw [5] (fun ov wr => ∃ (p cb a1 : Nat) (B : Option Addr) (ms : List R3), ov = .slice B p cb ∧ p ≤ 61 ∧ Hid (ms.length = p) ∧ a1 + 2 * (62 - p) ≤ a + 430 ∧ Hid (CurAt wr g a1) ∧ Hid (Gr g w wr) ∧ Hid (wr.ownsRow w.heap.size 75 3 (.slice B p cb) p (rowsV3 ms))) (fun ov _ => 62 - lenOfV ov)
      case atStart => exact ⟨p, cb, a2, B, ms, rfl, by omega, HL, by omega, HC2, HG2, HO2⟩
      case round =>
       clear HC2 HG2 HO2 ha2 ha1 HL hp8 hkp
       obtain ⟨p, cb, a1, B, ms, rfl, hp, HL, ha1, HC1, HG1, HO1⟩ := hrel
       go_wp2_with fail
       refine (pick_any g a1 2 _ HC1.out (by omega) (by omega) (by omega)).mono ?_
       rintro e w3 ⟨r, a3, rfl, r0, r1, ha3, hc, hg⟩
       have HC3 := Lib.hid hc
       have HG3 := Lib.hid (HG1.out.trans hg)
       have HO3 := Lib.hid (own_gr HO1.out hg hgw)
       clear hc hg HC1 HG1 HO1
       have sr : IntKind.i64.wrap (60 + r) = 60 + r := by rw [IntKind.wrap_i64]; omega
       by_cases hlt : (p : Int) < 60 + r
       · have hbV := HG3.out.size
         have m1 : p + 1 ≤ maxLen := by unfold maxLen; omega
         have m2 : (p + 1) * 24 ≤ 140737488355328 := by omega
         have htm : (p : Int).tmod 2 = (p : Int) % 2 := Int.tmod_eq_emod_of_nonneg (by omega)
         have hz : 0 ≤ (p : Int) % 2 ∧ (p : Int) % 2 ≤ 1 := by omega
         obtain ⟨z, hzz⟩ : ∃ o9, (p : Int) % 2 = o9 := ⟨_, rfl⟩
         rw [hzz] at htm hz
         have s1 : wrap64 (2 * z) = 2 * z := by unfold wrap64; omega
         have s2 : wrap64 (1 - 2 * z) = 1 - 2 * z := by unfold wrap64; omega
         go_wp2_with (at_builtin; refine wpList_appO rfl (.tmp 48) (.tmp 55) 27 rfl w.heap.size 75 i0 _ 3 24 Try.underlying27 hi hz0 hz1 hz2 rfl (by decide) (.slice B p cb) p (rowsV3 ms) rfl (HO3.out.alloc (.cells #[.int .i64 0, .int .i64 1, .int .i64 (1 - 2 * z)] 75)) (some ⟨w3.heap.size, 0, none⟩) 1 1 [.int .i64 0, .int .i64 1, .int .i64 (1 - 2 * z)] rfl w.heap.size (lit_ownV (B := w.heap.size) w3 75 3 [.int .i64 0, .int .i64 1, .int .i64 (1 - 2 * z)] rfl hbV (by rfl)) (ints_oneV [0, 1, (1 - 2 * z)]) m1 m2 (Nat.le_trans hbV (by simp)) ?_; intro B4 cb4 w6 hown hgrow; have HGR := Lib.hid hgrow; have HOW := Lib.hid hown; clear hown hgrow)
         have hrow : ∀ b9, Value.ownBlock (.slice B p cb) = some b9 → w.heap.size ≤ b9 := fun b9 e9 => (HO3.out.lt _ e9).1
         have HC6 := Lib.hid ((HC3.out.ext (ext_alloc (ext_refl _) (.cells #[.int .i64 0, .int .i64 1, .int .i64 (1 - 2 * z)] 75))).grown HGR.out (fun b9 e9 => Nat.lt_of_lt_of_le hgw (hrow b9 e9)))
         have HG6 := Lib.hid ((HG3.out.trans (Gr.alloc _ _ (.cells #[.int .i64 0, .int .i64 1, .int .i64 (1 - 2 * z)] 75))).grown HGR.out hrow)
         have HO6 := Lib.hid (show w6.ownsRow w.heap.size 75 3 (.slice B4 (p + 1) cb4) (p + 1) (rowsV3 (ms ++ [⟨0, 1, 1 - 2 * z⟩])) by have h9 := HOW.out; simpa [rowsV3, R3.cells] using h9)
         clear HC3 HG3 HO3 HGR HOW hrow
         go_wp2
         go_roundw
         case rel => exact ⟨p + 1, cb4, a3, B4, ms ++ [⟨0, 1, 1 - 2 * z⟩], rfl, by omega, Lib.hid (by rw [List.length_append, HL.out]; rfl), by omega, HC6, HG6, HO6⟩
         case measure => simp [lenOfV] <;> omega
       · go_wp2
         go_ret
         exact ⟨ms, B, cb, a3, by rw [HL.out]; rfl, by rw [HL.out]; omega, by rw [HL.out]; exact HO3.out, by omega, HC3.out, HG3.out⟩

end Go.Proofs.Ytphhelmcaehclaa
