/- The drawing of a school and steps out of a code. -/
import Derived.Test.YtkcbgiegoadkbaaVM8
import Derived.Test.YtkcbgiegoadkbaaVM1
import Derived.Test.YtkcbgiegoadkbaaVAp
import Derived.Test.YtkcbgiegoadkbaaVRegL
import Derived.Test.YtkcbgiegoadkbaaVM3
import Derived.Test.YtkcbgiegoadkbaaVM7
namespace Go.Proofs.Ytkcbgiegoadkbaa
open Go.RowKit
set_option linter.unusedVariables false
set_option linter.unusedSimpArgs false
theorem info_stp : (Try.prog.info? 28).map (fun i => (i.zero, i.size, i.bytes)) = some (some (.agg #[.int .i64 0, .int .i64 0, .int .i64 0]), 3, 24) := by kernel_rfl
def DrawnRun (w : World) (e : Ending) (w' : World) : Prop := ∃ (D P Q : Int) (l : List R5) (A : Option Addr) (c : Nat) (xs : List R3) (B : Option Addr) (cb : Nat), e = .returned (.tuple #[schV D A l.length c P Q, .slice B xs.length cb]) ∧ l.length ≤ 9 ∧ xs.length ≤ 41 ∧ (∀ x ∈ xs, x.c ≤ 9223372036854775807) ∧ w'.ownsRow w.heap.size 55 5 (.slice A l.length c) l.length (rowsV l) ∧ w'.ownsRow w.heap.size 28 3 (.slice B xs.length cb) xs.length (rowsV3 xs) ∧ Below w.heap.size w w'
theorem lit_ownW {B : Nat} (w0 : World) (E K : Nat) (cs : List Value) {H : Nat} (hH : H = w0.heap.size) (hB : B ≤ w0.heap.size) (hl : cs.length = K) : (w0.alloc (.cells cs.toArray E)).ownsRow B E K (.slice (some ⟨H, 0, none⟩) 1 1) 1 cs := by
 subst hH
 have h9 := World.ownsRow_lit (size := K) (e := E) w0 cs.toArray 1 hB (by unfold maxLen; omega) (by simp [hl])
 simpa using h9
theorem ints_oneW (l : List Int) : ∀ u ∈ intsV l, u.oneCell' = true := by
 intro u hu
 obtain ⟨z, _, rfl⟩ := List.mem_map.1 hu
 rfl
def lenW : Value → Nat
 | .slice _ n _ => n
 | _ => 0
theorem stp_ids {day pa le : Int} {l : List R5} {k id v : Int} {o : Option Sch4} (h : stpB day pa le l k id v = o) (ho : o.isSome = true) : (oL o).length ≤ 8 ∧ ∀ r ∈ oL o, 0 ≤ r.a ∧ r.a ≤ 100 := by
 cases o with
 | none => cases ho
 | some s =>
   obtain ⟨d, L, p, q⟩ := s
   have hsch := step_ok h
   exact ⟨schB_len hsch, fun r hr => by have := (stu_bounds (schB_mem hsch hr)).1; omega⟩
theorem m4_cur {w : World} {g a b : Nat} {u0 u1 u2 u3 : Value} (h : CurAt w g a) (hb : g < b) : CurAt ((((w.setCell ⟨b, 0, none⟩ u0).setCell ⟨b, 1, none⟩ u1).setCell ⟨b, 2, none⟩ u2).setCell ⟨b, 3, none⟩ u3) g a := ((((h.far (p := ⟨b, 0, none⟩) hb u0).far (p := ⟨b, 1, none⟩) hb u1).far (p := ⟨b, 2, none⟩) hb u2).far (p := ⟨b, 3, none⟩) hb u3)
theorem m4_gr {w0 w : World} {g b : Nat} {u0 u1 u2 u3 : Value} (h : Gr g w0 w) (hb : w0.heap.size ≤ b) : Gr g w0 ((((w.setCell ⟨b, 0, none⟩ u0).setCell ⟨b, 1, none⟩ u1).setCell ⟨b, 2, none⟩ u2).setCell ⟨b, 3, none⟩ u3) := ((((h.setNew (p := ⟨b, 0, none⟩) hb u0).setNew (p := ⟨b, 1, none⟩) hb u1).setNew (p := ⟨b, 2, none⟩) hb u2).setNew (p := ⟨b, 3, none⟩) hb u3)
theorem m4_far {w : World} {b k : Nat} {t : TypeId} {cs : Array Value} {u0 u1 u2 u3 : Value} (h : Blk w k t cs) (hne : b ≠ k) : Blk ((((w.setCell ⟨b, 0, none⟩ u0).setCell ⟨b, 1, none⟩ u1).setCell ⟨b, 2, none⟩ u2).setCell ⟨b, 3, none⟩ u3) k t cs := ((((h.setF (p := ⟨b, 0, none⟩) hne u0).setF (p := ⟨b, 1, none⟩) hne u1).setF (p := ⟨b, 2, none⟩) hne u2).setF (p := ⟨b, 3, none⟩) hne u3)
theorem m4_put {w : World} {b : Nat} {t : TypeId} {c0 c1 c2 c3 u0 u1 u2 u3 : Value} (h : Blk w b t #[c0, c1, c2, c3]) : Blk ((((w.setCell ⟨b, 0, none⟩ u0).setCell ⟨b, 1, none⟩ u1).setCell ⟨b, 2, none⟩ u2).setCell ⟨b, 3, none⟩ u3) b t #[u0, u1, u2, u3] := put4 h
theorem m4_own {w : World} {b B E size n : Nat} {v : Value} {xs : List Value} {u0 u1 u2 u3 : Value} (h : w.ownsRow B E size v n xs) (hne : v.ownBlock ≠ some b) : World.ownsRow ((((w.setCell ⟨b, 0, none⟩ u0).setCell ⟨b, 1, none⟩ u1).setCell ⟨b, 2, none⟩ u2).setCell ⟨b, 3, none⟩ u3) B E size v n xs := (own_setF (p := ⟨b, 3, none⟩) (own_setF (p := ⟨b, 2, none⟩) (own_setF (p := ⟨b, 1, none⟩) (own_setF (p := ⟨b, 0, none⟩) h hne u0) hne u1) hne u2) hne u3)
theorem m4_below {w0 w : World} {b B : Nat} {u0 u1 u2 u3 : Value} (h : Below B w0 w) (hb : B ≤ b) : Below B w0 ((((w.setCell ⟨b, 0, none⟩ u0).setCell ⟨b, 1, none⟩ u1).setCell ⟨b, 2, none⟩ u2).setCell ⟨b, 3, none⟩ u3) := bel4 h hb

set_option maxRecDepth 100000 in
set_option maxHeartbeats 16000000 in
theorem drawRun_any (Ac : Option Addr) (nc cc : Nat) (w : World) (h : Code w w.heap.size Ac nc) (hn : nc ≤ 65536) : Calls Try.prog 12 #[.slice Ac nc cc] w (DrawnRun w) := by
 obtain ⟨i0, hi, hz0, hz1, hz2⟩ := info_parts info_stp
 obtain ⟨W0, hW0⟩ : ∃ y9 : World, y9 = (w.alloc (.cells #[.int .i64 0, .slice none 0 0, .int .i64 0, .int .i64 0] 26)).alloc (.cells #[.slice Ac nc cc, .int .i64 0, .int .u64 0] 47) := ⟨_, rfl⟩
 obtain ⟨g, hg⟩ : ∃ g, g = w.heap.size + 1 := ⟨_, rfl⟩
 have HC := Lib.hid (show CurAt W0 g 0 by rw [hW0, hg]; exact h.cur1 (by omega) cc (.cells #[.int .i64 0, .slice none 0 0, .int .i64 0, .int .i64 0] 26))
 have BR0 := Lib.hid (show Blk W0 w.heap.size 26 #[.int .i64 0, .slice none 0 0, .int .i64 0, .int .i64 0] by rw [hW0]; exact (Blk.born w #[.int .i64 0, .slice none 0 0, .int .i64 0, .int .i64 0] 26 (H := w.heap.size) rfl).al _)
 have HG0 := Lib.hid (show Gr g w W0 by rw [hW0]; exact Gr.of_ext (ext_alloc (ext_alloc (ext_refl w) _) _))
 have hRg : w.heap.size ≠ g := by omega
 have hwg : w.heap.size < g := by omega
 clear h
 go_enter Try.func12, Try.ntmps12
 go_wp2_with fail
 rw [← hW0]
 rw [← hg]
 clear hg hW0
 refine (school_any g 0 _ HC.out (by omega)).mono ?_
 rintro e w1 ⟨D, P, Q, l, A, c, a1, rfl, hl9, hid, ho, ha1, hc, hg'⟩
 have HID := Lib.hid hid
 obtain ⟨NS, hNS⟩ : ∃ N, N = w1.heap.size := ⟨_, rfl⟩
 obtain ⟨NW, hNW⟩ : ∃ N, N = NS + 1 + 1 := ⟨_, rfl⟩
 obtain ⟨W, hW⟩ : ∃ y : World, y = ((w1.alloc (.cells #[.int .i64 D, .slice A l.length c, .int .i64 P, .int .i64 Q] 26)).alloc (.cells #[] 28)).alloc (.cells #[.int .i64 D, .slice A l.length c, .int .i64 P, .int .i64 Q] 26) := ⟨_, rfl⟩
 have hgl : g < NS := by have := hc.lt; omega
 have hSg : NS ≠ g := by omega
 have hNg : NW ≠ g := by omega
 have hNS9 : NW ≠ NS := by omega
 have hNR : NW ≠ w.heap.size := by omega
 have hgW : g < NW := by omega
 have hwW : w.heap.size ≤ NW := by omega
 have BS1 := Lib.hid (show Blk W NS 26 #[.int .i64 D, .slice A l.length c, .int .i64 P, .int .i64 Q] by rw [hW]; exact ((Blk.born w1 _ 26 (H := NS) hNS).al _).al _)
 have BN1 := Lib.hid (show Blk W NW 26 #[.int .i64 D, .slice A l.length c, .int .i64 P, .int .i64 Q] by rw [hW]; exact Blk.born _ _ 26 (H := NW) (by rw [hNW, hNS]; simp))
 have BR1 := Lib.hid (show Blk W w.heap.size 26 #[.int .i64 0, .slice none 0 0, .int .i64 0, .int .i64 0] by rw [hW]; exact (((BR0.out.gr hg' hRg).al _).al _).al _)
 have HA1 := Lib.hid (show W.ownsRow (g + 1) 55 5 (.slice A l.length c) l.length (rowsV l) by rw [hW]; exact ((ho.alloc _).alloc _).alloc _)
 have HS1 := Lib.hid (show W.ownsRow (g + 1) 28 3 (.slice (some ⟨NS + 1, 0, none⟩) 0 0) 0 (rowsV3 []) by
  rw [hW]
  have h9 := own_base (base' := g + 1) (own_lit0 (w1.alloc (.cells #[.int .i64 D, .slice A l.length c, .int .i64 P, .int .i64 Q] 26)) 28 3) (by simp; omega)
  rw [hNS]
  simpa [rowsV3] using h9.alloc (.cells #[.int .i64 D, .slice A l.length c, .int .i64 P, .int .i64 Q] 26))
 have HC1 := Lib.hid (show CurAt W g a1 by rw [hW]; exact ((hc.ext (ext_alloc (ext_refl _) _)).ext (ext_alloc (ext_refl _) _)).ext (ext_alloc (ext_refl _) _))
 have HG1 := Lib.hid (show Gr g w W by rw [hW]; exact (((HG0.out.trans hg').trans (Gr.alloc _ _ _)).trans (Gr.alloc _ _ _)).trans (Gr.alloc _ _ _))
 go_upto_region 5 with fail
 rw [← hNS, ← hNW, ← hW]
 clear hNS hNW hW ho hc hg' hid HC BR0 HG0
 go_wp2_with fail
 refine (pick_any g a1 12 _ HC1.out (by omega) (by omega) (by omega)).mono ?_
 rintro e w3 ⟨pk, a2, rfl, pk0, pk1, ha2, hc, hg'⟩
 have HN1 := HA1
 have HC3 := Lib.hid hc
 have HG3 := Lib.hid (HG1.out.trans hg')
 have BS3 := Lib.hid (BS1.out.gr hg' hSg)
 have BN3 := Lib.hid (BN1.out.gr hg' hNg)
 have BR3 := Lib.hid (BR1.out.gr hg' hRg)
 have HA3 := Lib.hid (own_gr HA1.out hg' (Nat.lt_succ_self g))
 have HS3 := Lib.hid (own_gr HS1.out hg' (Nat.lt_succ_self g))
 obtain ⟨kn, rfl⟩ := Int.eq_ofNat_of_zero_le pk0
 clear hc hg' HC1 HG1 BS1 BN1 BR1 HA1 HS1 HN1
 go_wp2_with fail
 go_loopw [6, 8] (fun v kk wr => ∃ (k m cb a2 : Nat) (B : Option Addr) (xs : List R3) (Dn Pn Qn : Int) (Ln : List R5) (An : Option Addr) (cn : Nat), kk = .int .i64 (k : Int) ∧ v = .slice B m cb ∧ m + k ≤ 11 ∧ a2 ≤ 660 + 20 * m ∧ Ln.length ≤ 9 ∧ Hid (∀ r ∈ Ln, 0 ≤ r.a ∧ r.a ≤ 100) ∧ Hid (xs.length = m) ∧ Hid (∀ x ∈ xs, x.c ≤ 4001) ∧ Hid (CurAt wr g a2) ∧ Hid (Gr g w wr) ∧ Hid (Blk wr NS 26 #[.int .i64 D, .slice A l.length c, .int .i64 P, .int .i64 Q]) ∧ Hid (Blk wr NW 26 #[.int .i64 Dn, .slice An Ln.length cn, .int .i64 Pn, .int .i64 Qn]) ∧ Hid (Blk wr w.heap.size 26 #[.int .i64 0, .slice none 0 0, .int .i64 0, .int .i64 0]) ∧ Hid (wr.ownsRow (g + 1) 55 5 (.slice A l.length c) l.length (rowsV l)) ∧ Hid (wr.ownsRow (g + 1) 55 5 (.slice An Ln.length cn) Ln.length (rowsV Ln)) ∧ Hid (wr.ownsRow (g + 1) 28 3 (.slice B m cb) m (rowsV3 xs))) (fun _ kk _ => (intOf kk).toNat)
 case atStart => exact ⟨kn, 0, 0, a2, _, [], D, P, Q, l, A, c, rfl, rfl, by omega, by omega, hl9, HID, Lib.hid rfl, Lib.hid (fun x hx => by cases hx), HC3, HG3, BS3, BN3, BR3, HA3, HA3, HS3⟩
 case round =>
  clear HC3 HG3 BS3 BN3 BR3 HA3 HS3 HID ha1 ha2 pk0 pk1
  obtain ⟨k, m, cb, a2, B, xs, Dn, Pn, Qn, Ln, An, cn, rfl, rfl, hmk, ha2, hLn9, HID, HL, HX, HC4, HG4, BS4, BN4, BR4, HA4, HN4, HS4⟩ := hrel
  obtain ⟨V, hV⟩ : ∃ y : World, y = wr := ⟨_, rfl⟩
  subst hV
  by_cases hk0 : 0 < k
  · have e1 : (0 : Int) < (k : Int) := by omega
    obtain ⟨n0, n1, n2, n3⟩ := BN4.out.q4
    have ln := BN4.out.lt
    go_wp2_with fail
    refine (schoolStep_any g a2 Dn Pn Qn An Ln.length cn Ln _ HC4.out (by omega) (by omega) HN4.out HID.out).mono ?_
    rintro e w5 ⟨kd, id, sv, a5, rfl, hkd, hidb, hsv, ha5, hc, hg'⟩
    have HC5 := Lib.hid hc
    have HG5 := Lib.hid (HG4.out.trans hg')
    have BS5 := Lib.hid (BS4.out.gr hg' hSg)
    have BN5 := Lib.hid (BN4.out.gr hg' hNg)
    have BR5 := Lib.hid (BR4.out.gr hg' hRg)
    have HA5 := Lib.hid (own_gr HA4.out hg' (Nat.lt_succ_self g))
    have HN5 := Lib.hid (own_gr HN4.out hg' (Nat.lt_succ_self g))
    have HS5 := Lib.hid (own_gr HS4.out hg' (Nat.lt_succ_self g))
    clear hc hg' HC4 HG4 BS4 BN4 BR4 HA4 HN4 HS4
    clear n0 n1 n2 n3 ln
    obtain ⟨NX, hNX⟩ : ∃ N, N = w5.heap.size := ⟨_, rfl⟩
    obtain ⟨w6, hw6⟩ : ∃ y9 : World, y9 = w5.alloc (.cells #[.int .i64 kd, .int .i64 id, .int .i64 sv] 28) := ⟨_, rfl⟩
    have BX6 := Lib.hid (show Blk w6 NX 28 #[.int .i64 kd, .int .i64 id, .int .i64 sv] by rw [hw6]; exact Blk.born w5 _ 28 (H := NX) hNX)
    have hXS : Value.ownBlock (.slice B m cb) ≠ some NX := fun e9 => by have := (HS5.out.lt _ e9).2; omega
    have hXN : NX ≠ NW := by have := BN5.out.lt; omega
    have hgX : g < NX := by have := HC5.out.lt; omega
    have HC6 := Lib.hid (show CurAt w6 g a5 by rw [hw6]; exact HC5.out.ext (ext_alloc (ext_refl _) _))
    have HG6 := Lib.hid (show Gr g w w6 by rw [hw6]; exact HG5.out.trans (Gr.alloc _ _ _))
    have BS6 := Lib.hid (show Blk w6 NS 26 #[.int .i64 D, .slice A l.length c, .int .i64 P, .int .i64 Q] by rw [hw6]; exact BS5.out.al _)
    have BN6 := Lib.hid (show Blk w6 NW 26 #[.int .i64 Dn, .slice An Ln.length cn, .int .i64 Pn, .int .i64 Qn] by rw [hw6]; exact BN5.out.al _)
    have BR6 := Lib.hid (show Blk w6 w.heap.size 26 #[.int .i64 0, .slice none 0 0, .int .i64 0, .int .i64 0] by rw [hw6]; exact BR5.out.al _)
    have HA6 := Lib.hid (show w6.ownsRow (g + 1) 55 5 (.slice A l.length c) l.length (rowsV l) by rw [hw6]; exact HA5.out.alloc _)
    have HN6 := Lib.hid (show w6.ownsRow (g + 1) 55 5 (.slice An Ln.length cn) Ln.length (rowsV Ln) by rw [hw6]; exact HN5.out.alloc _)
    have HS6 := Lib.hid (show w6.ownsRow (g + 1) 28 3 (.slice B m cb) m (rowsV3 xs) by rw [hw6]; exact HS5.out.alloc _)
    go_upto_region 9 with fail
    rw [← hNX, ← hw6]
    clear hNX hw6 HC5 HG5 BS5 BN5 BR5 HA5 HN5 HS5
    obtain ⟨x0, x1, x2⟩ := BX6.out.q3
    have lx := BX6.out.lt
    have hbV := HC6.out.lt
    have m1 : m + 1 ≤ maxLen := by unfold maxLen; omega
    have m2 : (m + 1) * 24 ≤ 140737488355328 := by omega
    go_upto_region 10 with (at_builtin; refine wpList_appO rfl (.tmp 28) (.tmp 30) 37 rfl (g + 1) 28 i0 _ 3 24 Try.underlying37 hi hz0 hz1 hz2 rfl (by decide) (.slice B m cb) m (rowsV3 xs) rfl (HS6.out.alloc (.cells #[.int .i64 kd, .int .i64 id, .int .i64 sv] 28)) (some ⟨w6.heap.size, 0, none⟩) 1 1 [.int .i64 kd, .int .i64 id, .int .i64 sv] rfl (g + 1) (lit_ownW (B := g + 1) w6 28 3 [.int .i64 kd, .int .i64 id, .int .i64 sv] rfl hbV (by rfl)) (ints_oneW [kd, id, sv]) m1 m2 (Nat.le_trans hbV (by simp)) ?_; intro B4 cb4 w8 hown hgrow; have HGR := Lib.hid hgrow; have HOW := Lib.hid hown; clear hown hgrow)
    have hrow : ∀ b9, Value.ownBlock (.slice B m cb) = some b9 → g + 1 ≤ b9 := fun b9 e9 => (HS6.out.lt _ e9).1
    have HC8 := Lib.hid ((HC6.out.ext (ext_alloc (ext_refl _) (.cells #[.int .i64 kd, .int .i64 id, .int .i64 sv] 28))).grown HGR.out (fun b9 e9 => Nat.lt_of_lt_of_le (Nat.lt_succ_self g) (hrow b9 e9)))
    have HG8 := Lib.hid ((HG6.out.trans (Gr.alloc _ _ (.cells #[.int .i64 kd, .int .i64 id, .int .i64 sv] 28))).grown HGR.out (fun b9 e9 => Nat.le_trans (by omega) (hrow b9 e9)))
    have BS8 := Lib.hid ((BS6.out.al (.cells #[.int .i64 kd, .int .i64 id, .int .i64 sv] 28)).grownF HGR.out (own_nbT HS6.out BS6.out (by decide)))
    have BN8 := Lib.hid ((BN6.out.al (.cells #[.int .i64 kd, .int .i64 id, .int .i64 sv] 28)).grownF HGR.out (own_nbT HS6.out BN6.out (by decide)))
    have BR8 := Lib.hid ((BR6.out.al (.cells #[.int .i64 kd, .int .i64 id, .int .i64 sv] 28)).grownF HGR.out (own_nbT HS6.out BR6.out (by decide)))
    have HA8 := Lib.hid ((HA6.out.alloc (.cells #[.int .i64 kd, .int .i64 id, .int .i64 sv] 28)).kept HGR.out (own_neT HA6.out HS6.out (by decide)))
    have HN8 := Lib.hid ((HN6.out.alloc (.cells #[.int .i64 kd, .int .i64 id, .int .i64 sv] 28)).kept HGR.out (own_neT HN6.out HS6.out (by decide)))
    have HS8 := Lib.hid (show w8.ownsRow (g + 1) 28 3 (.slice B4 (m + 1) cb4) (m + 1) (rowsV3 (xs ++ [⟨kd, id, sv⟩])) by have h9 := HOW.out; simpa [rowsV3, R3.cells] using h9)
    have HL8 := Lib.hid (show (xs ++ [(⟨kd, id, sv⟩ : R3)]).length = m + 1 by rw [List.length_append, HL.out]; rfl)
    have HX8 := Lib.hid (show ∀ x ∈ xs ++ [(⟨kd, id, sv⟩ : R3)], x.c ≤ 4001 from fun x hx => by
     rcases List.mem_append.1 hx with h | h
     · exact HX.out x h
     · obtain rfl := List.mem_singleton.1 h
       dsimp only
       omega)
    have BX8 := Lib.hid ((BX6.out.al (.cells #[.int .i64 kd, .int .i64 id, .int .i64 sv] 28)).grownF HGR.out hXS)
    clear hrow HGR HOW hbV m1 m2 HC6 HG6 BS6 BN6 BR6 HA6 HN6 HS6
    clear x0 x1 x2 lx BX6
    obtain ⟨x0, x1, x2⟩ := BX8.out.q3
    have lx := BX8.out.lt
    have hcap := own_cap3 HN8.out
    have hsl := slOk_own HN8.out
    have HST := Lib.hid (fun (w : World) h => (specStep_any Dn Pn Qn kd id sv An Ln.length cn Ln w (by omega) hcap hsl h).mono (retUni (stpB Dn Pn Qn Ln kd id sv) w))
    have hids := fun h => @stp_ids Dn Pn Qn Ln kd id sv _ rfl h
    obtain ⟨O, hO⟩ : ∃ o9, stpB Dn Pn Qn Ln kd id sv = o9 := ⟨_, rfl⟩
    rw [hO] at HST hids
    obtain ⟨Db, hDb⟩ : ∃ o9, oD O = o9 := ⟨_, rfl⟩
    obtain ⟨Pb, hPb⟩ : ∃ o9, oP O = o9 := ⟨_, rfl⟩
    obtain ⟨Qb, hQb⟩ : ∃ o9, oQ O = o9 := ⟨_, rfl⟩
    obtain ⟨Lb, hLb⟩ : ∃ o9, oL O = o9 := ⟨_, rfl⟩
    obtain ⟨ok, hok⟩ : ∃ o9, O.isSome = o9 := ⟨_, rfl⟩
    rw [hDb, hPb, hQb, hLb, hok] at HST
    rw [hLb, hok] at hids
    unfold RetUni at HST
    have HIDS := Lib.hid hids
    clear hO hDb hPb hQb hLb hok hids hcap hsl
    obtain ⟨n0, n1, n2, n3⟩ := BN8.out.q4
    have ln := BN8.out.lt
    go_wp2_with fail
    refine (HST.out _ (Reads.of_own HN8.out)).mono ?_
    rintro e w9 ⟨Ab, cb9, rfl, hob, hb⟩
    obtain ⟨NB, hNB⟩ : ∃ N, N = w9.heap.size := ⟨_, rfl⟩
    obtain ⟨w10, hw10⟩ : ∃ y9 : World, y9 = w9.alloc (.cells #[.int .i64 Db, .slice Ab Lb.length cb9, .int .i64 Pb, .int .i64 Qb] 26) := ⟨_, rfl⟩
    have hbw : g + 1 ≤ w8.heap.size := HC8.out.lt
    have hBN9 : NW < NB := by have := (BN8.out.ext hb).lt; omega
    have BB10 := Lib.hid (show Blk w10 NB 26 #[.int .i64 Db, .slice Ab Lb.length cb9, .int .i64 Pb, .int .i64 Qb] by rw [hw10]; exact Blk.born w9 _ 26 (H := NB) hNB)
    have HB10 := Lib.hid (show w10.ownsRow (g + 1) 55 5 (.slice Ab Lb.length cb9) Lb.length (rowsV Lb) by rw [hw10]; exact (own_base hob hbw).alloc _)
    have HC10 := Lib.hid (show CurAt w10 g a5 by rw [hw10]; exact (HC8.out.ext hb).ext (ext_alloc (ext_refl _) _))
    have HG10 := Lib.hid (show Gr g w w10 by rw [hw10]; exact (HG8.out.trans (Gr.of_ext hb)).trans (Gr.alloc _ _ _))
    have BS10 := Lib.hid (show Blk w10 NS 26 #[.int .i64 D, .slice A l.length c, .int .i64 P, .int .i64 Q] by rw [hw10]; exact (BS8.out.ext hb).al _)
    have BN10 := Lib.hid (show Blk w10 NW 26 #[.int .i64 Dn, .slice An Ln.length cn, .int .i64 Pn, .int .i64 Qn] by rw [hw10]; exact (BN8.out.ext hb).al _)
    have BR10 := Lib.hid (show Blk w10 w.heap.size 26 #[.int .i64 0, .slice none 0 0, .int .i64 0, .int .i64 0] by rw [hw10]; exact (BR8.out.ext hb).al _)
    have HA10 := Lib.hid (show w10.ownsRow (g + 1) 55 5 (.slice A l.length c) l.length (rowsV l) by rw [hw10]; exact (own_ext HA8.out hb).alloc _)
    have HN10 := Lib.hid (show w10.ownsRow (g + 1) 55 5 (.slice An Ln.length cn) Ln.length (rowsV Ln) by rw [hw10]; exact (own_ext HN8.out hb).alloc _)
    have HS10 := Lib.hid (show w10.ownsRow (g + 1) 28 3 (.slice B4 (m + 1) cb4) (m + 1) (rowsV3 (xs ++ [⟨kd, id, sv⟩])) by rw [hw10]; exact (own_ext HS8.out hb).alloc _)
    clear n0 n1 n2 n3 ln x0 x1 x2 lx BX8
    go_upto_region 11 with fail
    rw [← hNB, ← hw10]
    clear hNB hw10 hob hb HST HC8 HG8 BS8 BN8 BR8 HA8 HN8 HS8
    cases ok
    · go_wp2
      go_roundw
      case rel => exact ⟨k - 1, m + 1, cb4, a5, B4, xs ++ [⟨kd, id, sv⟩], Dn, Pn, Qn, Ln, An, cn, by go_num, rfl, by omega, by omega, hLn9, HID, HL8, HX8, HC10, HG10, BS10, BN10, BR10, HA10, HN10, HS10⟩
      case measure => simp [intOf]; omega
    · obtain ⟨hLb8, hLbi⟩ := HIDS.out rfl
      have HLI := Lib.hid hLbi
      clear hLbi
      obtain ⟨p0, p1, p2, p3⟩ := BB10.out.q4
      have lp := BB10.out.lt
      obtain ⟨n0, n1, n2, n3⟩ := BN10.out.q4
      have ln := BN10.out.lt
      obtain ⟨m0, m1, m2, m3⟩ := BN10.out.z4
      go_wp2
      go_roundw
      case rel => exact ⟨k - 1, m + 1, cb4, a5, B4, xs ++ [⟨kd, id, sv⟩], Db, Pb, Qb, Lb, Ab, cb9, by go_num, rfl, by omega, by omega, by omega, HLI, HL8, HX8, Lib.hid (m4_cur HC10.out hgW), Lib.hid (m4_gr HG10.out hwW), Lib.hid (m4_far BS10.out hNS9), Lib.hid (m4_put BN10.out), Lib.hid (m4_far BR10.out hNR), Lib.hid (m4_own HA10.out (own_nbT HA10.out BN10.out (by decide))), Lib.hid (m4_own HB10.out (own_nbT HB10.out BN10.out (by decide))), Lib.hid (m4_own HS10.out (own_nbT HS10.out BN10.out (by decide)))⟩
      case measure => simp [intOf]; omega
  · obtain rfl : k = 0 := by omega
    clear HID
    go_wp2_with fail
    refine (one_any g a2 24 _ HC4.out (by omega) (by omega) (by omega)).mono ?_
    rintro e w5 ⟨b, a5, rfl, ha5, hc, hg'⟩
    have HC5 := Lib.hid hc
    have HG5 := Lib.hid (HG4.out.trans hg')
    have BS5 := Lib.hid (BS4.out.gr hg' hSg)
    have BN5 := Lib.hid (BN4.out.gr hg' hNg)
    have BR5 := Lib.hid (BR4.out.gr hg' hRg)
    have HA5 := Lib.hid (own_gr HA4.out hg' (Nat.lt_succ_self g))
    have HN5 := Lib.hid (own_gr HN4.out hg' (Nat.lt_succ_self g))
    have HS5 := Lib.hid (own_gr HS4.out hg' (Nat.lt_succ_self g))
    clear hc hg' HC4 HG4 BS4 BN4 BR4 HA4 HN4 HS4
    cases b
    · have HX9 := HX
      obtain ⟨s0, s1, s2, s3⟩ := BS5.out.q4
      have ls := BS5.out.lt
      obtain ⟨r0, r1, r2, r3⟩ := BR5.out.q4
      have lr := BR5.out.lt
      obtain ⟨y0, y1, y2, y3⟩ := BR5.out.z4
      go_wp2
      refine bodyPost_ret (v := .tuple #[schV D A l.length c P Q, .slice B m cb]) (by simp [results, Try.results12, go_sem, *]) rfl ?_
      have hL := HL.out
      subst hL
      exact ⟨D, P, Q, l, A, c, xs, B, cb, rfl, hl9, by omega, fun x hx => by have := HX9.out x hx; omega, m4_own (own_base HA5.out (by omega)) (own_nbT HA5.out BR5.out (by decide)), m4_own (own_base HS5.out (by omega)) (own_nbT HS5.out BR5.out (by decide)), m4_below (Gr.below (ext_refl w) HG5.out (by omega)) (Nat.le_refl _)⟩
    · go_wp2_with fail
      go_loopw [6] (fun v wr => ∃ (m cb a2 : Nat) (B : Option Addr) (xs : List R3), v = .slice B m cb ∧ m ≤ 41 ∧ a2 ≤ 2000 + 2 * m ∧ Hid (xs.length = m) ∧ Hid (∀ x ∈ xs, x.c ≤ 4001) ∧ Hid (CurAt wr g a2) ∧ Hid (Gr g w wr) ∧ Hid (Blk wr NS 26 #[.int .i64 D, .slice A l.length c, .int .i64 P, .int .i64 Q]) ∧ Hid (Blk wr NW 26 #[.int .i64 Dn, .slice An Ln.length cn, .int .i64 Pn, .int .i64 Qn]) ∧ Hid (Blk wr w.heap.size 26 #[.int .i64 0, .slice none 0 0, .int .i64 0, .int .i64 0]) ∧ Hid (wr.ownsRow (g + 1) 55 5 (.slice A l.length c) l.length (rowsV l)) ∧ Hid (wr.ownsRow (g + 1) 55 5 (.slice An Ln.length cn) Ln.length (rowsV Ln)) ∧ Hid (wr.ownsRow (g + 1) 28 3 (.slice B m cb) m (rowsV3 xs))) (fun v _ => 41 - lenW v)
      case atStart => exact ⟨m, cb, a5, B, xs, rfl, by omega, by omega, HL, HX, HC5, HG5, BS5, BN5, BR5, HA5, HN5, HS5⟩
      case round =>
       clear HL HX HC5 HG5 BS5 BN5 BR5 HA5 HN5 HS5 ha2 ha5 hmk
       obtain ⟨m, cb, a2, B, xs, rfl, hm, ha2, HL, HX, HC6, HG6, BS6, BN6, BR6, HA6, HN6, HS6⟩ := hrel
       go_wp2_with fail
       refine (pick_any g a2 2 _ HC6.out (by omega) (by omega) (by omega)).mono ?_
       rintro e w7 ⟨z, a7, rfl, zz0, zz1, ha7, hc, hg'⟩
       have HC7 := Lib.hid hc
       have HG7 := Lib.hid (HG6.out.trans hg')
       have BS7 := Lib.hid (BS6.out.gr hg' hSg)
       have BN7 := Lib.hid (BN6.out.gr hg' hNg)
       have BR7 := Lib.hid (BR6.out.gr hg' hRg)
       have HA7 := Lib.hid (own_gr HA6.out hg' (Nat.lt_succ_self g))
       have HN7 := Lib.hid (own_gr HN6.out hg' (Nat.lt_succ_self g))
       have HS7 := Lib.hid (own_gr HS6.out hg' (Nat.lt_succ_self g))
       clear hc hg' HC6 HG6 BS6 BN6 BR6 HA6 HN6 HS6
       by_cases hlt : (m : Int) < 40 + z
       · have e2 : decide ((m : Int) < 40 + z) = true := by simpa using hlt
         have hbV := HC7.out.lt
         have m1 : m + 1 ≤ maxLen := by unfold maxLen; omega
         have m2 : (m + 1) * 24 ≤ 140737488355328 := by omega
         go_wp2_with (at_builtin; refine wpList_appO rfl (.tmp 48) (.tmp 50) 37 rfl (g + 1) 28 i0 _ 3 24 Try.underlying37 hi hz0 hz1 hz2 rfl (by decide) (.slice B m cb) m (rowsV3 xs) rfl (HS7.out.alloc (.cells #[.int .i64 1, .int .i64 0, .int .i64 1] 28)) (some ⟨w7.heap.size, 0, none⟩) 1 1 [.int .i64 1, .int .i64 0, .int .i64 1] rfl (g + 1) (lit_ownW (B := g + 1) w7 28 3 [.int .i64 1, .int .i64 0, .int .i64 1] rfl hbV (by rfl)) (ints_oneW [1, 0, 1]) m1 m2 (Nat.le_trans hbV (by simp)) ?_; intro B4 cb4 w8 hown hgrow; have HGR := Lib.hid hgrow; have HOW := Lib.hid hown; clear hown hgrow)
         have hrow : ∀ b9, Value.ownBlock (.slice B m cb) = some b9 → g + 1 ≤ b9 := fun b9 e9 => (HS7.out.lt _ e9).1
         have HC8 := Lib.hid ((HC7.out.ext (ext_alloc (ext_refl _) (.cells #[.int .i64 1, .int .i64 0, .int .i64 1] 28))).grown HGR.out (fun b9 e9 => Nat.lt_of_lt_of_le (Nat.lt_succ_self g) (hrow b9 e9)))
         have HG8 := Lib.hid ((HG7.out.trans (Gr.alloc _ _ (.cells #[.int .i64 1, .int .i64 0, .int .i64 1] 28))).grown HGR.out (fun b9 e9 => Nat.le_trans (by omega) (hrow b9 e9)))
         have BS8 := Lib.hid ((BS7.out.al (.cells #[.int .i64 1, .int .i64 0, .int .i64 1] 28)).grownF HGR.out (own_nbT HS7.out BS7.out (by decide)))
         have BN8 := Lib.hid ((BN7.out.al (.cells #[.int .i64 1, .int .i64 0, .int .i64 1] 28)).grownF HGR.out (own_nbT HS7.out BN7.out (by decide)))
         have BR8 := Lib.hid ((BR7.out.al (.cells #[.int .i64 1, .int .i64 0, .int .i64 1] 28)).grownF HGR.out (own_nbT HS7.out BR7.out (by decide)))
         have HA8 := Lib.hid ((HA7.out.alloc (.cells #[.int .i64 1, .int .i64 0, .int .i64 1] 28)).kept HGR.out (own_neT HA7.out HS7.out (by decide)))
         have HN8 := Lib.hid ((HN7.out.alloc (.cells #[.int .i64 1, .int .i64 0, .int .i64 1] 28)).kept HGR.out (own_neT HN7.out HS7.out (by decide)))
         have HS8 := Lib.hid (show w8.ownsRow (g + 1) 28 3 (.slice B4 (m + 1) cb4) (m + 1) (rowsV3 (xs ++ [⟨1, 0, 1⟩])) by have h9 := HOW.out; simpa [rowsV3, R3.cells] using h9)
         have HL8 := Lib.hid (show (xs ++ [(⟨1, 0, 1⟩ : R3)]).length = m + 1 by rw [List.length_append, HL.out]; rfl)
         have HX8 := Lib.hid (show ∀ x ∈ xs ++ [(⟨1, 0, 1⟩ : R3)], x.c ≤ 4001 from fun x hx => by
          rcases List.mem_append.1 hx with h | h
          · exact HX.out x h
          · obtain rfl := List.mem_singleton.1 h
            dsimp only
            omega)
         clear hrow HGR HOW hbV m1 m2 HC7 HG7 BS7 BN7 BR7 HA7 HN7 HS7
         go_wp2
         go_roundw
         case rel => exact ⟨m + 1, cb4, a7, B4, xs ++ [⟨1, 0, 1⟩], rfl, by omega, by omega, HL8, HX8, HC8, HG8, BS8, BN8, BR8, HA8, HN8, HS8⟩
         case measure => simp [lenW]; omega
       · have HX9 := HX
         obtain ⟨s0, s1, s2, s3⟩ := BS7.out.q4
         have ls := BS7.out.lt
         obtain ⟨r0, r1, r2, r3⟩ := BR7.out.q4
         have lr := BR7.out.lt
         obtain ⟨y0, y1, y2, y3⟩ := BR7.out.z4
         go_wp2
         refine bodyPost_ret (v := .tuple #[schV D A l.length c P Q, .slice B m cb]) (by simp [results, Try.results12, go_sem, *]) rfl ?_
         have hL := HL.out
         subst hL
         exact ⟨D, P, Q, l, A, c, xs, B, cb, rfl, hl9, by omega, fun x hx => by have := HX9.out x hx; omega, m4_own (own_base HA7.out (by omega)) (own_nbT HA7.out BR7.out (by decide)), m4_own (own_base HS7.out (by omega)) (own_nbT HS7.out BR7.out (by decide)), m4_below (Gr.below (ext_refl w) HG7.out (by omega)) (Nat.le_refl _)⟩

end Go.Proofs.Ytkcbgiegoadkbaa
