/- The drawing of schools. -/
import Derived.Deep.AppendLies
import Derived.Test.YtkcbgiegoadkbaaGreatVM1
import Derived.Test.YtkcbgiegoadkbaaGreatVCurS
import Derived.Test.YtkcbgiegoadkbaaGreatVM3
import Derived.Test.YtkcbgiegoadkbaaGreatVM7
namespace Go.Proofs.YtkcbgiegoadkbaaGreat
open Go.RowKit
set_option linter.unusedVariables false
set_option linter.unusedSimpArgs false
/-- a school is drawn -/
def DrawSch (g a K : Nat) (w : World) (e : Ending) (w' : World) : Prop := ∃ (D P Q : Int) (l : List R5) (A : Option Addr) (c a' : Nat), e = .returned (schV D A l.length c P Q) ∧ l.length ≤ 9 ∧ (∀ r ∈ l, 0 ≤ r.a ∧ r.a ≤ 100) ∧ w'.ownsRow (g + 1) 111 5 (.slice A l.length c) l.length (rowsV l) ∧ a' ≤ a + K ∧ CurAt w' g a' ∧ Gr g w w'
theorem step_ok {day pa le : Int} {l : List R5} {k id v : Int} {s : Sch4} (h : stpB day pa le l k id v = some s) : schB s.1 s.2.1 s.2.2.1 s.2.2.2 = true := by
 unfold stpB at h
 split at h
 · unfold stepS at h
   rcases ht : tryS day pa le l k id v with _ | y
   · rw [ht] at h; cases h
   · rw [ht, Option.filter_some] at h
     split at h
     · rename_i h2; injection h with h; subst h; exact h2
     · cases h
 · cases h
def RetAny (w : World) (e : Ending) (w' : World) : Prop :=
 ∃ (Dn Pn Qn : Int) (L : List R5) (ok : Bool) (An : Option Addr) (cn : Nat), e = .returned (.tuple #[schV Dn An L.length cn Pn Qn, .bool ok]) ∧ Hid (ok = true → L.length ≤ 8 ∧ ∀ r ∈ L, 0 ≤ r.a ∧ r.a ≤ 100) ∧ w'.ownsRow w.heap.size 111 5 (.slice An L.length cn) L.length (rowsV L) ∧ Below w.heap.size w w'
theorem retAny (day pa le : Int) (l : List R5) (k id v : Int) (w : World) (e : Ending) (w' : World) (h : RetStp day pa le l k id v w e w') : RetAny w e w' := by
 obtain ⟨A, c, h1, h2, h3⟩ := retUni (stpB day pa le l k id v) w e w' h
 refine ⟨_, _, _, _, _, A, c, h1, Lib.hid fun hok => ?_, h2, h3⟩
 rcases hs : stpB day pa le l k id v with _ | ⟨D', L', P', Q'⟩
 · rw [hs] at hok; cases hok
 · have hsch := step_ok hs
   exact ⟨schB_len hsch, fun r hr => by have := (stu_bounds (schB_mem hsch hr)).1; omega⟩
theorem le_id2 {a b : Nat} (h : a < b) : a < b := h
theorem own_old {w : World} {B E s n b : Nat} {v : Value} {xs : List Value} (h : w.ownsRow B E s v n xs) (hb : w.heap.size ≤ b) : v.ownBlock ≠ some b := by
 intro e
 have := (h.lt b e).2
 omega
def cn (listed : Array Bool) : Nat := (listed.getD 4 false).toNat + (listed.getD 7 false).toNat + (listed.getD 10 false).toNat + (listed.getD 13 false).toNat
theorem cn_one {listed : Array Bool} {i j : Nat} : (listed.getD j false).toNat ≤ ((listed.setIfInBounds i true).getD j false).toNat := by
 by_cases e : i = j
 · subst e
   rcases hb : listed.getD i false with _ | _
   · simp
   · rw [getD_set_true hb]; simp
 · rw [getD_set_ne false e]; exact Nat.le_refl _
theorem cn_mono (listed : Array Bool) (i : Nat) : cn listed ≤ cn (listed.setIfInBounds i true) := by
 have h1 := cn_one (listed := listed) (i := i) (j := 4)
 have h2 := cn_one (listed := listed) (i := i) (j := 7)
 have h3 := cn_one (listed := listed) (i := i) (j := 10)
 have h4 := cn_one (listed := listed) (i := i) (j := 13)
 unfold cn; omega
theorem cn_le (listed : Array Bool) : cn listed ≤ 4 := by
 have h : ∀ b : Bool, b.toNat ≤ 1 := fun b => by cases b <;> simp
 have h1 := h (listed.getD 4 false)
 have h2 := h (listed.getD 7 false)
 have h3 := h (listed.getD 10 false)
 have h4 := h (listed.getD 13 false)
 unfold cn; omega
theorem cn_call {listed : Array Bool} {i : Nat} (hn : ¬ lst listed i) (hsz : i < listed.size) (hi : i = 4 ∨ i = 7 ∨ i = 10 ∨ i = 13) : cn listed + 1 ≤ cn (listed.setIfInBounds i true) := by
 have h0 : (listed.getD i false).toNat = 0 := by
  unfold lst at hn
  rcases hb : listed.getD i false with _ | _
  · rfl
  · exact absurd hb hn
 have h9 : ((listed.setIfInBounds i true).getD i false).toNat = 1 := by
  have : (listed.setIfInBounds i true).getD i false = true := lst_set.2 (.inl ⟨rfl, hsz⟩)
  rw [this]; rfl
 have h1 := cn_one (listed := listed) (i := i) (j := 4)
 have h2 := cn_one (listed := listed) (i := i) (j := 7)
 have h3 := cn_one (listed := listed) (i := i) (j := 10)
 have h4 := cn_one (listed := listed) (i := i) (j := 13)
 unfold cn
 rcases hi with rfl | rfl | rfl | rfl <;> omega
/-- what the region that appends a student knows of each slot -/
def GP (g S : Nat) (A : Option Addr) (n c : Nat) : Nat → Value → World → Prop
 | 0, v, _ => v = .pointer (some ⟨S, 1, none⟩)
 | 1, v, _ => v = .slice A n c
 | 2, v, _ | 5, v, _ | 8, v, _ | 11, v, _ => v = .pointer (some ⟨g, 0, none⟩)
 | 3, v, w => ∃ x, v = .slice (some ⟨x, 0, none⟩) 3 3 ∧ AllAt w g (some ⟨x, 0, none⟩) 3 (IntIn 0 99)
 | 6, v, w => ∃ x, v = .slice (some ⟨x, 0, none⟩) 3 3 ∧ AllAt w g (some ⟨x, 0, none⟩) 3 (IntIn 0 11)
 | 9, v, w => ∃ x, v = .slice (some ⟨x, 0, none⟩) 2 2 ∧ AllAt w g (some ⟨x, 0, none⟩) 2 (IntIn 0 1000)
 | 12, v, w => ∃ x, v = .slice (some ⟨x, 0, none⟩) 2 2 ∧ AllAt w g (some ⟨x, 0, none⟩) 2 (IntIn 0 10)
 | 4, v, _ => ∃ z, v = .int .i64 z ∧ 0 ≤ z ∧ z ≤ 99
 | 7, v, _ | 10, v, _ | 13, v, _ => ∃ z, v = .int .i64 z
 | 14, v, _ => ∃ z1 z2 z3 z4 : Int, v = .agg #[.int .i64 z1, .int .i64 z2, .int .i64 z3, .int .i64 0, .int .i64 z4] ∧ 0 ≤ z1 ∧ z1 ≤ 99
 | 15, v, w => ∃ x z1 z2 z3 z4, v = .slice (some ⟨x, 0, none⟩) 1 1 ∧ x ≠ g ∧ Blk w x 111 #[.int .i64 z1, .int .i64 z2, .int .i64 z3, .int .i64 0, .int .i64 z4] ∧ 0 ≤ z1 ∧ z1 ≤ 99
 | _, _, _ => True
theorem GP.gr {g S : Nat} {A : Option Addr} {n c j : Nat} {v : Value} {w w' : World} (h : GP g S A n c j v w) (hg : Gr g w w') : GP g S A n c j v w' := by
 unfold GP at h ⊢
 split <;> simp only [] at h ⊢
 all_goals first
  | exact h
  | (obtain ⟨x, h1, h2⟩ := h; exact ⟨x, h1, h2.gr hg⟩)
  | (obtain ⟨x, z1, z2, z3, z4, h1, h2, h3, h4⟩ := h; exact ⟨x, z1, z2, z3, z4, h1, h2, h3.gr hg h2, h4⟩)
set_option maxRecDepth 100000 in
set_option maxHeartbeats 4000000 in
theorem school_any (g a : Nat) (w : World) (h : CurAt w g a) (ha : a ≤ 500000000000) :
 Calls Tryz.prog 50 #[.pointer (some ⟨g, 0, none⟩)] w (DrawSch g a 650 w) := by
 have hlt := h.lt
 have H := Lib.hid h
 have HST := Lib.hid (fun D P Q k id v A n c l (w : World) hn hnc hA h => (specStep_any D P Q k id v A n c l w hn hnc hA h).mono (retAny D P Q l k id v w))
 obtain ⟨i0, hi, hz0, hz1, hz2⟩ := info_parts info_stu
 have HZ0 := Lib.hid hz0
 have HZ1 := Lib.hid hz1
 have HZ2 := Lib.hid hz2
 clear hz0 hz1 hz2
 clear h
 go_enter Tryz.func50, Tryz.ntmps50
 go_wp2_with fail
 refine (among_lit g a (0) 3990 [0, 0, 100, 3990] 3 _ (H.out.ext (ext_alloc (ext_refl _) _)) (by omega) (by decide) (by decide) (by decide) _ rfl (by simp)).mono ?_
 rintro e w1 ⟨d0, a1, rfl, d00, d01, ha1, hc, hg⟩
 have C1 := Lib.hid hc
 have G1 : Hid (Gr g w w1) := Lib.hid ((Gr.of_ext (ext_alloc (ext_refl w) _)).trans hg)
 have BR1 : Hid (Blk w1 w.heap.size 32 #[.int .i64 0, .slice none 0 0, .int .i64 0, .int .i64 0]) := Lib.hid ((Blk.new w _ _).gr hg (by omega))
 have sR1 := BR1.out.lt
 clear hc hg
 have HNS := Lib.hid (fun (w : World) => specNewSchool_any d0 w)
 unfold RetNew at HNS
 obtain ⟨D0, hD0⟩ : ∃ D, newD d0 = D := ⟨_, rfl⟩
 rw [hD0] at HNS
 clear hD0
 go_wp2_with fail
 refine (HNS.out _).mono ?_
 rintro e w2 ⟨A0, c0, rfl, ho, _, hb⟩
 have C2 := Lib.hid (C1.out.ext hb)
 have G2 := Lib.hid (G1.out.trans (Gr.of_ext hb))
 have BR2 := Lib.hid (BR1.out.ext hb)
 have O2 := Lib.hid (own_base (base' := w.heap.size) ho (by omega))
 have s12 := hb.size
 clear ho hb C1 G1 BR1
 go_wp2_with fail
 refine (pick_any g a1 32 _ (C2.out.ext (ext_alloc (ext_refl _) _)) (by omega) (by omega) (by omega)).mono ?_
 rintro e w3 ⟨q, a2, rfl, q0, q1, ha2, hc, hg⟩
 obtain ⟨n, rfl⟩ := Int.eq_ofNat_of_zero_le q0
 have C3 := Lib.hid hc
 have G3 := Lib.hid ((G2.out.trans (Gr.of_ext (ext_alloc (ext_refl _) _))).trans hg)
 have BR3 := Lib.hid ((BR2.out.ext (ext_alloc (ext_refl _) _)).gr hg (by omega))
 have BS3 : Hid (Blk w3 w2.heap.size 32 #[.int .i64 D0, .slice A0 0 c0, .int .i64 0, .int .i64 0]) := Lib.hid ((Blk.new w2 _ _).gr hg (by omega))
 have O3 := Lib.hid (own_gr (own_ext O2.out (ext_alloc (ext_refl _) _)) hg hlt)
 clear hc hg C2 G2 BR2 O2
 go_wp2_with fail
 go_loopw [5] (fun i wr => ∃ (m : Nat) (D P Q : Int) (l : List R5) (A : Option Addr) (c a2 : Nat), i = .int .i64 m ∧ m ≤ 31 ∧ l.length ≤ 8 ∧ Hid (∀ r ∈ l, 0 ≤ r.a ∧ r.a ≤ 100) ∧ a2 + m * 20 ≤ a + 640 ∧ Hid (Blk wr w.heap.size 32 #[.int .i64 0, .slice none 0 0, .int .i64 0, .int .i64 0]) ∧ Hid (Blk wr w2.heap.size 32 #[.int .i64 D, .slice A l.length c, .int .i64 P, .int .i64 Q]) ∧ Hid (wr.ownsRow w.heap.size 111 5 (.slice A l.length c) l.length (rowsV l)) ∧ Hid (CurAt wr g a2) ∧ Hid (Gr g w wr)) (fun i _ => (intOf i).toNat)
 case atStart => exact ⟨n, D0, 0, 0, [], A0, c0, a2, rfl, by omega, by simp, Lib.hid (by simp), by omega, BR3, BS3, O3, C3, G3⟩
 case round =>
  clear C3 G3 BR3 BS3 O3
  obtain ⟨m, D, P, Q, l, A, c, a2, rfl, hm, hl8, HID, ha2, BR, BS, HO, HC, HG⟩ := hrel
  have sR := BR.out.lt
  have sS := BS.out.lt
  obtain ⟨s0, s1, s2, s3⟩ := BS.out.q4
  obtain ⟨fs0, fs1, fs2, fs3⟩ := BS.out.z4
  have hncap := own_cap3 HO.out
  have hsl := slOk_own HO.out
  have hneS := Lib.hid (own_nb HO.out BS.out (by decide))
  have hneR := Lib.hid (own_nb HO.out BR.out (by decide))
  by_cases hm0 : 0 < m
  · go_upto_region 5 with fail
    go_cut [6, 7] (fun s6 s7 wx => ∃ (G6 : Nat) (Dn Pn Qn : Int) (L : List R5) (ok : Bool) (An : Option Addr) (cn a3 : Nat), s6 = .pointer (some ⟨G6, 0, none⟩) ∧ s7 = .bool ok ∧ w2.heap.size < G6 ∧ (ok = true → L.length ≤ 8 ∧ (∀ r ∈ L, 0 ≤ r.a ∧ r.a ≤ 100)) ∧ a3 ≤ a2 + 20 ∧ Hid (Blk wx G6 32 #[.int .i64 Dn, .slice An L.length cn, .int .i64 Pn, .int .i64 Qn]) ∧ Hid (wx.ownsRow w.heap.size 111 5 (.slice An L.length cn) L.length (rowsV L)) ∧ Hid (CurAt wx g a3) ∧ Hid (Gr g w wx) ∧ Hid (Blk wx w.heap.size 32 #[.int .i64 0, .slice none 0 0, .int .i64 0, .int .i64 0]) ∧ Hid (Blk wx w2.heap.size 32 #[.int .i64 D, .slice A l.length c, .int .i64 P, .int .i64 Q]) ∧ Hid (wx.ownsRow w.heap.size 111 5 (.slice A l.length c) l.length (rowsV l)))
    case first =>
     go_region_held3 (fun w' => w'.cell? ⟨w2.heap.size, 0, none⟩ = some (.int .i64 D) ∧ w'.cell? ⟨w2.heap.size, 1, none⟩ = some (.slice A l.length c) ∧ w'.cell? ⟨w2.heap.size, 2, none⟩ = some (.int .i64 P) ∧ w'.cell? ⟨w2.heap.size, 3, none⟩ = some (.int .i64 Q)) (first | (go_split_ands; ((repeat' refine And.intro ?_ ?_) <;> with_reducible (repeat (first | assumption | refine cell_drew ?_ | refine cell_old ?_ _ | refine cell_set_far (by first | (show wr.heap.size ≠ w2.heap.size; omega) | (show w5.heap.size ≠ w2.heap.size; omega)) ?_))))) (first | (go_at_call 44; refine (schoolStep_any g a2 D P Q A l.length c l wr.drew (HC.out.ext (w := wr) (ext_drew (ext_refl _))) (by omega) (by omega) (own_base (base' := g + 1) (own_ext (w := wr) HO.out (ext_drew (ext_refl _))) (by omega)) HID.out).mono ?_; rintro e w5 ⟨kk, id, v, a3, rfl, _, _, _, ha3, hc5, hg5⟩; have hgW : Gr g wr w5 := Gr.trans (Gr.of_ext (ext_drew (ext_refl _))) hg5; have BS5 := BS.out.gr hgW (by omega); have zr5 := hgW.size; obtain ⟨x0, x1, x2, x3⟩ := BS5.q4; obtain ⟨fx0, fx1, fx2, fx3⟩ := BS5.z4; have HS5 := Lib.hid BS5; clear BS5) | (go_at_call 44; refine (schoolStep_any g a2 D P Q A l.length c l (wr.drew.alloc (.cells #[.int .i64 0, .slice none 0 0, .int .i64 0, .int .i64 0] 32)) (HC.out.ext (w := wr) (ext_alloc (ext_drew (ext_refl _)) _)) (by omega) (by omega) (own_base (base' := g + 1) (own_ext (w := wr) HO.out (ext_alloc (ext_drew (ext_refl _)) _)) (by omega)) HID.out).mono ?_; rintro e w5 ⟨kk, id, v, a3, rfl, _, _, _, ha3, hc5, hg5⟩; have hgW : Gr g wr w5 := Gr.trans (Gr.of_ext (ext_alloc (ext_drew (ext_refl _)) _)) hg5; have BS5 := BS.out.gr hgW (by omega); have zr5 := hgW.size; obtain ⟨x0, x1, x2, x3⟩ := BS5.q4; obtain ⟨fx0, fx1, fx2, fx3⟩ := BS5.z4; have HS5 := Lib.hid BS5; clear BS5; have BN5 : Blk w5 wr.heap.size 32 #[.int .i64 0, .slice none 0 0, .int .i64 0, .int .i64 0] := Blk.gr (Blk.new wr.drew #[.int .i64 0, .slice none 0 0, .int .i64 0, .int .i64 0] 32) hg5 (by omega); have zN5 := BN5.lt) | (go_at_call 44; refine (schoolStep_any g a2 D P Q A l.length c l (wr.alloc (.cells #[.int .i64 0, .slice none 0 0, .int .i64 0, .int .i64 0] 32)).drew (HC.out.ext (w := wr) (ext_drew (ext_alloc (ext_refl _) _))) (by omega) (by omega) (own_base (base' := g + 1) (own_ext (w := wr) HO.out (ext_drew (ext_alloc (ext_refl _) _))) (by omega)) HID.out).mono ?_; rintro e w5 ⟨kk, id, v, a3, rfl, _, _, _, ha3, hc5, hg5⟩; have hgW : Gr g wr w5 := Gr.trans (Gr.of_ext (ext_drew (ext_alloc (ext_refl _) _))) hg5; have BS5 := BS.out.gr hgW (by omega); have zr5 := hgW.size; obtain ⟨x0, x1, x2, x3⟩ := BS5.q4; obtain ⟨fx0, fx1, fx2, fx3⟩ := BS5.z4; have HS5 := Lib.hid BS5; clear BS5; have BN5 : Blk w5 wr.heap.size 32 #[.int .i64 0, .slice none 0 0, .int .i64 0, .int .i64 0] := Blk.gr ((Blk.new wr #[.int .i64 0, .slice none 0 0, .int .i64 0, .int .i64 0] 32).ext (ext_drew (ext_refl _))) hg5 (by omega); have zN5 := BN5.lt) | (go_at_call 79; have BN6q := BN5; refine (HST.out D P Q kk id v A l.length c l w5 (by omega) hncap hsl (Reads.of_own (own_ext (w := w5) (own_gr HO.out hgW hlt) (ext_refl _)))).mono ?_; rintro e w6 ⟨Dn, Pn, Qn, L, ok, An, cn, rfl, hok6, ho6, hb6⟩; have e6 : Below w5.heap.size w5 w6 := ext_trans (ext_refl _) hb6; have T6x := HS5.out.ext e6; obtain ⟨y0, y1, y2, y3⟩ := T6x.q4; have BN6 := BN6q.ext hb6; obtain ⟨n0, n1, n2, n3⟩ := BN6.q4; obtain ⟨m0, m1, m2, m3⟩ := BN6.z4; have zN := BN6.lt; have BN7 := Lib.hid BN6; clear BN6) | (go_at_call 79; refine (HST.out D P Q kk id v A l.length c l w5 (by omega) hncap hsl (Reads.of_own (own_ext (w := w5) (own_gr HO.out hgW hlt) (ext_refl _)))).mono ?_; rintro e w6 ⟨Dn, Pn, Qn, L, ok, An, cn, rfl, hok6, ho6, hb6⟩; have e6 : Below w5.heap.size w5 w6 := ext_trans (ext_refl _) hb6; have T6x := HS5.out.ext e6; obtain ⟨y0, y1, y2, y3⟩ := T6x.q4; skip) | (go_at_call 79; refine (HST.out D P Q kk id v A l.length c l (w5.alloc (.cells #[.int .i64 0, .slice none 0 0, .int .i64 0, .int .i64 0] 32)) (by omega) hncap hsl (Reads.of_own (own_ext (w := w5) (own_gr HO.out hgW hlt) (ext_alloc (ext_refl _) _)))).mono ?_; rintro e w6 ⟨Dn, Pn, Qn, L, ok, An, cn, rfl, hok6, ho6, hb6⟩; have e6 : Below w5.heap.size w5 w6 := ext_trans (ext_alloc (ext_refl _) _) hb6; have T6x := HS5.out.ext e6; obtain ⟨y0, y1, y2, y3⟩ := T6x.q4; have BN6 : Blk w6 w5.heap.size 32 #[.int .i64 0, .slice none 0 0, .int .i64 0, .int .i64 0] := (Blk.new w5 #[.int .i64 0, .slice none 0 0, .int .i64 0, .int .i64 0] 32).ext hb6; obtain ⟨n0, n1, n2, n3⟩ := BN6.q4; obtain ⟨m0, m1, m2, m3⟩ := BN6.z4; have zN := BN6.lt; have BN7 := Lib.hid BN6; clear BN6))
     all_goals (go_wp2_with fail; go_meet)
     all_goals
      have zb := e6.size
      have zS5 := HS5.out.lt
      have C6 := hc5.ext e6
      have G6 := (HG.out.trans hgW).trans (Gr.of_ext e6)
      have R6 := (BR.out.gr hgW (by omega)).ext e6
      have T6 := HS5.out.ext e6
      have Q6 := own_ext (own_gr HO.out hgW hlt) e6
      refine ⟨_, Dn, Pn, Qn, L, ok, An, cn, a3, rfl, rfl, ?_, hok6.out, by omega, ?_, ?_, ?_, ?_, ?_, ?_, ?_⟩
      · first | (with_reducible refine le_id2 ?_; first | (show w2.heap.size < wr.heap.size; omega) | (show w2.heap.size < w5.heap.size; omega) | (show w2.heap.size < w6.heap.size; omega))
      · first
         | (with_reducible exact Lib.hid (Blk.new _ _ _))
         | (refine Lib.hid ?_
            have := ((((BN7.out.set_ 0 (.int .i64 Dn)).set_ 1 (.slice An L.length cn)).set_ 2 (.int .i64 Pn)).set_ 3 (.int .i64 Qn))
            simpa using this)
      · first
         | (with_reducible exact Lib.hid (own_base (World.ownsRow.alloc ho6 _) (by omega)))
         | (have hne4 := Lib.hid (own_far_lt (b := wr.heap.size) ho6 (by first | omega | (simp; done) | (simp; omega)))
            refine Lib.hid ?_
            iterate 4 with_reducible refine own_set_nb ?_ hne4.out _
            exact own_base ho6 (by first | omega | (simp; done) | (simp; omega)))
         | (have hne4 := Lib.hid (own_far_lt (b := w5.heap.size) ho6 (by first | omega | (simp; done) | (simp; omega)))
            refine Lib.hid ?_
            iterate 4 with_reducible refine own_set_nb ?_ hne4.out _
            exact own_base ho6 (by first | omega | (simp; done) | (simp; omega)))
      · exact Lib.hid (by first | (with_reducible exact C6.ext (ext_alloc (ext_refl _) _)) | ((iterate 4 (refine CurAt.far ?_ (by first | (show g < wr.heap.size; omega) | (show g < w5.heap.size; omega)) _)); exact C6))
      · exact Lib.hid (by first | (with_reducible exact G6.trans (Gr.of_ext (ext_alloc (ext_refl _) _))) | ((iterate 4 (refine Gr.setNew ?_ (by first | (show w.heap.size ≤ wr.heap.size; omega) | (show w.heap.size ≤ w5.heap.size; omega)) _)); exact G6))
      · exact Lib.hid (by first | (with_reducible exact R6.ext (ext_alloc (ext_refl _) _)) | ((iterate 4 (refine Blk.far ?_ (by first | (show w.heap.size ≠ wr.heap.size; omega) | (show w.heap.size ≠ w5.heap.size; omega)) _)); exact R6))
      · exact Lib.hid (by first | (with_reducible exact T6.ext (ext_alloc (ext_refl _) _)) | ((iterate 4 (refine Blk.far ?_ (by first | (show w2.heap.size ≠ wr.heap.size; omega) | (show w2.heap.size ≠ w5.heap.size; omega)) _)); exact T6))
      · exact Lib.hid (by first | (with_reducible exact World.ownsRow.alloc Q6 _) | ((iterate 4 (with_reducible refine own_set_nb ?_ (by first | exact own_old HO.out (by first | omega | (simp; done) | (simp; omega)) | exact own_old HO.out (Nat.le_refl _)) _)); exact Q6))
    case rest =>
     clear BR BS HO HC HG s0 fs0 s1 fs1 s2 fs2 s3 fs3
     obtain ⟨G6, Dn, Pn, Qn, L, ok, An, cn, a3, rfl, rfl, hG6, hok, ha3, BN, HON, HC, HG, BR, BS, HO⟩ := hcut
     obtain ⟨w7, hw7⟩ : ∃ w7, w7 = wc := ⟨_, rfl⟩
     subst hw7
     have sR := BR.out.lt
     have sS := BS.out.lt
     have sN := BN.out.lt
     rcases ok with _ | _
     · go_wp2
       go_roundw
       case rel => exact ⟨m - 1, D, P, Q, l, A, c, a3, by go_num, by omega, hl8, HID, by omega, BR, BS, HO, HC, HG⟩
       case measure => simp [intOf]; omega
     · obtain ⟨hL8, hLid⟩ := hok rfl
       have HLI := Lib.hid hLid
       clear hLid hok
       obtain ⟨y0, y1, y2, y3⟩ := BS.out.q4
       obtain ⟨fy0, fy1, fy2, fy3⟩ := BS.out.z4
       obtain ⟨n0, n1, n2, n3⟩ := BN.out.q4
       obtain ⟨fn0, fn1, fn2, fn3⟩ := BN.out.z4
       have hnN := Lib.hid (own_nb HON.out BS.out (by decide))
       go_wp2
       go_roundw
       case rel =>
        refine ⟨m - 1, Dn, Pn, Qn, L, An, cn, a3, by go_num, by omega, hL8, HLI, by omega, ?_, ?_, ?_, ?_, ?_⟩
        · exact Lib.hid ((((BR.out.far (by show w.heap.size ≠ w2.heap.size; omega) _).far (by show w.heap.size ≠ w2.heap.size; omega) _).far (by show w.heap.size ≠ w2.heap.size; omega) _).far (by show w.heap.size ≠ w2.heap.size; omega) _)
        · refine Lib.hid ?_
          have := ((((BS.out.set_ 0 (.int .i64 Dn)).set_ 1 (.slice An L.length cn)).set_ 2 (.int .i64 Pn)).set_ 3 (.int .i64 Qn))
          simpa using this
        · refine Lib.hid ?_
          iterate 4 with_reducible refine own_set_nb ?_ hnN.out _
          exact HON.out
        · exact Lib.hid ((((HC.out.far (by show g < w2.heap.size; omega) _).far (by show g < w2.heap.size; omega) _).far (by show g < w2.heap.size; omega) _).far (by show g < w2.heap.size; omega) _)
        · exact Lib.hid ((((HG.out.setNew (by show w.heap.size ≤ w2.heap.size; omega) _).setNew (by show w.heap.size ≤ w2.heap.size; omega) _).setNew (by show w.heap.size ≤ w2.heap.size; omega) _).setNew (by show w.heap.size ≤ w2.heap.size; omega) _)
       case measure => simp [intOf]; omega
  · obtain rfl : m = 0 := by omega
    have BR9 := BR
    have BS9 := BS
    have HO9 := HO
    have C9 := HC
    have G9 := HG
    clear BR BS HO HC HG
    go_wp2_with fail
    refine (pick_any g a2 32 _ C9.out (by omega) (by omega) (by omega)).mono ?_
    rintro e w10 ⟨q, a10, rfl, q0, q1, ha10, hc, hg⟩
    have C10 := Lib.hid hc
    have G10 := Lib.hid (G9.out.trans hg)
    have HO10 := Lib.hid (own_gr HO9.out hg hlt)
    have BR10 := Lib.hid (BR9.out.gr hg (by omega))
    have BS10 := Lib.hid (BS9.out.gr hg (by omega))
    clear hc hg
    clear s0 fs0 s1 fs1 s2 fs2 s3 fs3 BR9 BS9 HO9 C9 G9
    have sR := BR10.out.lt
    have sS := BS10.out.lt
    rcases (show q = 0 ∨ q = 1 ∨ q = 2 ∨ 3 ≤ q by omega) with rfl | rfl | rfl | hq
    · go_wp2_with fail
      refine (among_lit g a10 (-1) 4001 [-1, 4001, 4000] 3 _ C10.out (by omega) (by decide) (by decide) (by decide) _ rfl (by simp)).mono ?_
      rintro e w11 ⟨v11, a11, rfl, v110, v111, ha11, hc, hg⟩
      have C11 := Lib.hid hc
      have G11 := Lib.hid (G10.out.trans hg)
      have HO11 := Lib.hid (own_gr HO10.out hg hlt)
      have BR11 := Lib.hid (BR10.out.gr hg (by omega))
      have BS11 := Lib.hid (BS10.out.gr hg (by omega))
      clear hc hg
      have sRn := BR11.out.lt
      have sSn := BS11.out.lt
      obtain ⟨r0, r1, r2, r3⟩ := BR11.out.q4
      obtain ⟨fr0, fr1, fr2, fr3⟩ := BR11.out.z4
      obtain ⟨s0, s1, s2, s3⟩ := BS11.out.q4
      obtain ⟨fs0, fs1, fs2, fs3⟩ := BS11.out.z4
      go_wp2
      refine bodyPost_ret (v := schV v11 A l.length c P Q) (by simp [results, Tryz.results50, go_sem, *]) rfl ⟨v11, P, Q, l, A, c, a11, rfl, by omega, HID.out, ?_, by omega, ?_, ?_⟩
      · refine own_base (base := w.heap.size) ?_ (by omega)
        iterate 5 with_reducible refine own_set_nb ?_ (by first | exact hneR.out | exact hneS.out) _
        exact HO11.out
      · exact (by repeat (first | (with_reducible exact C11.out) | (refine CurAt.far ?_ (by first | (show g < w.heap.size; omega) | (show g < w2.heap.size; omega)) _)))
      · exact (by repeat (first | (with_reducible exact G11.out) | (refine Gr.setNew ?_ (by first | exact Nat.le_refl _ | (show w.heap.size ≤ w2.heap.size; omega)) _)))
    · go_upto_region 12 with fail
      have HBS := Lib.hid BS10.out
      refine wp_region_slots (by kernel_rfl) (by kernel_rfl) 41 18 (fun _ => undef) (by kernel_rfl) (fun a0 => a0.eval (.tmp 0) = .pointer (some ⟨g, 0, none⟩) ∧ a0.eval (.tmp 3) = .pointer (some ⟨w2.heap.size, 0, none⟩) ∧ 59 ≤ a0.tmps.size) ⟨by kernel_rfl, by kernel_rfl, by simp⟩ (fun listed vs wx => (¬ lst listed 16 ∧ Gr g w10 wx ∧ (∃ a', a' ≤ a10 + 2 * cn listed ∧ CurAt wx g a') ∧ ∀ j, lst listed j → GP g w2.heap.size A l.length c j (vs j) wx) ∨ (lst listed 16 ∧ ¬ lst listed 18 ∧ (lst listed 17 → vs 17 = .pointer (some ⟨w2.heap.size, 1, none⟩)) ∧ ∃ (A' : Option Addr) (c' : Nat) (r : R5) (a' : Nat), vs 16 = .slice A' (l.length + 1) c' ∧ (0 ≤ r.a ∧ r.a ≤ 100) ∧ a' ≤ a10 + 8 ∧ CurAt wx g a' ∧ Gr g w wx ∧ Blk wx w2.heap.size 32 #[.int .i64 D, .slice A l.length c, .int .i64 P, .int .i64 Q] ∧ Blk wx w.heap.size 32 #[.int .i64 0, .slice none 0 0, .int .i64 0, .int .i64 0] ∧ wx.ownsRow w.heap.size 111 5 (.slice A' (l.length + 1) c') (l.length + 1) (rowsV (l ++ [r]))) ∨ (lst listed 18 ∧ ∃ (A' : Option Addr) (c' : Nat) (r : R5) (a' : Nat), (0 ≤ r.a ∧ r.a ≤ 100) ∧ a' ≤ a10 + 8 ∧ CurAt wx g a' ∧ Gr g w wx ∧ Blk wx w2.heap.size 32 #[.int .i64 D, .slice A' (l.length + 1) c', .int .i64 P, .int .i64 Q] ∧ Blk wx w.heap.size 32 #[.int .i64 0, .slice none 0 0, .int .i64 0, .int .i64 0] ∧ wx.ownsRow w.heap.size 111 5 (.slice A' (l.length + 1) c') (l.length + 1) (rowsV (l ++ [r])))) ?_ ?_ ?_
      · exact .inl ⟨lst_rep, Gr.of_ext (ext_drew (ext_refl _)), ⟨a10, by omega, C10.out.ext (ext_drew (ext_refl _))⟩, fun j hj => absurd hj lst_rep⟩
      · rintro a0 listed vs wx i o ⟨q0, q3, qsz⟩ hJ hcl hil hni ho hdep
        have ch : lst listed 16 → ∀ j, j ≤ 16 → lst listed j := by
         intro h
         have h15 := hcl 16 _ rfl h ⟨15, .data⟩ (by simp) rfl
         have h13 := hcl 16 _ rfl h ⟨13, .chain⟩ (by simp) rfl
         have h1 := hcl 16 _ rfl h ⟨1, .data⟩ (by simp) rfl
         have h0 := hcl 1 _ rfl h1 ⟨0, .data⟩ (by simp) rfl
         have h14 := hcl 15 _ rfl h15 ⟨14, .data⟩ (by simp) rfl
         have h10 := hcl 13 _ rfl h13 ⟨10, .chain⟩ (by simp) rfl
         have h7 := hcl 10 _ rfl h10 ⟨7, .chain⟩ (by simp) rfl
         have h4 := hcl 7 _ rfl h7 ⟨4, .chain⟩ (by simp) rfl
         have h12 := hcl 13 _ rfl h13 ⟨12, .data⟩ (by simp) rfl
         have h11 := hcl 13 _ rfl h13 ⟨11, .data⟩ (by simp) rfl
         have h9 := hcl 10 _ rfl h10 ⟨9, .data⟩ (by simp) rfl
         have h8 := hcl 10 _ rfl h10 ⟨8, .data⟩ (by simp) rfl
         have h6 := hcl 7 _ rfl h7 ⟨6, .data⟩ (by simp) rfl
         have h5 := hcl 7 _ rfl h7 ⟨5, .data⟩ (by simp) rfl
         have h3 := hcl 4 _ rfl h4 ⟨3, .data⟩ (by simp) rfl
         have h2 := hcl 4 _ rfl h4 ⟨2, .data⟩ (by simp) rfl
         intro j hj
         rcases (show j = 0 ∨ j = 1 ∨ j = 2 ∨ j = 3 ∨ j = 4 ∨ j = 5 ∨ j = 6 ∨ j = 7 ∨ j = 8 ∨ j = 9 ∨ j = 10 ∨ j = 11 ∨ j = 12 ∨ j = 13 ∨ j = 14 ∨ j = 15 ∨ j = 16 by omega) with rfl | rfl | rfl | rfl | rfl | rfl | rfl | rfl | rfl | rfl | rfl | rfl | rfl | rfl | rfl | rfl | rfl <;> assumption
        have hi19 : i < 19 := by
         rcases Nat.lt_or_ge i 19 with h | h
         · exact h
         · rw [Array.getElem?_eq_none (by simpa using h)] at ho; cases ho
        have CL17 : Hid (lst listed 17 → lst listed 16) := Lib.hid (fun h => hcl 17 _ rfl h ⟨16, .phase⟩ (by simp) rfl)
        have CL18 : Hid (lst listed 18 → lst listed 16) := Lib.hid (fun h => hcl 18 _ rfl h ⟨16, .data⟩ (by simp) rfl)
        have all : lst listed 18 → ∀ j, j < 19 → lst listed j := by
         intro h j hj
         have h17 := hcl 18 _ rfl h ⟨17, .data⟩ (by simp) rfl
         rcases (show j ≤ 16 ∨ j = 17 ∨ j = 18 by omega) with h2 | rfl | rfl
         · exact ch (CL18.out h) j h2
         · exact h17
         · exact h
        have ALL := Lib.hid all
        clear all
        have CH := Lib.hid ch
        clear ch hcl
        rcases hJ with ⟨n16, hg, ⟨a', ha', hc⟩, hG⟩ | hmid | hfin
        · have hcn := cn_le listed
          have pre : ∀ (i : Nat) (v : Value) (w' : World), i ≠ 16 → Gr g wx w' → (∃ a', a' ≤ a10 + 2 * cn (listed.setIfInBounds i true) ∧ CurAt w' g a') → GP g w2.heap.size A l.length c i v w' → ¬ lst (listed.setIfInBounds i true) 16 ∧ Gr g w10 w' ∧ (∃ a', a' ≤ a10 + 2 * cn (listed.setIfInBounds i true) ∧ CurAt w' g a') ∧ ∀ j, lst (listed.setIfInBounds i true) j → GP g w2.heap.size A l.length c j (upd vs i v j) w' := by
           intro i v w' hi hgr hcu hP
           refine ⟨fun h => ?_, hg.trans hgr, hcu, fun j hj => ?_⟩
           · rcases lst_set.1 h with ⟨h, _⟩ | h
             · exact hi h.symm
             · exact n16 h
           · by_cases e : j = i
             · subst e; rw [upd_same]; exact hP
             · rw [upd_ne _ _ e]
               exact (hG j ((lst_set.1 hj).resolve_left (fun h => e h.1))).gr hgr
          have PRE := Lib.hid pre
          have HG := Lib.hid hG
          have BSx := BS10.out.gr hg (by omega)
          have sSx := BSx.lt
          obtain ⟨x0, x1, x2, x3⟩ := BSx.q4
          obtain ⟨fx0, fx1, fx2, fx3⟩ := BSx.z4
          clear pre hG
          rcases (show i = 0 ∨ i = 1 ∨ i = 2 ∨ i = 3 ∨ i = 4 ∨ i = 5 ∨ i = 6 ∨ i = 7 ∨ i = 8 ∨ i = 9 ∨ i = 10 ∨ i = 11 ∨ i = 12 ∨ i = 13 ∨ i = 14 ∨ i = 15 ∨ i = 16 ∨ i = 17 ∨ i = 18 by omega) with rfl | rfl | rfl | rfl | rfl | rfl | rfl | rfl | rfl | rfl | rfl | rfl | rfl | rfl | rfl | rfl | rfl | rfl | rfl
          · refine wpOp_slots rfl (by decide) qsz (fun b K b0 bk HK HK0 => ?_)
            have p0 := (b0 0 (by decide)).trans q0
            have p3 := (b0 3 (by decide)).trans q3
            clear b0 bk HK0
            go_simp
            exact HK _ _ (.inl (PRE.out 0 _ _ (by decide) (Gr.of_ext (ext_refl _)) ⟨a', by have := cn_mono listed 0; omega, hc⟩ rfl))
          · have e0 : vs 0 = .pointer (some ⟨w2.heap.size, 1, none⟩) := HG.out 0 (by cases ho; exact hdep ⟨0, .data⟩ (by simp) rfl)
            refine wpOp_slots rfl (by decide) qsz (fun b K b0 bk HK HK0 => ?_)
            have p0 := (b0 0 (by decide)).trans q0
            have p3 := (b0 3 (by decide)).trans q3
            have p41 := (bk 0 (by decide)).trans e0
            clear b0 bk HK0
            go_simp
            exact HK _ _ (.inl (PRE.out 1 _ _ (by decide) (Gr.of_ext (ext_refl _)) ⟨a', by have := cn_mono listed 1; omega, hc⟩ rfl))
          · refine wpOp_slots rfl (by decide) qsz (fun b K b0 bk HK HK0 => ?_)
            have p0 := (b0 0 (by decide)).trans q0
            have p3 := (b0 3 (by decide)).trans q3
            clear b0 bk HK0
            go_simp
            exact HK _ _ (.inl (PRE.out 2 _ _ (by decide) (Gr.of_ext (ext_refl _)) ⟨a', by have := cn_mono listed 2; omega, hc⟩ rfl))
          · refine wpOp_slots rfl (by decide) qsz (fun b K b0 bk HK HK0 => ?_)
            have p0 := (b0 0 (by decide)).trans q0
            have p3 := (b0 3 (by decide)).trans q3
            clear b0 bk HK0
            go_simp
            exact HK _ _ (.inl (PRE.out 3 _ _ (by decide) (Gr.of_ext (ext_alloc (ext_refl _) _)) ⟨a', by have := cn_mono listed 3; omega, hc.ext (ext_alloc (ext_refl _) _)⟩ ⟨_, rfl, allAt_lit wx g [.int .i64 0, .int .i64 1, .int .i64 99] 3 rfl hc.lt (IntIn 0 99) (by intro u hu; simp at hu; rcases hu with rfl | rfl | rfl <;> exact ⟨_, rfl, by omega, by omega⟩)⟩))
          · have e0 : vs 2 = .pointer (some ⟨g, 0, none⟩) := HG.out 2 (by cases ho; exact hdep ⟨2, .data⟩ (by simp) rfl)
            obtain ⟨x, e1, hall⟩ : ∃ x, vs 3 = .slice (some ⟨x, 0, none⟩) 3 3 ∧ AllAt wx g (some ⟨x, 0, none⟩) 3 (IntIn 0 99) := HG.out 3 (by cases ho; exact hdep ⟨3, .data⟩ (by simp) rfl)
            refine wpOp_slots rfl (by decide) qsz (fun b K b0 bk HK HK0 => ?_)
            have p0 := (b0 0 (by decide)).trans q0
            have p3 := (b0 3 (by decide)).trans q3
            have pm := (bk 2 (by decide)).trans e0
            have pb := (bk 3 (by decide)).trans e1
            clear b0 bk HK0
            go_simp
            refine (among_any g a' _ 3 3 0 99 wx hc (by omega) (by decide) (by decide) hall).mono ?_
            rintro e w' ⟨z, a2', rfl, hz0, hz1, ha2', hc', hg'⟩
            go_simp
            exact HK _ _ (.inl (PRE.out 4 _ _ (by decide) hg' ⟨a2', by have := cn_call hni hil (by decide : 4 = 4 ∨ 4 = 7 ∨ 4 = 10 ∨ 4 = 13); omega, hc'⟩ ⟨z, rfl, hz0, hz1⟩))
          · refine wpOp_slots rfl (by decide) qsz (fun b K b0 bk HK HK0 => ?_)
            have p0 := (b0 0 (by decide)).trans q0
            have p3 := (b0 3 (by decide)).trans q3
            clear b0 bk HK0
            go_simp
            exact HK _ _ (.inl (PRE.out 5 _ _ (by decide) (Gr.of_ext (ext_refl _)) ⟨a', by have := cn_mono listed 5; omega, hc⟩ rfl))
          · refine wpOp_slots rfl (by decide) qsz (fun b K b0 bk HK HK0 => ?_)
            have p0 := (b0 0 (by decide)).trans q0
            have p3 := (b0 3 (by decide)).trans q3
            clear b0 bk HK0
            go_simp
            exact HK _ _ (.inl (PRE.out 6 _ _ (by decide) (Gr.of_ext (ext_alloc (ext_refl _) _)) ⟨a', by have := cn_mono listed 6; omega, hc.ext (ext_alloc (ext_refl _) _)⟩ ⟨_, rfl, allAt_lit wx g [.int .i64 0, .int .i64 10, .int .i64 11] 3 rfl hc.lt (IntIn 0 11) (by intro u hu; simp at hu; rcases hu with rfl | rfl | rfl <;> exact ⟨_, rfl, by omega, by omega⟩)⟩))
          · have e0 : vs 5 = .pointer (some ⟨g, 0, none⟩) := HG.out 5 (by cases ho; exact hdep ⟨5, .data⟩ (by simp) rfl)
            obtain ⟨x, e1, hall⟩ : ∃ x, vs 6 = .slice (some ⟨x, 0, none⟩) 3 3 ∧ AllAt wx g (some ⟨x, 0, none⟩) 3 (IntIn 0 11) := HG.out 6 (by cases ho; exact hdep ⟨6, .data⟩ (by simp) rfl)
            refine wpOp_slots rfl (by decide) qsz (fun b K b0 bk HK HK0 => ?_)
            have p0 := (b0 0 (by decide)).trans q0
            have p3 := (b0 3 (by decide)).trans q3
            have pm := (bk 5 (by decide)).trans e0
            have pb := (bk 6 (by decide)).trans e1
            clear b0 bk HK0
            go_simp
            refine (among_any g a' _ 3 3 0 11 wx hc (by omega) (by decide) (by decide) hall).mono ?_
            rintro e w' ⟨z, a2', rfl, hz0, hz1, ha2', hc', hg'⟩
            go_simp
            exact HK _ _ (.inl (PRE.out 7 _ _ (by decide) hg' ⟨a2', by have := cn_call hni hil (by decide : 7 = 4 ∨ 7 = 7 ∨ 7 = 10 ∨ 7 = 13); omega, hc'⟩ ⟨z, rfl⟩))
          · refine wpOp_slots rfl (by decide) qsz (fun b K b0 bk HK HK0 => ?_)
            have p0 := (b0 0 (by decide)).trans q0
            have p3 := (b0 3 (by decide)).trans q3
            clear b0 bk HK0
            go_simp
            exact HK _ _ (.inl (PRE.out 8 _ _ (by decide) (Gr.of_ext (ext_refl _)) ⟨a', by have := cn_mono listed 8; omega, hc⟩ rfl))
          · refine wpOp_slots rfl (by decide) qsz (fun b K b0 bk HK HK0 => ?_)
            have p0 := (b0 0 (by decide)).trans q0
            have p3 := (b0 3 (by decide)).trans q3
            clear b0 bk HK0
            go_simp
            exact HK _ _ (.inl (PRE.out 9 _ _ (by decide) (Gr.of_ext (ext_alloc (ext_refl _) _)) ⟨a', by have := cn_mono listed 9; omega, hc.ext (ext_alloc (ext_refl _) _)⟩ ⟨_, rfl, allAt_lit wx g [.int .i64 0, .int .i64 1000] 3 rfl hc.lt (IntIn 0 1000) (by intro u hu; simp at hu; rcases hu with rfl | rfl <;> exact ⟨_, rfl, by omega, by omega⟩)⟩))
          · have e0 : vs 8 = .pointer (some ⟨g, 0, none⟩) := HG.out 8 (by cases ho; exact hdep ⟨8, .data⟩ (by simp) rfl)
            obtain ⟨x, e1, hall⟩ : ∃ x, vs 9 = .slice (some ⟨x, 0, none⟩) 2 2 ∧ AllAt wx g (some ⟨x, 0, none⟩) 2 (IntIn 0 1000) := HG.out 9 (by cases ho; exact hdep ⟨9, .data⟩ (by simp) rfl)
            refine wpOp_slots rfl (by decide) qsz (fun b K b0 bk HK HK0 => ?_)
            have p0 := (b0 0 (by decide)).trans q0
            have p3 := (b0 3 (by decide)).trans q3
            have pm := (bk 8 (by decide)).trans e0
            have pb := (bk 9 (by decide)).trans e1
            clear b0 bk HK0
            go_simp
            refine (among_any g a' _ 2 2 0 1000 wx hc (by omega) (by decide) (by decide) hall).mono ?_
            rintro e w' ⟨z, a2', rfl, hz0, hz1, ha2', hc', hg'⟩
            go_simp
            exact HK _ _ (.inl (PRE.out 10 _ _ (by decide) hg' ⟨a2', by have := cn_call hni hil (by decide : 10 = 4 ∨ 10 = 7 ∨ 10 = 10 ∨ 10 = 13); omega, hc'⟩ ⟨z, rfl⟩))
          · refine wpOp_slots rfl (by decide) qsz (fun b K b0 bk HK HK0 => ?_)
            have p0 := (b0 0 (by decide)).trans q0
            have p3 := (b0 3 (by decide)).trans q3
            clear b0 bk HK0
            go_simp
            exact HK _ _ (.inl (PRE.out 11 _ _ (by decide) (Gr.of_ext (ext_refl _)) ⟨a', by have := cn_mono listed 11; omega, hc⟩ rfl))
          · refine wpOp_slots rfl (by decide) qsz (fun b K b0 bk HK HK0 => ?_)
            have p0 := (b0 0 (by decide)).trans q0
            have p3 := (b0 3 (by decide)).trans q3
            clear b0 bk HK0
            go_simp
            exact HK _ _ (.inl (PRE.out 12 _ _ (by decide) (Gr.of_ext (ext_alloc (ext_refl _) _)) ⟨a', by have := cn_mono listed 12; omega, hc.ext (ext_alloc (ext_refl _) _)⟩ ⟨_, rfl, allAt_lit wx g [.int .i64 0, .int .i64 10] 3 rfl hc.lt (IntIn 0 10) (by intro u hu; simp at hu; rcases hu with rfl | rfl <;> exact ⟨_, rfl, by omega, by omega⟩)⟩))
          · have e0 : vs 11 = .pointer (some ⟨g, 0, none⟩) := HG.out 11 (by cases ho; exact hdep ⟨11, .data⟩ (by simp) rfl)
            obtain ⟨x, e1, hall⟩ : ∃ x, vs 12 = .slice (some ⟨x, 0, none⟩) 2 2 ∧ AllAt wx g (some ⟨x, 0, none⟩) 2 (IntIn 0 10) := HG.out 12 (by cases ho; exact hdep ⟨12, .data⟩ (by simp) rfl)
            refine wpOp_slots rfl (by decide) qsz (fun b K b0 bk HK HK0 => ?_)
            have p0 := (b0 0 (by decide)).trans q0
            have p3 := (b0 3 (by decide)).trans q3
            have pm := (bk 11 (by decide)).trans e0
            have pb := (bk 12 (by decide)).trans e1
            clear b0 bk HK0
            go_simp
            refine (among_any g a' _ 2 2 0 10 wx hc (by omega) (by decide) (by decide) hall).mono ?_
            rintro e w' ⟨z, a2', rfl, hz0, hz1, ha2', hc', hg'⟩
            go_simp
            exact HK _ _ (.inl (PRE.out 13 _ _ (by decide) hg' ⟨a2', by have := cn_call hni hil (by decide : 13 = 4 ∨ 13 = 7 ∨ 13 = 10 ∨ 13 = 13); omega, hc'⟩ ⟨z, rfl⟩))
          · obtain ⟨z1, e1, hz0, hz1⟩ : ∃ z, vs 4 = .int .i64 z ∧ 0 ≤ z ∧ z ≤ 99 := HG.out 4 (by cases ho; exact hdep ⟨4, .data⟩ (by simp) rfl)
            obtain ⟨z2, e2⟩ : ∃ z, vs 7 = .int .i64 z := HG.out 7 (by cases ho; exact hdep ⟨7, .data⟩ (by simp) rfl)
            obtain ⟨z3, e3⟩ : ∃ z, vs 10 = .int .i64 z := HG.out 10 (by cases ho; exact hdep ⟨10, .data⟩ (by simp) rfl)
            obtain ⟨z4, e4⟩ : ∃ z, vs 13 = .int .i64 z := HG.out 13 (by cases ho; exact hdep ⟨13, .data⟩ (by simp) rfl)
            refine wpOp_slots rfl (by decide) qsz (fun b K b0 bk HK HK0 => ?_)
            have p0 := (b0 0 (by decide)).trans q0
            have p3 := (b0 3 (by decide)).trans q3
            have p45 := (bk 4 (by decide)).trans e1
            have p48 := (bk 7 (by decide)).trans e2
            have p51 := (bk 10 (by decide)).trans e3
            have p54 := (bk 13 (by decide)).trans e4
            clear b0 bk HK0
            go_simp
            exact HK _ _ (.inl (PRE.out 14 _ _ (by decide) (Gr.of_ext (ext_refl _)) ⟨a', by have := cn_mono listed 14; omega, hc⟩ ⟨z1, z2, z3, z4, rfl, hz0, hz1⟩))
          · obtain ⟨z1, z2, z3, z4, e1, hz0, hz1⟩ : ∃ z1 z2 z3 z4 : Int, vs 14 = .agg #[.int .i64 z1, .int .i64 z2, .int .i64 z3, .int .i64 0, .int .i64 z4] ∧ 0 ≤ z1 ∧ z1 ≤ 99 := HG.out 14 (by cases ho; exact hdep ⟨14, .data⟩ (by simp) rfl)
            refine wpOp_slots rfl (by decide) qsz (fun b K b0 bk HK HK0 => ?_)
            have p0 := (b0 0 (by decide)).trans q0
            have p3 := (b0 3 (by decide)).trans q3
            have p55 := (bk 14 (by decide)).trans e1
            clear b0 bk HK0
            go_simp
            exact HK _ _ (.inl (PRE.out 15 _ _ (by decide) (Gr.of_ext (ext_alloc (ext_refl _) _)) ⟨a', by have := cn_mono listed 15; omega, hc.ext (ext_alloc (ext_refl _) _)⟩ ⟨_, z1, z2, z3, z4, rfl, by have := hc.lt; omega, Blk.new _ _ _, hz0, hz1⟩))
          · have e0 : vs 1 = .slice A l.length c := HG.out 1 (by cases ho; exact hdep ⟨1, .data⟩ (by simp) rfl)
            obtain ⟨x, z1, z2, z3, z4, e1, hxg, hbx, hz0, hz1⟩ : ∃ x z1 z2 z3 z4, vs 15 = .slice (some ⟨x, 0, none⟩) 1 1 ∧ x ≠ g ∧ Blk wx x 111 #[.int .i64 z1, .int .i64 z2, .int .i64 z3, .int .i64 0, .int .i64 z4] ∧ 0 ≤ z1 ∧ z1 ≤ 99 := HG.out 15 (by cases ho; exact hdep ⟨15, .data⟩ (by simp) rfl)
            have hox := own_gr HO10.out hg hlt
            have hRx := BR10.out.gr hg (by omega)
            have hcn16 : cn listed ≤ 4 := hcn
            refine wpOp_slots rfl (by decide) qsz (fun b K b0 bk HK HK0 => ?_)
            have p0 := (b0 0 (by decide)).trans q0
            have p3 := (b0 3 (by decide)).trans q3
            refine step_append_lies _ (by rfl) (.tmp 42) (.tmp 56) 30 (by rfl) w.heap.size 111 i0 _ 5 40 Tryz.underlying30 hi HZ0.out HZ1.out HZ2.out rfl (by decide) (.slice A l.length c) l.length (rowsV l) ?_ hox ⟨x, 0, none⟩ 1 1 [.int .i64 z1, .int .i64 z2, .int .i64 z3, .int .i64 0, .int .i64 z4] ?_ (by rfl) (World.news_of_block hbx) (by simp [Value.oneCell']) (by decide) (by unfold maxLen; omega) (by omega) (by have := hg.size; omega) _ rfl ?_
            · show b.tmps.getD 42 undef = _
              rw [Array.getD_eq_getD_getElem?]
              exact (bk 1 (by decide)).trans e0
            · show b.tmps.getD 56 undef = _
              rw [Array.getD_eq_getD_getElem?]
              exact (bk 15 (by decide)).trans e1
            intro g8 cap8 w8 hown8 hgrow8 hat8 hlt8
            refine HK _ _ (.inr (.inl ⟨lst_set.2 (.inl ⟨rfl, hil⟩), ?_, ?_, some ⟨g8, 0, none⟩, cap8, ⟨z1, z2, z3, 0, z4⟩, a', upd_same _ _ _, ⟨hz0, by show z1 ≤ 100; omega⟩, by omega, ?_, ?_, ?_, ?_, ?_⟩))
            · intro h
              rcases lst_set.1 h with ⟨h, _⟩ | h
              · omega
              · exact n16 (CL18.out h)
            · intro h
              rcases lst_set.1 h with ⟨h, _⟩ | h
              · omega
              · exact absurd (CL17.out h) n16
            · exact hc.grown hgrow8 (fun b hb => by have := (hox.lt b hb).1; omega)
            · exact (G10.out.trans hg).grown hgrow8 (fun b hb => (hox.lt b hb).1)
            · exact BSx.grown hgrow8 (own_nb hox BSx (by decide))
            · exact hRx.grown hgrow8 (own_nb hox hRx (by decide))
            · exact (by simpa [rowsV, R5.cells] using hown8)
          · exact absurd (by cases ho; exact hdep ⟨16, .phase⟩ (by simp) rfl) n16
          · exact absurd (by cases ho; exact hdep ⟨16, .data⟩ (by simp) rfl) n16
        · obtain ⟨h16, n18, h17, A', c', r, a', e16, hr, ha', hc, hg, hBS, hBR, hown⟩ := hmid
          have hbig : 17 ≤ i := by
           rcases Nat.lt_or_ge i 17 with h | h
           · exact absurd (CH.out h16 i (by omega)) hni
           · exact h
          rcases (show i = 17 ∨ i = 18 by omega) with rfl | rfl
          · refine wpOp_slots rfl (by decide) qsz (fun b K b0 bk HK HK0 => ?_)
            have p3 := (b0 3 (by decide)).trans q3
            clear b0 bk HK0
            go_simp
            refine HK _ _ (.inr (.inl ⟨lst_set.2 (.inr h16), ?_, fun _ => upd_same _ _ _, A', c', r, a', ?_, hr, ha', hc, hg, hBS, hBR, hown⟩))
            · intro h
              rcases lst_set.1 h with ⟨h, _⟩ | h
              · omega
              · exact n18 h
            · rw [upd_ne _ _ (by decide)]; exact e16
          · have e17 := h17 (by cases ho; exact hdep ⟨17, .data⟩ (by simp) rfl)
            have sSx := hBS.lt
            obtain ⟨y0, y1, y2, y3⟩ := hBS.q4
            obtain ⟨fy0, fy1, fy2, fy3⟩ := hBS.z4
            refine wpOp_last rfl qsz (fun b K b0 bk HK => ?_)
            have p57 := (bk 16 (by decide)).trans e16
            have p58 := (bk 17 (by decide)).trans e17
            have p3 := (b0 3 (by decide)).trans q3
            clear b0 bk
            go_simp
            have hnb := own_nb hown hBS (by decide)
            refine HK _ (.inr (.inr ⟨lst_set.2 (.inl ⟨rfl, hil⟩), A', c', r, a', hr, ha', hc.far (by show g < w2.heap.size; omega) _, hg.setNew (by show w.heap.size ≤ w2.heap.size; omega) _, ?_, hBR.far (by show w.heap.size ≠ w2.heap.size; omega) _, own_set_nb hown hnb _⟩))
            have := hBS.set_ 1 (.slice A' (l.length + 1) c')
            simpa using this
        · obtain ⟨h18, _⟩ := hfin
          exact absurd (ALL.out h18 i hi19) hni
      · intro listed vs wx hJ hall
        rcases hJ with ⟨n16, _⟩ | ⟨_, n18, _⟩ | ⟨_, A', c', r, a', hr, ha', hc, hg, hBS, hBR, hown⟩
        · exact absurd (hall 16 (by decide)) n16
        · exact absurd (hall 18 (by decide)) n18
        · obtain ⟨L, hL⟩ : ∃ L, l ++ [r] = L := ⟨_, rfl⟩
          have hLn : L.length = l.length + 1 := by rw [← hL]; simp
          have hLi : ∀ x ∈ L, 0 ≤ x.a ∧ x.a ≤ 100 := by
           intro x hx
           rw [← hL, List.mem_append] at hx
           rcases hx with hx | hx
           · exact HID.out x hx
           · simp at hx; subst hx; exact hr
          rw [hL, ← hLn] at hown
          rw [← hLn] at hBS
          have HLI := Lib.hid hLi
          have sRn := hBR.lt
          have sSn := hBS.lt
          obtain ⟨r0, r1, r2, r3⟩ := hBR.q4
          obtain ⟨fr0, fr1, fr2, fr3⟩ := hBR.z4
          obtain ⟨s0, s1, s2, s3⟩ := hBS.q4
          obtain ⟨fs0, fs1, fs2, fs3⟩ := hBS.z4
          have hneR := Lib.hid (own_nb hown hBR (by decide))
          have hneS := Lib.hid (own_nb hown hBS (by decide))
          have HOF := Lib.hid hown
          have HCF := Lib.hid hc
          have HGF := Lib.hid hg
          have HLN := Lib.hid hLn
          have hL9 : L.length ≤ 9 := by omega
          clear hall hL hLi hown hc hg hr hLn hBR hBS
          simp only [slots]
          go_wp2
          refine bodyPost_ret (v := schV D A' L.length c' P Q) (by simp [results, Tryz.results50, go_sem, *]) rfl ⟨D, P, Q, L, A', c', a', rfl, hL9, HLI.out, ?_, by omega, ?_, ?_⟩
          · refine own_base (base := w.heap.size) ?_ (by omega)
            iterate 4 with_reducible refine own_set_nb ?_ hneR.out _
            exact HOF.out
          · exact (by repeat (first | (with_reducible exact HCF.out) | (refine CurAt.far ?_ (by show g < w.heap.size; omega) _)))
          · exact (by repeat (first | (with_reducible exact HGF.out) | (refine Gr.setNew ?_ (Nat.le_refl _) _)))
    · go_wp2_with fail
      refine (among_lit g a10 (-1) 10000 [-1, 9999, 10000] 3 _ C10.out (by omega) (by decide) (by decide) (by decide) _ rfl (by simp)).mono ?_
      rintro e w11 ⟨v11, a11, rfl, v110, v111, ha11, hc, hg⟩
      have C11 := Lib.hid hc
      have G11 := Lib.hid (G10.out.trans hg)
      have HO11 := Lib.hid (own_gr HO10.out hg hlt)
      have BR11 := Lib.hid (BR10.out.gr hg (by omega))
      have BS11 := Lib.hid (BS10.out.gr hg (by omega))
      clear hc hg
      have sRn := BR11.out.lt
      have sSn := BS11.out.lt
      obtain ⟨r0, r1, r2, r3⟩ := BR11.out.q4
      obtain ⟨fr0, fr1, fr2, fr3⟩ := BR11.out.z4
      obtain ⟨s0, s1, s2, s3⟩ := BS11.out.q4
      obtain ⟨fs0, fs1, fs2, fs3⟩ := BS11.out.z4
      go_wp2
      refine bodyPost_ret (v := schV D A l.length c v11 Q) (by simp [results, Tryz.results50, go_sem, *]) rfl ⟨D, v11, Q, l, A, c, a11, rfl, by omega, HID.out, ?_, by omega, ?_, ?_⟩
      · refine own_base (base := w.heap.size) ?_ (by omega)
        iterate 5 with_reducible refine own_set_nb ?_ (by first | exact hneR.out | exact hneS.out) _
        exact HO11.out
      · exact (by repeat (first | (with_reducible exact C11.out) | (refine CurAt.far ?_ (by first | (show g < w.heap.size; omega) | (show g < w2.heap.size; omega)) _)))
      · exact (by repeat (first | (with_reducible exact G11.out) | (refine Gr.setNew ?_ (by first | exact Nat.le_refl _ | (show w.heap.size ≤ w2.heap.size; omega)) _)))
    · have q_0 : (q == 0) = false := by simp; omega
      have q_1 : (q == 1) = false := by simp; omega
      have q_2 : (q == 2) = false := by simp; omega
      have sRn := BR10.out.lt
      have sSn := BS10.out.lt
      obtain ⟨r0, r1, r2, r3⟩ := BR10.out.q4
      obtain ⟨fr0, fr1, fr2, fr3⟩ := BR10.out.z4
      obtain ⟨s0, s1, s2, s3⟩ := BS10.out.q4
      obtain ⟨fs0, fs1, fs2, fs3⟩ := BS10.out.z4
      go_wp2
      refine bodyPost_ret (v := schV D A l.length c P Q) (by simp [results, Tryz.results50, go_sem, *]) rfl ⟨D, P, Q, l, A, c, a10, rfl, by omega, HID.out, ?_, by omega, ?_, ?_⟩
      · refine own_base (base := w.heap.size) ?_ (by omega)
        iterate 4 with_reducible refine own_set_nb ?_ (by first | exact hneR.out | exact hneS.out) _
        exact HO10.out
      · exact (by repeat (first | (with_reducible exact C10.out) | (refine CurAt.far ?_ (by first | (show g < w.heap.size; omega) | (show g < w2.heap.size; omega)) _)))
      · exact (by repeat (first | (with_reducible exact G10.out) | (refine Gr.setNew ?_ (by first | exact Nat.le_refl _ | (show w.heap.size ≤ w2.heap.size; omega)) _)))

end Go.Proofs.YtkcbgiegoadkbaaGreat
