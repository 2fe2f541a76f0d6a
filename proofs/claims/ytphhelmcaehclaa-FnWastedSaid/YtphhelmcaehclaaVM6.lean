/- comparePairs, plainly and as the program runs it. -/
import Derived.Test.YtphhelmcaehclaaVGmE
import Derived.Test.YtphhelmcaehclaaVFrO
namespace Go.Proofs.Ytphhelmcaehclaa
open Go.RowKit
set_option linter.unusedVariables false
set_option linter.unusedSimpArgs false
def cmpP : List R2 → List R2 → Int
 | x :: xs, y :: ys => if x.a - y.a ≠ 0 then x.a - y.a else if x.b - y.b ≠ 0 then x.b - y.b else cmpP xs ys
 | _, _ => 0
theorem cmpP_step {l l' : List R2} {k : Nat} {r s : R2} (hr : l[k]? = some r) (hs : l'[k]? = some s) : cmpP (l.drop k) (l'.drop k) = if r.a - s.a ≠ 0 then r.a - s.a else if r.b - s.b ≠ 0 then r.b - s.b else cmpP (l.drop (k + 1)) (l'.drop (k + 1)) := by
 obtain ⟨h1, h1'⟩ := List.getElem?_eq_some_iff.1 hr
 obtain ⟨h2, h2'⟩ := List.getElem?_eq_some_iff.1 hs
 rw [List.drop_eq_getElem_cons h1, List.drop_eq_getElem_cons h2, h1', h2', cmpP]
theorem cmpP_end (l l' : List R2) {k : Nat} (h : l.length ≤ k) : cmpP (l.drop k) (l'.drop k) = 0 := by
 rw [List.drop_eq_nil_of_le h]
 rfl
theorem cmpP_zero : ∀ (l l' : List R2), l.length = l'.length → cmpP l l' = 0 → l = l' := by
 intro l
 induction l with
 | nil => intro l' h _; cases l' with
   | nil => rfl
   | cons y ys => cases h
 | cons x xs ih =>
   intro l' h hz
   cases l' with
   | nil => cases h
   | cons y ys =>
     rw [cmpP] at hz
     obtain ⟨xa, xb⟩ := x
     obtain ⟨ya, yb⟩ := y
     dsimp only at hz
     split at hz
     · omega
     · split at hz
       · omega
       · rw [ih ys (by simpa using h) hz, show xa = ya by omega, show xb = yb by omega]
theorem cmpP_self (l : List R2) : cmpP l l = 0 := by
 induction l with
 | nil => rfl
 | cons x xs ih => rw [cmpP, if_neg (by omega), if_neg (by omega), ih]
def smallR (l : List R2) : Prop := ∀ (k : Nat) (r : R2), l[k]? = some r → (-1000 ≤ r.a ∧ r.a ≤ 1000) ∧ -1000 ≤ r.b ∧ r.b ≤ 1000
set_option maxRecDepth 100000 in
set_option maxHeartbeats 4000000 in
theorem comparePairs_any (A B : Option Addr) (n c d : Nat) (l l' : List R2) (w : World) (hn : n ≤ 1048576) (h1 : smallR l) (h2 : smallR l') (h : Reads w w.heap.size 2 A n (rowsV2 l)) (h' : Reads w w.heap.size 2 B n (rowsV2 l')) :
 Calls Try.prog 46 #[.slice A n c, .slice B n d] w fun e w' => e = .returned (.int .i64 (cmpP l l')) ∧ Below w.heap.size w w' := by
 have hl := rows_len2 h
 have hl' := rows_len2 h'
 have H := Lib.hid h
 have H' := Lib.hid h'
 have H1 := Lib.hid h1
 have H2 := Lib.hid h2
 have HL := Lib.hid hl
 have HL' := Lib.hid hl'
 obtain ⟨Z, hZ⟩ : ∃ o9, cmpP l l' = o9 := ⟨_, rfl⟩
 rw [hZ]
 have HZ := Lib.hid hZ
 clear h h' hl hl' h1 h2 hZ
 go_enter Try.func46, Try.ntmps46
 go_wp2
 go_loopw [9] (fun i wr => ∃ k : Nat, k ≤ n ∧ i = .int .i64 k ∧ Hid (Z = cmpP (l.drop k) (l'.drop k)) ∧ Hid (Below w.heap.size w wr)) (fun i _ => n - (intOf i).toNat)
 case atStart => exact ⟨0, Nat.zero_le _, rfl, Lib.hid HZ.out.symm, Lib.hid (ext_refl _)⟩
 case round =>
  obtain ⟨k, hk, rfl, HE, HW⟩ := hrel
  obtain ⟨W0, hW0⟩ : ∃ y : World, y = wr := ⟨_, rfl⟩
  subst hW0
  by_cases hlt : k < n
  · obtain ⟨r, hr⟩ := list_split (l := l) (k := k) (by rw [HL.out]; exact hlt)
    obtain ⟨s, hs⟩ := list_split (l := l') (k := k) (by rw [HL'.out]; exact hlt)
    have hst := Lib.hid (cmpP_step hr hs)
    obtain ⟨ba, oa, rfl, hba, hca⟩ := rows_cmp (H.out.ext HW.out (Nat.le_refl _)) hr
    obtain ⟨bb, ob, rfl, hbb, hcb⟩ := rows_cmp (H'.out.ext HW.out (Nat.le_refl _)) hs
    have ca0 := hca 0 (by omega)
    have ca1 := hca 1 (by omega)
    have cb0 := hcb 0 (by omega)
    have cb1 := hcb 1 (by omega)
    have b1 := H1.out k r hr
    have b2 := H2.out k s hs
    obtain ⟨ra, rb⟩ := r
    obtain ⟨sa, sb⟩ := s
    rw [show cmp ⟨ra, rb⟩ 0 = ra from rfl, Nat.add_zero] at ca0
    rw [show cmp ⟨ra, rb⟩ 1 = rb from rfl] at ca1
    rw [show cmp ⟨sa, sb⟩ 0 = sa from rfl, Nat.add_zero] at cb0
    rw [show cmp ⟨sa, sb⟩ 1 = sb from rfl] at cb1
    dsimp only at b1 b2 hst
    clear hr hs hca hcb
    have kk1 : (k : Int) < (n : Int) := by omega
    have kk0 : (0 : Int) ≤ (k : Int) := by omega
    have hsz := HW.out.size
    have hba2 : ba < W0.heap.size := by omega
    have hbb2 : bb < W0.heap.size := by omega
    by_cases e0 : ra = sa
    · have d0 : (ra != sa) = false := by simp [e0]
      by_cases e1 : rb = sb
      · have d1 : (rb != sb) = false := by simp [e1]
        have HN := Lib.hid (show Z = cmpP (l.drop (k + 1)) (l'.drop (k + 1)) by rw [HE.out, hst.out, if_neg (by omega), if_neg (by omega)])
        clear e0 e1 b1 b2
        go_wp2
        refine wp_loop_rounds 3 ?_
        rw [rounds_succ]
        go_wp2
        go_region
        go_wp2
        rw [rounds_succ]
        go_wp2
        go_region
        go_wp2
        rw [rounds_succ]
        go_wp2
        go_roundw
        case rel => exact ⟨k + 1, by omega, by go_num, HN, Lib.hid HW.out.drew.drew⟩
        case measure => simp [intOf]; omega
      · have d1 : (rb != sb) = true := by simp [e1]
        have HN := Lib.hid (show Z = rb - sb by rw [HE.out, hst.out, if_neg (by omega), if_pos (by omega)])
        clear e0 e1
        go_wp2
        refine wp_loop_rounds 3 ?_
        rw [rounds_succ]
        go_wp2
        go_region
        go_wp2
        rw [rounds_succ]
        go_wp2
        go_region
        go_wp2
        go_region
        go_wp2
        go_ret
        obtain rfl := HN.out; exact ⟨rfl, HW.out.drew.drew.drew⟩
    · have d0 : (ra != sa) = true := by simp [e0]
      have HN := Lib.hid (show Z = ra - sa by rw [HE.out, hst.out, if_pos (by omega)])
      clear e0
      go_wp2
      refine wp_loop_rounds 3 ?_
      rw [rounds_succ]
      go_wp2
      go_region
      go_wp2
      go_region
      go_wp2
      go_ret
      obtain rfl := HN.out; exact ⟨rfl, HW.out.drew.drew⟩
  · obtain rfl : k = n := by omega
    have HN := Lib.hid (show Z = 0 by rw [HE.out]; exact cmpP_end l l' (by rw [HL.out]; omega))
    go_wp2
    go_ret
    obtain rfl := HN.out; exact ⟨rfl, HW.out⟩
end Go.Proofs.Ytphhelmcaehclaa
namespace Go.Proofs.Ytphhelmcaehclaa
open Go.RowKit
set_option linter.unusedVariables false
set_option linter.unusedSimpArgs false
end Go.Proofs.Ytphhelmcaehclaa
namespace Go.Proofs.Ytphhelmcaehclaa
open Go.RowKit
set_option linter.unusedVariables false
set_option linter.unusedSimpArgs false
theorem specAddDigitMoves_any (u lo : Int) (A : Option Addr) (n c : Nat) (l : List R2) (rod d : Int) (w : World) (hn : n ≤ 1048576) (h : Reads w w.heap.size 2 A n (rowsV2 l)) :
 Calls Try.prog 33 #[frV u lo A n c, .int .i64 rod, .int .i64 d] w (RetMv w (addDms u lo l rod d) (addDigitB u lo l rod d)) := by
 have hl := rows_len2 h
 have H := Lib.hid h
 cases hg : addDigitB u lo l rod d
 · have e : addDms u lo l rod d = [] := by simp [addDms, hg]
   rw [e]
   have HG := Lib.hid hg
   clear h e hg hl
   go_enter Try.func33, Try.ntmps33
   go_wp2_with fail
   refine (l6CanDigit_any u lo A n c l rod d _ hn (rdx H.out (ext_alloc (ext_refl w) _))).mono ?_
   rw [HG.out]
   rintro e w1 ⟨rfl, hb1⟩
   have hb2 := Lib.hid (ext_trans (ext_alloc (ext_refl w) _) hb1)
   have ho := Lib.hid (own_lit_at w1 75 3 (H := w1.heap.size) (B := w.heap.size) rfl hb2.out.size)
   clear hb1
   go_wp2
   go_ret2
   exact ⟨_, _, rfl, ho.out, ext_alloc hb2.out _⟩
 · have e : addDms u lo l rod d = (addS (rod.toNat + 1) d ⟨dsOf l, [], 0⟩).ms := by simp [addDms, hg]
   rw [e]
   have hg' := hg
   unfold addDigitB at hg'
   rw [hl] at hg'
   simp only [Bool.and_eq_true] at hg'
   obtain ⟨⟨⟨hgd, hr⟩, hd⟩, hcb⟩ := hg'
   have hf := good_fr hgd
   have hs := good_std hgd
   have hn8 := (frB_head hf).2.2.2
   rw [hl] at hn8
   obtain ⟨r0, r1⟩ := inB_iff.1 hr
   obtain ⟨d0, d9⟩ := inB_iff.1 hd
   obtain ⟨r, rfl⟩ := Int.eq_ofNat_of_zero_le r0
   have hrn : r < n := by omega
   have hdl : (dsOf l).length = n := by rw [dsOf_len, hl]
   rw [show (r : Int).toNat = r from rfl] at hcb ⊢
   have FIT := Lib.hid (show AddFit (r + 1) d (dsOf l) from ⟨by omega, d0, d9, dsOf_WF hf hs, by have := canAdd_fit hcb; rw [hdl]; (try rw [hdl] at this); exact this⟩)
   have H2 := Lib.hid (show Reads w w.heap.size 2 A n (rowsV2 (rodsD (dsOf l))) by rw [rodsD_dsOf hf hs]; exact h)
   obtain ⟨S, hS⟩ : ∃ S, S = addS (r + 1) d ⟨dsOf l, [], 0⟩ := ⟨_, rfl⟩
   rw [← hS]
   have HS := Lib.hid hS
   have HG := Lib.hid hg
   have HDL := Lib.hid hdl
   clear h e hg hgd hr hd hcb hf hs hdl hS hl
   go_enter Try.func33, Try.ntmps33
   go_wp2_with fail
   refine (l6CanDigit_any u lo A n c l r d _ hn (rdx H.out (ext_alloc (ext_refl w) _))).mono ?_
   rw [HG.out]
   rintro e w1 ⟨rfl, hb1⟩
   obtain ⟨BF, hb2, hs2⟩ := box_frame (by simpa using hb1)
   have hb2 := Lib.hid hb2
   obtain ⟨c0, c1, c2⟩ := BF.q3
   clear BF hb1
   go_wp2_with fail
   refine (l6Digit_n u lo A n c (dsOf l) r d S _ HDL.out hn8 FIT.out HS.out (rdx H2.out hb2.out)).mono ?_
   rintro e w2 ⟨A1, c1, h1, cr1, rfl, hm1, hr1, hb3⟩
   have hm1 := Lib.hid (own_base (base' := w.heap.size) hm1 hb2.out.size)
   have hb4 := Lib.hid (ext_trans hb2.out hb3)
   clear hb3 hr1
   go_wp2
   go_ret2
   exact ⟨_, _, rfl, hm1.out.alloc _, ext_alloc hb4.out _⟩
set_option maxRecDepth 100000 in
theorem specAddNumberMoves_any (u lo : Int) (A : Option Addr) (n c : Nat) (l : List R2) (m : Int) (w : World) (hn : n ≤ 1048576) (h : Reads w w.heap.size 2 A n (rowsV2 l)) :
 Calls Try.prog 24 #[frV u lo A n c, .int .i64 m] w (RetMv w (addNms u lo l m) (addNmok u lo l m)) := by
 have hl := rows_len2 h
 have H := Lib.hid h
 cases hg : addNok u lo l m
 · have e0 : addNmok u lo l m = false := by simp [addNmok, hg]
   have e : addNms u lo l m = [] := by simp [addNms, e0]
   rw [e, e0]
   have HG := Lib.hid hg
   clear h e e0 hg hl
   go_enter Try.func24, Try.ntmps24
   go_wp2_with fail
   refine (l6Can_any u lo A n c l m _ hn (rdx H.out (ext_alloc (ext_refl w) _))).mono ?_
   rw [HG.out]
   rintro e w1 ⟨rfl, hb1⟩
   have hb2 := Lib.hid (ext_trans (ext_alloc (ext_refl w) _) hb1)
   have ho := Lib.hid (own_lit_at w1 75 3 (H := w1.heap.size) (B := w.heap.size) rfl hb2.out.size)
   clear hb1
   go_wp2
   go_ret2
   exact ⟨_, _, rfl, ho.out, ext_alloc hb2.out _⟩
 · have hg' := hg
   unfold addNok at hg'
   simp only [Bool.and_eq_true] at hg'
   obtain ⟨hgd, hcb⟩ := hg'
   have hf := good_fr hgd
   have hs := good_std hgd
   have hn1 := (frB_head hf).2.2.1
   have hn8 := (frB_head hf).2.2.2
   rw [hl] at hn1 hn8
   have hdl : (dsOf l).length = n := by rw [dsOf_len, hl]
   have m0 : 0 ≤ m := canAdd_nonneg hcb
   have m1 : m < 200000000 := canAdd_bound hf hcb
   have FIT : ∀ k, k < n → AddFit (k + 1) (dg n m k) (addN n m ⟨dsOf l, [], 0⟩ k).ds := by
    intro k hk
    have := (addN_facts (s := ⟨dsOf l, [], 0⟩) (m := m) (dsOf_WF hf hs) m0 (canAdd_fit hcb) k (by show k ≤ (dsOf l).length; omega)).2 (by show k < (dsOf l).length; omega)
    rwa [show (WS.ds ⟨dsOf l, [], 0⟩).length = n from hdl] at this
   have FIT := Lib.hid FIT
   have H2 := Lib.hid (show Reads w w.heap.size 2 A n (rowsV2 (rodsD (dsOf l))) by rw [rodsD_dsOf hf hs]; exact h)
   have HG := Lib.hid hg
   have HDL := Lib.hid hdl
   have ES : addNst l m = addN n m ⟨dsOf l, [], 0⟩ n := by rw [← hl]; rfl
   have EB : addNmok u lo l m = decide ((addNst l m).ms.length ≤ 60) := by simp [addNmok, hg]
   have EM : addNms u lo l m = if (addNst l m).ms.length ≤ 60 then (addNst l m).ms else [] := by simp [addNms, EB]
   have EN : (addNst l m).ms.length ≤ 16 * n := by
    rw [ES]
    have := addN_msl n m ⟨dsOf l, [], 0⟩ n (by omega)
    simpa using this
   obtain ⟨st, hst⟩ : ∃ st, st = addN n m ⟨dsOf l, [], 0⟩ n := ⟨_, rfl⟩
   rw [EB, EM, ES, ← hst]
   rw [ES, ← hst] at EN
   have HST := Lib.hid hst
   clear h hg hgd hcb hf hs hdl hl EB EM ES hst
   by_cases h60 : st.ms.length ≤ 60
   · rw [if_pos h60]
     have hd : decide (st.ms.length ≤ 60) = true := by simpa using h60
     rw [hd]
     clear hd
     go_enter Try.func24, Try.ntmps24
     go_wp2_with fail
     refine (l6Can_any u lo A n c l m _ hn (rdx H.out (ext_alloc (ext_refl w) _))).mono ?_
     rw [HG.out]
     rintro e w1 ⟨rfl, hb1⟩
     obtain ⟨BF, hb2, hs2⟩ := box_frame (by simpa using hb1)
     have hb2 := Lib.hid hb2
     obtain ⟨c0, c1, c2⟩ := BF.q3
     clear BF hb1
     go_wp2_with fail
     refine (l6Number_any u lo A n c (dsOf l) m _ HDL.out hn1 hn8 m0 m1 FIT.out (rdx H2.out hb2.out)).mono ?_
     rw [← HST.out]
     rintro e w2 ⟨A1, c1, h1, cr1, rfl, hm1, hr1, hb3⟩
     have hm1 := Lib.hid (own_base (base' := w.heap.size) hm1 hb2.out.size)
     have hb4 := Lib.hid (ext_trans hb2.out hb3)
     clear hb3 hr1
     go_wp2
     go_ret2
     exact ⟨_, _, rfl, hm1.out.alloc _, ext_alloc hb4.out _⟩
   · rw [if_neg h60]
     have hd : decide (st.ms.length ≤ 60) = false := by simpa using h60
     rw [hd]
     clear hd
     go_enter Try.func24, Try.ntmps24
     go_wp2_with fail
     refine (l6Can_any u lo A n c l m _ hn (rdx H.out (ext_alloc (ext_refl w) _))).mono ?_
     rw [HG.out]
     rintro e w1 ⟨rfl, hb1⟩
     obtain ⟨BF, hb2, hs2⟩ := box_frame (by simpa using hb1)
     have hb2 := Lib.hid hb2
     obtain ⟨c0, c1, c2⟩ := BF.q3
     clear BF hb1
     go_wp2_with fail
     refine (l6Number_any u lo A n c (dsOf l) m _ HDL.out hn1 hn8 m0 m1 FIT.out (rdx H2.out hb2.out)).mono ?_
     rw [← HST.out]
     rintro e w2 ⟨A1, c1, h1, cr1, rfl, hm1, hr1, hb3⟩
     have hm1 := Lib.hid (own_base (base' := w.heap.size) hm1 hb2.out.size)
     have hb4 := Lib.hid (ext_trans hb2.out hb3)
     clear hb3 hr1
     have ho := Lib.hid (own_lit_at (w2.alloc (.cells #[.int .i64 u, .int .i64 lo, .slice (some ⟨h1, 0, none⟩) st.ds.length cr1] 26)) 75 3 (H := w2.heap.size + 1) (B := w.heap.size) (by simp) (by have := hb4.out.size; omega))
     go_wp2
     go_ret2
     exact ⟨_, _, rfl, ho.out, ext_alloc (ext_alloc hb4.out _) _⟩
end Go.Proofs.Ytphhelmcaehclaa
