/- KindsUsed: the program's. -/
import Derived.Test.YtajdmeajkgdioaaVFrN
import Derived.Test.YtajdmeajkgdioaaVM2
import Derived.Test.YtajdmeajkgdioaaVFrL
namespace Go.Proofs.Ytajdmeajkgdioaa
open Go.RowKit
set_option linter.unusedVariables false
set_option linter.unusedSimpArgs false
set_option maxRecDepth 100000 in
set_option maxHeartbeats 4000000 in
theorem kindOfAdd_any (v d : Int) (w : World) (v0 : 0 ≤ v) (v9 : v ≤ 9) (d0 : 1 ≤ d) (d9 : d ≤ 9) :
 Calls Try.prog 78 #[.int .i64 v, .int .i64 d] w fun e w' => e = .returned (.int .i64 ((kindO v d : Nat) : Int)) ∧ w = w' := by
 obtain ⟨K, hK⟩ : ∃ K, kindO v d = K := ⟨_, rfl⟩
 rw [hK]
 have p0 : 0 ≤ v % 5 := by omega
 have p4 : v % 5 ≤ 4 := by omega
 have q0 : 0 ≤ (10 - d) % 5 := by omega
 have q4 : (10 - d) % 5 ≤ 4 := by omega
 have HK := Lib.hid hK
 clear hK
 go_enter Try.func78, Try.ntmps78
 by_cases h1 : v % 5 + d ≤ 4
 · have e : kindO v d = 0 := by unfold kindO; rw [if_pos (.inl h1)]
   rw [HK.out] at e
   subst e
   go_wp2
   go_ret
   exact ⟨rfl, rfl⟩
 by_cases h2 : 5 ≤ d ∧ v ≤ 4 ∧ v + d - 5 ≤ 4
 · have e : kindO v d = 0 := by unfold kindO; rw [if_pos (.inr h2)]
   rw [HK.out] at e
   subst e
   obtain ⟨h3, h4, h5⟩ := h2
   go_wp2
   go_ret
   exact ⟨rfl, rfl⟩
 have h12 : ¬ (v % 5 + d ≤ 4 ∨ 5 ≤ d ∧ v ≤ 4 ∧ v + d - 5 ≤ 4) := by omega
 by_cases h6 : v + d ≤ 9
 · have e : kindO v d = 1 := by unfold kindO; rw [if_neg h12, if_pos h6]
   rw [HK.out] at e
   subst e
   by_cases h3 : 5 ≤ d
   · by_cases h4 : v ≤ 4
     · have h5 : ¬ v + d - 5 ≤ 4 := by omega
       clear h2 h12
       go_wp2
       go_ret
       exact ⟨rfl, rfl⟩
     · clear h2 h12
       go_wp2
       go_ret
       exact ⟨rfl, rfl⟩
   · clear h2 h12
     go_wp2
     go_ret
     exact ⟨rfl, rfl⟩
 by_cases h7 : (10 - d) % 5 ≤ v % 5 ∧ (5 ≤ v ∨ 10 - d < 5)
 · have e : kindO v d = 2 := by unfold kindO; rw [if_neg h12, if_neg h6, if_pos h7]
   rw [HK.out] at e
   subst e
   obtain ⟨h8, h9⟩ := h7
   by_cases h10 : 5 ≤ v
   · have hb : 10 - d ≤ v := by omega
     by_cases h3 : 5 ≤ d
     · clear h2 h12 h9
       go_wp2
       go_ret
       exact ⟨rfl, rfl⟩
     · clear h2 h12 h9
       go_wp2
       go_ret
       exact ⟨rfl, rfl⟩
   · have h11 : 10 - d < 5 := by omega
     have h3 : 5 ≤ d := by omega
     have h4 : v ≤ 4 := by omega
     have h5 : ¬ v + d - 5 ≤ 4 := by omega
     have hb : 10 - d ≤ v := by omega
     clear h2 h12 h9
     go_wp2
     go_ret
     exact ⟨rfl, rfl⟩
 · have e : kindO v d = 3 := by unfold kindO; rw [if_neg h12, if_neg h6, if_neg h7]
   rw [HK.out] at e
   subst e
   have hb : 10 - d ≤ v := by omega
   by_cases h3 : 5 ≤ d
   · by_cases h4 : v ≤ 4
     · have h5 : ¬ v + d - 5 ≤ 4 := by omega
       by_cases h8 : (10 - d) % 5 ≤ v % 5
       · have h9 : ¬ 5 ≤ v := by omega
         have h11 : ¬ 10 - d < 5 := by omega
         clear h2 h12 h7
         go_wp2
         go_ret
         exact ⟨rfl, rfl⟩
       · clear h2 h12 h7
         go_wp2
         go_ret
         exact ⟨rfl, rfl⟩
     · have h8 : ¬ (10 - d) % 5 ≤ v % 5 := by omega
       clear h2 h12 h7
       go_wp2
       go_ret
       exact ⟨rfl, rfl⟩
   · by_cases h8 : (10 - d) % 5 ≤ v % 5
     · have h9 : ¬ 5 ≤ v := by omega
       have h11 : ¬ 10 - d < 5 := by omega
       clear h2 h12 h7
       go_wp2
       go_ret
       exact ⟨rfl, rfl⟩
     · clear h2 h12 h7
       go_wp2
       go_ret
       exact ⟨rfl, rfl⟩

def kindsM (u lo : Int) (l : List R2) (m : Int) : List Int := if addNok u lo l m = true then cntN l.length m ⟨dsOf l, [], 0⟩ l.length else []
theorem cnt_more {n k : Nat} {m : Int} {s : WS} {x : Int} (hx : (addN n m s k).ds[k]? = some x) (h : 0 < dg n m k) : cntN n m s (k + 1) = (cntN n m s k).set (kindO x (dg n m k)) ((cntN n m s k).getD (kindO x (dg n m k)) 0 + 1) := by
 rw [cntN, if_pos h, List.getD_eq_getElem?_getD (l := (addN n m s k).ds), hx]
 rfl
theorem cnt_same {n k : Nat} {m : Int} {s : WS} (h : ¬ 0 < dg n m k) : cntN n m s (k + 1) = cntN n m s k := by rw [cntN, if_neg h]
theorem add_same {n k : Nat} {m : Int} {s : WS} (h : ¬ 0 < dg n m k) : addN n m s (k + 1) = addN n m s k := by rw [addN, addS_none _ h]
theorem cntN_zero (n : Nat) (m : Int) (s : WS) : cntN n m s 0 = List.replicate 4 0 := rfl
theorem cnt_at {n k : Nat} {m : Int} {s : WS} (v d : Int) : ∃ y : Int, (cntN n m s k)[kindO v d]? = some y ∧ (cntN n m s k).getD (kindO v d) 0 = y ∧ 0 ≤ y ∧ y ≤ k := by
 obtain ⟨y, hy⟩ := list_split (l := cntN n m s k) (k := kindO v d) (by rw [cntN_len]; exact kindO_lt v d)
 have hb := cntN_le n m s k y (List.mem_of_getElem? hy)
 exact ⟨y, hy, by rw [List.getD_eq_getElem?_getD, hy]; rfl, hb⟩
/-- a row of another type is written: the worker stays -/
theorem Wk.setRow {w : World} {B g : Nat} {u lo : Int} {s : WS} (h : Wk w B g u lo s) {B2 E size n c G : Nat} {xs : List Value} (hr : w.ownsRow B2 E size (.slice (some ⟨G, 0, none⟩) n c) n xs) (h1 : E ≠ 66) (h2 : E ≠ 87) (h3 : E ≠ 72) (i : Nat) (z : Value) : Wk (w.setCell ⟨G, i, none⟩ z) B g u lo s := by
 obtain ⟨h, c, c', A, k1, k2, k3, k4⟩ := h
 have n1 : G ≠ g := fun e => own_nbT hr k1 (fun ee => h1 ee.symm) (by rw [e]; rfl)
 have n3 : Value.ownBlock (.slice (some ⟨h, 0, none⟩) s.ds.length c) ≠ some G := by
  rcases own_neT k3 hr (fun ee => h2 ee.symm) with hd | hd
  · rw [hd]; simp
  · exact hd
 have n4 : Value.ownBlock (.slice A s.ms.length c') ≠ some G := by
  rcases own_neT k4 hr (fun ee => h3 ee.symm) with hd | hd
  · rw [hd]; simp
  · exact hd
 exact ⟨h, c, c', A, k1.setF (p := ⟨G, i, none⟩) n1 z, k2, own_setF (p := ⟨G, i, none⟩) k3 n3 z, own_setF (p := ⟨G, i, none⟩) k4 n4 z⟩
set_option maxRecDepth 100000 in
set_option maxHeartbeats 2000000 in
theorem implKindsUsed_any (u lo : Int) (A : Option Addr) (n c : Nat) (l : List R2) (m : Int) (w : World) (hn : n ≤ 1048576) (h : Reads w w.heap.size 2 A n (rowsV2 l)) :
 Calls Try.prog 38 #[frV u lo A n c, .int .i64 m] w (RetSliceB w 3 1 (kindsM u lo l m).length (intsV (kindsM u lo l m)) (addNok u lo l m)) := by
 obtain ⟨i0, hi, hz0, hz1, hz2⟩ := info_parts info_int
 have hl := rows_len2 h
 have H := Lib.hid h
 clear h
 cases hg : addNok u lo l m
 · rw [show kindsM u lo l m = [] by simp [kindsM, hg]]
   unfold addNok at hg
   cases hgd : goodB u lo l
   · have hgd := Lib.hid hgd
     have hg := Lib.hid hg
     have hl := Lib.hid hl
     go_enter Try.func38, Try.ntmps38
     go_wp2_with fail
     refine (begin_no u lo A n c l _ hn (rdx H.out (ext_alloc (ext_refl w) _)) hgd.out).mono ?_
     rintro e w1 ⟨rfl, hb1⟩
     go_wp2
     go_ret2
     exact ⟨none, 0, rfl, World.ownsRow_nil _ _ _ _, (by repeat (first | exact ext_refl _ | assumption | refine ext_alloc ?_ _ | refine ext_drew ?_ | refine ext_drewN ?_ _ | refine ext_set ?_ (by simp <;> omega) _ | refine ext_trans ?_ (by assumption)))⟩
   · have hcb : canB l m = false := by simpa [hgd] using hg
     have hf : frB u lo l = true := good_fr hgd
     have hgd := Lib.hid hgd
     have hf := Lib.hid hf
     have hg := Lib.hid hg
     have hl := Lib.hid hl
     have hcb := Lib.hid hcb
     go_enter Try.func38, Try.ntmps38
     go_wp2_with fail
     refine (begin_yes u lo A n c l _ hn (rdx H.out (ext_alloc (ext_refl w) _)) hgd.out).mono ?_
     rintro e w1 ⟨g, rfl, hW, hb1⟩
     have hb2 := Lib.hid (ext_trans (ext_alloc (ext_refl w) _) hb1)
     have BF1 := (Blk.born w #[.int .i64 u, .int .i64 lo, .slice A n c] 26 rfl).ext hb1
     obtain ⟨a0, a1, a2⟩ := BF1.q3
     clear hb1 BF1 hW
     go_wp2_with fail
     refine (canAdd_b u lo A n c l m _ _ hf.out (rdx H.out hb2.out) hcb.out).mono ?_
     rintro e w3 ⟨rfl, hb3⟩
     go_wp2
     go_ret2
     exact ⟨none, 0, rfl, World.ownsRow_nil _ _ _ _, ext_trans hb2.out hb3⟩
 · have e : kindsM u lo l m = cntN n m ⟨dsOf l, [], 0⟩ n := by rw [kindsM, if_pos hg, hl]
   rw [e]
   have hg' := hg
   unfold addNok at hg'
   simp only [Bool.and_eq_true] at hg'
   obtain ⟨hgd, hcb⟩ := hg'
   have hf := good_fr hgd
   have hs := good_std hgd
   have hn8 := (frB_head hf).2.2.2
   rw [hl] at hn8
   have hwf := dsOf_WF hf hs
   have hdl : (dsOf l).length = n := by rw [dsOf_len, hl]
   have m0 : 0 ≤ m := canAdd_nonneg hcb
   have m1 : m < 200000000 := canAdd_bound hf hcb
   have FIT : ∀ k, k < n → AddFit (k + 1) (dg n m k) (addN n m ⟨dsOf l, [], 0⟩ k).ds := by
    intro k hk
    have := (addN_facts (s := ⟨dsOf l, [], 0⟩) (m := m) hwf m0 (canAdd_fit hcb) k (by show k ≤ (dsOf l).length; omega)).2 (by show k < (dsOf l).length; omega)
    rwa [show (WS.ds ⟨dsOf l, [], 0⟩).length = n from hdl] at this
   obtain ⟨s, hS⟩ : ∃ s : WS, s = ⟨dsOf l, [], 0⟩ := ⟨_, rfl⟩
   have LEN : ∀ k, (addN n m ⟨dsOf l, [], 0⟩ k).ds.length = n := fun k => by rw [addN_len]; exact hdl
   have ASK : ∀ k, k ≤ 8 → 0 ≤ (addN n m ⟨dsOf l, [], 0⟩ k).ask ∧ (addN n m ⟨dsOf l, [], 0⟩ k).ask ≤ 8 * k := fun k hk => by have := addN_ask n m ⟨dsOf l, [], 0⟩ k hk; simpa using this
   have MSL : ∀ k, k ≤ 8 → (addN n m ⟨dsOf l, [], 0⟩ k).ms.length ≤ 16 * k := fun k hk => by have := addN_msl n m ⟨dsOf l, [], 0⟩ k hk; simpa using this
   have CL := cntN_len n m ⟨dsOf l, [], 0⟩ n
   rw [CL]
   rw [← hS] at FIT LEN ASK MSL ⊢
   have FITh := Lib.hid FIT
   have LENh := Lib.hid LEN
   have ASKh := Lib.hid ASK
   have MSLh := Lib.hid MSL
   have HS := Lib.hid hS
   clear FIT LEN ASK MSL
   have hgd := Lib.hid hgd
   have hcb := Lib.hid hcb
   have hf := Lib.hid hf
   have hl := Lib.hid hl
   clear hg hs hwf hdl hS e CL
   go_enter Try.func38, Try.ntmps38
   go_wp2_with fail
   refine (begin_yes u lo A n c l _ hn (rdx H.out (ext_alloc (ext_refl w) _)) hgd.out).mono ?_
   rintro e w1 ⟨g, rfl, hW, hb1⟩
   have hb2 := Lib.hid (ext_trans (ext_alloc (ext_refl w) _) hb1)
   have BF1 := Lib.hid ((Blk.born w #[.int .i64 u, .int .i64 lo, .slice A n c] 26 rfl).ext hb1)
   have hW1 := Lib.hid (show Wk w1 w.heap.size g u lo s by rw [HS.out]; exact hW.mono (B' := w.heap.size) (by simp))
   obtain ⟨a0, a1, a2⟩ := BF1.out.q3
   clear hb1 hW
   go_wp2_with fail
   refine (canAdd_b u lo A n c l m _ _ hf.out (rdx H.out hb2.out) hcb.out).mono ?_
   rintro e w3 ⟨rfl, hb3⟩
   have hb4 := Lib.hid (ext_trans hb2.out hb3)
   have BF3 := Lib.hid (BF1.out.ext hb3)
   have hW3 := Lib.hid (hW1.out.ext hb3)
   have hs4 := hb4.out.size
   clear hb3 a0 a1 a2
   go_wp2_with (at_make; refine wpList_make_full _ rfl _ _ 47 rfl w3.heap.size 3 i0 _ 1 Try.underlying47 hi hz0 hz1 .i64 .i64 _ _ 4 rfl rfl rfl rfl (by rw [hz2]; omega) (by unfold maxLen; omega) (Nat.le_refl _) ?_; intro w0 hown0 hgrow0; (rw [made_ints] at hown0; have hs0 := (hown0.lt _ rfl).2; (have hb5 := Lib.hid ((ext_refl w3).grown hgrow0 (Nat.le_refl _) (fun _ h => by cases h))); have hb6 := Lib.hid (ext_trans hb4.out hb5.out); have BF5 := Lib.hid (BF3.out.ext hb5.out); have hW5 := Lib.hid (hW3.out.ext hb5.out); (have hoc := Lib.hid (show w0.ownsRow w3.heap.size 3 1 (.slice (some ⟨w3.heap.size, 0, none⟩) 4 4) 4 (intsV (cntN n m s 0)) by rw [cntN_zero]; exact hown0)); obtain ⟨a0, a1, a2⟩ := BF5.out.q3; clear hown0 hgrow0))
   refine (digitsFor_any u lo A n c m _ hn8 m0 m1).mono ?_
   rintro e w5 ⟨Ad, cd, rfl, hod, hb7⟩
   have hW7 := Lib.hid (hW5.out.ext hb7)
   have hb8 := Lib.hid (ext_trans hb6.out hb7)
   have hoc7 := Lib.hid (own_ext hoc.out hb7)
   have hne := own_ne hoc.out hod (Nat.le_refl _)
   have hod := Lib.hid hod
   obtain ⟨G, hG⟩ : ∃ G, G = w3.heap.size := ⟨_, rfl⟩
   have hneG : Value.ownBlock (.slice Ad n cd) ≠ some G := by
    rw [hG]
    rcases hne with hd | hd
    · rw [hd]; simp
    · exact hd
   have hoc8 := Lib.hid (show w5.ownsRow w.heap.size 3 1 (.slice (some ⟨G, 0, none⟩) 4 4) 4 (intsV (cntN n m s 0)) by rw [hG]; exact own_base hoc7.out hs4)
   rw [← hG]
   have HG := Lib.hid hG
   have hod8 := Lib.hid (own_base (base' := w.heap.size) hod.out hb6.out.size)
   clear hb7 a0 a1 a2 hne hG hod
   go_wp2
   go_loopw [29] (fun i wr => ∃ k : Nat, k ≤ n ∧ i = .int .i64 k ∧ Hid (Wk wr w.heap.size g u lo (addN n m s k)) ∧ Hid (wr.ownsRow w.heap.size 3 1 (.slice Ad n cd) n (intsV (digs n m))) ∧ Hid (wr.ownsRow w.heap.size 3 1 (.slice (some ⟨G, 0, none⟩) 4 4) 4 (intsV (cntN n m s k))) ∧ Hid (Below w.heap.size w wr)) (fun i _ => n - (intOf i).toNat)
   case atStart => exact ⟨0, Nat.zero_le _, rfl, hW7, hod8, hoc8, hb8⟩
   case round =>
    obtain ⟨k, hk, rfl, hWr, hor, hcr, hbr⟩ := hrel
    by_cases hlt : k < n
    · obtain ⟨b, o, hA, hbb, c0⟩ := ints_at (Reads.of_own hor.out) (digs_get m hlt)
      subst hA
      have hfit := Lib.hid (FITh.out k hlt)
      have hlen := LENh.out k
      have hask := ASKh.out k (by omega)
      have hmsl := MSLh.out k (by omega)
      have hms0 : (addN n m s k).ms.length ≤ 900000 := by omega
      have hln8 : (addN n m s k).ds.length ≤ 8 := by omega
      have hdg := dg_bounds n m k
      obtain ⟨h0, h1⟩ := hask
      obtain ⟨dg0, dg9⟩ := hdg
      have h2 : (addN n m s k).ask ≤ 1000000 := by omega
      by_cases hpos : 0 < dg n m k
      · obtain ⟨x, hx⟩ := list_split (l := (addN n m s k).ds) (k := k) (by omega)
        obtain ⟨x0, x9⟩ := hfit.out.2.2.2.1.get hx
        have hmore := Lib.hid (cnt_more hx hpos)
        obtain ⟨y, hy, hyd, y0, yk⟩ := cnt_at (n := n) (k := k) (m := m) (s := s) x (dg n m k)
        rw [hyd] at hmore
        have hj4 := kindO_lt x (dg n m k)
        have hx := Lib.hid hx
        have pos1 : 1 ≤ dg n m k := by omega
        have hgt : (0 < dg n m k) := hpos
        obtain ⟨J, hJ⟩ : ∃ J, kindO x (dg n m k) = J := ⟨_, rfl⟩
        rw [hJ] at hmore hy hj4
        have hci := Lib.hid (show (intsV (cntN n m s k))[J]? = some (.int .i64 y) by simp [intsV, hy])
        have HJ := Lib.hid hJ
        have hneG' : some G ≠ some g := own_nbT hcr.out (show Blk wr g 66 _ from hWr.out.choose_spec.choose_spec.choose_spec.choose_spec.1) (by decide)
        clear hlen hmsl hy hyd hJ
        go_wp2_with fail
        refine (value_any w.heap.size g u lo (addN n m s k) k x _ hWr.out hx.out x0 x9).mono ?_
        rintro e w7 ⟨rfl, hb9⟩
        have hW9 := Lib.hid (hWr.out.ext hb9)
        have ho9 := Lib.hid (own_ext hor.out hb9)
        have hc9 := Lib.hid (own_ext hcr.out hb9)
        have hb10 := Lib.hid (ext_trans hbr.out hb9)
        have cc : w7.cell? ⟨G, J, none⟩ = some (.int .i64 y) := by rw [hc9.out.cellAt J (by omega)]; exact hci.out
        have cf : w7.frozen? ⟨G, J, none⟩ = false := hc9.out.frozenAt J
        clear hb9
        go_wp2_with fail
        refine (kindOfAdd_any x (dg n m k) _ x0 x9 pos1 dg9).mono ?_
        rw [HJ.out]
        rintro e w8 ⟨rfl, rfl⟩
        go_wp2_with fail
        have hW11 := Lib.hid (hW9.out.setRow hc9.out (by decide) (by decide) (by decide) J (.int .i64 (y + 1)))
        refine (add_any w.heap.size g u lo (addN n m s k) k (dg n m k) _ hW11.out hfit.out hln8 hms0 h0 h2).mono ?_
        rintro e w10 ⟨rfl, hW12, hb12, hk12⟩
        have hW12 := Lib.hid hW12
        have hGl := (hc9.out.lt G rfl).1
        have hb13 := Lib.hid ((hb10.out.setCell (p := ⟨G, J, none⟩) hGl (.int .i64 (y + 1))).trans hb12)
        have ho13 := Lib.hid (hk12.own (own_setF (p := ⟨G, J, none⟩) ho9.out hneG (.int .i64 (y + 1))) (by decide) (by decide) (by decide))
        have hst := (hc9.out.stored J (.int .i64 (y + 1))).1
        rw [← intsV_set, ← hmore.out] at hst
        have hc13 := Lib.hid (hk12.own hst (by decide) (by decide) (by decide))
        clear hb12 hk12 hst cc cf
        go_wp2
        go_roundw
        case rel => exact ⟨k + 1, by omega, by go_num, hW12, ho13, hc13, hb13⟩
        case measure => simp [intOf]; omega
      · have hm1 := cnt_same (n := n) (k := k) (m := m) (s := s) hpos
        have hm2 := add_same (n := n) (k := k) (m := m) (s := s) hpos
        have hW12 := Lib.hid (show Wk wr w.heap.size g u lo (addN n m s (k + 1)) by rw [hm2]; exact hWr.out)
        have hc13 := Lib.hid (show wr.ownsRow w.heap.size 3 1 (.slice (some ⟨G, 0, none⟩) 4 4) 4 (intsV (cntN n m s (k + 1))) by rw [hm1]; exact hcr.out)
        clear hm1 hm2 hlen hmsl
        go_wp2
        go_roundw
        case rel => exact ⟨k + 1, by omega, by go_num, hW12, hor, hc13, hbr⟩
        case measure => simp [intOf]; omega
    · obtain rfl : k = n := by omega
      go_wp2
      go_ret2
      exact ⟨_, _, rfl, hcr.out, hbr.out⟩
end Go.Proofs.Ytajdmeajkgdioaa
