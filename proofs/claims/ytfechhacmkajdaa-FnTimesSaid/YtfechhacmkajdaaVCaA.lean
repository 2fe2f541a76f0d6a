/- CarriesOf: the reference's. -/
import Derived.Deep.CutBlock
import Derived.Test.YtfechhacmkajdaaVM8
import Derived.Test.YtfechhacmkajdaaVM7
import Derived.Test.YtfechhacmkajdaaVM6
namespace Go.Proofs.Ytfechhacmkajdaa
open Go.RowKit
set_option linter.unusedVariables false
set_option linter.unusedSimpArgs false
set_option maxRecDepth 100000 in
set_option maxHeartbeats 2000000 in
theorem specCarriesOf_any (u lo : Int) (A : Option Addr) (n c : Nat) (l : List R2) (m : Int) (w : World) (hn : n ≤ 1048576) (h : Reads w w.heap.size 2 A n (rowsV2 l)) :
 Calls Try.prog 36 #[frV u lo A n c, .int .i64 m] w (RetV (.tuple #[.int .i64 (if addNok u lo l m = true then (addNst l m).ask else 0), .bool (addNok u lo l m)]) w) := by
 have hl := rows_len2 h
 have H := Lib.hid h
 have BF0 := Lib.hid (Blk.born w #[.int .i64 u, .int .i64 lo, .slice A n c] 42 (H := w.heap.size) rfl)
 have hbx := Lib.hid (ext_alloc (ext_refl w) (.cells #[.int .i64 u, .int .i64 lo, .slice A n c] 42))
 cases hg : addNok u lo l m
 · have HG := Lib.hid hg
   rw [if_neg (by simp)]
   clear h hg hl
   go_enter Try.func36, Try.ntmps36
   go_wp2_with fail
   refine (l6Can_any u lo A n c l m _ hn (rdx H.out hbx.out)).mono ?_
   rw [HG.out]
   rintro e w1 ⟨rfl, hb1⟩
   have hb2 := Lib.hid (ext_trans hbx.out hb1)
   clear hb1
   go_wp2
   go_ret2
   exact ⟨rfl, hb2.out⟩
 · have HG := Lib.hid hg
   rw [if_pos rfl]
   have ES : addNst l m = addN n m ⟨dsOf l, [], 0⟩ n := by rw [← hl]; rfl
   have hg' := hg
   unfold addNok at hg'
   simp only [Bool.and_eq_true] at hg'
   obtain ⟨hgd, hcb⟩ := hg'
   have hf := good_fr hgd
   have hs := good_std hgd
   have hn1 := (frB_head hf).2.2.1
   have hn8 := (frB_head hf).2.2.2
   rw [hl] at hn1 hn8
   have hdl : (dsOf l).length = n := by rw [dsOf_len, hl]
   have m0 : 0 ≤ m := canAdd_nonneg hcb
   have m1 : m < 200000000 := canAdd_bound hf hcb
   have FIT0 : ∀ k, k < n → AddFit (k + 1) (dg n m k) (addN n m ⟨dsOf l, [], 0⟩ k).ds := by
    intro k hk
    have := (addN_facts (s := ⟨dsOf l, [], 0⟩) (m := m) (dsOf_WF hf hs) m0 (canAdd_fit hcb) k (by show k ≤ (dsOf l).length; omega)).2 (by show k < (dsOf l).length; omega)
    rwa [show (WS.ds ⟨dsOf l, [], 0⟩).length = n from hdl] at this
   have FIT := Lib.hid FIT0
   have ASK := Lib.hid (fun k (hk : k ≤ 8) => addN_ask n m ⟨dsOf l, [], 0⟩ k hk)
   have LEN := Lib.hid (fun k => show (addN n m ⟨dsOf l, [], 0⟩ k).ds.length = n by rw [addN_len]; exact hdl)
   have H2 := Lib.hid (show Reads w w.heap.size 2 A n (rowsV2 (rodsD (dsOf l))) by rw [rodsD_dsOf hf hs]; exact h)
   obtain ⟨ds, hds⟩ : ∃ ds, dsOf l = ds := ⟨_, rfl⟩
   rw [hds] at FIT H2 ES ASK LEN
   rw [ES]
   clear h hg hgd hcb hf hs hdl hl ES FIT0 hds
   go_enter Try.func36, Try.ntmps36
   go_wp2_with fail
   refine (l6Can_any u lo A n c l m _ hn (rdx H.out hbx.out)).mono ?_
   rw [HG.out]
   rintro e w1 ⟨rfl, hb1⟩
   have BF1 := Lib.hid (BF0.out.ext hb1)
   have hb2 := Lib.hid (ext_trans hbx.out hb1)
   clear hb1 BF0
   obtain ⟨c0, c1, c2⟩ := BF1.out.q3
   have lf := BF1.out.lt
   go_wp2_with fail
   refine (l2Own_fr u lo A n c (rodsD ds) _ hn1 (by omega) (rdx H2.out hb2.out)).mono ?_
   rintro e w2 ⟨h0, cr0, rfl, hr, hb⟩
   obtain ⟨N, hN⟩ : ∃ N, N = w2.heap.size := ⟨_, rfl⟩
   obtain ⟨W, hW⟩ : ∃ W, W = w2.alloc (.cells #[.int .i64 u, .int .i64 lo, .slice (some ⟨h0, 0, none⟩) n cr0] 42) := ⟨_, rfl⟩
   have BN := Lib.hid (show Blk W N 42 #[.int .i64 u, .int .i64 lo, .slice (some ⟨h0, 0, none⟩) n cr0] by rw [hW]; exact Blk.born _ _ _ hN)
   have BFW := Lib.hid (show Blk W w.heap.size 42 #[.int .i64 u, .int .i64 lo, .slice A n c] by rw [hW]; exact (BF1.out.ext hb).al _)
   have hrW := Lib.hid (show W.ownsRow w.heap.size 54 2 (.slice (some ⟨h0, 0, none⟩) n cr0) n (rowsV2 (rodsD ds)) by rw [hW]; exact (own_base hr hb2.out.size).alloc _)
   have hbW := Lib.hid (show Below w.heap.size w W by rw [hW]; exact ext_alloc (ext_trans hb2.out hb) _)
   have hNw : N ≠ w.heap.size := by have := (BF1.out.ext hb).lt; omega
   have HNle : w.heap.size ≤ N := by have := (BF1.out.ext hb).lt; omega
   have HWN := Lib.hid (And.intro hW hN)
   clear hr hb hN hW c0 c1 c2 lf BF1 hb2
   go_wp2
   rw [← HWN.out.2, ← HWN.out.1]
   clear HWN
   go_loopw [6, 8] (fun q i wr => ∃ (k : Nat) (t : WS) (h' cr' : Nat), k ≤ n ∧ i = .int .i64 k ∧ q = .int .i64 t.ask ∧ Hid (t = addN n m ⟨ds, [], 0⟩ k) ∧ Hid (wr.ownsRow w.heap.size 54 2 (.slice (some ⟨h', 0, none⟩) n cr') n (rowsV2 (rodsD t.ds))) ∧ Hid (Blk wr N 42 #[.int .i64 u, .int .i64 lo, .slice (some ⟨h', 0, none⟩) n cr']) ∧ Hid (Blk wr w.heap.size 42 #[.int .i64 u, .int .i64 lo, .slice A n c]) ∧ Hid (Below w.heap.size w wr)) (fun _ i _ => n - (intOf i).toNat)
   case atStart => exact ⟨0, ⟨ds, [], 0⟩, h0, cr0, Nat.zero_le _, rfl, rfl, Lib.hid rfl, hrW, BN, BFW, hbW⟩
   case round =>
    clear hrW BN BFW hbW
    obtain ⟨k, t, h', cr', hk, rfl, rfl, heq, hrr, BNr, BFr, hbr⟩ := hrel
    obtain ⟨W0, hW0⟩ : ∃ y : World, y = wr := ⟨_, rfl⟩
    subst hW0
    obtain ⟨p0, p1, p2⟩ := BNr.out.q3
    obtain ⟨a0, a1, a2⟩ := BFr.out.q3
    have hNr := BNr.out.lt
    have hFr := BFr.out.lt
    have hlen : t.ds.length = n := by rw [heq.out]; exact LEN.out k
    obtain ⟨ha0, ha1⟩ : 0 ≤ t.ask ∧ t.ask ≤ 8 * k := by have h := ASK.out k (by omega); rw [← heq.out] at h; simpa using h
    by_cases hlt : k < n
    · have hfit := Lib.hid (show AddFit (k + 1) (dg n m k) t.ds by rw [heq.out]; exact FIT.out k hlt)
      obtain ⟨S, hS⟩ : ∃ S, S = addS (k + 1) (dg n m k) ⟨t.ds, [], 0⟩ := ⟨_, rfl⟩
      have hask : t.ask + cyc (k + 1) (dg n m k) t.ds = (addN n m ⟨ds, [], 0⟩ (k + 1)).ask := by
       rw [addN, ← heq.out, addS_cyc _ _ _ hfit.out]
      have hnds := Lib.hid (show S.ds = (addN n m ⟨ds, [], 0⟩ (k + 1)).ds by rw [addN, ← heq.out, addS_pile0, ← hS])
      have hd := dg_bounds n m k
      have hwf := hfit.out.2.2.2.1
      obtain ⟨d, hdd⟩ : ∃ d, dg n m k = d := ⟨_, rfl⟩
      have HDG := Lib.hid hdd
      rw [hdd] at hask hd hfit hS
      obtain ⟨Q, hQ⟩ : ∃ Q, (addN n m ⟨ds, [], 0⟩ (k + 1)).ask = Q := ⟨_, rfl⟩
      rw [hQ] at hask
      have hQb : Q ≤ 8 * (k + 1) := by have h := (ASK.out (k + 1) (by omega)).2; rw [hQ] at h; simp at h; omega
      have HQ := Lib.hid hQ
      have HASK := Lib.hid hask
      have HS := Lib.hid hS
      have HLEN := Lib.hid hlen
      have HWF := Lib.hid hwf
      have e2 : (k : Int) < (n : Int) := by omega
      have k0 : (0 : Int) ≤ (k : Int) := by omega
      have HAT := Lib.hid (fun w => l6At_any u lo A n c k m w hn8 hlt m0 m1)
      rw [hdd] at HAT
      clear hS hlen hask hQ hdd hwf
      go_wp2_with fail
      refine (HAT.out _).mono ?_
      rintro e w3 ⟨rfl, hb⟩
      have BN3 := Lib.hid (BNr.out.ext hb)
      have BF3 := Lib.hid (BFr.out.ext hb)
      have hr3 := Lib.hid (own_ext hrr.out hb)
      have hb3 := Lib.hid (ext_trans hbr.out hb)
      clear hb p0 p1 p2 a0 a1 a2 hNr hFr BNr BFr hrr hbr
      obtain ⟨p0, p1, p2⟩ := BN3.out.q3
      have hNr := BN3.out.lt
      go_upto_block 2 with fail
      go_cut [6] (fun s6 wx => s6 = .int .i64 Q ∧ Hid (Below w3.heap.size w3 wx))
      case first =>
       go_wp2_with fail
       go_loopw [6, 9, 10] (fun q dv j wr => ∃ (i : Nat) (y z : Int), i ≤ k ∧ j = .int .i64 i ∧ dv = .int .i64 y ∧ q = .int .i64 z ∧ 0 ≤ y ∧ y ≤ 9 ∧ 0 ≤ z ∧ z ≤ 64 ∧ Hid (z + cyc (i + 1) y t.ds = Q) ∧ Hid (Below w3.heap.size w3 wr)) (fun _ _ j _ => (intOf j).toNat)
       case atStart => exact ⟨k, d, t.ask, Nat.le_refl _, rfl, rfl, rfl, hd.1, hd.2, ha0, by omega, HASK, Lib.hid (ext_refl _)⟩
       case round =>
        obtain ⟨i, y, z, hi, rfl, rfl, rfl, y0, y9, z0, z9, HZ, HX⟩ := hrel
        obtain ⟨V, hV⟩ : ∃ V : World, V = wr := ⟨_, rfl⟩
        subst hV
        have q0 := ext_cell HX.out p0
        have q1 := ext_cell HX.out p1
        have q2 := ext_cell HX.out p2
        have hNv := Nat.lt_of_lt_of_le hNr HX.out.size
        by_cases hi0 : 0 < i
        · obtain ⟨i, rfl⟩ : ∃ j, i = j + 1 := ⟨i - 1, by omega⟩
          obtain ⟨x, hx⟩ := list_split (l := t.ds) (k := i + 1) (by rw [HLEN.out]; omega)
          have hxd : t.ds.getD (i + 1) 0 = x := by rw [List.getD_eq_getElem?_getD, hx]; rfl
          obtain ⟨v0, v1, hlt', _⟩ := rows_cells2 (own_ext hr3.out HX.out) (rodsD_get hx)
          have hxb := HWF.out.get hx
          have HV := Lib.hid (fun w => l2Value_rod x w hxb.1 hxb.2)
          have i0 : (0 : Int) < ((i + 1 : Nat) : Int) := by omega
          have i1 : (0 : Int) ≤ ((i + 1 : Nat) : Int) := by omega
          have i2 : ((i + 1 : Nat) : Int) < (n : Int) := by omega
          have i3 : ((i + 1 : Nat) : Int) - 1 = (i : Int) := by omega
          have HXD := Lib.hid hxd
          unfold rodD at v0 v1
          clear hx hxd
          by_cases h9 : 9 < x + y
          · have HZ2 := Lib.hid (show z + 1 + cyc (i + 1) 1 t.ds = Q by have h := HZ.out; rw [cyc_yes (by rw [HXD.out]; exact h9)] at h; omega)
            have hz2 : z + 1 ≤ 64 := by have h := HZ2.out; have := cyc_bounds (i + 1) 1 t.ds; omega
            go_wp2_with fail
            refine (HV.out _).mono ?_
            rintro e w4 ⟨rfl, hb4⟩
            have HX4 := Lib.hid (ext_trans HX.out hb4)
            clear hb4
            go_wp2_with fail
            go_roundw
            case rel => exact ⟨i, 1, z + 1, by omega, by go_num, rfl, by go_num, by omega, by omega, by omega, by omega, HZ2, HX4⟩
            case measure => first | (simp [intOf]; done) | (simp [intOf]; omega)
          · have HZ2 := Lib.hid (show z = Q by have h := HZ.out; rw [cyc_no (by rw [HXD.out]; exact h9)] at h; omega)
            go_wp2_with fail
            refine (HV.out _).mono ?_
            rintro e w4 ⟨rfl, hb4⟩
            have HX4 := Lib.hid (ext_trans HX.out hb4)
            clear hb4
            go_wp2_with fail
            go_meet
            exact ⟨by rw [HZ2.out], HX4⟩
        · obtain rfl : i = 0 := by omega
          have HZ2 := Lib.hid (show z = Q by have h := HZ.out; rw [cyc_one] at h; omega)
          go_wp2_with fail
          go_meet
          exact ⟨by rw [HZ2.out], HX⟩
      case rest =>
       obtain ⟨rfl, HXC⟩ := hcut
       obtain ⟨V, hV⟩ : ∃ V : World, V = wc := ⟨_, rfl⟩
       subst hV
       have BN4 := Lib.hid (BN3.out.ext HXC.out)
       have BF4 := Lib.hid (BF3.out.ext HXC.out)
       have hr4 := Lib.hid (own_ext hr3.out HXC.out)
       have hb4 := Lib.hid (ext_trans hb3.out HXC.out)
       clear p0 p1 p2 hNr BN3 BF3 hr3 hb3 HXC
       obtain ⟨p0, p1, p2⟩ := BN4.out.q3
       obtain ⟨a0, a1, a2⟩ := BF4.out.q3
       have hNr := BN4.out.lt
       have hFr := BF4.out.lt
       go_upto_region 13 with fail
       go_cut [12] (fun s12 wx => ∃ (g h1 cr1 : Nat), s12 = .pointer (some ⟨g, 0, none⟩) ∧ Hid (Blk wx g 42 #[.int .i64 u, .int .i64 lo, .slice (some ⟨h1, 0, none⟩) n cr1]) ∧ Hid (wx.ownsRow w.heap.size 54 2 (.slice (some ⟨h1, 0, none⟩) n cr1) n (rowsV2 (rodsD S.ds))) ∧ Hid (Below V.heap.size V wx) ∧ V.heap.size ≤ g)
       case first =>
        have hsV := hb4.out.size
        go_region_held3 (fun w' => w'.cell? ⟨N, 0, none⟩ = some (.int .i64 u) ∧ w'.cell? ⟨N, 1, none⟩ = some (.int .i64 lo) ∧ w'.cell? ⟨N, 2, none⟩ = some (.slice (some ⟨h', 0, none⟩) n cr') ∧ w'.cell? ⟨w.heap.size, 0, none⟩ = some (.int .i64 u) ∧ w'.cell? ⟨w.heap.size, 1, none⟩ = some (.int .i64 lo) ∧ w'.cell? ⟨w.heap.size, 2, none⟩ = some (.slice A n c)) (first | (go_split_ands; ((repeat' refine And.intro ?_ ?_) <;> with_reducible (repeat (first | assumption | refine cell_drew ?_ | refine cell_old ?_ _ | refine cell_set_far (by simp <;> omega) ?_))))) (first | (go_at_call 61; refine (HAT.out _).mono ?_; rintro e w2 ⟨rfl, hb⟩; have hbA := Lib.hid (show Below V.heap.size V w2 from ext_trans (by repeat (first | exact ext_refl _ | refine ext_drew ?_ | refine ext_alloc ?_ _)) hb); have hs2 := hbA.out.size; have hbR := Lib.hid hb; obtain ⟨hc, hf⟩ := bcell hb; have hz := hb.size; (try simp at hz); (try have hy3 := Nat.lt_of_lt_of_le hy2 hb.size); (try have hy2 := Nat.lt_of_lt_of_le hy1 hb.size); (try have hy1 := Nat.lt_of_lt_of_le hy hb.size); (try have hy := Nat.lt_of_succ_le hz); have p0A := ext_cell hbA.out p0; have p1A := ext_cell hbA.out p1; have p2A := ext_cell hbA.out p2; have a0A := ext_cell hbA.out a0; have a1A := ext_cell hbA.out a1; have a2A := ext_cell hbA.out a2) | (go_at_call 63; refine (l6Digit_n u lo (some ⟨h', 0, none⟩) n cr' t.ds k d S _ HLEN.out hn8 hfit.out HS.out (Reads.of_own (own_ext hr4.out (by repeat (first | exact hbA.out | refine ext_drew ?_ | refine ext_alloc ?_ _))))).mono ?_; rintro e w3 ⟨A1, c1, h1, cr1, rfl, hm1, hr1, hb⟩; have hbB := Lib.hid (show Below V.heap.size V w3 from ext_trans (by repeat (first | exact hbA.out | refine ext_drew ?_ | refine ext_alloc ?_ _)) hb); have hs3 := hbB.out.size; have hbS := Lib.hid hb; obtain ⟨hc, hf⟩ := bcell hb; have hz := hb.size; (try simp at hz); (try have hy3 := Nat.lt_of_lt_of_le hy2 hb.size); (try have hy2 := Nat.lt_of_lt_of_le hy1 hb.size); (try have hy1 := Nat.lt_of_lt_of_le hy hb.size); (try have hy := Nat.lt_of_succ_le hz); have hr1 := Lib.hid hr1; have p0B := ext_cell hbB.out p0; have p1B := ext_cell hbB.out p1; have p2B := ext_cell hbB.out p2; have a0B := ext_cell hbB.out a0; have a1B := ext_cell hbB.out a1; have a2B := ext_cell hbB.out a2))
        all_goals
         go_wp2_with fail
         go_meet
         refine ⟨_, h1, cr1, rfl, ?_, ?_, ?_, ?_⟩
         · first
            | exact Lib.hid (Blk.born _ _ _ rfl)
            | exact Lib.hid (fr_fill ((Blk.born w2 #[.int .i64 0, .int .i64 0, .slice none 0 0] 42 rfl).ext hbS.out))
            | exact Lib.hid (fr_fill (((Blk.born V.drew #[.int .i64 0, .int .i64 0, .slice none 0 0] 42 rfl).ext hbR.out).ext hbS.out))
         · first
            | exact Lib.hid (own_base (World.ownsRow.alloc hr1.out _) (by omega))
            | exact Lib.hid (fill_own hr1.out (by have e1 := hbR.out.size; have e2 := hbS.out.size; (try simp at e1); (try simp at e2); (try simp) <;> omega) (by have e1 := hbR.out.size; have e2 := hbS.out.size; (try simp at e1); (try simp at e2); (try simp) <;> omega))
         · first
            | exact Lib.hid (ext_alloc hbB.out _)
            | exact Lib.hid (fill_below hbB.out (by first | exact Nat.le_refl _ | omega))
         · first | exact Nat.le_refl _ | omega
       case rest =>
        obtain ⟨g, h1, cr1, rfl, BG, hr1, hbx1, hgl⟩ := hcut
        obtain ⟨w5, hw5⟩ : ∃ x : World, x = wc := ⟨_, rfl⟩
        subst hw5
        have BN5 := Lib.hid (BN4.out.ext hbx1.out)
        have BF5 := Lib.hid (BF4.out.ext hbx1.out)
        have hb5 := Lib.hid (ext_trans hb4.out hbx1.out)
        clear p0 p1 p2 a0 a1 a2 hNr hFr BN4 BF4 hr4 hb4 hbx1
        obtain ⟨p0, p1, p2⟩ := BN5.out.q3
        obtain ⟨f0, f1, f2⟩ := BN5.out.z3
        obtain ⟨g0, g1, g2⟩ := BG.out.q3
        have hN5 := BN5.out.lt
        have hG5 := BG.out.lt
        go_wp2
        go_roundw
        case rel =>
         rw [← HQ.out]
         exact ⟨k + 1, addN n m ⟨ds, [], 0⟩ (k + 1), h1, cr1, by omega, by go_num, rfl, Lib.hid rfl, Lib.hid (by rw [← hnds.out]; exact fill_own' hr1.out (own_nbT hr1.out BN5.out (by decide))), Lib.hid (fr_put BN5.out), Lib.hid (fill_far BF5.out hNw), Lib.hid (fill_below hb5.out HNle)⟩
        case measure => simp [intOf]; omega
    · obtain rfl : k = n := by omega
      have HFIN := Lib.hid (show t.ask = (addN k m ⟨ds, [], 0⟩ k).ask by rw [heq.out])
      go_wp2
      go_ret2
      rw [← HFIN.out]
      exact ⟨rfl, hbr.out⟩

end Go.Proofs.Ytfechhacmkajdaa
