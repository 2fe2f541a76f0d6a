/- KindsUsed: the reference's. -/
import Derived.Test.YtajdmeajkgdioaaVFrV
import Derived.Test.YtajdmeajkgdioaaVFrO
namespace Go.Proofs.Ytajdmeajkgdioaa
open Go.RowKit
set_option linter.unusedVariables false
set_option linter.unusedSimpArgs false
set_option maxRecDepth 100000 in
set_option maxHeartbeats 4000000 in
theorem l6Kind_any (v d : Int) (w : World) (v0 : 0 ≤ v) (v9 : v ≤ 9) (d0 : 1 ≤ d) (d9 : d ≤ 9) :
 Calls Try.prog 81 #[.int .i64 v, .int .i64 d] w fun e w' => e = .returned (.int .i64 ((kindO v d : Nat) : Int)) ∧ w = w' := by
 obtain ⟨K, hK⟩ : ∃ K, kindO v d = K := ⟨_, rfl⟩
 rw [hK]
 have p0 : 0 ≤ v % 5 := by omega
 have p4 : v % 5 ≤ 4 := by omega
 have q0 : 0 ≤ (10 - d) % 5 := by omega
 have q4 : (10 - d) % 5 ≤ 4 := by omega
 have HK := Lib.hid hK
 clear hK
 go_enter Try.func81, Try.ntmps81
 by_cases h1 : v % 5 + d ≤ 4
 · have e : kindO v d = 0 := by unfold kindO; rw [if_pos (.inl h1)]
   rw [HK.out] at e
   subst e
   go_wp2
   go_ret
   exact ⟨rfl, rfl⟩
 by_cases h2 : 5 ≤ d ∧ v ≤ 4 ∧ v + d - 5 ≤ 4
 · have e : kindO v d = 0 := by unfold kindO; rw [if_pos (.inr h2)]
   rw [HK.out] at e
   subst e
   obtain ⟨h3, h4, h5⟩ := h2
   go_wp2
   go_ret
   exact ⟨rfl, rfl⟩
 have h12 : ¬ (v % 5 + d ≤ 4 ∨ 5 ≤ d ∧ v ≤ 4 ∧ v + d - 5 ≤ 4) := by omega
 by_cases h6 : v + d ≤ 9
 · have e : kindO v d = 1 := by unfold kindO; rw [if_neg h12, if_pos h6]
   rw [HK.out] at e
   subst e
   by_cases h3 : 5 ≤ d
   · by_cases h4 : v ≤ 4
     · have h5 : ¬ v + d - 5 ≤ 4 := by omega
       clear h2 h12
       go_wp2
       go_ret
       exact ⟨rfl, rfl⟩
     · clear h2 h12
       go_wp2
       go_ret
       exact ⟨rfl, rfl⟩
   · clear h2 h12
     go_wp2
     go_ret
     exact ⟨rfl, rfl⟩
 by_cases h7 : (10 - d) % 5 ≤ v % 5 ∧ (5 ≤ v ∨ 10 - d < 5)
 · have e : kindO v d = 2 := by unfold kindO; rw [if_neg h12, if_neg h6, if_pos h7]
   rw [HK.out] at e
   subst e
   obtain ⟨h8, h9⟩ := h7
   by_cases h10 : 5 ≤ v
   · have hb : 10 - d ≤ v := by omega
     by_cases h3 : 5 ≤ d
     · clear h2 h12 h9
       go_wp2
       go_ret
       exact ⟨rfl, rfl⟩
     · clear h2 h12 h9
       go_wp2
       go_ret
       exact ⟨rfl, rfl⟩
   · have h11 : 10 - d < 5 := by omega
     have h3 : 5 ≤ d := by omega
     have h4 : v ≤ 4 := by omega
     have h5 : ¬ v + d - 5 ≤ 4 := by omega
     have hb : 10 - d ≤ v := by omega
     clear h2 h12 h9
     go_wp2
     go_ret
     exact ⟨rfl, rfl⟩
 · have e : kindO v d = 3 := by unfold kindO; rw [if_neg h12, if_neg h6, if_neg h7]
   rw [HK.out] at e
   subst e
   have hb : 10 - d ≤ v := by omega
   by_cases h3 : 5 ≤ d
   · by_cases h4 : v ≤ 4
     · have h5 : ¬ v + d - 5 ≤ 4 := by omega
       by_cases h8 : (10 - d) % 5 ≤ v % 5
       · have h9 : ¬ 5 ≤ v := by omega
         have h11 : ¬ 10 - d < 5 := by omega
         clear h2 h12 h7
         go_wp2
         go_ret
         exact ⟨rfl, rfl⟩
       · clear h2 h12 h7
         go_wp2
         go_ret
         exact ⟨rfl, rfl⟩
     · have h8 : ¬ (10 - d) % 5 ≤ v % 5 := by omega
       clear h2 h12 h7
       go_wp2
       go_ret
       exact ⟨rfl, rfl⟩
   · by_cases h8 : (10 - d) % 5 ≤ v % 5
     · have h9 : ¬ 5 ≤ v := by omega
       have h11 : ¬ 10 - d < 5 := by omega
       clear h2 h12 h7
       go_wp2
       go_ret
       exact ⟨rfl, rfl⟩
     · clear h2 h12 h7
       go_wp2
       go_ret
       exact ⟨rfl, rfl⟩
theorem mk4 (w : World) : (Instr.makeSlice 47 (.int .i64 4) (.int .i64 4)).run Try.prog w = .ok (.slice (some ⟨w.heap.size, 0, none⟩) 4 4) (w.alloc (.cells #[.int .i64 0, .int .i64 0, .int .i64 0, .int .i64 0] 3)) := by
 obtain ⟨i0, hi, hz0, hz1, hz2⟩ := info_parts info_int
 have := run_make (P := Try.prog) w 47 3 i0 _ Try.underlying47 hi hz0 .i64 .i64 4 4 (by decide) (Int.le_refl _) (by rw [hz2]; decide) (by decide)
 rw [this, hz1]
 have e : madeCells (Value.int .i64 0).cells (Int.toNat 4 * 1) = #[.int .i64 0, .int .i64 0, .int .i64 0, .int .i64 0] := Array.ext' (made_ints 4)
 rw [e]
 rfl
theorem Blk.drw {w : World} {g : Nat} {t : TypeId} {cs : Array Value} (h : Blk w g t cs) : Blk w.drew g t cs := h
theorem own_z4 (w0 : World) {H B : Nat} (hH : H = w0.heap.size) (hB : B ≤ H) : (w0.alloc (.cells #[.int .i64 0, .int .i64 0, .int .i64 0, .int .i64 0] 3)).ownsRow B 3 1 (.slice (some ⟨H, 0, none⟩) 4 4) 4 (intsV (List.replicate 4 0)) := by
 subst hH
 exact World.ownsRow_lit w0 #[.int .i64 0, .int .i64 0, .int .i64 0, .int .i64 0] 4 hB (by unfold maxLen; omega) rfl
set_option maxRecDepth 100000 in
set_option maxHeartbeats 4000000 in
theorem specKindsUsed_any (u lo : Int) (A : Option Addr) (n c : Nat) (l : List R2) (m : Int) (w : World) (hn : n ≤ 1048576) (h : Reads w w.heap.size 2 A n (rowsV2 l)) :
 Calls Try.prog 39 #[frV u lo A n c, .int .i64 m] w (RetSliceB w 3 1 (kindsM u lo l m).length (intsV (kindsM u lo l m)) (addNok u lo l m)) := by
 obtain ⟨i0, hi, hz0, hz1, hz2⟩ := info_parts info_int
 have hl := rows_len2 h
 have H := Lib.hid h
 cases hg : addNok u lo l m
 · rw [show kindsM u lo l m = [] by simp [kindsM, hg]]
   have HG := Lib.hid hg
   clear h hg hl
   go_enter Try.func39, Try.ntmps39
   go_wp2_with fail
   refine (l6Can_any u lo A n c l m _ hn (rdx H.out (ext_alloc (ext_refl w) _))).mono ?_
   rw [HG.out]
   rintro e w1 ⟨rfl, hb1⟩
   have hb2 := Lib.hid (ext_trans (ext_alloc (ext_refl w) _) hb1)
   have ho := Lib.hid (own_lit_at w1 3 1 (H := w1.heap.size) (B := w.heap.size) rfl hb2.out.size)
   clear hb1
   go_wp2
   go_ret2
   exact ⟨_, _, rfl, ho.out, ext_alloc hb2.out _⟩
 · have e : kindsM u lo l m = cntN n m ⟨dsOf l, [], 0⟩ n := by rw [kindsM, if_pos hg, hl]
   rw [e]
   have HG := Lib.hid hg
   have hg' := hg
   unfold addNok at hg'
   simp only [Bool.and_eq_true] at hg'
   obtain ⟨hgd, hcb⟩ := hg'
   have hf := good_fr hgd
   have hs := good_std hgd
   have hn1 := (frB_head hf).2.2.1
   have hn8 := (frB_head hf).2.2.2
   rw [hl] at hn1 hn8
   have hdl : (dsOf l).length = n := by rw [dsOf_len, hl]
   have m0 : 0 ≤ m := canAdd_nonneg hcb
   have m1 : m < 200000000 := canAdd_bound hf hcb
   have FIT : ∀ k, k < n → AddFit (k + 1) (dg n m k) (addN n m ⟨dsOf l, [], 0⟩ k).ds := by
    intro k hk
    have := (addN_facts (s := ⟨dsOf l, [], 0⟩) (m := m) (dsOf_WF hf hs) m0 (canAdd_fit hcb) k (by show k ≤ (dsOf l).length; omega)).2 (by show k < (dsOf l).length; omega)
    rwa [show (WS.ds ⟨dsOf l, [], 0⟩).length = n from hdl] at this
   have LEN : ∀ k, (addN n m ⟨dsOf l, [], 0⟩ k).ds.length = n := fun k => by rw [addN_len]; exact hdl
   have H2 := Lib.hid (show Reads w w.heap.size 2 A n (rowsV2 (rodsD (dsOf l))) by rw [rodsD_dsOf hf hs]; exact h)
   have CL := cntN_len n m ⟨dsOf l, [], 0⟩ n
   rw [CL]
   obtain ⟨s, hS⟩ : ∃ s : WS, s = ⟨dsOf l, [], 0⟩ := ⟨_, rfl⟩
   have SD : dsOf l = s.ds := by rw [hS]
   rw [← hS] at FIT LEN ⊢
   rw [SD] at H2
   have FITh := Lib.hid FIT
   have LENh := Lib.hid LEN
   have HS := Lib.hid hS
   have ZERO := Lib.hid (show (addN n m s 0) = s from rfl)
   have hdl := Lib.hid (show s.ds.length = n by rw [hS]; exact hdl)
   clear h hg hgd hcb hf hs hl e CL FIT LEN hS SD
   go_enter Try.func39, Try.ntmps39
   go_wp2_with fail
   refine (l6Can_any u lo A n c l m _ hn (rdx H.out (ext_alloc (ext_refl w) _))).mono ?_
   rw [HG.out]
   rintro e w1 ⟨rfl, hb1⟩
   obtain ⟨BF, hb2, hs2⟩ := box_frame (by simpa using hb1)
   have hb2 := Lib.hid hb2
   have BF1 := Lib.hid BF
   obtain ⟨a0, a1, a2⟩ := BF.q3
   clear BF hb1
   have hmk := mk4
   go_upto_region 3 with fail
   go_cut [6, 7] (fun s6 s7 wx => ∃ (G g h1 cr1 : Nat), s6 = .slice (some ⟨G, 0, none⟩) 4 4 ∧ s7 = .pointer (some ⟨g, 0, none⟩) ∧ Hid (Blk wx g 26 #[.int .i64 u, .int .i64 lo, .slice (some ⟨h1, 0, none⟩) n cr1]) ∧ Hid (wx.ownsRow w.heap.size 3 1 (.slice (some ⟨G, 0, none⟩) 4 4) 4 (intsV (cntN n m s 0))) ∧ Hid (wx.ownsRow w.heap.size 87 2 (.slice (some ⟨h1, 0, none⟩) n cr1) n (rowsV2 (rodsD s.ds))) ∧ Hid (Below w1.heap.size w1 wx) ∧ w1.heap.size ≤ g ∧ w1.heap.size ≤ G)
   case first =>
    go_region_held3 (fun w' => w'.cell? ⟨w.heap.size, 0, none⟩ = some (.int .i64 u) ∧ w'.cell? ⟨w.heap.size, 1, none⟩ = some (.int .i64 lo) ∧ w'.cell? ⟨w.heap.size, 2, none⟩ = some (.slice A n c)) (first | (go_split_ands; ((repeat' refine And.intro ?_ ?_) <;> with_reducible (repeat (first | assumption | refine cell_drew ?_ | refine cell_old ?_ _ | refine cell_set_far (by simp <;> omega) ?_))))) (first | (go_at_call 72; refine (l2Own_fr u lo A n c (rodsD s.ds) _ hn1 (by omega) (rdx H2.out (by repeat (first | exact hb2.out | refine ext_drew ?_ | refine ext_alloc ?_ _)))).mono ?_; rintro e w2 ⟨h1, cr1, rfl, hr1, hb⟩; have hbA := Lib.hid (show Below w1.heap.size w1 w2 from ext_trans (by repeat (first | exact ext_refl _ | refine ext_drew ?_ | refine ext_alloc ?_ _)) hb); have hr1 := Lib.hid hr1; have hbR := Lib.hid hb; have hs3 := hbA.out.size; obtain ⟨hc, hf⟩ := bcell hb; have hz := hb.size; (try simp at hz); (try have hy3 := Nat.lt_of_lt_of_le hy2 hb.size); (try have hy2 := Nat.lt_of_lt_of_le hy1 hb.size); (try have hy1 := Nat.lt_of_lt_of_le hy hb.size); (try have hy := Nat.lt_of_succ_le hz); have a0A := ext_cell hbA.out a0; have a1A := ext_cell hbA.out a1; have a2A := ext_cell hbA.out a2))
    all_goals
     go_wp2_with fail
     go_meet
     have e1 := hbR.out.size
     (try simp at e1)
     refine ⟨_, _, h1, cr1, rfl, rfl, ?_, ?_, ?_, ?_, ?_, ?_⟩
     · refine Lib.hid ?_
       repeat (first | (with_reducible exact Blk.born _ _ _ rfl) | (with_reducible exact Blk.born _ _ _ (by simp)) | (with_reducible refine Blk.al ?_ _) | (with_reducible refine Blk.drw ?_) | (with_reducible refine fr_fill ?_) | (with_reducible refine Blk.ext ?_ hbR.out))
     · rw [cntN_zero]
       refine Lib.hid ?_
       repeat (first | (with_reducible exact own_z4 _ rfl (by first | omega | (simp <;> omega))) | (with_reducible exact own_z4 _ (by simp) (by first | omega | (simp <;> omega))) | (with_reducible refine World.ownsRow.alloc ?_ _) | (with_reducible refine World.ownsRow.drew ?_) | (with_reducible refine fill_own' ?_ (by simp [Value.ownBlock])) | (with_reducible refine own_ext ?_ hbR.out))
     · refine Lib.hid ?_
       repeat (first | (with_reducible exact own_base hr1.out (by first | omega | (simp <;> omega))) | (with_reducible refine World.ownsRow.alloc ?_ _) | (with_reducible refine fill_own hr1.out (by first | omega | (simp <;> omega)) (by first | omega | (simp <;> omega))))
     · refine Lib.hid ?_
       repeat (first | (with_reducible exact hbA.out) | (with_reducible refine ext_alloc ?_ _) | (with_reducible refine fill_below ?_ (by first | omega | (simp <;> omega))))
     · first | omega | (simp <;> omega)
     · first | omega | (simp <;> omega)
   case rest =>
    obtain ⟨G, g, h1, cr1, rfl, rfl, BG, hoc, hr1, hbx1, hg1, hG1⟩ := hcut
    obtain ⟨w5, hw5⟩ : ∃ x : World, x = wc := ⟨_, rfl⟩
    subst hw5
    have BF5 := Lib.hid (BF1.out.ext hbx1.out)
    have hb5 := Lib.hid (ext_trans hb2.out hbx1.out)
    have hgF : g ≠ w.heap.size := by omega
    have hgle : w.heap.size ≤ g := by omega
    have hGF : G ≠ w.heap.size := by omega
    have hGle : w.heap.size ≤ G := by omega
    have hr5 := Lib.hid (show w5.ownsRow w.heap.size 87 2 (.slice (some ⟨h1, 0, none⟩) n cr1) n (rowsV2 (rodsD (addN n m s 0).ds)) from hr1.out)
    clear hr1 a0 a1 a2 hmk hg1 hG1
    go_wp2
    go_loopw [8] (fun i wr => ∃ (k h' cr' : Nat), k ≤ n ∧ i = .int .i64 k ∧ Hid (wr.ownsRow w.heap.size 3 1 (.slice (some ⟨G, 0, none⟩) 4 4) 4 (intsV (cntN n m s k))) ∧ Hid (wr.ownsRow w.heap.size 87 2 (.slice (some ⟨h', 0, none⟩) n cr') n (rowsV2 (rodsD (addN n m s k).ds))) ∧ Hid (Blk wr g 26 #[.int .i64 u, .int .i64 lo, .slice (some ⟨h', 0, none⟩) n cr']) ∧ Hid (Blk wr w.heap.size 26 #[.int .i64 u, .int .i64 lo, .slice A n c]) ∧ Hid (Below w.heap.size w wr)) (fun i _ => n - (intOf i).toNat)
    case atStart => exact ⟨0, h1, cr1, Nat.zero_le _, rfl, hoc, hr5, BG, BF5, hb5⟩
    case round =>
     obtain ⟨k, h', cr', hk, rfl, hcr, hrr, BGr, BFr, hbr⟩ := hrel
     obtain ⟨a0, a1, a2⟩ := BFr.out.q3
     by_cases hlt : k < n
     · have hfit := Lib.hid (FITh.out k hlt)
       have hlen := LENh.out k
       obtain ⟨dg0, dg9⟩ := dg_bounds n m k
       go_wp2_with fail
       refine (l6At_any u lo A n c k m _ hn8 hlt m0 m1).mono ?_
       rintro e w2 ⟨rfl, hb⟩
       have hc2 := Lib.hid (own_ext hcr.out hb)
       have hr2 := Lib.hid (own_ext hrr.out hb)
       have BG2 := Lib.hid (BGr.out.ext hb)
       have BF2 := Lib.hid (BFr.out.ext hb)
       have hb2' := Lib.hid (ext_trans hbr.out hb)
       clear hb a0 a1 a2
       by_cases hpos : 0 < dg n m k
       · obtain ⟨x, hx⟩ := list_split (l := (addN n m s k).ds) (k := k) (by omega)
         obtain ⟨x0, x9⟩ := hfit.out.2.2.2.1.get hx
         have hmore := Lib.hid (cnt_more hx hpos)
         obtain ⟨y, hy, hyd, y0, yk⟩ := cnt_at (n := n) (k := k) (m := m) (s := s) x (dg n m k)
         rw [hyd] at hmore
         have hj4 := kindO_lt x (dg n m k)
         have pos1 : 1 ≤ dg n m k := by omega
         have hd0 : (dg n m k == 0) = false := by simp; omega
         obtain ⟨J, hJ⟩ : ∃ J, kindO x (dg n m k) = J := ⟨_, rfl⟩
         rw [hJ] at hmore hy hj4
         have hci := Lib.hid (show (intsV (cntN n m s k))[J]? = some (.int .i64 y) by simp [intsV, hy])
         have HJ := Lib.hid hJ
         obtain ⟨c0, c1, hltr, _⟩ := rods_cells hr2.out hx
         obtain ⟨p0, p1, p2⟩ := BG2.out.q3
         obtain ⟨S, hS⟩ : ∃ S, S = addS (k + 1) (dg n m k) ⟨(addN n m s k).ds, [], 0⟩ := ⟨_, rfl⟩
         have hnext := Lib.hid (show S.ds = (addN n m s (k + 1)).ds by rw [addN, addS_pile0, ← hS])
         have HSS := Lib.hid hS
         have HLEN := Lib.hid hlen
         have HX := Lib.hid hx
         clear hlen hx hy hyd hJ hS
         go_wp2_with fail
         refine (l2Value_rod x _ x0 x9).mono ?_
         rintro e w3 ⟨rfl, hb⟩
         have hc3 := Lib.hid (own_ext hc2.out hb)
         have hr3 := Lib.hid (own_ext hr2.out hb)
         have BG3 := Lib.hid (BG2.out.ext hb)
         have BF3 := Lib.hid (BF2.out.ext hb)
         have hb3 := Lib.hid (ext_trans hb2'.out hb)
         have cc : w3.cell? ⟨G, J, none⟩ = some (.int .i64 y) := by rw [hc3.out.cellAt J (by omega)]; exact hci.out
         have cf : w3.frozen? ⟨G, J, none⟩ = false := hc3.out.frozenAt J
         clear hb c0 c1 p0 p1 p2
         go_wp2_with fail
         refine (l6Kind_any x (dg n m k) _ x0 x9 pos1 dg9).mono ?_
         rw [HJ.out]
         rintro e w8 ⟨rfl, rfl⟩
         have hneg : some G ≠ some g := own_nbT hc3.out BG3.out (by decide)
         have hneg' : G ≠ g := fun e => hneg (by rw [e])
         have hner : Value.ownBlock (.slice (some ⟨h', 0, none⟩) n cr') ≠ some G := by
          rcases own_neT hr3.out hc3.out (by decide) with hd | hd
          · rw [hd]; simp
          · exact hd
         obtain ⟨p0, p1, p2⟩ := (BG3.out.setF (p := ⟨G, J, none⟩) hneg' (.int .i64 (y + 1))).q3
         go_wp2_with fail
         obtain ⟨w4, hw4⟩ : ∃ x : World, x = w3.setCell ⟨G, J, none⟩ (.int .i64 (y + 1)) := ⟨_, rfl⟩
         rw [← hw4] at p0 p1 p2 ⊢
         have BG4 := Lib.hid (show Blk w4 g 26 #[.int .i64 u, .int .i64 lo, .slice (some ⟨h', 0, none⟩) n cr'] by rw [hw4]; exact BG3.out.setF (p := ⟨G, J, none⟩) hneg' _)
         have BF4 := Lib.hid (show Blk w4 w.heap.size 26 #[.int .i64 u, .int .i64 lo, .slice A n c] by rw [hw4]; exact BF3.out.setF (p := ⟨G, J, none⟩) hGF _)
         have hr4 := Lib.hid (show w4.ownsRow w.heap.size 87 2 (.slice (some ⟨h', 0, none⟩) n cr') n (rowsV2 (rodsD (addN n m s k).ds)) by rw [hw4]; exact own_setF (p := ⟨G, J, none⟩) hr3.out hner _)
         have hc4 := Lib.hid (show w4.ownsRow w.heap.size 3 1 (.slice (some ⟨G, 0, none⟩) 4 4) 4 (intsV (cntN n m s (k + 1))) by rw [hmore.out, intsV_set, hw4]; exact (hc3.out.stored J (.int .i64 (y + 1))).1)
         have hb4 := Lib.hid (show Below w.heap.size w w4 by rw [hw4]; exact hb3.out.setCell (p := ⟨G, J, none⟩) hGle _)
         clear hw4 cc cf hner hneg
         refine (l6Digit_n u lo (some ⟨h', 0, none⟩) n cr' (addN n m s k).ds k (dg n m k) S _ HLEN.out hn8 hfit.out HSS.out (Reads.of_own hr4.out)).mono ?_
         rintro e w6 ⟨A1, c1, h2, cr2, rfl, hm6, hr6, hb⟩
         have hr6 := Lib.hid (show w6.ownsRow w.heap.size 87 2 (.slice (some ⟨h2, 0, none⟩) n cr2) n (rowsV2 (rodsD (addN n m s (k + 1)).ds)) by rw [← hnext.out]; exact own_base hr6 hb4.out.size)
         have hc6 := Lib.hid (own_ext hc4.out hb)
         have BG6 := Lib.hid (BG4.out.ext hb)
         have BF6 := Lib.hid (BF4.out.ext hb)
         have hb6 := Lib.hid (ext_trans hb4.out hb)
         have hg6 := BG6.out.lt
         obtain ⟨g0, g1, g2⟩ := BG6.out.q3
         obtain ⟨f0, f1, f2⟩ := BG6.out.z3
         clear hb hm6 p0 p1 p2
         have hNW := Lib.hid (own_nbT hc6.out BG6.out (by decide))
         have hNR := Lib.hid (own_nbT hr6.out BG6.out (by decide))
         have hgne : ¬ w6.heap.size = g := by omega
         have hgne2 : ¬ g = w6.heap.size := by omega
         go_wp2
         go_roundw
         case rel => exact ⟨k + 1, h2, cr2, by omega, by go_num, Lib.hid ((fill_own' hc6.out hNW.out).alloc _), Lib.hid ((fill_own' hr6.out hNR.out).alloc _), Lib.hid ((fr_put BG6.out).al _), Lib.hid ((fill_far BF6.out hgF).al _), Lib.hid (ext_alloc (fill_below hb6.out hgle) _)⟩
         case measure => simp [intOf]; omega
       · have hd0 : (dg n m k == 0) = true := by simp; omega
         have hm1 := cnt_same (n := n) (k := k) (m := m) (s := s) hpos
         have hm2 := add_same (n := n) (k := k) (m := m) (s := s) hpos
         have hc3 := Lib.hid (show w2.ownsRow w.heap.size 3 1 (.slice (some ⟨G, 0, none⟩) 4 4) 4 (intsV (cntN n m s (k + 1))) by rw [hm1]; exact hc2.out)
         have hr3 := Lib.hid (show w2.ownsRow w.heap.size 87 2 (.slice (some ⟨h', 0, none⟩) n cr') n (rowsV2 (rodsD (addN n m s (k + 1)).ds)) by rw [hm2]; exact hr2.out)
         clear hm1 hm2 hlen
         go_wp2
         go_roundw
         case rel => exact ⟨k + 1, h', cr', by omega, by go_num, hc3, hr3, BG2, BF2, hb2'⟩
         case measure => simp [intOf]; omega
     · obtain rfl : k = n := by omega
       go_wp2
       go_ret2
       exact ⟨_, _, rfl, hcr.out, hbr.out⟩
end Go.Proofs.Ytajdmeajkgdioaa
