/- A number added: the reference's. -/
import Derived.Test.YtphhelmcaehclaaVM5
import Derived.Test.YtphhelmcaehclaaVM3
namespace Go.Proofs.Ytphhelmcaehclaa
open Go.RowKit
set_option linter.unusedVariables false
set_option linter.unusedSimpArgs false
theorem l6Digit_n (u lo : Int) (A : Option Addr) (n c : Nat) (ds : List Int) (r0 : Nat) (d0 : Int) (S : WS) (w : World) (hn : ds.length = n) (hn8 : n ≤ 8) (hf : AddFit (r0 + 1) d0 ds) (hS : S = addS (r0 + 1) d0 ⟨ds, [], 0⟩) (h : Reads w w.heap.size 2 A n (rowsV2 (rodsD ds))) :
 Calls Try.prog 69 #[frV u lo A n c, .int .i64 (r0 : Int), .int .i64 d0] w (fun e w' => ∃ (A : Option Addr) (c' h c : Nat), e = .returned (.tuple #[.slice A S.ms.length c', frV u lo (some ⟨h, 0, none⟩) n c]) ∧ w'.ownsRow w.heap.size 75 3 (.slice A S.ms.length c') S.ms.length (rowsV3 S.ms) ∧
 w'.ownsRow w.heap.size 96 2 (.slice (some ⟨h, 0, none⟩) n c) n (rowsV2 (rodsD S.ds)) ∧ Below w.heap.size w w') := by
 subst hS
 have hl : (addS (r0 + 1) d0 ⟨ds, [], 0⟩).ds.length = n := by rw [addS_len]; exact hn
 refine (l6Digit_any u lo A n c ds r0 d0 w hn hn8 hf h).mono ?_
 rintro e w' ⟨A, c', h, c, rfl, h1, h2, h3⟩
 rw [hl] at h2 ⊢
 exact ⟨A, c', h, c, rfl, h1, h2, h3⟩
set_option maxRecDepth 100000 in
set_option maxHeartbeats 4000000 in
theorem l6Number_any (u lo : Int) (A : Option Addr) (n c : Nat) (ds : List Int) (m : Int) (w : World) (hn : ds.length = n) (hn1 : 1 ≤ n) (hn8 : n ≤ 8) (m0 : 0 ≤ m) (m1 : m < 200000000)
 (FIT : ∀ k, k < n → AddFit (k + 1) (dg n m k) (addN n m ⟨ds, [], 0⟩ k).ds) (h : Reads w w.heap.size 2 A n (rowsV2 (rodsD ds))) :
 Calls Try.prog 61 #[frV u lo A n c, .int .i64 m] w (RetMF w u lo (addN n m ⟨ds, [], 0⟩ n)) := by
 obtain ⟨i0, hi, hz0, hz1, hz2⟩ := info_parts info_mv
 have FIT := Lib.hid FIT
 have LEN : ∀ k, (addN n m ⟨ds, [], 0⟩ k).ds.length = n := fun k => by rw [addN_len]; exact hn
 have LEN := Lib.hid LEN
 have H := Lib.hid h
 have HN := Lib.hid hn
 have BF0 := Lib.hid (((Blk.born w #[.int .i64 u, .int .i64 lo, .slice A n c] 26 (H := w.heap.size) rfl).al (.cells #[.int .i64 0, .int .i64 0, .slice none 0 0] 26)).al (.cells #[] 75))
 have HO := Lib.hid (own_lit_at ((w.alloc (.cells #[.int .i64 u, .int .i64 lo, .slice A n c] 26)).alloc (.cells #[.int .i64 0, .int .i64 0, .slice none 0 0] 26)) 75 3 (H := w.heap.size + 1 + 1) (B := w.heap.size) (by simp) (by omega))
 have BRes := Lib.hid ((Blk.born (w.alloc (.cells #[.int .i64 u, .int .i64 lo, .slice A n c] 26)) #[.int .i64 0, .int .i64 0, .slice none 0 0] 26 (H := w.heap.size + 1) (by simp)).al (.cells #[] 75))
 have hbx := Lib.hid (ext_alloc (ext_alloc (ext_alloc (ext_refl w) (.cells #[.int .i64 u, .int .i64 lo, .slice A n c] 26)) (.cells #[.int .i64 0, .int .i64 0, .slice none 0 0] 26)) (.cells #[] 75))
 clear h hn
 go_enter Try.func61, Try.ntmps61
 go_wp2_with fail
 refine (l2Own_fr u lo A n c (rodsD ds) _ hn1 (by omega) (rdx H.out hbx.out)).mono ?_
 rintro e w1 ⟨h, cr, rfl, hr, hb1⟩
 have hr := Lib.hid (own_base (base' := w.heap.size) hr hbx.out.size)
 have HO1 := Lib.hid (own_ext HO.out hb1)
 have BR1 := Lib.hid (BRes.out.ext hb1)
 have BF1 := Lib.hid (BF0.out.ext hb1)
 have hb2 := Lib.hid (ext_trans hbx.out hb1)
 have hs1 : w.heap.size + 1 + 1 < w1.heap.size := by have := hb1.size; simp at this; omega
 obtain ⟨N, hN⟩ : ∃ N, N = w1.heap.size := ⟨_, rfl⟩
 obtain ⟨W, hW⟩ : ∃ W, W = w1.alloc (.cells #[.int .i64 u, .int .i64 lo, .slice (some ⟨h, 0, none⟩) n cr] 26) := ⟨_, rfl⟩
 have BN := Lib.hid (show Blk W N 26 #[.int .i64 u, .int .i64 lo, .slice (some ⟨h, 0, none⟩) n cr] by rw [hW]; exact Blk.born _ _ _ hN)
 have BRW := Lib.hid (show Blk W (w.heap.size + 1) 26 #[.int .i64 0, .int .i64 0, .slice none 0 0] by rw [hW]; exact BR1.out.al _)
 have BFW := Lib.hid (show Blk W w.heap.size 26 #[.int .i64 u, .int .i64 lo, .slice A n c] by rw [hW]; exact BF1.out.al _)
 have HOW := Lib.hid (show W.ownsRow w.heap.size 75 3 (.slice (some ⟨w.heap.size + 1 + 1, 0, none⟩) 0 0) 0 [] by rw [hW]; exact HO1.out.alloc _)
 have hrW := Lib.hid (show W.ownsRow w.heap.size 96 2 (.slice (some ⟨h, 0, none⟩) n cr) n (rowsV2 (rodsD ds)) by rw [hW]; exact hr.out.alloc _)
 have hbW := Lib.hid (show Below w.heap.size w W by rw [hW]; exact ext_alloc hb2.out _)
 have HWN := Lib.hid (And.intro hW hN)
 have hNw : N ≠ w.heap.size + 1 := by omega
 have hNw2 : N ≠ w.heap.size := by omega
 have HNle : w.heap.size ≤ N := by omega
 clear hb1 hN hW
 go_wp2
 rw [← HWN.out.2, ← HWN.out.1]
 go_loopw [6, 8] (fun v i wr => ∃ (k : Nat) (t : WS) (A' : Option Addr) (h' c' cr' : Nat), k ≤ n ∧ i = .int .i64 k ∧ v = .slice A' t.ms.length c' ∧ Hid (t = addN n m ⟨ds, [], 0⟩ k) ∧ Hid (wr.ownsRow w.heap.size 75 3 (.slice A' t.ms.length c') t.ms.length (rowsV3 t.ms)) ∧ Hid (wr.ownsRow w.heap.size 96 2 (.slice (some ⟨h', 0, none⟩) n cr') n (rowsV2 (rodsD t.ds))) ∧ Hid (Blk wr N 26 #[.int .i64 u, .int .i64 lo, .slice (some ⟨h', 0, none⟩) n cr']) ∧ Hid (Blk wr w.heap.size 26 #[.int .i64 u, .int .i64 lo, .slice A n c]) ∧ Hid (Blk wr (w.heap.size + 1) 26 #[.int .i64 0, .int .i64 0, .slice none 0 0]) ∧ Hid (Below w.heap.size w wr)) (fun _ i _ => n - (intOf i).toNat)
 case atStart => exact ⟨0, ⟨ds, [], 0⟩, some ⟨w.heap.size + 1 + 1, 0, none⟩, h, 0, cr, Nat.zero_le _, rfl, rfl, Lib.hid rfl, HOW, hrW, BN, BFW, BRW, hbW⟩
 case round =>
  obtain ⟨k, t, A', h', c', cr', hk, rfl, rfl, heq, hmr, hrr, BNr, BFr, BRr, hbr⟩ := hrel
  obtain ⟨p0, p1, p2⟩ := BNr.out.q3
  obtain ⟨a0, a1, a2⟩ := BFr.out.q3
  have hNr := BNr.out.lt
  have hFr := BFr.out.lt
  have hRr := BRr.out.lt
  have hlen : t.ds.length = n := by rw [heq.out]; exact LEN.out k
  have hmsl : t.ms.length ≤ 16 * k := by have := addN_msl n m ⟨ds, [], 0⟩ k (by omega); rw [← heq.out] at this; simpa using this
  by_cases hlt : k < n
  · have hfit := Lib.hid (show AddFit (k + 1) (dg n m k) t.ds by rw [heq.out]; exact FIT.out k hlt)
    obtain ⟨S, hS⟩ : ∃ S, S = addS (k + 1) (dg n m k) ⟨t.ds, [], 0⟩ := ⟨_, rfl⟩
    have hSl : S.ms.length ≤ 16 := by rw [hS]; have := addS_msl (k + 1) (dg n m k) ⟨t.ds, [], 0⟩; simp at this; omega
    have hnext := Lib.hid (show (⟨S.ds, t.ms ++ S.ms, t.ask + S.ask⟩ : WS) = addN n m ⟨ds, [], 0⟩ (k + 1) by rw [addN, ← heq.out, addS_pile0, ← hS])
    have HS := Lib.hid hS
    have HLEN := Lib.hid hlen
    clear hS hlen
    go_upto_region 5 with fail
    go_cut [9, 10] (fun s9 s10 wx => ∃ (g h1 c1 cr1 : Nat) (A1 : Option Addr), s9 = .slice A1 S.ms.length c1 ∧ s10 = .pointer (some ⟨g, 0, none⟩) ∧ Hid (Blk wx g 26 #[.int .i64 u, .int .i64 lo, .slice (some ⟨h1, 0, none⟩) n cr1]) ∧ Hid (wx.ownsRow w.heap.size 75 3 (.slice A1 S.ms.length c1) S.ms.length (rowsV3 S.ms)) ∧ Hid (wx.ownsRow w.heap.size 96 2 (.slice (some ⟨h1, 0, none⟩) n cr1) n (rowsV2 (rodsD S.ds))) ∧ Hid (Below wr.heap.size wr wx) ∧ wr.heap.size ≤ g)
    case first =>
     go_region_held3 (fun w' => w'.cell? ⟨N, 0, none⟩ = some (.int .i64 u) ∧ w'.cell? ⟨N, 1, none⟩ = some (.int .i64 lo) ∧ w'.cell? ⟨N, 2, none⟩ = some (.slice (some ⟨h', 0, none⟩) n cr') ∧ w'.cell? ⟨w.heap.size, 0, none⟩ = some (.int .i64 u) ∧ w'.cell? ⟨w.heap.size, 1, none⟩ = some (.int .i64 lo) ∧ w'.cell? ⟨w.heap.size, 2, none⟩ = some (.slice A n c)) (first | (go_split_ands; ((repeat' refine And.intro ?_ ?_) <;> with_reducible (repeat (first | assumption | refine cell_drew ?_ | refine cell_old ?_ _ | refine cell_set_far (by simp <;> omega) ?_))))) (first | (go_at_call 91; refine (l6At_any u lo A n c k m _ hn8 hlt m0 m1).mono ?_; rintro e w2 ⟨rfl, hb⟩; have hbA := Lib.hid (show Below wr.heap.size wr w2 from ext_trans (by repeat (first | exact ext_refl _ | refine ext_drew ?_ | refine ext_alloc ?_ _)) hb); have hs2 := hbA.out.size; have hbR := Lib.hid hb; obtain ⟨hc, hf⟩ := bcell hb; have hz := hb.size; (try simp at hz); (try have hy3 := Nat.lt_of_lt_of_le hy2 hb.size); (try have hy2 := Nat.lt_of_lt_of_le hy1 hb.size); (try have hy1 := Nat.lt_of_lt_of_le hy hb.size); (try have hy := Nat.lt_of_succ_le hz); have p0A := ext_cell hbA.out p0; have p1A := ext_cell hbA.out p1; have p2A := ext_cell hbA.out p2; have a0A := ext_cell hbA.out a0; have a1A := ext_cell hbA.out a1; have a2A := ext_cell hbA.out a2) | (go_at_call 69; refine (l6Digit_n u lo (some ⟨h', 0, none⟩) n cr' t.ds k (dg n m k) S _ HLEN.out hn8 hfit.out HS.out (Reads.of_own (own_ext hrr.out (by repeat (first | exact hbA.out | refine ext_drew ?_ | refine ext_alloc ?_ _))))).mono ?_; rintro e w3 ⟨A1, c1, h1, cr1, rfl, hm1, hr1, hb⟩; have hbB := Lib.hid (show Below wr.heap.size wr w3 from ext_trans (by repeat (first | exact hbA.out | refine ext_drew ?_ | refine ext_alloc ?_ _)) hb); have hs3 := hbB.out.size; have hbS := Lib.hid hb; obtain ⟨hc, hf⟩ := bcell hb; have hz := hb.size; (try simp at hz); (try have hy3 := Nat.lt_of_lt_of_le hy2 hb.size); (try have hy2 := Nat.lt_of_lt_of_le hy1 hb.size); (try have hy1 := Nat.lt_of_lt_of_le hy hb.size); (try have hy := Nat.lt_of_succ_le hz); have hm1 := Lib.hid hm1; have hr1 := Lib.hid hr1; have p0B := ext_cell hbB.out p0; have p1B := ext_cell hbB.out p1; have p2B := ext_cell hbB.out p2; have a0B := ext_cell hbB.out a0; have a1B := ext_cell hbB.out a1; have a2B := ext_cell hbB.out a2))
     all_goals
      go_wp2_with fail
      go_meet
      refine ⟨_, h1, c1, cr1, A1, rfl, rfl, ?_, ?_, ?_, ?_, ?_⟩
      · first
         | exact Lib.hid (Blk.born _ _ _ rfl)
         | exact Lib.hid (fr_fill ((Blk.born w2 #[.int .i64 0, .int .i64 0, .slice none 0 0] 26 rfl).ext hbS.out))
         | exact Lib.hid (fr_fill (((Blk.born wr.drew #[.int .i64 0, .int .i64 0, .slice none 0 0] 26 rfl).ext hbR.out).ext hbS.out))
      · first
         | exact Lib.hid (own_base (World.ownsRow.alloc hm1.out _) (by omega))
         | exact Lib.hid (fill_own hm1.out (by have e1 := hbR.out.size; have e2 := hbS.out.size; (try simp at e1); (try simp at e2); (try simp) <;> omega) (by have e1 := hbR.out.size; have e2 := hbS.out.size; (try simp at e1); (try simp at e2); (try simp) <;> omega))
      · first
         | exact Lib.hid (own_base (World.ownsRow.alloc hr1.out _) (by omega))
         | exact Lib.hid (fill_own hr1.out (by have e1 := hbR.out.size; have e2 := hbS.out.size; (try simp at e1); (try simp at e2); (try simp) <;> omega) (by have e1 := hbR.out.size; have e2 := hbS.out.size; (try simp at e1); (try simp at e2); (try simp) <;> omega))
      · first
         | exact Lib.hid (ext_alloc hbB.out _)
         | exact Lib.hid (fill_below hbB.out (by first | exact Nat.le_refl _ | omega))
      · first | exact Nat.le_refl _ | omega
    case rest =>
     obtain ⟨g, h1, c1, cr1, A1, rfl, rfl, BG, hm1, hr1, hbx1, hgl⟩ := hcut
     obtain ⟨w5, hw5⟩ : ∃ x : World, x = wc := ⟨_, rfl⟩
     subst hw5
     have hmo := Lib.hid (own_ext hmr.out hbx1.out)
     have BN5 := Lib.hid (BNr.out.ext hbx1.out)
     have BF5 := Lib.hid (BFr.out.ext hbx1.out)
     have BR5 := Lib.hid (BRr.out.ext hbx1.out)
     have hb5 := Lib.hid (ext_trans hbr.out hbx1.out)
     have hs5 := hb5.out.size
     have m6 : t.ms.length + S.ms.length ≤ maxLen := by unfold maxLen; omega
     have m7 : (t.ms.length + S.ms.length) * 24 ≤ 140737488355328 := by omega
     clear p0 p1 p2 a0 a1 a2
     go_wp2_with (at_builtin; refine wpList_appO rfl (.tmp 31) (.tmp 32) 27 rfl w.heap.size 75 i0 _ 3 24 Try.underlying27 hi hz0 hz1 hz2 rfl (by decide) (.slice A' t.ms.length c') _ _ rfl hmo.out A1 _ c1 (rowsV3 S.ms) rfl _ hm1.out (rows3_one _) m6 m7 hs5 ?_; intro A4 c4 w6 hown hgrow; (rw [← rowsV3_app] at hown; have hnr := own_neT hr1.out hmo.out (by decide); have hr6 := Lib.hid (hr1.out.kept hgrow hnr); have BN6 := Lib.hid (BN5.out.grownF hgrow (own_nbT hmo.out BN5.out (by decide))); have BF6 := Lib.hid (BF5.out.grownF hgrow (own_nbT hmo.out BF5.out (by decide))); have BR6 := Lib.hid (BR5.out.grownF hgrow (own_nbT hmo.out BR5.out (by decide))); have BG6 := Lib.hid (BG.out.grownF hgrow (own_nbT hmo.out BG.out (by decide))); have hb6 := Lib.hid (hb5.out.trans (below_row hmo.out hgrow hs5)); have hown := Lib.hid hown; obtain ⟨p0, p1, p2⟩ := BN6.out.q3; obtain ⟨f0, f1, f2⟩ := BN6.out.z3; obtain ⟨g0, g1, g2⟩ := BG6.out.q3; have hN6 := BN6.out.lt; have hG6 := BG6.out.lt; clear hgrow hnr))
     go_wp2
     go_roundw
     case rel =>
      have hnm := own_nbT hown.out BN6.out (by decide)
      have hnr := own_nbT hr6.out BN6.out (by decide)
      have hNle := HNle
      exact ⟨k + 1, ⟨S.ds, t.ms ++ S.ms, t.ask + S.ask⟩, A4, h1, c4, cr1, by omega, by go_num, by simp only [List.length_append], hnext, by simp only [List.length_append]; exact Lib.hid (fill_own' hown.out hnm), Lib.hid (fill_own' hr6.out hnr), Lib.hid (fr_put BN6.out), Lib.hid (fill_far BF6.out hNw2), Lib.hid (fill_far BR6.out hNw), Lib.hid (fill_below hb6.out hNle)⟩
     case measure => simp [intOf]; omega
  · obtain rfl : k = n := by omega
    obtain ⟨r0', r1', r2'⟩ := BRr.out.q3
    obtain ⟨f0', f1', f2'⟩ := BRr.out.z3
    have hNN : ¬ w.heap.size + 1 = N := fun e => hNw e.symm
    go_wp2
    go_region
    go_wp2
    refine bodyPost_ret (v := .tuple #[.slice A' t.ms.length c', frV u lo (some ⟨h', 0, none⟩) k cr']) (by simp [results, Try.results61, go_sem, *]) rfl ?_
    rw [← heq.out]
    refine ⟨A', c', h', cr', by rw [hlen], ?_, ?_, ?_⟩
    · exact fill_own' hmr.out (own_nbT hmr.out BRr.out (by decide))
    · rw [hlen]
      exact fill_own' hrr.out (own_nbT hrr.out BRr.out (by decide))
    · exact fill_below hbr.out.drew (Nat.le_succ _)
end Go.Proofs.Ytphhelmcaehclaa
