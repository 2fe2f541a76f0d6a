import Derived.Test.YtkgeiemelhkkcaaGrowth
namespace Go.Proofs.Ytkgeiemelhkkcaa
open Go.RowKit
set_option linter.unusedVariables false
set_option linter.unusedSimpArgs false
theorem growB_len (l : List R5) : (growB l).length ≤ l.length := by
  unfold growB
  split
  · rw [growTo_len]; omega
  · simp
set_option maxHeartbeats 2000000 in
theorem law_Growth (A : Option Addr) (n c : Nat) (l : List R5) (w : World) (hlen : n ≤ maxLen) (h : Reads w w.heap.size 5 A n (rowsV l)) :
    Calls Try.prog 9 #[.slice A n c] w fun r w' => r = .returned (.bool true) ∧ Below w.heap.size w w' := by
  unfold maxLen at hlen
  have hl := rows_len h
  by_cases hbig : (1048576 : Int) < n
  · have hs : (if (1048576 : Int) < n then (-1 : Int) else 1048576 - n) = -1 := if_pos hbig
    go_enter Try.func9, Try.ntmps9
    go_wp2_with fail
    refine (szTermRowS_any A n c 1048576 _ hlen (by omega) (by omega)).mono ?_
    rintro e w' ⟨rfl, rfl⟩
    rw [hs]
    clear hs
    go_wp2
    go_ret
    exact ⟨rfl, ext_refl _⟩
  · have hs : (if (1048576 : Int) < n then (-1 : Int) else 1048576 - n) = 1048576 - n := if_neg hbig
    have hres := growB_len l
    obtain ⟨N, hN⟩ : ∃ N, N = (growB l).length := ⟨_, rfl⟩
    rw [← hN] at hres
    have HN := Lib.hid hN
    have HL := Lib.hid hl
    have H := Lib.hid h
    clear hN hl h
    go_enter Try.func9, Try.ntmps9
    go_wp2_with fail
    refine (szTermRowS_any A n c 1048576 _ hlen (by omega) (by omega)).mono ?_
    rintro e w' ⟨rfl, rfl⟩
    rw [hs]
    clear hs
    have hn : n ≤ 1048576 := by omega
    have hNn : N ≤ 1048576 := by have := HL.out; omega
    go_wp2_with fail
    refine (toTermRowS_any A n c l _ hn H.out).mono ?_
    rintro e w1 ⟨A1, c1, rfl, ho1, hb1⟩
    have h1 := Lib.hid (rows_ext H.out hb1)
    go_wp2_with fail
    refine (specGrowth_any A1 n c1 l _ hn (Reads.of_own ho1)).mono ?_
    rw [← HN.out]
    rintro e w2 ⟨Aw, cw, rfl, how, hb2⟩
    have h2 := Lib.hid (rows_ext h1.out hb2)
    have how := Lib.hid how
    go_wp2_with fail
    refine (toTermRowS_any A n c l _ hn h2.out).mono ?_
    rintro e w3 ⟨A3, c3, rfl, ho3, hb3⟩
    have h3 := Lib.hid (rows_ext h2.out hb3)
    have how3 := Lib.hid (own_ext how.out hb3)
    have ho3 := Lib.hid ho3
    go_wp2_with fail
    refine (implGrowth_any A3 n c3 l _ hn (Reads.of_own ho3.out)).mono ?_
    rw [← HN.out]
    rintro e w4 ⟨Ag, cg, rfl, hog, hb4⟩
    have h4 := Lib.hid (rows_ext h3.out hb4)
    have how4 := Lib.hid (own_ext how3.out hb4)
    have ho4 := Lib.hid (own_ext ho3.out hb4)
    have hog := Lib.hid hog
    go_wp2_with fail
    refine (eqIntS_any Ag Aw N N cg cw (growB l) (growB l) _ (by omega) (by omega) (Reads.of_own hog.out) (Reads.of_own how4.out)).mono ?_
    rintro e w5 ⟨rfl, hb5⟩
    have h5 := Lib.hid (rows_ext h4.out hb5)
    have how5 := Lib.hid (own_ext how4.out hb5)
    have ho5 := Lib.hid (own_ext ho4.out hb5)
    have hog5 := Lib.hid (own_ext hog.out hb5)
    go_wp2_with fail
    refine (toTermRowS_any A n c l _ hn h5.out).mono ?_
    rintro e w6 ⟨A6, c6, rfl, ho6, hb6⟩
    have h6 := Lib.hid (rows_ext h5.out hb6)
    have how6 := Lib.hid (own_ext how5.out hb6)
    have hox6 := Lib.hid (own_ext ho5.out hb6)
    have hog6 := Lib.hid (own_ext hog5.out hb6)
    have ho6 := Lib.hid ho6
    go_wp2_with fail
    refine (eqTermRowS_any A3 A6 n n c3 c6 l l _ hn hn (Reads.of_own hox6.out) (Reads.of_own ho6.out)).mono ?_
    rintro e w7 ⟨rfl, hb7⟩
    have h7 := Lib.hid (rows_ext h6.out hb7)
    have how7 := Lib.hid (own_ext how6.out hb7)
    have hox7 := Lib.hid (own_ext hox6.out hb7)
    have hog7 := Lib.hid (own_ext hog6.out hb7)
    go_wp2_with fail
    refine (markTermRowS_any A3 n c3 _ _ 1 _ (by omega) (by omega) (by omega) hox7.out).mono ?_
    rintro e w8 ⟨rfl, hox8, hg8⟩
    -- what the mark left alone
    have hbw7 := Lib.hid (ext_trans (ext_trans (ext_trans (ext_trans (ext_trans (ext_trans hb1 hb2) hb3) hb4) hb5) hb6) hb7)
    have hbw8 := Lib.hid (below_grown' hox7.out (Nat.le_trans hb1.size hb2.size) hbw7.out hg8)
    have hog8 := Lib.hid (hog7.out.kept hg8 (own_ne ho3.out hog.out (Nat.le_refl _)))
    have how8 := Lib.hid (how7.out.kept hg8 (own_ne' how.out ho3.out (Nat.le_refl _)))
    go_wp2_with fail
    refine (eqIntS_any Ag Aw N N cg cw (growB l) (growB l) _ (by omega) (by omega) (Reads.of_own hog8.out) (Reads.of_own how8.out)).mono ?_
    rintro e w9 ⟨rfl, hb9⟩
    have hog9 := Lib.hid (own_ext hog8.out hb9)
    have how9 := Lib.hid (own_ext how8.out hb9)
    have hbw9 := Lib.hid (ext_trans hbw8.out hb9)
    go_wp2_with fail
    refine (markIntS_any Ag N cg _ _ 1 _ (by omega) (by omega) (by omega) hog9.out).mono ?_
    rintro e w10 ⟨rfl, hogm, hg10⟩
    have hogm := Lib.hid hogm
    have how10 := Lib.hid (how9.out.kept hg10 (own_ne' how.out hog.out hb3.size))
    have hbw10 := Lib.hid (below_grown' hog9.out (Nat.le_trans (Nat.le_trans hb1.size hb2.size) hb3.size) hbw9.out hg10)
    go_wp2_with fail
    refine (heldIntS_any Ag N cg 1 _ (by omega) (by omega) (by omega) (Reads.of_own hogm.out)).mono ?_
    rintro e w11 ⟨rfl, rfl⟩
    go_wp2_with fail
    refine (toTermRowS_any A n c l _ hn ((H.out.below hbw10.out).more hbw10.out.size)).mono ?_
    rintro e w12 ⟨Ay, cy, rfl, hoy, hb12⟩
    go_wp2_with fail
    refine (implGrowth_any Ay n cy l _ hn (Reads.of_own hoy)).mono ?_
    rw [← HN.out]
    rintro e w13 ⟨Ah, ch, rfl, hoh, hb13⟩
    have how13 := Lib.hid (own_ext (own_ext how10.out hb12) hb13)
    have hogm13 := Lib.hid (own_ext (own_ext hogm.out hb12) hb13)
    have hoh := Lib.hid hoh
    go_wp2_with fail
    refine (eqIntS_any Ah Aw N N ch cw (growB l) (growB l) _ (by omega) (by omega) (Reads.of_own hoh.out) (Reads.of_own how13.out)).mono ?_
    rintro e w14 ⟨rfl, hb14⟩
    have hogm14 := Lib.hid (own_ext hogm13.out hb14)
    go_wp2_with fail
    refine (heldIntS_any Ag N cg 1 _ (by omega) (by omega) (by omega) (Reads.of_own hogm14.out)).mono ?_
    rintro e w15 ⟨rfl, rfl⟩
    go_wp2
    go_ret
    exact ⟨rfl, ext_trans (ext_trans (ext_trans hbw10.out hb12) hb13) hb14⟩
end Go.Proofs.Ytkgeiemelhkkcaa
