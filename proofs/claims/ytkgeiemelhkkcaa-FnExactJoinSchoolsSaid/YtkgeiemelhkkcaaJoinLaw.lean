/- The law of JoinSchools, walked. -/
import Derived.Test.YtkgeiemelhkkcaaJoinS
namespace Go.Proofs.Ytkgeiemelhkkcaa
open Go.RowKit
set_option linter.unusedVariables false
set_option linter.unusedSimpArgs false
theorem joinB_len (l m : List R5) : (joinB l m).length ≤ 100 := by
  unfold joinB
  split
  · rename_i h
    have h1 : areB l = true ∧ areB m = true := by
      simp only [joinOk, Bool.and_eq_true] at h
      exact h.1
    have h2 := joinTo_len l m l.length
    have h3 := are_len h1.1
    have h4 := are_len h1.2
    have : l.length * m.length ≤ 10 * 10 := Nat.mul_le_mul h3 h4
    unfold joinAll
    omega
  · simp
set_option maxHeartbeats 2000000 in
theorem law_JoinSchools (A : Option Addr) (n c : Nat) (l : List R5) (A' : Option Addr) (n' c' : Nat) (m : List R5) (w : World) (hlen : n ≤ maxLen) (h : Reads w w.heap.size 5 A n (rowsV l)) (hlen' : n' ≤ maxLen) (h' : Reads w w.heap.size 5 A' n' (rowsV m)) :
    Calls Try.prog 11 #[.slice A n c, .slice A' n' c'] w fun r w' => r = .returned (.bool true) ∧ Below w.heap.size w w' := by
  unfold maxLen at hlen hlen'
  by_cases hbig : (1048576 : Int) < n
  · have hs : (if (1048576 : Int) < n then (-1 : Int) else 1048576 - n) = -1 := if_pos hbig
    go_enter Try.func11, Try.ntmps11
    go_wp2_with fail
    refine (szTermRowS_any A n c 1048576 _ hlen (by omega) (by omega)).mono ?_
    rintro e w' ⟨rfl, rfl⟩
    rw [hs]
    clear hs
    go_wp2
    go_ret
    exact ⟨rfl, ext_refl _⟩
  have hs : (if (1048576 : Int) < n then (-1 : Int) else 1048576 - n) = 1048576 - n := if_neg hbig
  by_cases hbig' : (1048576 : Int) - n < n'
  · have hs' : (if (1048576 : Int) - n < n' then (-1 : Int) else 1048576 - n - n') = -1 := if_pos hbig'
    go_enter Try.func11, Try.ntmps11
    go_wp2_with fail
    refine (szTermRowS_any A n c 1048576 _ hlen (by omega) (by omega)).mono ?_
    rintro e w' ⟨rfl, rfl⟩
    rw [hs]
    clear hs
    go_wp2_with fail
    refine (szTermRowS_any A' n' c' (1048576 - n) _ hlen' (by omega) (by omega)).mono ?_
    rintro e w' ⟨rfl, rfl⟩
    rw [hs']
    clear hs'
    go_wp2
    go_ret
    exact ⟨rfl, ext_refl _⟩
  · have hs' : (if (1048576 : Int) - n < n' then (-1 : Int) else 1048576 - n - n') = 1048576 - n - n' := if_neg hbig'
    have hres := joinB_len l m
    obtain ⟨N, hN⟩ : ∃ N, N = (joinB l m).length := ⟨_, rfl⟩
    rw [← hN] at hres
    have HN := Lib.hid hN
    have H := Lib.hid h
    have H' := Lib.hid h'
    clear hN h h'
    go_enter Try.func11, Try.ntmps11
    go_wp2_with fail
    refine (szTermRowS_any A n c 1048576 _ hlen (by omega) (by omega)).mono ?_
    rintro e w' ⟨rfl, rfl⟩
    rw [hs]
    clear hs
    go_wp2_with fail
    refine (szTermRowS_any A' n' c' (1048576 - n) _ hlen' (by omega) (by omega)).mono ?_
    rintro e w' ⟨rfl, rfl⟩
    rw [hs']
    clear hs'
    have hn : n ≤ 1048576 := by omega
    have hn' : n' ≤ 1048576 := by omega
    go_wp2_with fail
    refine (toTermRowS_any A n c l _ hn H.out).mono ?_
    rintro e w1 ⟨A1, c1, rfl, ho1, hb1⟩
    have ho1 := Lib.hid ho1
    have b1 := Lib.hid hb1
    go_wp2_with fail
    refine (toTermRowS_any A' n' c' m _ hn' (rows_ext H'.out b1.out)).mono ?_
    rintro e w2 ⟨A2, c2, rfl, ho2, hb2⟩
    have ho2 := Lib.hid ho2
    have b2 := Lib.hid (ext_trans b1.out hb2)
    go_wp2_with fail
    refine (specJoin_any A1 A2 n n' c1 c2 l m _ hn hn' (Reads.of_own (own_ext ho1.out hb2)) (Reads.of_own ho2.out)).mono ?_
    rw [← HN.out]
    rintro e w3 ⟨Aw, cw, rfl, how, hb3⟩
    have how := Lib.hid how
    have b3 := Lib.hid (ext_trans b2.out hb3)
    go_wp2_with fail
    refine (toTermRowS_any A n c l _ hn (rows_ext H.out b3.out)).mono ?_
    rintro e w4 ⟨Ax, cx, rfl, hox, hb4⟩
    have hox := Lib.hid hox
    have b4 := Lib.hid (ext_trans b3.out hb4)
    go_wp2_with fail
    refine (toTermRowS_any A' n' c' m _ hn' (rows_ext H'.out b4.out)).mono ?_
    rintro e w5 ⟨Ay, cy, rfl, hoy, hb5⟩
    have hoy := Lib.hid hoy
    have b5 := Lib.hid (ext_trans b4.out hb5)
    go_wp2_with fail
    refine (implJoin_any Ax Ay n n' cx cy l m _ hn hn' (Reads.of_own (own_ext hox.out hb5)) (Reads.of_own hoy.out)).mono ?_
    rw [← HN.out]
    rintro e w6 ⟨Ag, cg, rfl, hog, hb6⟩
    have hog := Lib.hid hog
    have b6 := Lib.hid (ext_trans b5.out hb6)
    have how6 := Lib.hid (own_ext (own_ext (own_ext how.out hb4) hb5) hb6)
    go_wp2_with fail
    refine (eqTermRowS_any Ag Aw N N cg cw (joinB l m) (joinB l m) _ (by omega) (by omega) (Reads.of_own hog.out) (Reads.of_own how6.out)).mono ?_
    rintro e w7 ⟨rfl, hb7⟩
    have b7 := Lib.hid (ext_trans b6.out hb7)
    go_wp2_with fail
    refine (toTermRowS_any A n c l _ hn (rows_ext H.out b7.out)).mono ?_
    rintro e w8 ⟨A8, c8, rfl, ho8, hb8⟩
    have ho8 := Lib.hid ho8
    have b8 := Lib.hid (ext_trans b7.out hb8)
    have hox8 := Lib.hid (own_ext (own_ext (own_ext (own_ext hox.out hb5) hb6) hb7) hb8)
    go_wp2_with fail
    refine (eqTermRowS_any Ax A8 n n cx c8 l l _ hn hn (Reads.of_own hox8.out) (Reads.of_own ho8.out)).mono ?_
    rintro e w9 ⟨rfl, hb9⟩
    have b9 := Lib.hid (ext_trans b8.out hb9)
    go_wp2_with fail
    refine (toTermRowS_any A' n' c' m _ hn' (rows_ext H'.out b9.out)).mono ?_
    rintro e w10 ⟨A10, c10, rfl, ho10, hb10⟩
    have ho10 := Lib.hid ho10
    have b10 := Lib.hid (ext_trans b9.out hb10)
    have hoy10 := Lib.hid (own_ext (own_ext (own_ext (own_ext (own_ext hoy.out hb6) hb7) hb8) hb9) hb10)
    go_wp2_with fail
    refine (eqTermRowS_any Ay A10 n' n' cy c10 m m _ hn' hn' (Reads.of_own hoy10.out) (Reads.of_own ho10.out)).mono ?_
    rintro e w11 ⟨rfl, hb11⟩
    have b11 := Lib.hid (ext_trans b10.out hb11)
    have hox11 := Lib.hid (own_ext (own_ext (own_ext hox8.out hb9) hb10) hb11)
    have hoy11 := Lib.hid (own_ext hoy10.out hb11)
    have hog11 := Lib.hid (own_ext (own_ext (own_ext (own_ext (own_ext hog.out hb7) hb8) hb9) hb10) hb11)
    have how11 := Lib.hid (own_ext (own_ext (own_ext (own_ext (own_ext how6.out hb7) hb8) hb9) hb10) hb11)
    go_wp2_with fail
    refine (markTermRowS_any Ax n cx _ _ 1 _ (by omega) (by omega) (by omega) hox11.out).mono ?_
    rintro e w12 ⟨rfl, hox12, hg12⟩
    have b12 := Lib.hid (below_grown' hox11.out b3.out.size b11.out hg12)
    have hoy12 := Lib.hid (hoy11.out.kept hg12 (own_ne hox.out hoy.out (Nat.le_refl _)))
    have hog12 := Lib.hid (hog11.out.kept hg12 (own_ne hox.out hog.out hb5.size))
    have how12 := Lib.hid (how11.out.kept hg12 (own_ne' how.out hox.out (Nat.le_refl _)))
    go_wp2_with fail
    refine (markTermRowS_any Ay n' cy _ _ (1 + (n : Int) * 5) _ (by omega) (by omega) (by omega) hoy12.out).mono ?_
    rintro e w13 ⟨rfl, hoy13, hg13⟩
    have b13 := Lib.hid (below_grown' hoy12.out b4.out.size b12.out hg13)
    have hog13 := Lib.hid (hog12.out.kept hg13 (own_ne hoy.out hog.out (Nat.le_refl _)))
    have how13 := Lib.hid (how12.out.kept hg13 (own_ne' how.out hoy.out hb4.size))
    go_wp2_with fail
    refine (eqTermRowS_any Ag Aw N N cg cw (joinB l m) (joinB l m) _ (by omega) (by omega) (Reads.of_own hog13.out) (Reads.of_own how13.out)).mono ?_
    rintro e w14 ⟨rfl, hb14⟩
    have b14 := Lib.hid (ext_trans b13.out hb14)
    have hog14 := Lib.hid (own_ext hog13.out hb14)
    have how14 := Lib.hid (own_ext how13.out hb14)
    go_wp2_with fail
    refine (markTermRowS_any Ag N cg _ _ 1 _ (by omega) (by omega) (by omega) hog14.out).mono ?_
    rintro e w15 ⟨rfl, hogm, hg15⟩
    have hogm := Lib.hid hogm
    have b15 := Lib.hid (below_grown' hog14.out b5.out.size b14.out hg15)
    have how15 := Lib.hid (how14.out.kept hg15 (own_ne' how.out hog.out (Nat.le_trans hb4.size hb5.size)))
    go_wp2_with fail
    refine (heldTermRowS_any Ag N cg 1 _ (by omega) (by omega) (by omega) (Reads.of_own hogm.out)).mono ?_
    rintro e w16 ⟨rfl, rfl⟩
    go_wp2_with fail
    refine (toTermRowS_any A n c l _ hn (rows_ext H.out b15.out)).mono ?_
    rintro e w17 ⟨A17, c17, rfl, ho17, hb17⟩
    have ho17 := Lib.hid ho17
    have b17 := Lib.hid (ext_trans b15.out hb17)
    go_wp2_with fail
    refine (toTermRowS_any A' n' c' m _ hn' (rows_ext H'.out b17.out)).mono ?_
    rintro e w18 ⟨A18, c18, rfl, ho18, hb18⟩
    have ho18 := Lib.hid ho18
    have b18 := Lib.hid (ext_trans b17.out hb18)
    go_wp2_with fail
    refine (implJoin_any A17 A18 n n' c17 c18 l m _ hn hn' (Reads.of_own (own_ext ho17.out hb18)) (Reads.of_own ho18.out)).mono ?_
    rw [← HN.out]
    rintro e w19 ⟨Ah, ch, rfl, hoh, hb19⟩
    have hoh := Lib.hid hoh
    have b19 := Lib.hid (ext_trans b18.out hb19)
    have how19 := Lib.hid (own_ext (own_ext (own_ext how15.out hb17) hb18) hb19)
    have hogm19 := Lib.hid (own_ext (own_ext (own_ext hogm.out hb17) hb18) hb19)
    go_wp2_with fail
    refine (eqTermRowS_any Ah Aw N N ch cw (joinB l m) (joinB l m) _ (by omega) (by omega) (Reads.of_own hoh.out) (Reads.of_own how19.out)).mono ?_
    rintro e w20 ⟨rfl, hb20⟩
    have b20 := Lib.hid (ext_trans b19.out hb20)
    have hogm20 := Lib.hid (own_ext hogm19.out hb20)
    go_wp2_with fail
    refine (heldTermRowS_any Ag N cg 1 _ (by omega) (by omega) (by omega) (Reads.of_own hogm20.out)).mono ?_
    rintro e w21 ⟨rfl, rfl⟩
    go_wp2
    go_ret
    exact ⟨rfl, b20.out⟩
end Go.Proofs.Ytkgeiemelhkkcaa
