/- Words carried out: the reference's. -/
import Derived.Test.YtihljhikhplegaaVRuG
namespace Go.Proofs.Ytihljhikhplegaa
open Go.RowKit
set_option linter.unusedVariables false
set_option linter.unusedSimpArgs false
theorem Blk.drw {w : World} {g : Nat} {t : TypeId} {cs : Array Value} (h : Blk w g t cs) : Blk w.drew g t cs := h
/-- what running words leaves -/
def RetRun (u lo : Int) (n : Nat) (X : List RW) (p : WS × Nat) (w : World) (e : Ending) (w' : World) : Prop :=
 ∃ (A' : Option Addr) (c' : Nat) (M : Option Addr) (m d : Nat), e = .returned (.tuple #[frV u lo A' n c', .slice M m d, .int .i64 (doneN n X p : Int)]) ∧
  (∀ q, runO n X p = some q → m = q.1.ms.length ∧ w'.ownsRow w.heap.size 96 2 (.slice A' n c') n (rowsV2 (rodsD q.1.ds)) ∧ w'.ownsRow w.heap.size 75 3 (.slice M m d) m (rowsV3 q.1.ms)) ∧ m ≤ 128000 ∧ Below w.heap.size w w'
set_option maxRecDepth 100000 in
set_option maxHeartbeats 8000000 in
theorem l15Run_any (u lo : Int) (A : Option Addr) (n c : Nat) (l : List R2) (P : List (List UInt8)) (D : Option Addr) (cb : Nat) (w : World) (hg : goodB u lo l = true) (hP : ∀ x ∈ P, (wordO x).isSome = true ∧ x.length ≤ 80) (hPl : P.length ≤ 81) (h : Reads w w.heap.size 2 A n (rowsV2 l)) (hm : Reads w w.heap.size 1 D P.length (strsV P)) :
 Calls Try.prog 39 #[.slice D P.length cb, frV u lo A n c] w (RetRun u lo n (P.map wd) (st0 l) w) := by
 obtain ⟨i0, hi, hz0, hz1, hz2⟩ := info_parts info_mv
 have hl := rows_len2 h
 have hf := good_fr hg
 obtain ⟨hu, hlo, hn1, hn8⟩ := frB_head hf
 rw [hl] at hn1 hn8
 have hnb : n ≤ 1048576 := by omega
 have HB0 := Lib.hid (st0_Bd hg)
 rw [hl] at HB0
 have H := Lib.hid h
 have H2 := Lib.hid (show Reads w w.heap.size 2 A n (rowsV2 (rodsD (dsOf l))) by rw [rodsD_dsOf hf (good_std hg)]; exact h)
 have HM := Lib.hid hm
 have HP := Lib.hid hP
 have HST := Lib.hid (show st0 l = (⟨dsOf l, [], 0⟩, n - 1) by unfold st0; rw [hl])
 obtain ⟨W0, hW0⟩ : ∃ y : World, y = (w.alloc (.cells #[.int .i64 u, .int .i64 lo, .slice A n c] 26)).alloc (.cells #[.int .i64 0, .int .i64 0, .slice none 0 0] 26) := ⟨_, rfl⟩
 have BF0 := Lib.hid (show Blk W0 w.heap.size 26 #[.int .i64 u, .int .i64 lo, .slice A n c] by rw [hW0]; exact (Blk.born _ _ _ rfl).al _)
 have BR0 := Lib.hid (show Blk W0 (w.heap.size + 1) 26 #[.int .i64 0, .int .i64 0, .slice none 0 0] by rw [hW0]; exact Blk.born _ _ _ (by simp))
 have hb0 := Lib.hid (show Below w.heap.size w W0 by rw [hW0]; exact ext_alloc (ext_alloc (ext_refl w) _) _)
 have hs0 : w.heap.size + 1 < W0.heap.size := by rw [hW0]; simp
 have HW0 := Lib.hid hW0
 have hz : ((n - 1 : Nat) : Int) = (n : Int) - 1 := by omega
 have HZ := Lib.hid hz
 have HWR := Lib.hid (show IntKind.i64.wrap ((n : Int) - 1) = (n : Int) - 1 from IntWalk.i64_in _ (by omega))
 have hle1 := Nat.le_succ w.heap.size
 clear h hm hg hf hl hP hz hW0
 go_enter Try.func39, Try.ntmps39
 go_upto_region 1 with fail
 rw [← HW0.out]
 obtain ⟨f0, f1, f2⟩ := BF0.out.q3
 have hFl := BF0.out.lt
 go_cut [7, 8, 9] (fun s7 s8 s9 wx => ∃ (N h1 cr1 L : Nat), s7 = .pointer (some ⟨N, 0, none⟩) ∧ s8 = .int .i64 ((n : Int) - 1) ∧ s9 = .slice (some ⟨L, 0, none⟩) 0 0 ∧ Hid (Blk wx N 26 #[.int .i64 u, .int .i64 lo, .slice (some ⟨h1, 0, none⟩) n cr1]) ∧ Hid (wx.ownsRow w.heap.size 75 3 (.slice (some ⟨L, 0, none⟩) 0 0) 0 []) ∧ Hid (wx.ownsRow w.heap.size 96 2 (.slice (some ⟨h1, 0, none⟩) n cr1) n (rowsV2 (rodsD (dsOf l)))) ∧ Hid (Below W0.heap.size W0 wx) ∧ W0.heap.size ≤ N)
 case first =>
  go_region_held3 (fun w' => w'.cell? ⟨w.heap.size, 0, none⟩ = some (.int .i64 u) ∧ w'.cell? ⟨w.heap.size, 1, none⟩ = some (.int .i64 lo) ∧ w'.cell? ⟨w.heap.size, 2, none⟩ = some (.slice A n c)) (first | (go_split_ands; ((repeat' refine And.intro ?_ ?_) <;> with_reducible (repeat (first | assumption | refine cell_drew ?_ | refine cell_old ?_ _ | refine cell_set_far (by simp <;> omega) ?_))))) (first | (go_at_call 69; refine (l2Own_fr u lo A n c (rodsD (dsOf l)) _ hn1 hnb (rdx H2.out (by repeat (first | exact hb0.out | refine ext_drew ?_ | refine ext_alloc ?_ _)))).mono ?_; rintro e w2 ⟨h1, cr1, rfl, hr1, hb⟩; have hbA := Lib.hid (show Below W0.heap.size W0 w2 from ext_trans (by repeat (first | exact ext_refl _ | refine ext_drew ?_ | refine ext_alloc ?_ _)) hb); have hr1 := Lib.hid hr1; have hbR := Lib.hid hb; have hs3 := hbA.out.size; obtain ⟨hc, hf⟩ := bcell hb; have hz := hb.size; (try simp at hz); (try have hy3 := Nat.lt_of_lt_of_le hy2 hb.size); (try have hy2 := Nat.lt_of_lt_of_le hy1 hb.size); (try have hy1 := Nat.lt_of_lt_of_le hy hb.size); (try have hy := Nat.lt_of_succ_le hz); have a0A := ext_cell hbA.out f0; have a1A := ext_cell hbA.out f1; have a2A := ext_cell hbA.out f2))
  all_goals
   go_wp2_with fail
   go_meet
   have e1 := hbR.out.size
   (try simp at e1)
   refine ⟨_, h1, cr1, _, rfl, by first | rfl | exact congrArg (Value.int IntKind.i64) HWR.out, rfl, ?_, ?_, ?_, ?_, ?_⟩
   · refine Lib.hid ?_
     repeat (first | (with_reducible exact Blk.born _ _ _ rfl) | (with_reducible exact Blk.born _ _ _ (by simp)) | (with_reducible refine Blk.al ?_ _) | (with_reducible refine Blk.drw ?_) | (with_reducible refine fr_fill ?_) | (with_reducible refine Blk.ext ?_ hbR.out))
   · refine Lib.hid ?_
     repeat (first | (with_reducible exact own_lit_at _ _ _ rfl (by first | omega | (simp <;> omega))) | (with_reducible exact own_lit_at _ _ _ (by simp) (by first | omega | (simp <;> omega))) | (with_reducible refine World.ownsRow.alloc ?_ _) | (with_reducible refine World.ownsRow.drew ?_) | (with_reducible refine fill_own' ?_ (by simp [Value.ownBlock])) | (with_reducible refine own_ext ?_ hbR.out))
   · refine Lib.hid ?_
     repeat (first | (with_reducible exact own_base hr1.out (by first | omega | (simp <;> omega))) | (with_reducible refine World.ownsRow.alloc ?_ _) | (with_reducible refine fill_own hr1.out (by first | omega | (simp <;> omega)) (by first | omega | (simp <;> omega))))
   · refine Lib.hid ?_
     repeat (first | (with_reducible exact hbA.out) | (with_reducible refine ext_alloc ?_ _) | (with_reducible refine fill_below ?_ (by first | omega | (simp <;> omega))))
   · first | omega | (simp <;> omega)
 case rest =>
  obtain ⟨N, h1, cr1, L, rfl, rfl, rfl, BN, hmo, hro, hbx, hN0⟩ := hcut
  obtain ⟨w5, hw5⟩ : ∃ y : World, y = wc := ⟨_, rfl⟩
  subst hw5
  have BR5 := Lib.hid (BR0.out.ext hbx.out)
  have hb5 := Lib.hid (ext_trans hb0.out hbx.out)
  have hneNR : N ≠ w.heap.size + 1 := by omega
  have hNle : w.heap.size ≤ N := by omega
  have hro5 := Lib.hid (show w5.ownsRow w.heap.size 96 2 (.slice (some ⟨h1, 0, none⟩) n cr1) n (rowsV2 (rodsD (st0 l).1.ds)) by rw [HST.out]; exact hro.out)
  have hmo5 := Lib.hid (show w5.ownsRow w.heap.size 75 3 (.slice (some ⟨L, 0, none⟩) (st0 l).1.ms.length 0) (st0 l).1.ms.length (rowsV3 (st0 l).1.ms) by rw [HST.out]; exact hmo.out)
  have hrod : ((n : Int) - 1) = (((st0 l).2 : Nat) : Int) := by rw [HST.out, HZ.out]
  have hm0 : (st0 l).1.ms.length = 0 := by rw [HST.out]; rfl
  rw [hrod]
  clear hro hmo hrod f0 f1 f2 hFl
  go_wp2
  go_loopw [8, 9, 10] (fun rr v i wr => ∃ (k : Nat) (q : WS × Nat) (A' : Option Addr) (c' : Nat) (M' : Option Addr) (d' : Nat), k ≤ P.length ∧ i = .int .i64 k ∧ rr = .int .i64 (q.2 : Int) ∧ v = .slice M' q.1.ms.length d' ∧ Hid (runO n ((P.map wd).take k) (st0 l) = some q) ∧ Hid (Bd n (9 * k) q) ∧ Hid (wr.ownsRow w.heap.size 96 2 (.slice A' n c') n (rowsV2 (rodsD q.1.ds))) ∧ Hid (wr.ownsRow w.heap.size 75 3 (.slice M' q.1.ms.length d') q.1.ms.length (rowsV3 q.1.ms)) ∧ Hid (Blk wr N 26 #[.int .i64 u, .int .i64 lo, .slice A' n c']) ∧ Hid (Blk wr (w.heap.size + 1) 26 #[.int .i64 0, .int .i64 0, .slice none 0 0]) ∧ Hid (Below w.heap.size w wr)) (fun _ _ i _ => P.length - (intOf i).toNat)
  case atStart => exact ⟨0, st0 l, some ⟨h1, 0, none⟩, cr1, some ⟨L, 0, none⟩, 0, Nat.zero_le _, rfl, rfl, by rw [hm0], Lib.hid rfl, HB0, hro5, hmo5, BN, BR5, hb5⟩
  case round =>
   obtain ⟨k, q, A', c', M', d', hk, rfl, rfl, rfl, hrun, hbd, hrr, hmr, BNr, BRr, hbr⟩ := hrel
   by_cases hlt : k < P.length
   · obtain ⟨y, hy⟩ := list_split (l := P) (k := k) hlt
     obtain ⟨hyo, hyl⟩ := HP.out y (List.mem_of_getElem? hy)
     obtain ⟨x, hx⟩ := Option.isSome_iff_exists.1 hyo
     obtain ⟨b, o, rfl, hbb, c0⟩ := strs_at (rdx HM.out hbr.out) hy
     have hwx : (P.map wd)[k]? = some x := by rw [List.getElem?_map, hy]; simp [wd, hx]
     have HXO := Lib.hid (wordO_ok hx)
     have HWX := Lib.hid hwx
     have hstep := Lib.hid (runO_take hrun.out hwx)
     have HT := Lib.hid (fun w => l15Times_any (str y) x w (by rw [str_size]; exact hyl) (by rw [bl_str]; exact hx))
     have hx9 := HXO.out.1.2
     clear hy hyo hx hwx
     go_wp2_with fail
     refine (HT.out _).mono ?_
     rintro e w6 ⟨p, rfl, hp, hpz, hb⟩
     have HPP := Lib.hid hp
     have hrr6 := Lib.hid (own_ext hrr.out hb)
     have hmr6 := Lib.hid (own_ext hmr.out hb)
     have BN6 := Lib.hid (BNr.out.ext hb)
     have BR6 := Lib.hid (BRr.out.ext hb)
     have hb6 := Lib.hid (ext_trans hbr.out hb)
     clear hb hp c0
     go_wp2
     go_loopw [8, 9, 13] (fun rr v i wr => ∃ (j : Nat) (q2 : WS × Nat) (A' : Option Addr) (c' : Nat) (M' : Option Addr) (d' : Nat), j ≤ x.times ∧ i = .int .i64 j ∧ rr = .int .i64 (q2.2 : Int) ∧ v = .slice M' q2.1.ms.length d' ∧ Hid (itO n x j q = some q2) ∧ Hid (wr.ownsRow w.heap.size 96 2 (.slice A' n c') n (rowsV2 (rodsD q2.1.ds))) ∧ Hid (wr.ownsRow w.heap.size 75 3 (.slice M' q2.1.ms.length d') q2.1.ms.length (rowsV3 q2.1.ms)) ∧ Hid (Blk wr N 26 #[.int .i64 u, .int .i64 lo, .slice A' n c']) ∧ Hid (Blk wr (w.heap.size + 1) 26 #[.int .i64 0, .int .i64 0, .slice none 0 0]) ∧ Hid (Below w.heap.size w wr)) (fun _ _ i _ => x.times - (intOf i).toNat)
     case atStart => exact ⟨0, q, A', c', M', d', Nat.zero_le _, rfl, rfl, rfl, Lib.hid rfl, hrr6, hmr6, BN6, BR6, hb6⟩
     case round =>
      obtain ⟨j, q2, A', c', M', d', hj, rfl, rfl, rfl, hit, hrr, hmr, BNr, BRr, hbr⟩ := hrel
      obtain ⟨p0, p1, p2⟩ := BNr.out.q3
      have hNl := BNr.out.lt
      have hbd2 := Lib.hid (hbd.out.it HXO.out j q2 hit.out)
      obtain ⟨hm1, _, _⟩ := hbd2.out.ms hn8 (by omega)
      by_cases hlj : j < x.times
      · have hinv := hbd2.out.1
        have HON := Lib.hid (fun (wz : World) hB h => l15One_any w.heap.size u lo n q2.2 A' c' q2.1.ds x p wz HXO.out HPP.out hpz hu hlo ⟨hinv.1, hinv.2.1, hinv.2.2⟩ hn8 hB h)
        have hfresh := Lib.hid (stO_fresh n x q2.1 q2.2)
        have hit1 := Lib.hid (show itO n x (j + 1) q = stO n x (q2.1, q2.2) by rw [itO, hit.out]; rfl)
        clear hinv
        rcases ho : stO n x (⟨q2.1.ds, [], 0⟩, q2.2) with _ | qf
        · rw [ho] at HON
          have hnone := Lib.hid (done_at hrun.out HWX.out (show wdO n x q = none from itO_none (j := j + 1) (by omega) (by rw [hit1.out, hfresh.out, ho]; rfl)))
          clear ho
          go_wp2_with fail
          refine (HON.out _ hbr.out.size hrr.out).mono ?_
          rintro e w7 ⟨U, LO, A1, k1, c1, z1, M1, m1, d1, rfl, _, hb⟩
          rw [show (none : Option (WS × Nat)).isSome = false from rfl]
          have BN7 := Lib.hid (BNr.out.ext hb)
          have BR7 := Lib.hid (BRr.out.ext hb)
          have hb7 := Lib.hid (ext_trans hbr.out hb)
          clear hb p0 p1 p2
          obtain ⟨p0, p1, p2⟩ := BN7.out.q3
          obtain ⟨s0, s1, s2⟩ := BR7.out.q3
          obtain ⟨z0, z1', z2⟩ := BR7.out.z3
          have hNl7 := BN7.out.lt
          have hRl7 := BR7.out.lt
          have hne1 : ¬ w7.heap.size = w.heap.size + 1 := by omega
          have hne2 : ¬ w7.heap.size = N := by omega
          go_wp2
          refine bodyPost_ret (v := .tuple #[frV u lo A' n c', .slice M' q2.1.ms.length d', .int .i64 (k : Int)]) (by simp [results, Try.results39, go_sem, *]) rfl ?_
          refine ⟨A', c', M', q2.1.ms.length, d', by rw [hnone.out.1], fun q' hq => ?_, hm1, ?_⟩
          · rw [hnone.out.2] at hq
            cases hq
          · repeat (first | (with_reducible exact hb7.out) | (with_reducible refine ext_alloc ?_ _) | (with_reducible refine fill_below ?_ hle1))
        · rw [ho] at HON
          have hit2 := Lib.hid (show itO n x (j + 1) q = some (⟨qf.1.ds, q2.1.ms ++ qf.1.ms, q2.1.ask + qf.1.ask⟩, qf.2) by rw [hit1.out, hfresh.out, ho]; rfl)
          have hbd3 := (hbd.out.it HXO.out (j + 1) _ hit2.out).ms hn8 (by omega)
          dsimp only at hbd3
          rw [List.length_append] at hbd3
          obtain ⟨hm3, _, _⟩ := hbd3
          have m6 : q2.1.ms.length + qf.1.ms.length ≤ maxLen := by unfold maxLen; omega
          have m7 : (q2.1.ms.length + qf.1.ms.length) * 24 ≤ 140737488355328 := by omega
          clear ho
          go_wp2_with fail
          refine (HON.out _ hbr.out.size hrr.out).mono ?_
          rintro e w7 ⟨U, LO, A1, k1, c1, z1, M1, m1, d1, rfl, hq1, hb⟩
          rw [show (some qf).isSome = true from rfl]
          obtain ⟨eU, eLO, ek, ez, em, hr7, hm7⟩ := hq1 qf rfl
          have eU := eU.symm
          have eLO := eLO.symm
          have ek := ek.symm
          subst ez em eU eLO ek
          have hr7 := Lib.hid hr7
          have hm7 := Lib.hid hm7
          have BN7 := Lib.hid (BNr.out.ext hb)
          have BR7 := Lib.hid (BRr.out.ext hb)
          have hmr7 := Lib.hid (own_ext hmr.out hb)
          have hb7 := Lib.hid (ext_trans hbr.out hb)
          clear hb p0 p1 p2 hq1
          obtain ⟨p0, p1, p2⟩ := BN7.out.q3
          obtain ⟨z0, z1', z2⟩ := BN7.out.z3
          have hNl7 := BN7.out.lt
          have hne2 : ¬ w7.heap.size = N := by omega
          have hne3 : ¬ N = w7.heap.size := by omega
          go_upto_region 14 with fail
          obtain ⟨w8, hw8⟩ : ∃ y : World, y = (((w7.setCell ⟨N, 0, none⟩ (.int .i64 u)).setCell ⟨N, 1, none⟩ (.int .i64 lo)).setCell ⟨N, 2, none⟩ (.slice A1 n c1)).alloc (.cells #[.int .i64 u, .int .i64 lo, .slice A1 n c1] 26) := ⟨_, rfl⟩
          have hnr := own_nbT hr7.out BN7.out (by decide)
          have hnm := own_nbT hmr7.out BN7.out (by decide)
          have hnm2 := own_nbT hm7.out BN7.out (by decide)
          have hr8 := Lib.hid (show w8.ownsRow w.heap.size 96 2 (.slice A1 n c1) n (rowsV2 (rodsD qf.1.ds)) by rw [hw8]; exact (fill_own' hr7.out hnr).alloc _)
          have hmr8 := Lib.hid (show w8.ownsRow w.heap.size 75 3 (.slice M' q2.1.ms.length d') q2.1.ms.length (rowsV3 q2.1.ms) by rw [hw8]; exact (fill_own' hmr7.out hnm).alloc _)
          have hm8 := Lib.hid (show w8.ownsRow w.heap.size 75 3 (.slice M1 qf.1.ms.length d1) qf.1.ms.length (rowsV3 qf.1.ms) by rw [hw8]; exact (fill_own' hm7.out hnm2).alloc _)
          have BN8 := Lib.hid (show Blk w8 N 26 #[.int .i64 u, .int .i64 lo, .slice A1 n c1] by rw [hw8]; exact (fr_put BN7.out).al _)
          have BR8 := Lib.hid (show Blk w8 (w.heap.size + 1) 26 #[.int .i64 0, .int .i64 0, .slice none 0 0] by rw [hw8]; exact (fill_far BR7.out hneNR).al _)
          have hb8 := Lib.hid (show Below w.heap.size w w8 by rw [hw8]; exact ext_alloc (fill_below hb7.out hNle) _)
          have hs8 := hb8.out.size
          rw [← hw8]
          clear hw8 p0 p1 p2 z0 z1' z2 hNl7 hne2 hne3 hnr hnm hnm2 hNl
          go_wp2_with (at_builtin; refine wpList_appO rfl (.tmp 60) (.tmp 61) 33 rfl w.heap.size 75 i0 _ 3 24 Try.underlying33 hi hz0 hz1 hz2 rfl (by decide) (.slice M' q2.1.ms.length d') _ _ rfl hmr8.out M1 _ d1 (rowsV3 qf.1.ms) rfl _ hm8.out (rows3_one _) m6 m7 hs8 ?_; intro A4 c4 w9 hown hgrow; (rw [← rowsV3_app] at hown; have hnr := own_neT hr8.out hmr8.out (by decide); have hr9 := Lib.hid (hr8.out.kept hgrow hnr); have BN9 := Lib.hid (BN8.out.grownF hgrow (own_nbT hmr8.out BN8.out (by decide))); have BR9 := Lib.hid (BR8.out.grownF hgrow (own_nbT hmr8.out BR8.out (by decide))); have hb9 := Lib.hid (hb8.out.trans (below_row hmr8.out hgrow hs8)); have hown := Lib.hid hown; clear hgrow hnr))
          go_roundw
          case rel => exact ⟨j + 1, (⟨qf.1.ds, q2.1.ms ++ qf.1.ms, q2.1.ask + qf.1.ask⟩, qf.2), A1, c1, A4, c4, by omega, by go_num, rfl, by simp only [List.length_append], hit2, hr9, by simp only [List.length_append]; exact hown, BN9, BR9, hb9⟩
          case measure => simp [intOf]; omega
      · obtain rfl : j = x.times := by omega
        have hrun2 := Lib.hid (show runO n ((P.map wd).take (k + 1)) (st0 l) = some q2 by rw [hstep.out]; exact hit.out)
        have hbd4 := Lib.hid (hbd2.out.more (m' := 9 * (k + 1)) (by omega))
        go_wp2
        go_roundw
        case rel => exact ⟨k + 1, q2, A', c', M', d', by omega, by go_num, rfl, rfl, hrun2, hbd4, hrr, hmr, BNr, BRr, hbr⟩
        case measure => simp [intOf]; omega
   · obtain rfl : k = P.length := by omega
     have hsome := Lib.hid (show runO n (P.map wd) (st0 l) = some q by have := hrun.out; rwa [List.take_of_length_le (by simp)] at this)
     obtain ⟨hm1, _, _⟩ := hbd.out.ms hn8 (by omega)
     obtain ⟨p0, p1, p2⟩ := BNr.out.q3
     obtain ⟨s0, s1, s2⟩ := BRr.out.q3
     obtain ⟨z0, z1', z2⟩ := BRr.out.z3
     have hRl7 := BRr.out.lt
     have hNl := BNr.out.lt
     have hnr := own_nbT hrr.out BRr.out (by decide)
     have hnm := own_nbT hmr.out BRr.out (by decide)
     have hnr := Lib.hid hnr
     have hnm := Lib.hid hnm
     go_wp2
     refine bodyPost_ret (v := .tuple #[frV u lo A' n c', .slice M' q.1.ms.length d', .int .i64 (P.length : Int)]) (by simp [results, Try.results39, go_sem, *]) rfl ?_
     refine ⟨A', c', M', q.1.ms.length, d', by rw [done_all hsome.out, List.length_map], fun q' hq => ?_, hm1, fill_below hbr.out hle1⟩
     rw [hsome.out] at hq
     injection hq with hq
     subst hq
     exact ⟨rfl, fill_own' hrr.out hnr.out, fill_own' hmr.out hnm.out⟩
end Go.Proofs.Ytihljhikhplegaa
