/- Minds: looking at the frame. -/
import Derived.Test.YtlkfffohjeoooaaVM8
namespace Go.Proofs.Ytlkfffohjeoooaa
open Go.RowKit
set_option linter.unusedVariables false
set_option linter.unusedSimpArgs false
theorem numD_app (xs ys : List Int) : numD (xs ++ ys) = numD xs * pw ys.length + numD ys := by
 unfold numD
 rw [List.foldl_append]
 exact numD_from ys _
theorem digs_numD {ds : List Int} (h : WF ds) : digs ds.length (numD ds) = ds := by
 apply List.ext_getElem?
 intro k
 by_cases hk : k < ds.length
 · obtain ⟨d, hd⟩ := list_split (l := ds) (k := k) hk
   rw [digs_get _ hk, hd]
   have h1 : numD ds = numD (ds.take (k + 1)) * pw (ds.length - (k + 1)) + numD (ds.drop (k + 1)) := by
    have := numD_app (ds.take (k + 1)) (ds.drop (k + 1))
    rw [List.take_append_drop, List.length_drop] at this
    exact this
   have hb := numD_bounds (ds := ds.drop (k + 1)) (fun x hx => h x (List.mem_of_mem_drop hx))
   rw [List.length_drop] at hb
   have h2 : numD (ds.take (k + 1)) = 10 * numD (ds.take k) + d := by
    rw [List.take_add_one, hd]
    exact numD_snoc _ _
   have h3 : numD ds / pw (ds.length - (k + 1)) = numD (ds.take (k + 1)) := by
    have hp := pw_pos (ds.length - (k + 1))
    rw [h1, Int.add_comm, Int.add_mul_ediv_right _ _ (by omega), Int.ediv_eq_zero_of_lt hb.1 hb.2, Int.zero_add]
   have hd9 := h.get hd
   unfold dg
   rw [h3, h2]
   congr 1
   omega
 · rw [List.getElem?_eq_none (by rw [digs_len]; omega), List.getElem?_eq_none (by omega)]
theorem digs_rods {u lo : Int} {l : List R2} {n : Nat} (hg : goodB u lo l = true) (hl : l.length = n) : digs n (numR l) = dsOf l := by
 have := digs_numD (dsOf_WF (good_fr hg) (good_std hg))
 rw [dsOf_len, hl] at this
 exact this
def fvTo (n j : Nat) : List Int := mk n fun k => if k < j then 5 else 0
theorem fvTo_zero (n : Nat) : fvTo n 0 = List.replicate n 0 := by
 refine (list_mk (by simp) fun k hk => ?_).symm
 simp [hk]
theorem fvTo_all (n : Nat) : fvTo n n = List.replicate n 5 := by
 refine (list_mk (by simp) fun k hk => ?_).symm
 simp [hk]
theorem fvTo_get {n j : Nat} (h : j < n) : (fvTo n j)[j]? = some 0 := by unfold fvTo; rw [mk_get h, if_neg (Nat.lt_irrefl _)]
theorem fvTo_set {n j : Nat} (h : j < n) : (fvTo n j).set j 5 = fvTo n (j + 1) := by
 unfold fvTo
 refine mk_set h (by rw [if_pos (Nat.lt_succ_self _)]) fun k hk hne => ?_
 by_cases e : k < j
 · rw [if_pos e, if_pos (by omega)]
 · rw [if_neg e, if_neg (by omega)]
/-- a mind that has looked comes back -/
def RetLk (w : World) (u lo : Int) (A : Option Addr) (n c : Nat) (ds : List Int) (be gu : Int) (e : Ending) (w' : World) : Prop :=
 ∃ g kc i ic, e = .returned (mdV u lo A n c (some ⟨g, 0, none⟩) n kc (some ⟨i, 0, none⟩) n ic be gu) ∧
  w'.ownsRow w.heap.size 3 1 (.slice (some ⟨g, 0, none⟩) n kc) n (intsV (List.replicate n 5)) ∧ w'.ownsRow w.heap.size 3 1 (.slice (some ⟨i, 0, none⟩) n ic) n (intsV ds) ∧ g ≠ i ∧ Below w.heap.size w w'
set_option maxRecDepth 100000 in
set_option maxHeartbeats 8000000 in
theorem looked_any (u lo : Int) (A : Option Addr) (n c : Nat) (l : List R2) (K : Option Addr) (k kc : Nat) (I : Option Addr) (m ic : Nat) (be gu : Int) (w : World) (hg : goodB u lo l = true) (h : Reads w w.heap.size 2 A n (rowsV2 l)) :
 Calls Try.prog 137 #[mdV u lo A n c K k kc I m ic be gu] w (RetLk w u lo A n c (dsOf l) be gu) := by
 have hl := rows_len2 h
 have hfr := good_fr hg
 obtain ⟨_, _, hn1, hn8⟩ := frB_head hfr
 rw [hl] at hn1 hn8
 have hm := numR_bounds hfr l.length
 rw [List.take_length] at hm
 have hdg := digs_rods hg hl
 have HN := Lib.hid (fun (w : World) h => number_any u lo A n c l w hfr h)
 have HD := Lib.hid (fun (w : World) => digitsFor_any u lo A n c (numR l) w hn8 hm.1 hm.2)
 rw [hdg] at HD
 obtain ⟨M, hM⟩ : ∃ M, numR l = M := ⟨_, rfl⟩
 rw [hM] at HN HD hm
 obtain ⟨m0, m1⟩ := hm
 obtain ⟨i0, hi, hz0, hz1, hz2⟩ := info_parts info_int
 have H := Lib.hid h
 have BM0 := Lib.hid ((Blk.born w (mdC u lo A n c K k kc I m ic be gu) 47 (H := w.heap.size) rfl).al (.cells #[.int .i64 0, .int .i64 0, .slice none 0 0, .slice none 0 0, .slice none 0 0, .int .i64 0, .int .i64 0] 47))
 have BR0 := Lib.hid (Blk.born (w.alloc (.cells (mdC u lo A n c K k kc I m ic be gu) 47)) #[.int .i64 0, .int .i64 0, .slice none 0 0, .slice none 0 0, .slice none 0 0, .int .i64 0, .int .i64 0] 47 (H := w.heap.size + 1) (by simp))
 have hbx := Lib.hid (ext_alloc (ext_alloc (ext_refl w) (.cells (mdC u lo A n c K k kc I m ic be gu) 47)) (.cells #[.int .i64 0, .int .i64 0, .slice none 0 0, .slice none 0 0, .slice none 0 0, .int .i64 0, .int .i64 0] 47))
 clear h hl hfr hdg hM hg
 go_enter Try.func137, Try.ntmps137
 go_upto_region 1 with fail
 obtain ⟨W0, hW0⟩ : ∃ y : World, y = ((w.alloc (.cells (mdC u lo A n c K k kc I m ic be gu) 47)).alloc (.cells #[.int .i64 0, .int .i64 0, .slice none 0 0, .slice none 0 0, .slice none 0 0, .int .i64 0, .int .i64 0] 47)) := ⟨_, rfl⟩
 rw [← hW0] at BM0 BR0 hbx
 rw [← hW0]
 clear hW0
 obtain ⟨d0, d1, d2, d3, d4, d5, d6⟩ := BM0.out.q7
 obtain ⟨z0, z1, z2, z3, z4, z5, z6⟩ := BM0.out.z7
 have hMl := BM0.out.lt
 have hs0 := hbx.out.size
 go_cut [9] (fun s9 wx => ∃ (gi ci : Nat), s9 = .slice (some ⟨gi, 0, none⟩) n ci ∧ Hid (Blk wx w.heap.size 47 (mdC u lo A n c K k kc (some ⟨gi, 0, none⟩) n ci be gu)) ∧ Hid (Blk wx (w.heap.size + 1) 47 #[.int .i64 0, .int .i64 0, .slice none 0 0, .slice none 0 0, .slice none 0 0, .int .i64 0, .int .i64 0]) ∧ Hid (wx.ownsRow w.heap.size 3 1 (.slice (some ⟨gi, 0, none⟩) n ci) n (intsV (dsOf l))) ∧ Hid (Below w.heap.size w wx))
 case first =>
  go_region_law (first
   | (go_simp; go_at_call 126; (with_reducible refine (HN.out _ ?_).mono ?_); (focus (refine rdx H.out ?_; (repeat (first | (with_reducible exact hbx.out) | (with_reducible refine ext_drew ?_))); done)); rintro e wA ⟨rfl, hbA⟩; refine hvM (p := Below W0.heap.size W0 wA) ?_ fun heA => ?_; (focus (refine ext_trans ?_ hbA; (repeat (first | (with_reducible exact ext_refl _) | (with_reducible refine ext_drew ?_))); done)); obtain ⟨d0A, d1A, d2A, d3A, d4A, d5A, d6A⟩ := (BM0.out.ext heA).q7; obtain ⟨z0A, z1A, z2A, z3A, z4A, z5A, z6A⟩ := (BM0.out.ext heA).z7; have hMlA := (BM0.out.ext heA).lt; have heA := Lib.hid heA)
   | (go_simp; go_at_call 140; (with_reducible refine (HD.out _).mono ?_); rintro e wB ⟨AI, ci, rfl, hmi, hbB⟩; refine hvM (p := Below wA.heap.size wA wB) ?_ fun heB => ?_; (focus (refine ext_trans ?_ hbB; (repeat (first | (with_reducible exact ext_refl _) | (with_reducible refine ext_drew ?_))); done)); obtain ⟨d0B, d1B, d2B, d3B, d4B, d5B, d6B⟩ := ((BM0.out.ext heA.out).ext heB).q7; obtain ⟨z0B, z1B, z2B, z3B, z4B, z5B, z6B⟩ := ((BM0.out.ext heA.out).ext heB).z7; have hMlB := ((BM0.out.ext heA.out).ext heB).lt; have heB := Lib.hid heB; have hmi := Lib.hid hmi))
  all_goals
   (go_wp2_with fail; go_meet)
  all_goals
   obtain ⟨gi, cap, hv, _, _⟩ := hmi.out.form (by omega)
   injection hv with hv
   subst hv
   have hBA := Lib.hid ((BM0.out.ext heA.out).ext heB.out)
   have hiB := Lib.hid (own_base (base' := w.heap.size) hmi.out (Nat.le_trans hs0 heA.out.size))
   exact ⟨gi, ci, rfl, Lib.hid (hBA.out.set_ 4 _), Lib.hid (((BR0.out.ext heA.out).ext heB.out).setF (p := ⟨w.heap.size, 4, none⟩) (by simp) _), Lib.hid (own_setF (p := ⟨w.heap.size, 4, none⟩) hiB.out (own_nbT hiB.out hBA.out (by decide)) _), Lib.hid (ext_set (ext_trans (ext_trans hbx.out heA.out) heB.out) (p := ⟨w.heap.size, 4, none⟩) (Nat.le_refl _) _)⟩
 case rest =>
  clear d0 d1 d2 d3 d4 d5 d6 z0 z1 z2 z3 z4 z5 z6 BM0 BR0 hbx hMl hs0
  obtain ⟨gi, ci, rfl, BM1, BR1, HI1, hb1⟩ := hcut
  obtain ⟨w1, hw1⟩ : ∃ y : World, y = wc := ⟨_, rfl⟩
  subst hw1
  obtain ⟨d0, d1, d2, d3, d4, d5, d6⟩ := BM1.out.q7
  have hMl := BM1.out.lt
  have hs1 := hb1.out.size
  go_wp2_with (at_make; refine wpList_make_full _ rfl _ _ 40 rfl w1.heap.size 3 i0 _ 1 Try.underlying40 hi hz0 hz1 .i64 .i64 _ _ n rfl rfl rfl rfl (by rw [hz2]; omega) (by unfold maxLen; omega) (by simp) ?_; intro w2 hown2 hgrow2; rw [made_ints] at hown2; have hb2 := Lib.hid ((ext_refl w1).grown hgrow2 (Nat.le_refl _) (fun _ h => by cases h)); have HC2 := Lib.hid hown2; obtain ⟨d0, d1, d2, d3, d4, d5, d6⟩ := (BM1.out.ext hb2.out).q7; obtain ⟨z0, z1, z2, z3, z4, z5, z6⟩ := (BM1.out.ext hb2.out).z7; have hMl2 := (BM1.out.ext hb2.out).lt; clear hown2 hgrow2)
  obtain ⟨W, hW⟩ : ∃ y : World, y = w2.setCell ⟨w.heap.size, 3, none⟩ (.slice (some ⟨w1.heap.size, 0, none⟩) n n) := ⟨_, rfl⟩
  have hne : w1.heap.size ≠ gi := by have h9 : gi < w1.heap.size := (HI1.out.lt _ rfl).2; omega
  have BW := Lib.hid (show Blk W w.heap.size 47 (mdC u lo A n c (some ⟨w1.heap.size, 0, none⟩) n n (some ⟨gi, 0, none⟩) n ci be gu) by rw [hW]; exact (BM1.out.ext hb2.out).set_ 3 _)
  have RW := Lib.hid (show Blk W (w.heap.size + 1) 47 #[.int .i64 0, .int .i64 0, .slice none 0 0, .slice none 0 0, .slice none 0 0, .int .i64 0, .int .i64 0] by rw [hW]; exact (BR1.out.ext hb2.out).setF (p := ⟨w.heap.size, 3, none⟩) (by simp) _)
  have IW := Lib.hid (show W.ownsRow w.heap.size 3 1 (.slice (some ⟨gi, 0, none⟩) n ci) n (intsV (dsOf l)) by rw [hW]; exact own_setF (p := ⟨w.heap.size, 3, none⟩) (own_ext HI1.out hb2.out) (own_nbT HI1.out BM1.out (by decide)) _)
  have CW := Lib.hid (show W.ownsRow w.heap.size 3 1 (.slice (some ⟨w1.heap.size, 0, none⟩) n n) n (intsV (fvTo n 0)) by rw [hW, fvTo_zero]; exact own_setF (p := ⟨w.heap.size, 3, none⟩) (own_base HC2.out hs1) (own_nbT HC2.out (BM1.out.ext hb2.out) (by decide)) _)
  have hbW := Lib.hid (show Below w.heap.size w W by rw [hW]; exact ext_set (ext_trans hb1.out hb2.out) (p := ⟨w.heap.size, 3, none⟩) (Nat.le_refl _) _)
  have hgR : w.heap.size + 1 ≠ w1.heap.size := by have := BR1.out.lt; omega
  have hgB : w.heap.size ≠ w1.heap.size := by omega
  obtain ⟨G, hG⟩ : ∃ G, w1.heap.size = G := ⟨_, rfl⟩
  rw [← hW]
  rw [hG] at BW CW hne hgR hgB ⊢
  clear hW hb1 hb2 HC2 HI1 BM1 BR1 d0 d1 d2 d3 d4 d5 d6 z0 z1 z2 z3 z4 z5 z6 hMl hMl2 hs1 hG
  go_loopw [19] (fun v wr => ∃ j : Nat, j ≤ n ∧ v = .int .i64 j ∧ Hid (wr.ownsRow w.heap.size 3 1 (.slice (some ⟨G, 0, none⟩) n n) n (intsV (fvTo n j))) ∧ Hid (wr.ownsRow w.heap.size 3 1 (.slice (some ⟨gi, 0, none⟩) n ci) n (intsV (dsOf l))) ∧ Hid (Below w.heap.size w wr) ∧ Hid (Blk wr w.heap.size 47 (mdC u lo A n c (some ⟨G, 0, none⟩) n n (some ⟨gi, 0, none⟩) n ci be gu)) ∧ Hid (Blk wr (w.heap.size + 1) 47 #[.int .i64 0, .int .i64 0, .slice none 0 0, .slice none 0 0, .slice none 0 0, .int .i64 0, .int .i64 0])) (fun v _ => n - (intOf v).toNat)
  case atStart => exact ⟨0, Nat.zero_le _, rfl, CW, IW, hbW, BW, RW⟩
  case round =>
   clear CW IW hbW BW RW
   obtain ⟨j, hj, rfl, HCr, HIr, hbr, BMr, BRr⟩ := hrel
   obtain ⟨d0, d1, d2, d3, d4, d5, d6⟩ := BMr.out.q7
   have hsr := BMr.out.lt
   by_cases hlt : j < n
   · have q0 := int_cell HCr.out (fvTo_get hlt)
     have f0 := own_frozen HCr.out j
     have hgr : G < wr.heap.size := (HCr.out.lt _ rfl).2
     have hset := Lib.hid (fvTo_set hlt)
     go_wp2
     go_roundw
     case rel => exact ⟨j + 1, by omega, by go_num, Lib.hid (by rw [← hset.out]; exact int_set HCr.out), Lib.hid (own_setF (p := ⟨G, j, none⟩) HIr.out (by intro e; injection e with e; exact hne e.symm) _), Lib.hid (hbr.out.setCell (p := ⟨G, j, none⟩) (HCr.out.lt _ rfl).1 _), Lib.hid (BMr.out.setF (p := ⟨G, j, none⟩) hgB.symm _), Lib.hid (BRr.out.setF (p := ⟨G, j, none⟩) hgR.symm _)⟩
     case measure => simp [intOf]; omega
   · obtain rfl : j = n := by omega
     have hall := Lib.hid (fvTo_all j)
     obtain ⟨r0, r1, r2, r3, r4, r5, r6⟩ := BRr.out.q7
     obtain ⟨x0, x1, x2, x3, x4, x5, x6⟩ := BRr.out.z7
     have hsz := BRr.out.lt
     go_wp2
     refine bodyPost_ret (v := mdV u lo A j c (some ⟨G, 0, none⟩) j j (some ⟨gi, 0, none⟩) j ci be gu) (by simp [results, Try.results137, go_sem, *]) rfl ?_
     exact ⟨G, j, gi, ci, rfl, by rw [← hall.out]; exact m7_own HCr.out (own_nbT HCr.out BRr.out (by decide)), m7_own HIr.out (own_nbT HIr.out BRr.out (by decide)), hne, m7_below hbr.out (Nat.le_succ _)⟩
end Go.Proofs.Ytlkfffohjeoooaa
