/- SavedMoves: the program's and the reference's. -/
import Derived.Deep.CutBlock
import Derived.Test.YtmfjaoljeildbaaVBsL
import Derived.Test.YtmfjaoljeildbaaVFdD
import Derived.Test.YtmfjaoljeildbaaVM4
import Derived.Test.YtmfjaoljeildbaaVM5
namespace Go.Proofs.Ytmfjaoljeildbaa
open Go.RowKit
set_option linter.unusedVariables false
set_option linter.unusedSimpArgs false
def savB (u lo : Int) (l : List R2) (m : Int) : Bool := frB u lo l && inB m 0 (pw l.length - 1)
def savV (u lo : Int) (l : List R2) (m : Int) : Int := if savB u lo l m = true then ((btw l (rodsD (digs l.length m)) l.length).length : Int) - (nearW u lo l m).m else 0
theorem std_len (n : Nat) (m : Int) : (rodsD (digs n m)).length = n := by rw [rodsD_len, digs_len]
theorem std_mem {u lo : Int} {l : List R2} {n : Nat} (hf : frB u lo l = true) (m : Int) : ∀ y ∈ rodsD (digs n m), 0 ≤ y.a ∧ y.a ≤ u ∧ 0 ≤ y.b ∧ y.b ≤ lo := by
 intro y hy
 have hh := frB_head hf
 obtain ⟨d, hd, rfl⟩ := List.mem_map.1 hy
 obtain ⟨k, _, rfl⟩ := List.mem_map.1 hd
 have := dg_bounds n m k
 unfold rodD
 dsimp only
 omega
theorem std_fr {u lo : Int} {l : List R2} {n : Nat} (hf : frB u lo l = true) (hl : l.length = n) (m : Int) : frB u lo (rodsD (digs n m)) = true := frB_mk hf (by rw [std_len, hl]) (std_mem hf m)
theorem std_num {n : Nat} {m : Int} (h0 : 0 ≤ m) (h1 : m < pw n) : numR (rodsD (digs n m)) = m := by
 have h := digs_part n m n (Nat.le_refl _)
 rw [Nat.sub_self, pw_zero, Int.ediv_one, Int.ediv_eq_zero_of_lt h0 h1] at h
 unfold numR
 rw [dsOf_rodsD]
 unfold digs
 rw [h]
 omega
theorem std_in {u lo : Int} {l : List R2} {n : Nat} {m : Int} (hf : frB u lo l = true) (hl : l.length = n) (h0 : 0 ≤ m) (h1 : m < pw n) : rodsD (digs n m) ∈ tgP u lo n m :=
 (tgP_iff (by have := frB_head hf; omega) (by have := frB_head hf; omega) n m _ h0).2 ⟨std_len n m, std_mem hf m, std_num h0 h1⟩
theorem way_field (k : Nat) (m b : Int) (o : Bool) (A : Option Addr) (c : Nat) (w : World) : (Instr.field 48 (.agg #[.slice A k c, .int .i64 m, .int .i64 b, .bool o]) 1).run Try.prog w = .ok (.int .i64 m) w := by
 kernel_rfl
set_option maxRecDepth 100000 in
set_option maxHeartbeats 8000000 in
theorem implSavedMoves_any (u lo : Int) (A : Option Addr) (n c : Nat) (l : List R2) (m : Int) (w : World) (hn : n ≤ 1048576) (h63 : m ≤ 9223372036854775807) (h : Reads w w.heap.size 2 A n (rowsV2 l)) :
 Calls Try.prog 21 #[frV u lo A n c, .int .i64 m] w (RetV (.tuple #[.int .i64 (savV u lo l m), .bool (savB u lo l m)]) w) := by
 have hl := rows_len2 h
 have H := Lib.hid h
 have BF0 := Lib.hid (Blk.born w #[.int .i64 u, .int .i64 lo, .slice A n c] 26 (H := w.heap.size) rfl)
 have hbx := Lib.hid (ext_alloc (ext_refl w) (.cells #[.int .i64 u, .int .i64 lo, .slice A n c] 26))
 clear h
 cases hf : frB u lo l
 · rw [show savB u lo l m = false by simp [savB, hf], show savV u lo l m = 0 by unfold savV; rw [if_neg (by rw [show savB u lo l m = false by simp [savB, hf]]; simp)]]
   have HG := Lib.hid hf
   clear hf hl
   have BF1 := BF0
   obtain ⟨W1, hW1⟩ : ∃ y : World, y = w.alloc (.cells #[.int .i64 u, .int .i64 lo, .slice A n c] 26) := ⟨_, rfl⟩
   rw [← hW1] at BF1
   have hb1 := Lib.hid (show Below w.heap.size w W1 by rw [hW1]; exact hbx.out)
   clear BF0 hbx
   go_enter Try.func21, Try.ntmps21
   go_upto_region 1 with fail
   rw [← hW1]
   clear hW1
   obtain ⟨f0, f1, f2⟩ := BF1.out.q3
   have lF := BF1.out.lt
   go_wp2_with fail
   refine (isFrame_any u lo A n c l _ hn (rdx H.out hb1.out)).mono ?_
   rw [HG.out]
   rintro e wG ⟨rfl, hbG⟩
   go_wp2
   go_ret2
   exact ⟨rfl, ext_trans hb1.out hbG⟩
 have hn1 := (frB_head hf).2.2.1
 have hn8 := (frB_head hf).2.2.2
 rw [hl] at hn1 hn8
 have hp8 := pw_lt hn8
 cases hfb : inB m 0 (pw n - 1)
 · rw [show savB u lo l m = false by simp [savB, hf, hl, hfb], show savV u lo l m = 0 by unfold savV; rw [if_neg (by rw [show savB u lo l m = false by simp [savB, hf, hl, hfb]]; simp)]]
   have HG := Lib.hid hf
   have HFB := Lib.hid hfb
   clear hf hl hfb
   have BF1 := BF0
   obtain ⟨W1, hW1⟩ : ∃ y : World, y = w.alloc (.cells #[.int .i64 u, .int .i64 lo, .slice A n c] 26) := ⟨_, rfl⟩
   rw [← hW1] at BF1
   have hb1 := Lib.hid (show Below w.heap.size w W1 by rw [hW1]; exact hbx.out)
   clear BF0 hbx
   go_enter Try.func21, Try.ntmps21
   go_upto_region 1 with fail
   rw [← hW1]
   clear hW1
   obtain ⟨f0, f1, f2⟩ := BF1.out.q3
   have lF := BF1.out.lt
   go_wp2_with fail
   refine (isFrame_any u lo A n c l _ hn (rdx H.out hb1.out)).mono ?_
   rw [HG.out]
   rintro e wG ⟨rfl, hbG⟩
   have hbH := Lib.hid (ext_trans hb1.out hbG)
   have BFH := Lib.hid (BF1.out.ext hbG)
   clear f0 f1 f2 lF BF1 hb1 hbG
   obtain ⟨f0, f1, f2⟩ := BFH.out.q3
   have lF := BFH.out.lt
   go_wp2_with fail
   refine (fitsOn_b u lo A n c m false _ hn8 HFB.out).mono ?_
   rintro e w2 ⟨rfl, hbK⟩
   have hbV := Lib.hid (ext_trans hbH.out hbK)
   have BFV := Lib.hid (BFH.out.ext hbK)
   clear f0 f1 f2 lF BFH hbH
   obtain ⟨f0, f1, f2⟩ := BFV.out.q3
   have lF := BFV.out.lt
   go_wp2
   go_ret2
   exact ⟨rfl, hbV.out⟩
 · have hm := inB_iff.1 hfb
   have hm0 : 0 ≤ m := hm.1
   have hP : m < pw n := by omega
   have hin := std_in hf hl hm0 hP
   have hfs := (std_fr hf hl m)
   have hSL := std_len n m
   have hok : (nearW u lo l m).ok = true := by
    rcases near_is u lo l m with ⟨_, _, h9⟩ | ⟨h9, _⟩
    · rw [hl] at h9
      rw [h9 (by unfold askB; rw [hf]; simp [hm0])] at hin
      cases hin
    · exact h9
   have hxl := nearW_len u lo l m hok
   have hfx := (nearW_fr u lo l m hok).2
   have hxm := nearW_m u lo l m hok
   rw [hl] at hxl hxm
   have hb16 := btw_len l (nearW u lo l m).l n
   have hc16 := btw_len l (rodsD (digs n m)) n
   have EV := Lib.hid (show savV u lo l m = ((btw l (rodsD (digs n m)) n).length : Int) - (nearW u lo l m).m by unfold savV; rw [if_pos (by unfold savB; rw [hf, hl, hfb]; rfl), hl])
   have EB := Lib.hid (show savB u lo l m = true by unfold savB; rw [hf, hl, hfb]; rfl)
   have HW := Lib.hid (show IntKind.i64.wrap (((btw l (rodsD (digs n m)) n).length : Int) - (nearW u lo l m).m) = ((btw l (rodsD (digs n m)) n).length : Int) - (nearW u lo l m).m from IntWalk.i64_in _ (by omega))
   rw [EB.out, EV.out]
   have HSH := Lib.hid (fun (w : World) h => showing_any u lo A n c l m w hn1 hn8 hm0 (by omega) h)
   have HBT := Lib.hid (fun (w : World) (B : Option Addr) (d : Nat) h h' => movesBetween_any u lo A B n c d l (rodsD (digs n m)) w hf hfs h h')
   have HNR := Lib.hid (fun (w : World) h => nearest_any u lo A n c l m w hn h63 h)
   unfold RetSh at HSH
   unfold RetSlice at HBT
   unfold RetWay at HNR
   obtain ⟨X, hX⟩ : ∃ o9, nearW u lo l m = o9 := ⟨_, rfl⟩
   obtain ⟨S, hS⟩ : ∃ o9, rodsD (digs n m) = o9 := ⟨_, rfl⟩
   rw [hS] at HSH HBT HW hc16
   rw [hX] at HNR HW hxm hb16
   rw [hS, hX]
   obtain ⟨MS, hMS⟩ : ∃ o9, btw l S n = o9 := ⟨_, rfl⟩
   rw [hMS] at HBT HW hc16 ⊢
   have HG := Lib.hid hf
   have HFB := Lib.hid hfb
   clear hf hl hfb hX hS hMS EV EB hin hfs hxl hfx hP hok hxm
   have hfd := way_field X.l.length X.m X.b X.ok
   have BF1 := BF0
   obtain ⟨W1, hW1⟩ : ∃ y : World, y = w.alloc (.cells #[.int .i64 u, .int .i64 lo, .slice A n c] 26) := ⟨_, rfl⟩
   rw [← hW1] at BF1
   have hb1 := Lib.hid (show Below w.heap.size w W1 by rw [hW1]; exact hbx.out)
   clear BF0 hbx
   go_enter Try.func21, Try.ntmps21
   go_upto_region 1 with fail
   rw [← hW1]
   clear hW1
   obtain ⟨f0, f1, f2⟩ := BF1.out.q3
   have lF := BF1.out.lt
   go_wp2_with fail
   refine (isFrame_any u lo A n c l _ hn (rdx H.out hb1.out)).mono ?_
   rw [HG.out]
   rintro e wG ⟨rfl, hbG⟩
   have hbH := Lib.hid (ext_trans hb1.out hbG)
   have BFH := Lib.hid (BF1.out.ext hbG)
   clear f0 f1 f2 lF BF1 hb1 hbG
   obtain ⟨f0, f1, f2⟩ := BFH.out.q3
   have lF := BFH.out.lt
   go_wp2_with fail
   refine (fitsOn_b u lo A n c m true _ hn8 HFB.out).mono ?_
   rintro e W2 ⟨rfl, hbK⟩
   have hbV := Lib.hid (ext_trans hbH.out hbK)
   have BFV := Lib.hid (BFH.out.ext hbK)
   clear f0 f1 f2 lF BFH hbH
   obtain ⟨f0, f1, f2⟩ := BFV.out.q3
   have lF := BFV.out.lt
   have hb2 := hbV
   have BF2 := BFV
   clear hbK hbV BFV
   go_upto_region 3 with fail
   go_region_held3 (fun w' => w'.cell? ⟨w.heap.size, 0, none⟩ = some (.int .i64 u) ∧ w'.cell? ⟨w.heap.size, 1, none⟩ = some (.int .i64 lo) ∧ w'.cell? ⟨w.heap.size, 2, none⟩ = some (.slice A n c)) (first | (go_split_ands; ((repeat' refine And.intro ?_ ?_) <;> with_reducible (repeat (first | assumption | refine cell_drew ?_))))) (first
    | (go_at_call 54; (with_reducible refine (HSH.out _ ?_).mono ?_); (focus (refine rdx H.out ?_; (repeat (first | (with_reducible exact hb2.out) | (with_reducible assumption) | (with_reducible refine ext_drew ?_))); done)); rintro e wS ⟨As, cs, rfl, hoS, hbwS⟩; refine hv (p := Below w.heap.size w wS) ?_ fun hgwS => ?_; (focus (refine ext_trans ?_ hbwS; (repeat (first | (with_reducible exact hb2.out) | (with_reducible assumption) | (with_reducible refine ext_drew ?_))); done)); refine hv (p := Below W2.heap.size W2 wS) ?_ fun hcwS => ?_; (focus (refine ext_trans ?_ hbwS; (repeat (first | (with_reducible exact ext_refl _) | (with_reducible assumption) | (with_reducible refine ext_drew ?_))); done)); obtain ⟨f0, f1, f2⟩ := (BF2.out.ext hcwS).q3; have hcwS := Lib.hid hcwS; have hoS2 := Lib.hid hoS; clear hoS)
    | (go_at_call 43; (with_reducible refine (HBT.out _ As cs ?_ ?_).mono ?_); (focus (refine rdx H.out ?_; (repeat (first | (with_reducible exact hb2.out) | (with_reducible assumption) | (with_reducible refine ext_drew ?_))); done)); (focus (refine Reads.of_own (own_ext hoS2.out ?_); (repeat (first | (with_reducible exact ext_refl _) | (with_reducible assumption) | (with_reducible refine ext_drew ?_))); done)); rintro e wM ⟨Am, cm, rfl, _, hbwM⟩; refine hv (p := Below w.heap.size w wM) ?_ fun hgwM => ?_; (focus (refine ext_trans ?_ hbwM; (repeat (first | (with_reducible exact hb2.out) | (with_reducible assumption) | (with_reducible refine ext_drew ?_))); done)); refine hv (p := Below W2.heap.size W2 wM) ?_ fun hcwM => ?_; (focus (refine ext_trans ?_ hbwM; (repeat (first | (with_reducible exact ext_refl _) | (with_reducible assumption) | (with_reducible refine ext_drew ?_))); done)); obtain ⟨f0, f1, f2⟩ := (BF2.out.ext hcwM).q3; have hcwM := Lib.hid hcwM)
    | (go_at_call 38; (with_reducible refine (HNR.out _ ?_).mono ?_); (focus (refine rdx H.out ?_; (repeat (first | (with_reducible exact hb2.out) | (with_reducible assumption) | (with_reducible refine ext_drew ?_))); done)); rintro e wN ⟨An, cn, rfl, _, hbwN⟩; refine hv (p := Below w.heap.size w wN) ?_ fun hgwN => ?_; (focus (refine ext_trans ?_ hbwN; (repeat (first | (with_reducible exact hb2.out) | (with_reducible assumption) | (with_reducible refine ext_drew ?_))); done)); refine hv (p := Below W2.heap.size W2 wN) ?_ fun hcwN => ?_; (focus (refine ext_trans ?_ hbwN; (repeat (first | (with_reducible exact ext_refl _) | (with_reducible assumption) | (with_reducible refine ext_drew ?_))); done)); obtain ⟨f0, f1, f2⟩ := (BF2.out.ext hcwN).q3; have hcwN := Lib.hid hcwN))
   all_goals
    go_wp2
    go_ret2
    refine ⟨by show Ending.returned (.tuple #[.int .i64 (IntKind.i64.wrap _), .bool true]) = _; rw [HW.out], ?_⟩
    (repeat (first | (with_reducible exact hb2.out) | (with_reducible assumption) | (with_reducible refine ext_drew ?_)))

set_option maxRecDepth 100000 in
set_option maxHeartbeats 8000000 in
theorem specSavedMoves_any (u lo : Int) (A : Option Addr) (n c : Nat) (l : List R2) (m : Int) (w : World) (hn : n ≤ 1048576) (h63 : m ≤ 9223372036854775807) (h : Reads w w.heap.size 2 A n (rowsV2 l)) :
 Calls Try.prog 25 #[frV u lo A n c, .int .i64 m] w (RetV (.tuple #[.int .i64 (savV u lo l m), .bool (savB u lo l m)]) w) := by
 have hl := rows_len2 h
 have H := Lib.hid h
 have BF0 := Lib.hid (Blk.born w #[.int .i64 u, .int .i64 lo, .slice A n c] 26 (H := w.heap.size) rfl)
 have hbx := Lib.hid (ext_alloc (ext_refl w) (.cells #[.int .i64 u, .int .i64 lo, .slice A n c] 26))
 clear h
 cases ha : askB u lo l m
 · rw [show savB u lo l m = false by (unfold askB at ha; unfold savB; rw [hl]; cases hf : frB u lo l; rfl; rw [hf] at ha; simp at ha; rw [Bool.true_and, inB_no]; omega), show savV u lo l m = 0 by unfold savV; rw [if_neg (by rw [show savB u lo l m = false by (unfold askB at ha; unfold savB; rw [hl]; cases hf : frB u lo l; rfl; rw [hf] at ha; simp at ha; rw [Bool.true_and, inB_no]; omega)]; simp)]]
   have HG := Lib.hid ha
   clear ha hl
   have BF1 := BF0
   obtain ⟨W1, hW1⟩ : ∃ y : World, y = w.alloc (.cells #[.int .i64 u, .int .i64 lo, .slice A n c] 26) := ⟨_, rfl⟩
   rw [← hW1] at BF1
   have hb1 := Lib.hid (show Below w.heap.size w W1 by rw [hW1]; exact hbx.out)
   clear BF0 hbx
   go_enter Try.func25, Try.ntmps25
   go_upto_region 1 with fail
   rw [← hW1]
   clear hW1
   obtain ⟨f0, f1, f2⟩ := BF1.out.q3
   have lF := BF1.out.lt
   go_wp2_with fail
   refine (l13Asked_any u lo A n c l m _ hn h63 (rdx H.out hb1.out)).mono ?_
   rw [HG.out]
   rintro e wG ⟨rfl, hbG⟩
   go_wp2
   go_ret2
   exact ⟨rfl, ext_trans hb1.out hbG⟩
 have hf : frB u lo l = true := by unfold askB at ha; simp at ha; exact ha.1
 have hm00 : 0 ≤ m := by unfold askB at ha; simp at ha; exact ha.2
 have hn1 := (frB_head hf).2.2.1
 have hn8 := (frB_head hf).2.2.2
 rw [hl] at hn1 hn8
 have hp8 := pw_lt hn8
 cases hfb : inB m 0 (pw n - 1)
 · rw [show savB u lo l m = false by simp [savB, hf, hl, hfb], show savV u lo l m = 0 by unfold savV; rw [if_neg (by rw [show savB u lo l m = false by simp [savB, hf, hl, hfb]]; simp)]]
   have HG := Lib.hid ha
   obtain ⟨P, hP9⟩ : ∃ o9, pw n = o9 := ⟨_, rfl⟩
   have hge : decide (P ≤ m) = true := decide_eq_true (by have h9 := inB_no.1 hfb; omega)
   have hge2 : ¬ m < P := by have h9 := inB_no.1 hfb; omega
   have HP9 := Lib.hid hP9
   clear hf hl hfb ha hP9
   have BF1 := BF0
   obtain ⟨W1, hW1⟩ : ∃ y : World, y = w.alloc (.cells #[.int .i64 u, .int .i64 lo, .slice A n c] 26) := ⟨_, rfl⟩
   rw [← hW1] at BF1
   have hb1 := Lib.hid (show Below w.heap.size w W1 by rw [hW1]; exact hbx.out)
   clear BF0 hbx
   go_enter Try.func25, Try.ntmps25
   go_upto_region 1 with fail
   rw [← hW1]
   clear hW1
   obtain ⟨f0, f1, f2⟩ := BF1.out.q3
   have lF := BF1.out.lt
   go_wp2_with fail
   refine (l13Asked_any u lo A n c l m _ hn h63 (rdx H.out hb1.out)).mono ?_
   rw [HG.out]
   rintro e wG ⟨rfl, hbG⟩
   have hbH := Lib.hid (ext_trans hb1.out hbG)
   have BFH := Lib.hid (BF1.out.ext hbG)
   clear f0 f1 f2 lF BF1 hb1 hbG
   obtain ⟨f0, f1, f2⟩ := BFH.out.q3
   have lF := BFH.out.lt
   go_wp2_with fail
   refine (l2Power_any (n : Int) n _ rfl hn8).mono ?_
   rw [HP9.out]
   rintro e w2 ⟨rfl, hbK⟩
   subst hbK
   have hbV := Lib.hid hbH.out
   have BFV := Lib.hid BFH.out
   clear f0 f1 f2 lF BFH hbH
   obtain ⟨f0, f1, f2⟩ := BFV.out.q3
   have lF := BFV.out.lt
   go_wp2
   go_ret2
   exact ⟨rfl, hbV.out⟩
 · have hm := inB_iff.1 hfb
   have hm0 : 0 ≤ m := hm.1
   have hP : m < pw n := by omega
   have hin := std_in hf hl hm0 hP
   have hfs := (std_fr hf hl m)
   have hSL := std_len n m
   have hok : (nearW u lo l m).ok = true := by
    rcases near_is u lo l m with ⟨_, _, h9⟩ | ⟨h9, _⟩
    · rw [hl] at h9
      rw [h9 (by unfold askB; rw [hf]; simp [hm0])] at hin
      cases hin
    · exact h9
   have hxl := nearW_len u lo l m hok
   have hfx := (nearW_fr u lo l m hok).2
   have hxm := nearW_m u lo l m hok
   rw [hl] at hxl hxm
   have hb16 := btw_len l (nearW u lo l m).l n
   have hc16 := btw_len l (rodsD (digs n m)) n
   have EV := Lib.hid (show savV u lo l m = ((btw l (rodsD (digs n m)) n).length : Int) - (nearW u lo l m).m by unfold savV; rw [if_pos (by unfold savB; rw [hf, hl, hfb]; rfl), hl])
   have EB := Lib.hid (show savB u lo l m = true by unfold savB; rw [hf, hl, hfb]; rfl)
   have HW := Lib.hid (show IntKind.i64.wrap (((btw l (rodsD (digs n m)) n).length : Int) - (nearW u lo l m).m) = ((btw l (rodsD (digs n m)) n).length : Int) - (nearW u lo l m).m from IntWalk.i64_in _ (by omega))
   rw [EB.out, EV.out]
   have HB := Lib.hid (fun (w : World) h => l13Best_any u lo A n c l m w hf hl hm0 h63 h)
   rw [show minT nearP l n (tgP u lo n m) = nearW u lo l m by unfold nearW; rw [if_pos ha, hl]] at HB
   have HSH := Lib.hid (fun w => l2For_any u lo n m w hn8 hn1 hm0 (by omega))
   rw [show forL n m n = rodsD (digs n m) by unfold forL rodsD digs; rw [List.map_map]; rfl] at HSH
   have HBT := Lib.hid (fun (w : World) (B : Option Addr) (d : Nat) h h' => l4Between_any u lo A B n c d l (rodsD (digs n m)) w hf hfs h h')
   have HBX := Lib.hid (fun (w : World) (B : Option Addr) (d : Nat) h h' => l4Between_any u lo A B n c d l (nearW u lo l m).l w hf hfx h h')
   rw [hxm] at HW ⊢
   unfold RetFor at HSH
   rw [hSL] at HSH
   unfold RetSlice at HBT HBX
   unfold RetBest at HB
   obtain ⟨X, hX⟩ : ∃ o9, nearW u lo l m = o9 := ⟨_, rfl⟩
   obtain ⟨S, hS⟩ : ∃ o9, rodsD (digs n m) = o9 := ⟨_, rfl⟩
   rw [hS] at HSH HBT HW hc16
   rw [hX] at HB HBX HW hb16 hok hxl
   rw [hS, hX]
   obtain ⟨MS, hMS⟩ : ∃ o9, btw l S n = o9 := ⟨_, rfl⟩
   rw [hMS] at HBT HW hc16 ⊢
   obtain ⟨MX, hMX⟩ : ∃ o9, btw l X.l n = o9 := ⟨_, rfl⟩
   rw [hMX] at HBX HW hb16 ⊢
   have HG := Lib.hid ha
   obtain ⟨P, hP9⟩ : ∃ o9, pw n = o9 := ⟨_, rfl⟩
   have hge : decide (P ≤ m) = false := decide_eq_false (by omega)
   have hge2 : m < P := by omega
   have HP9 := Lib.hid hP9
   have HOK := Lib.hid hok
   have HXL := Lib.hid hxl
   clear hf hl hfb ha hX hS hMS hMX EV EB hin hfs hxl hfx hok hxm hP9 hP
   have BF1 := BF0
   obtain ⟨W1, hW1⟩ : ∃ y : World, y = w.alloc (.cells #[.int .i64 u, .int .i64 lo, .slice A n c] 26) := ⟨_, rfl⟩
   rw [← hW1] at BF1
   have hb1 := Lib.hid (show Below w.heap.size w W1 by rw [hW1]; exact hbx.out)
   clear BF0 hbx
   go_enter Try.func25, Try.ntmps25
   go_upto_region 1 with fail
   rw [← hW1]
   clear hW1
   obtain ⟨f0, f1, f2⟩ := BF1.out.q3
   have lF := BF1.out.lt
   go_wp2_with fail
   refine (l13Asked_any u lo A n c l m _ hn h63 (rdx H.out hb1.out)).mono ?_
   rw [HG.out]
   rintro e wG ⟨rfl, hbG⟩
   have hbH := Lib.hid (ext_trans hb1.out hbG)
   have BFH := Lib.hid (BF1.out.ext hbG)
   clear f0 f1 f2 lF BF1 hb1 hbG
   obtain ⟨f0, f1, f2⟩ := BFH.out.q3
   have lF := BFH.out.lt
   go_wp2_with fail
   refine (l2Power_any (n : Int) n _ rfl hn8).mono ?_
   rw [HP9.out]
   rintro e WA ⟨rfl, hbK⟩
   subst hbK
   have hbV := Lib.hid hbH.out
   have BFV := Lib.hid BFH.out
   clear f0 f1 f2 lF BFH hbH
   obtain ⟨f0, f1, f2⟩ := BFV.out.q3
   have lF := BFV.out.lt
   have hbA := hbV
   have BFA := BFV
   clear hbV BFV hge2
   go_wp2_with fail
   refine (HB.out _ (rdx H.out hbA.out)).mono ?_
   rintro e w3 ⟨U, L, A3, c3, rfl, hu1, hu0, ho3, hb3⟩
   obtain ⟨N9, hN9⟩ : ∃ o9, w3.heap.size = o9 := ⟨_, rfl⟩
   obtain ⟨W2, hW2⟩ : ∃ y : World, y = w3.alloc (.cells #[.int .i64 U, .int .i64 L, .slice A3 X.l.length c3] 26) := ⟨_, rfl⟩
   have BX2 := Lib.hid (show Blk W2 N9 26 #[.int .i64 U, .int .i64 L, .slice A3 X.l.length c3] by rw [hW2]; exact Blk.born w3 _ 26 hN9.symm)
   have hb2 := Lib.hid (show Below w.heap.size w W2 by rw [hW2]; exact ext_alloc (ext_trans hbA.out hb3) _)
   have ho2 := Lib.hid (show W2.ownsRow w.heap.size 86 2 (.slice A3 X.l.length c3) X.l.length (rowsV2 X.l) by rw [hW2]; exact (own_base ho3 hbA.out.size).alloc _)
   have BF2 := Lib.hid (show Blk W2 w.heap.size 26 #[.int .i64 u, .int .i64 lo, .slice A n c] by rw [hW2]; exact (BFA.out.ext hb3).al _)
   clear ho3 hb3 f0 f1 f2 lF BFA hbA
   go_upto_region 4 with fail
   rw [← hW2]
   clear hW2 hN9
   obtain ⟨x0, x1, x2⟩ := BX2.out.q3
   have lX := BX2.out.lt
   obtain ⟨f0, f1, f2⟩ := BF2.out.q3
   have lF := BF2.out.lt
   obtain ⟨rfl, rfl⟩ := hu1 HOK.out
   rw [HXL.out] at x2 ho2 BX2
   have HBX := Lib.hid (fun (w : World) h h' => HBX.out w A3 c3 h h')
   clear hu1 hu0
   go_region_held3 (fun w' => w'.cell? ⟨w.heap.size, 0, none⟩ = some (.int .i64 U) ∧ w'.cell? ⟨w.heap.size, 1, none⟩ = some (.int .i64 L) ∧ w'.cell? ⟨w.heap.size, 2, none⟩ = some (.slice A n c) ∧ w'.cell? ⟨N9, 0, none⟩ = some (.int .i64 U) ∧ w'.cell? ⟨N9, 1, none⟩ = some (.int .i64 L) ∧ w'.cell? ⟨N9, 2, none⟩ = some (.slice A3 n c3)) (first | (go_split_ands; ((repeat' refine And.intro ?_ ?_) <;> with_reducible (repeat (first | assumption | refine cell_drew ?_))))) (first
    | (go_at_call 57; (with_reducible refine (HSH.out _).mono ?_); rintro e wS ⟨As, cs, rfl, hoS, hbwS⟩; refine hv (p := Below w.heap.size w wS) ?_ fun hgwS => ?_; (focus (refine ext_trans ?_ hbwS; (repeat (first | (with_reducible exact hb2.out) | (with_reducible assumption) | (with_reducible refine ext_drew ?_))); done)); refine hv (p := Below W2.heap.size W2 wS) ?_ fun hcwS => ?_; (focus (refine ext_trans ?_ hbwS; (repeat (first | (with_reducible exact ext_refl _) | (with_reducible assumption) | (with_reducible refine ext_drew ?_))); done)); obtain ⟨f0, f1, f2⟩ := (BF2.out.ext hcwS).q3; obtain ⟨x0, x1, x2⟩ := (BX2.out.ext hcwS).q3; have hcwS := Lib.hid hcwS; have hoS2 := Lib.hid hoS; clear hoS)
    | (go_at_call 42; (with_reducible refine (HBT.out _ As cs ?_ ?_).mono ?_); (focus (refine rdx H.out ?_; (repeat (first | (with_reducible exact hb2.out) | (with_reducible assumption) | (with_reducible refine ext_drew ?_))); done)); (focus (refine Reads.of_own (own_ext hoS2.out ?_); (repeat (first | (with_reducible exact ext_refl _) | (with_reducible assumption) | (with_reducible refine ext_drew ?_))); done)); rintro e wM ⟨Am, cm, rfl, _, hbwM⟩; refine hv (p := Below w.heap.size w wM) ?_ fun hgwM => ?_; (focus (refine ext_trans ?_ hbwM; (repeat (first | (with_reducible exact hb2.out) | (with_reducible assumption) | (with_reducible refine ext_drew ?_))); done)); refine hv (p := Below W2.heap.size W2 wM) ?_ fun hcwM => ?_; (focus (refine ext_trans ?_ hbwM; (repeat (first | (with_reducible exact ext_refl _) | (with_reducible assumption) | (with_reducible refine ext_drew ?_))); done)); obtain ⟨f0, f1, f2⟩ := (BF2.out.ext hcwM).q3; obtain ⟨x0, x1, x2⟩ := (BX2.out.ext hcwM).q3; have hcwM := Lib.hid hcwM)
    | (go_at_call 42; (with_reducible refine (HBX.out _ ?_ ?_).mono ?_); (focus (refine rdx H.out ?_; (repeat (first | (with_reducible exact hb2.out) | (with_reducible assumption) | (with_reducible refine ext_drew ?_))); done)); (focus (refine Reads.of_own (own_ext ho2.out ?_); (repeat (first | (with_reducible exact ext_refl _) | (with_reducible assumption) | (with_reducible refine ext_drew ?_))); done)); rintro e wN ⟨An, cn, rfl, _, hbwN⟩; refine hv (p := Below w.heap.size w wN) ?_ fun hgwN => ?_; (focus (refine ext_trans ?_ hbwN; (repeat (first | (with_reducible exact hb2.out) | (with_reducible assumption) | (with_reducible refine ext_drew ?_))); done)); refine hv (p := Below W2.heap.size W2 wN) ?_ fun hcwN => ?_; (focus (refine ext_trans ?_ hbwN; (repeat (first | (with_reducible exact ext_refl _) | (with_reducible assumption) | (with_reducible refine ext_drew ?_))); done)); obtain ⟨f0, f1, f2⟩ := (BF2.out.ext hcwN).q3; obtain ⟨x0, x1, x2⟩ := (BX2.out.ext hcwN).q3; have hcwN := Lib.hid hcwN))
   all_goals
    go_wp2
    go_ret2
    refine ⟨by show Ending.returned (.tuple #[.int .i64 (IntKind.i64.wrap _), .bool true]) = _; rw [HW.out], ?_⟩
    (repeat (first | (with_reducible exact hb2.out) | (with_reducible assumption) | (with_reducible refine ext_drew ?_)))

end Go.Proofs.Ytmfjaoljeildbaa
