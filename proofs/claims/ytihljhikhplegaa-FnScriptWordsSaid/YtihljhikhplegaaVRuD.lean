/- A word carried out: the program's. -/
import Derived.Test.YtihljhikhplegaaVM5
import Derived.Test.YtihljhikhplegaaVM4
namespace Go.Proofs.Ytihljhikhplegaa
open Go.RowKit
set_option linter.unusedVariables false
set_option linter.unusedSimpArgs false
/-- blocks of other types are kept -/
def KeepP (w w' : World) : Prop := w.heap.size ≤ w'.heap.size ∧ ∀ b t cs, Blk w b t cs → t ≠ 61 → t ≠ 96 → t ≠ 75 → t ≠ 64 → Blk w' b t cs
theorem KeepP.refl (w : World) : KeepP w w := ⟨Nat.le_refl _, fun _ _ _ h _ _ _ _ => h⟩
theorem KeepP.trans {w w1 w2 : World} (h : KeepP w w1) (k : KeepP w1 w2) : KeepP w w2 := ⟨Nat.le_trans h.1 k.1, fun b t cs hb h1 h2 h3 h4 => k.2 b t cs (h.2 b t cs hb h1 h2 h3 h4) h1 h2 h3 h4⟩
theorem KeepP.of_ext {w w' : World} (h : Below w.heap.size w w') : KeepP w w' := ⟨h.size, fun _ _ _ hb _ _ _ _ => hb.ext h⟩
theorem KeepP.of_T {w w' : World} (h : KeepT w w') : KeepP w w' := ⟨h.1, fun b t cs hb h1 h2 h3 _ => h.2 b t cs hb h1 h2 h3⟩
theorem KeepP.set {w w' : World} (h : KeepP w w') {P : Nat} {cs : Array Value} (hP : Blk w' P 64 cs) (i : Nat) (u : Value) : KeepP w (w'.setCell ⟨P, i, none⟩ u) :=
 ⟨by simpa using h.1, fun b t ds hb h1 h2 h3 h4 => (h.2 b t ds hb h1 h2 h3 h4).setF (p := ⟨P, i, none⟩) (blk_ne hP (h.2 b t ds hb h1 h2 h3 h4) (fun e => h4 e.symm)) u⟩
theorem KeepP.own {w w' : World} (h : KeepP w w') {B size n : Nat} {e : TypeId} {v : Value} {xs : List Value} (hr : w.ownsRow B e size v n xs) (h1 : e ≠ 61) (h2 : e ≠ 96) (h3 : e ≠ 75) (h4 : e ≠ 64) : w'.ownsRow B e size v n xs := by
 refine ⟨hr.1, ?_⟩
 rcases hr.2 with h0 | ⟨g, cap, cur, hv, hb, hh, hrest⟩
 · exact .inl h0
 · exact .inr ⟨g, cap, cur, hv, hb, h.2 g e cur hh h1 h2 h3 h4, hrest⟩
abbrev plV (g : Nat) (r : Nat) : Array Value := #[.pointer (some ⟨g, 0, none⟩), .int .i64 (r : Int)]
theorem rodsD_good {u lo : Int} {ds : List Int} {n : Nat} (hu : 1 ≤ u ∧ u ≤ 2) (hlo : 4 ≤ lo ∧ lo ≤ 5) (hw : WF ds) (hn : ds.length = n) (h1 : 1 ≤ n) (h8 : n ≤ 8) : frB u lo (rodsD ds) = true := by
 simp only [frB, headB, Bool.and_eq_true, inB_iff, List.all_eq_true, rodsD_len]
 refine ⟨⟨⟨hu, hlo⟩, by omega⟩, ?_⟩
 intro r hr
 unfold rodsD at hr
 rw [List.mem_map] at hr
 obtain ⟨d, hd, rfl⟩ := hr
 have := hw d hd
 simp only [rodB, rodD, Bool.and_eq_true, inB_iff]
 omega
theorem hasRod_d (u lo : Int) (A : Option Addr) (n c : Nat) (m : Int) (b : Bool) (w : World) (hn : n ≤ 1048576) (hb : inB m 0 ((n : Int) - 1) = b) :
 Calls Try.prog 90 #[frV u lo A n c, .int .i64 m] w fun e w' => e = .returned (.bool b) ∧ Below w.heap.size w w' := by
 subst hb
 exact hasRod_any u lo A n c m w hn
/-- what carrying out a word leaves -/
def RetOn (B g P : Nat) (u lo : Int) (o : Option (WS × Nat)) (w : World) (e : Ending) (w' : World) : Prop :=
 e = .returned (.bool o.isSome) ∧ (∀ q, o = some q → Blk w' P 64 (plV g q.2) ∧ Wk w' B g u lo q.1) ∧ Below B w w' ∧ KeepP w w'
theorem Wk.setP {w : World} {B g P : Nat} {u lo : Int} {s : WS} {cs : Array Value} (h : Wk w B g u lo s) (hP : Blk w P 64 cs) (i : Nat) (z : Value) : Wk (w.setCell ⟨P, i, none⟩ z) B g u lo s := by
 obtain ⟨h, c, c', A, k1, k2, k3, k4⟩ := h
 have n1 : P ≠ g := blk_ne hP k1 (by decide)
 exact ⟨h, c, c', A, k1.setF (p := ⟨P, i, none⟩) n1 z, k2, own_setF (p := ⟨P, i, none⟩) k3 (own_nbT k3 hP (by decide)) z, own_setF (p := ⟨P, i, none⟩) k4 (own_nbT k4 hP (by decide)) z⟩
set_option maxRecDepth 100000 in
set_option maxHeartbeats 8000000 in
theorem once_any (B g P : Nat) (u lo : Int) (n r : Nat) (s : WS) (x : RW) (w : World) (hu : 1 ≤ u ∧ u ≤ 2) (hlo : 4 ≤ lo ∧ lo ≤ 5) (hW : Wk w B g u lo s) (hP : Blk w P 64 (plV g r)) (hPB : B ≤ P) (hB : B ≤ w.heap.size) (hi : Inv n (s, r)) (hx : okW x) (hn8 : n ≤ 8) (hms : s.ms.length ≤ 900000) (ha0 : 0 ≤ s.ask) (ha1 : s.ask ≤ 1000000) :
 Calls Try.prog 81 #[.pointer (some ⟨P, 0, none⟩), x.val] w (RetOn B g P u lo (stO n x (s, r)) w) := by
 obtain ⟨hwf, hnl, hrn⟩ := hi
 dsimp only at hwf hnl hrn
 have hn1 : 1 ≤ n := by omega
 have hnb : n ≤ 1048576 := by omega
 have hfr := Lib.hid (rodsD_good hu hlo hwf hnl hn1 hn8)
 obtain ⟨⟨t1, t9⟩, hwh⟩ := hx
 obtain ⟨xt, xc, xd⟩ := x
 dsimp only at t1 t9 hwh
 obtain ⟨O, hO⟩ : ∃ O, stO n ⟨xt, xc, xd⟩ (s, r) = O := ⟨_, rfl⟩
 rw [hO]
 have HW := Lib.hid hW
 have HP := Lib.hid hP
 have HWF := Lib.hid hwf
 have HNL := Lib.hid hnl
 obtain ⟨h, c, c', A, hB1, hBg, hr1, hm1⟩ := hW
 rw [hnl] at hB1 hr1
 obtain ⟨q0, q1, q2, q3, q4⟩ := hB1.q5
 obtain ⟨p0, p1⟩ := hP.q2
 have hgl := hB1.lt
 have hPl := hP.lt
 have hgP : g ≠ P := fun e => blk_ne hB1 hP (by decide) e
 have hr1 := Lib.hid hr1
 have hd9 : xd ≤ 9 := by rcases hwh with ⟨_, h⟩ | ⟨_, _, h⟩ <;> omega
 clear hwf hnl hP hm1 hB1
 rcases (show xc.toNat = 60 ∨ xc.toNat = 62 ∨ xc.toNat = 99 ∨ xc.toNat = 43 ∨ xc.toNat = 45 by rw [c60, c62, c99, c43, c45] at hwh; omega) with hc | hc | hc | hc | hc
 · have e := c60.2 hc
   have hO2 : (if 0 < r then some (s, r - 1) else none) = O := by rw [← hO]; unfold stO; dsimp only; rw [if_pos e]
   have HO := Lib.hid hO2
   clear hO hO2 e hwh
   have b60 : (((xc.toNat : Nat) : Int) == 60) = true := by simp; omega
   have b62 : (((xc.toNat : Nat) : Int) == 62) = false := by simp; omega
   have b99 : (((xc.toNat : Nat) : Int) == 99) = false := by simp; omega
   have b43 : (((xc.toNat : Nat) : Int) == 43) = false := by simp; omega
   have b45 : (((xc.toNat : Nat) : Int) == 45) = false := by simp; omega
   clear hc
   go_enter Try.func81, Try.ntmps81
   go_upto_region 7 with fail
   obtain ⟨w2, hw2⟩ : ∃ y : World, y = (w.alloc (.cells #[.int .i64 (xt : Int), .int .u8 (xc.toNat : Int), .int .i64 (xd : Int)] 92)).alloc (.cells #[.int .i64 u, .int .i64 lo, .slice (some ⟨h, 0, none⟩) n c] 26) := ⟨_, rfl⟩
   have BW2 := Lib.hid (show Blk w2 w.heap.size 92 #[.int .i64 (xt : Int), .int .u8 (xc.toNat : Int), .int .i64 (xd : Int)] by rw [hw2]; exact (Blk.born _ _ _ rfl).al _)
   have BF2 := Lib.hid (show Blk w2 (w.heap.size + 1) 26 #[.int .i64 u, .int .i64 lo, .slice (some ⟨h, 0, none⟩) n c] by rw [hw2]; exact Blk.born _ _ _ (by simp))
   have hb2 := Lib.hid (show Below w.heap.size w w2 by rw [hw2]; exact ext_alloc (ext_alloc (ext_refl w) _) _)
   have BP2 := Lib.hid (show Blk w2 P 64 (plV g r) from HP.out.ext hb2.out)
   have W2 := Lib.hid (HW.out.ext hb2.out)
   have hr2 := Lib.hid (own_ext hr1.out hb2.out)
   have K2 := Lib.hid (KeepP.of_ext hb2.out)
   have HW2 := Lib.hid hw2
   have hs2 : w.heap.size + 1 < w2.heap.size := by rw [hw2]; simp
   have hP2 : P < w2.heap.size := by omega
   have hg2 : g < w2.heap.size := by omega
   rw [← hw2]
   clear hw2 q0 q1 q2 q3 q4 p0 p1
   obtain ⟨p0, p1⟩ := BP2.out.q2
   obtain ⟨z0, z1⟩ := BP2.out.z2
   go_upto_region 8 with fail
   obtain ⟨w3, hw3⟩ : ∃ y : World, y = w2.setCell ⟨P, 1, none⟩ (.int .i64 ((r : Int) - 1)) := ⟨_, rfl⟩
   have BP3 := Lib.hid (show Blk w3 P 64 #[.pointer (some ⟨g, 0, none⟩), .int .i64 ((r : Int) - 1)] by rw [hw3]; exact BP2.out.set_ 1 _)
   have BF3 := Lib.hid (show Blk w3 (w.heap.size + 1) 26 #[.int .i64 u, .int .i64 lo, .slice (some ⟨h, 0, none⟩) n c] by rw [hw3]; exact BF2.out.setF (p := ⟨P, 1, none⟩) (by show P ≠ w.heap.size + 1; omega) _)
   have W3 := Lib.hid (show Wk w3 B g u lo s by rw [hw3]; exact W2.out.setP BP2.out 1 _)
   have hb3 := Lib.hid (show Below B w w3 by rw [hw3]; exact (hb2.out.mono hB).setCell (p := ⟨P, 1, none⟩) hPB _)
   have K3 := Lib.hid (show KeepP w w3 by rw [hw3]; exact K2.out.set BP2.out 1 _)
   have hs3 : w3.heap.size = w2.heap.size := by rw [hw3]; simp
   rw [← hw3]
   clear hw3 p0 p1 z0 z1
   obtain ⟨p0, p1⟩ := BP3.out.q2
   obtain ⟨f0, f1, f2⟩ := BF3.out.q3
   have hP3 : P < w3.heap.size := by omega
   have hF3 : w.heap.size + 1 < w3.heap.size := by omega
   by_cases hcd : 0 < r
   · have hb := inB_iff.2 (show (0 : Int) ≤ (r : Int) - 1 ∧ (r : Int) - 1 ≤ (n : Int) - 1 by omega)
     rw [if_pos hcd] at HO
     (refine wp_region_later (by kernel_rfl) (by kernel_rfl) ?_; (repeat (go_big_quiet_step (first | (go_at_call 90; with_reducible exact Calls.later_of (hasRod_d u lo (some ⟨h, 0, none⟩) n c ((r : Int) - 1) _ _ hnb hb))))); refine wpQuiet_nil ?_; intro w1 hw1; obtain ⟨⟨wl, hbL⟩, hw1'⟩ := hw1; simp only at hw1'; subst hw1'; obtain ⟨hcL, hfL⟩ := bcell hbL)
     have hbL := Lib.hid hbL
     clear hcL hfL
     go_wp2
     go_ret
     refine ⟨by rw [← HO.out]; rfl, fun q hq => ?_, hb3.out.trans (hbL.out.mono (Nat.le_trans hB hb3.out.size)), K3.out.trans (KeepP.of_ext hbL.out)⟩
     rw [← HO.out] at hq
     injection hq with hq
     subst hq
     refine ⟨?_, W3.out.ext hbL.out⟩
     have := BP3.out.ext hbL.out
     unfold plV
     rw [show ((r - 1 : Nat) : Int) = (r : Int) - 1 by omega]
     exact this
   · have hb := inB_no.2 (show ¬ ((0 : Int) ≤ (r : Int) - 1 ∧ (r : Int) - 1 ≤ (n : Int) - 1) by omega)
     rw [if_neg hcd] at HO
     (refine wp_region_later (by kernel_rfl) (by kernel_rfl) ?_; (repeat (go_big_quiet_step (first | (go_at_call 90; with_reducible exact Calls.later_of (hasRod_d u lo (some ⟨h, 0, none⟩) n c ((r : Int) - 1) _ _ hnb hb))))); refine wpQuiet_nil ?_; intro w1 hw1; obtain ⟨⟨wl, hbL⟩, hw1'⟩ := hw1; simp only at hw1'; subst hw1'; obtain ⟨hcL, hfL⟩ := bcell hbL)
     have hbL := Lib.hid hbL
     clear hcL hfL
     go_wp2
     go_ret
     refine ⟨by rw [← HO.out]; rfl, fun q hq => ?_, hb3.out.trans (hbL.out.mono (Nat.le_trans hB hb3.out.size)), K3.out.trans (KeepP.of_ext hbL.out)⟩
     rw [← HO.out] at hq
     cases hq
 · have e := c62.2 hc
   have hO2 : (if r + 1 < n then some (s, r + 1) else none) = O := by rw [← hO]; unfold stO; dsimp only; rw [if_neg (show ¬ xc = 60 by rw [c60]; omega), if_pos e]
   have HO := Lib.hid hO2
   clear hO hO2 e hwh
   have b60 : (((xc.toNat : Nat) : Int) == 60) = false := by simp; omega
   have b62 : (((xc.toNat : Nat) : Int) == 62) = true := by simp; omega
   have b99 : (((xc.toNat : Nat) : Int) == 99) = false := by simp; omega
   have b43 : (((xc.toNat : Nat) : Int) == 43) = false := by simp; omega
   have b45 : (((xc.toNat : Nat) : Int) == 45) = false := by simp; omega
   clear hc
   go_enter Try.func81, Try.ntmps81
   go_upto_region 10 with fail
   obtain ⟨w2, hw2⟩ : ∃ y : World, y = (w.alloc (.cells #[.int .i64 (xt : Int), .int .u8 (xc.toNat : Int), .int .i64 (xd : Int)] 92)).alloc (.cells #[.int .i64 u, .int .i64 lo, .slice (some ⟨h, 0, none⟩) n c] 26) := ⟨_, rfl⟩
   have BW2 := Lib.hid (show Blk w2 w.heap.size 92 #[.int .i64 (xt : Int), .int .u8 (xc.toNat : Int), .int .i64 (xd : Int)] by rw [hw2]; exact (Blk.born _ _ _ rfl).al _)
   have BF2 := Lib.hid (show Blk w2 (w.heap.size + 1) 26 #[.int .i64 u, .int .i64 lo, .slice (some ⟨h, 0, none⟩) n c] by rw [hw2]; exact Blk.born _ _ _ (by simp))
   have hb2 := Lib.hid (show Below w.heap.size w w2 by rw [hw2]; exact ext_alloc (ext_alloc (ext_refl w) _) _)
   have BP2 := Lib.hid (show Blk w2 P 64 (plV g r) from HP.out.ext hb2.out)
   have W2 := Lib.hid (HW.out.ext hb2.out)
   have hr2 := Lib.hid (own_ext hr1.out hb2.out)
   have K2 := Lib.hid (KeepP.of_ext hb2.out)
   have HW2 := Lib.hid hw2
   have hs2 : w.heap.size + 1 < w2.heap.size := by rw [hw2]; simp
   have hP2 : P < w2.heap.size := by omega
   have hg2 : g < w2.heap.size := by omega
   rw [← hw2]
   clear hw2 q0 q1 q2 q3 q4 p0 p1
   obtain ⟨p0, p1⟩ := BP2.out.q2
   obtain ⟨z0, z1⟩ := BP2.out.z2
   go_upto_region 11 with fail
   obtain ⟨w3, hw3⟩ : ∃ y : World, y = w2.setCell ⟨P, 1, none⟩ (.int .i64 ((r : Int) + 1)) := ⟨_, rfl⟩
   have BP3 := Lib.hid (show Blk w3 P 64 #[.pointer (some ⟨g, 0, none⟩), .int .i64 ((r : Int) + 1)] by rw [hw3]; exact BP2.out.set_ 1 _)
   have BF3 := Lib.hid (show Blk w3 (w.heap.size + 1) 26 #[.int .i64 u, .int .i64 lo, .slice (some ⟨h, 0, none⟩) n c] by rw [hw3]; exact BF2.out.setF (p := ⟨P, 1, none⟩) (by show P ≠ w.heap.size + 1; omega) _)
   have W3 := Lib.hid (show Wk w3 B g u lo s by rw [hw3]; exact W2.out.setP BP2.out 1 _)
   have hb3 := Lib.hid (show Below B w w3 by rw [hw3]; exact (hb2.out.mono hB).setCell (p := ⟨P, 1, none⟩) hPB _)
   have K3 := Lib.hid (show KeepP w w3 by rw [hw3]; exact K2.out.set BP2.out 1 _)
   have hs3 : w3.heap.size = w2.heap.size := by rw [hw3]; simp
   rw [← hw3]
   clear hw3 p0 p1 z0 z1
   obtain ⟨p0, p1⟩ := BP3.out.q2
   obtain ⟨f0, f1, f2⟩ := BF3.out.q3
   have hP3 : P < w3.heap.size := by omega
   have hF3 : w.heap.size + 1 < w3.heap.size := by omega
   by_cases hcd : r + 1 < n
   · have hb := inB_iff.2 (show (0 : Int) ≤ (r : Int) + 1 ∧ (r : Int) + 1 ≤ (n : Int) - 1 by omega)
     rw [if_pos hcd] at HO
     (refine wp_region_later (by kernel_rfl) (by kernel_rfl) ?_; (repeat (go_big_quiet_step (first | (go_at_call 90; with_reducible exact Calls.later_of (hasRod_d u lo (some ⟨h, 0, none⟩) n c ((r : Int) + 1) _ _ hnb hb))))); refine wpQuiet_nil ?_; intro w1 hw1; obtain ⟨⟨wl, hbL⟩, hw1'⟩ := hw1; simp only at hw1'; subst hw1'; obtain ⟨hcL, hfL⟩ := bcell hbL)
     have hbL := Lib.hid hbL
     clear hcL hfL
     go_wp2
     go_ret
     refine ⟨by rw [← HO.out]; rfl, fun q hq => ?_, hb3.out.trans (hbL.out.mono (Nat.le_trans hB hb3.out.size)), K3.out.trans (KeepP.of_ext hbL.out)⟩
     rw [← HO.out] at hq
     injection hq with hq
     subst hq
     refine ⟨?_, W3.out.ext hbL.out⟩
     have := BP3.out.ext hbL.out
     unfold plV
     rw [show ((r + 1 : Nat) : Int) = (r : Int) + 1 by omega]
     exact this
   · have hb := inB_no.2 (show ¬ ((0 : Int) ≤ (r : Int) + 1 ∧ (r : Int) + 1 ≤ (n : Int) - 1) by omega)
     rw [if_neg hcd] at HO
     (refine wp_region_later (by kernel_rfl) (by kernel_rfl) ?_; (repeat (go_big_quiet_step (first | (go_at_call 90; with_reducible exact Calls.later_of (hasRod_d u lo (some ⟨h, 0, none⟩) n c ((r : Int) + 1) _ _ hnb hb))))); refine wpQuiet_nil ?_; intro w1 hw1; obtain ⟨⟨wl, hbL⟩, hw1'⟩ := hw1; simp only at hw1'; subst hw1'; obtain ⟨hcL, hfL⟩ := bcell hbL)
     have hbL := Lib.hid hbL
     clear hcL hfL
     go_wp2
     go_ret
     refine ⟨by rw [← HO.out]; rfl, fun q hq => ?_, hb3.out.trans (hbL.out.mono (Nat.le_trans hB hb3.out.size)), K3.out.trans (KeepP.of_ext hbL.out)⟩
     rw [← HO.out] at hq
     cases hq
 · have e := c99.2 hc
   obtain ⟨y, hy⟩ := list_split (l := s.ds) (k := r) (by rw [HNL.out]; exact hrn)
   obtain ⟨y0, y9⟩ := HWF.out.get hy
   have hO2 : some ((⟨s.ds.set r 0, s.ms ++ turnM r y 0, s.ask⟩ : WS), r) = O := by
    rw [← hO]
    unfold stO
    dsimp only
    rw [if_neg (show ¬ xc = 60 by rw [c60]; omega), if_neg (show ¬ xc = 62 by rw [c62]; omega), if_pos e, List.getD_eq_getElem?_getD, hy]
    rfl
   have HO := Lib.hid hO2
   have HY := Lib.hid hy
   clear hO hO2 e hwh hy
   have b60 : (((xc.toNat : Nat) : Int) == 60) = false := by simp; omega
   have b62 : (((xc.toNat : Nat) : Int) == 62) = false := by simp; omega
   have b99 : (((xc.toNat : Nat) : Int) == 99) = true := by simp; omega
   have b43 : (((xc.toNat : Nat) : Int) == 43) = false := by simp; omega
   have b45 : (((xc.toNat : Nat) : Int) == 45) = false := by simp; omega
   clear hc
   go_enter Try.func81, Try.ntmps81
   go_upto_region 13 with fail
   obtain ⟨w2, hw2⟩ : ∃ y : World, y = (w.alloc (.cells #[.int .i64 (xt : Int), .int .u8 (xc.toNat : Int), .int .i64 (xd : Int)] 92)).alloc (.cells #[.int .i64 u, .int .i64 lo, .slice (some ⟨h, 0, none⟩) n c] 26) := ⟨_, rfl⟩
   have BW2 := Lib.hid (show Blk w2 w.heap.size 92 #[.int .i64 (xt : Int), .int .u8 (xc.toNat : Int), .int .i64 (xd : Int)] by rw [hw2]; exact (Blk.born _ _ _ rfl).al _)
   have BF2 := Lib.hid (show Blk w2 (w.heap.size + 1) 26 #[.int .i64 u, .int .i64 lo, .slice (some ⟨h, 0, none⟩) n c] by rw [hw2]; exact Blk.born _ _ _ (by simp))
   have hb2 := Lib.hid (show Below w.heap.size w w2 by rw [hw2]; exact ext_alloc (ext_alloc (ext_refl w) _) _)
   have BP2 := Lib.hid (show Blk w2 P 64 (plV g r) from HP.out.ext hb2.out)
   have W2 := Lib.hid (HW.out.ext hb2.out)
   have hr2 := Lib.hid (own_ext hr1.out hb2.out)
   have K2 := Lib.hid (KeepP.of_ext hb2.out)
   have HW2 := Lib.hid hw2
   have hs2 : w.heap.size + 1 < w2.heap.size := by rw [hw2]; simp
   have hP2 : P < w2.heap.size := by omega
   have hg2 : g < w2.heap.size := by omega
   rw [← hw2]
   clear hw2 q0 q1 q2 q3 q4 p0 p1
   obtain ⟨p0, p1⟩ := BP2.out.q2
   go_region_law (first | (go_simp; go_at_call 91; refine (turn_any B g u lo s r y 0 _ (show Wk w2.drew B g u lo s from W2.out) HY.out y0 y9 (Int.le_refl 0) (by omega) (by omega)).mono ?_; rintro e w5 ⟨rfl, hW5, hb5, hk5⟩; have hW5 := Lib.hid hW5; have hb5 := Lib.hid (show Below B w2 w5 from (Below.drew (Below.refl B w2)).trans hb5); have hk5 := Lib.hid (show KeepT w2 w5 from ⟨hk5.1, fun b t cs hb => hk5.2 b t cs (show Blk w2.drew b t cs from hb)⟩)))
   all_goals
    go_wp2
    go_ret
    refine ⟨by rw [← HO.out]; rfl, fun q hq => ?_, (hb2.out.mono hB).trans hb5.out, K2.out.trans (KeepP.of_T hk5.out)⟩
    rw [← HO.out] at hq
    injection hq with hq
    subst hq
    exact ⟨hk5.out.2 P _ _ BP2.out (by decide) (by decide) (by decide), hW5.out⟩
 · have e := c43.2 hc
   have hO2 : (if canB (rodsD s.ds) ((xd : Int) * pw (n - (r + 1))) = true then some (addS (r + 1) xd s, r) else none) = O := by rw [← hO]; unfold stO; dsimp only; rw [if_neg (show ¬ xc = 60 by rw [c60]; omega), if_neg (show ¬ xc = 62 by rw [c62]; omega), if_neg (show ¬ xc = 99 by rw [c99]; omega), if_pos e]
   have HO := Lib.hid hO2
   clear hO hO2 e hwh
   have b60 : (((xc.toNat : Nat) : Int) == 60) = false := by simp; omega
   have b62 : (((xc.toNat : Nat) : Int) == 62) = false := by simp; omega
   have b99 : (((xc.toNat : Nat) : Int) == 99) = false := by simp; omega
   have b43 : (((xc.toNat : Nat) : Int) == 43) = true := by simp; omega
   have b45 : (((xc.toNat : Nat) : Int) == 45) = false := by simp; omega
   clear hc
   cases hcb : canB (rodsD s.ds) ((xd : Int) * pw (n - (r + 1)))
   · rw [if_neg (by rw [hcb]; decide)] at HO
     have HCB := Lib.hid hcb
     clear hcb
     go_enter Try.func81, Try.ntmps81
     go_upto_region 15 with fail
     obtain ⟨w2, hw2⟩ : ∃ y : World, y = (w.alloc (.cells #[.int .i64 (xt : Int), .int .u8 (xc.toNat : Int), .int .i64 (xd : Int)] 92)).alloc (.cells #[.int .i64 u, .int .i64 lo, .slice (some ⟨h, 0, none⟩) n c] 26) := ⟨_, rfl⟩
     have BW2 := Lib.hid (show Blk w2 w.heap.size 92 #[.int .i64 (xt : Int), .int .u8 (xc.toNat : Int), .int .i64 (xd : Int)] by rw [hw2]; exact (Blk.born _ _ _ rfl).al _)
     have BF2 := Lib.hid (show Blk w2 (w.heap.size + 1) 26 #[.int .i64 u, .int .i64 lo, .slice (some ⟨h, 0, none⟩) n c] by rw [hw2]; exact Blk.born _ _ _ (by simp))
     have hb2 := Lib.hid (show Below w.heap.size w w2 by rw [hw2]; exact ext_alloc (ext_alloc (ext_refl w) _) _)
     have BP2 := Lib.hid (show Blk w2 P 64 (plV g r) from HP.out.ext hb2.out)
     have W2 := Lib.hid (HW.out.ext hb2.out)
     have hr2 := Lib.hid (own_ext hr1.out hb2.out)
     have K2 := Lib.hid (KeepP.of_ext hb2.out)
     have HW2 := Lib.hid hw2
     have hs2 : w.heap.size + 1 < w2.heap.size := by rw [hw2]; simp
     have hP2 : P < w2.heap.size := by omega
     have hg2 : g < w2.heap.size := by omega
     rw [← hw2]
     clear hw2 q0 q1 q2 q3 q4 p0 p1
     obtain ⟨p0, p1⟩ := BP2.out.q2
     obtain ⟨f0, f1, f2⟩ := BF2.out.q3
     obtain ⟨m0, m1, m2⟩ := BW2.out.q3
     have hwl : w.heap.size < w2.heap.size := by omega
     (refine wp_region_later (by kernel_rfl) (by kernel_rfl) ?_; (repeat (go_big_quiet_step (first | (go_at_call 93; with_reducible exact Calls.later_of (placeValue_any u lo (some ⟨h, 0, none⟩) n c r (xd : Int) _ hn8 hrn (by omega) (by omega))) | (go_at_call 92; with_reducible exact Calls.later_of (canAdd_b u lo (some ⟨h, 0, none⟩) n c (rodsD s.ds) _ _ _ hfr.out (Reads.of_own (own_ext hr2.out (Later.h _))) HCB.out))))); refine wpQuiet_nil ?_; intro w1 hw1; obtain ⟨⟨wl, hbL⟩, hw1'⟩ := hw1; simp only at hw1'; subst hw1'; obtain ⟨hcL, hfL⟩ := bcell hbL)
     have hbL := Lib.hid hbL
     clear hcL hfL
     go_wp2
     go_ret
     refine ⟨by rw [← HO.out]; rfl, fun q hq => ?_, (hb2.out.mono hB).trans (hbL.out.mono (Nat.le_trans hB hb2.out.size)), K2.out.trans (KeepP.of_ext hbL.out)⟩
     rw [← HO.out] at hq
     cases hq
   · rw [if_pos hcb] at HO
     have HCB := Lib.hid hcb
     have HFT := Lib.hid (canB_fit HWF.out HNL.out hrn hd9 hcb)
     clear hcb
     go_enter Try.func81, Try.ntmps81
     go_upto_region 15 with fail
     obtain ⟨w2, hw2⟩ : ∃ y : World, y = (w.alloc (.cells #[.int .i64 (xt : Int), .int .u8 (xc.toNat : Int), .int .i64 (xd : Int)] 92)).alloc (.cells #[.int .i64 u, .int .i64 lo, .slice (some ⟨h, 0, none⟩) n c] 26) := ⟨_, rfl⟩
     have BW2 := Lib.hid (show Blk w2 w.heap.size 92 #[.int .i64 (xt : Int), .int .u8 (xc.toNat : Int), .int .i64 (xd : Int)] by rw [hw2]; exact (Blk.born _ _ _ rfl).al _)
     have BF2 := Lib.hid (show Blk w2 (w.heap.size + 1) 26 #[.int .i64 u, .int .i64 lo, .slice (some ⟨h, 0, none⟩) n c] by rw [hw2]; exact Blk.born _ _ _ (by simp))
     have hb2 := Lib.hid (show Below w.heap.size w w2 by rw [hw2]; exact ext_alloc (ext_alloc (ext_refl w) _) _)
     have BP2 := Lib.hid (show Blk w2 P 64 (plV g r) from HP.out.ext hb2.out)
     have W2 := Lib.hid (HW.out.ext hb2.out)
     have hr2 := Lib.hid (own_ext hr1.out hb2.out)
     have K2 := Lib.hid (KeepP.of_ext hb2.out)
     have HW2 := Lib.hid hw2
     have hs2 : w.heap.size + 1 < w2.heap.size := by rw [hw2]; simp
     have hP2 : P < w2.heap.size := by omega
     have hg2 : g < w2.heap.size := by omega
     rw [← hw2]
     clear hw2 q0 q1 q2 q3 q4 p0 p1
     obtain ⟨p0, p1⟩ := BP2.out.q2
     obtain ⟨f0, f1, f2⟩ := BF2.out.q3
     obtain ⟨m0, m1, m2⟩ := BW2.out.q3
     have hwl : w.heap.size < w2.heap.size := by omega
     (refine wp_region_later (by kernel_rfl) (by kernel_rfl) ?_; (repeat (go_big_quiet_step (first | (go_at_call 93; with_reducible exact Calls.later_of (placeValue_any u lo (some ⟨h, 0, none⟩) n c r (xd : Int) _ hn8 hrn (by omega) (by omega))) | (go_at_call 92; with_reducible exact Calls.later_of (canAdd_b u lo (some ⟨h, 0, none⟩) n c (rodsD s.ds) _ _ _ hfr.out (Reads.of_own (own_ext hr2.out (Later.h _))) HCB.out))))); refine wpQuiet_nil ?_; intro w3 hw1; obtain ⟨⟨wl, hb⟩, hw1'⟩ := hw1; simp only at hw1'; subst hw1')
     have W3 := Lib.hid (W2.out.ext hb)
     have BP3 := Lib.hid (BP2.out.ext hb)
     have BW3 := Lib.hid (BW2.out.ext hb)
     have hb3 := Lib.hid ((hb2.out.mono hB).trans (hb.mono (Nat.le_trans hB hb2.out.size)))
     have K3 := Lib.hid (K2.out.trans (KeepP.of_ext hb))
     have hs3 := hb.size
     clear hb p0 p1 f0 f1 f2 m0 m1 m2
     obtain ⟨p0, p1⟩ := BP3.out.q2
     obtain ⟨m0, m1, m2⟩ := BW3.out.q3
     have hP3 : P < w3.heap.size := by omega
     have hW3 : w.heap.size < w3.heap.size := by omega
     have h8 : s.ds.length ≤ 8 := by rw [HNL.out]; exact hn8
     go_upto_region 17 with fail
     go_region_law (first | (go_simp; go_at_call 94; refine (add_any B g u lo s r (xd : Int) _ (show Wk w3.drew B g u lo s from W3.out) HFT.out h8 hms ha0 ha1).mono ?_; rintro e w5 ⟨rfl, hW5, hb5, hk5⟩; have hW5 := Lib.hid hW5; have hb5 := Lib.hid (show Below B w3 w5 from (Below.drew (Below.refl B w3)).trans hb5); have hk5 := Lib.hid (show KeepT w3 w5 from ⟨hk5.1, fun b t cs hb => hk5.2 b t cs (show Blk w3.drew b t cs from hb)⟩)))
     all_goals
      go_wp2
      go_ret
      refine ⟨by rw [← HO.out]; rfl, fun q hq => ?_, hb3.out.trans hb5.out, K3.out.trans (KeepP.of_T hk5.out)⟩
      rw [← HO.out] at hq
      injection hq with hq
      subst hq
      exact ⟨hk5.out.2 P _ _ BP3.out (by decide) (by decide) (by decide), hW5.out⟩
 · have e := c45.2 hc
   have hO2 : (if canTB (rodsD s.ds) ((xd : Int) * pw (n - (r + 1))) = true then some (takeS (r + 1) xd s, r) else none) = O := by rw [← hO]; unfold stO; dsimp only; rw [if_neg (show ¬ xc = 60 by rw [c60]; omega), if_neg (show ¬ xc = 62 by rw [c62]; omega), if_neg (show ¬ xc = 99 by rw [c99]; omega), if_neg (show ¬ xc = 43 by rw [c43]; omega)]
   have HO := Lib.hid hO2
   clear hO hO2 e hwh
   have b60 : (((xc.toNat : Nat) : Int) == 60) = false := by simp; omega
   have b62 : (((xc.toNat : Nat) : Int) == 62) = false := by simp; omega
   have b99 : (((xc.toNat : Nat) : Int) == 99) = false := by simp; omega
   have b43 : (((xc.toNat : Nat) : Int) == 43) = false := by simp; omega
   have b45 : (((xc.toNat : Nat) : Int) == 45) = true := by simp; omega
   clear hc
   cases hcb : canTB (rodsD s.ds) ((xd : Int) * pw (n - (r + 1)))
   · rw [if_neg (by rw [hcb]; decide)] at HO
     have HCB := Lib.hid hcb
     clear hcb
     go_enter Try.func81, Try.ntmps81
     go_upto_region 3 with fail
     obtain ⟨w2, hw2⟩ : ∃ y : World, y = (w.alloc (.cells #[.int .i64 (xt : Int), .int .u8 (xc.toNat : Int), .int .i64 (xd : Int)] 92)).alloc (.cells #[.int .i64 u, .int .i64 lo, .slice (some ⟨h, 0, none⟩) n c] 26) := ⟨_, rfl⟩
     have BW2 := Lib.hid (show Blk w2 w.heap.size 92 #[.int .i64 (xt : Int), .int .u8 (xc.toNat : Int), .int .i64 (xd : Int)] by rw [hw2]; exact (Blk.born _ _ _ rfl).al _)
     have BF2 := Lib.hid (show Blk w2 (w.heap.size + 1) 26 #[.int .i64 u, .int .i64 lo, .slice (some ⟨h, 0, none⟩) n c] by rw [hw2]; exact Blk.born _ _ _ (by simp))
     have hb2 := Lib.hid (show Below w.heap.size w w2 by rw [hw2]; exact ext_alloc (ext_alloc (ext_refl w) _) _)
     have BP2 := Lib.hid (show Blk w2 P 64 (plV g r) from HP.out.ext hb2.out)
     have W2 := Lib.hid (HW.out.ext hb2.out)
     have hr2 := Lib.hid (own_ext hr1.out hb2.out)
     have K2 := Lib.hid (KeepP.of_ext hb2.out)
     have HW2 := Lib.hid hw2
     have hs2 : w.heap.size + 1 < w2.heap.size := by rw [hw2]; simp
     have hP2 : P < w2.heap.size := by omega
     have hg2 : g < w2.heap.size := by omega
     rw [← hw2]
     clear hw2 q0 q1 q2 q3 q4 p0 p1
     obtain ⟨p0, p1⟩ := BP2.out.q2
     obtain ⟨f0, f1, f2⟩ := BF2.out.q3
     obtain ⟨m0, m1, m2⟩ := BW2.out.q3
     have hwl : w.heap.size < w2.heap.size := by omega
     (refine wp_region_later (by kernel_rfl) (by kernel_rfl) ?_; (repeat (go_big_quiet_step (first | (go_at_call 93; with_reducible exact Calls.later_of (placeValue_any u lo (some ⟨h, 0, none⟩) n c r (xd : Int) _ hn8 hrn (by omega) (by omega))) | (go_at_call 95; with_reducible exact Calls.later_of (canTake_b u lo (some ⟨h, 0, none⟩) n c (rodsD s.ds) _ _ _ hfr.out (Reads.of_own (own_ext hr2.out (Later.h _))) HCB.out))))); refine wpQuiet_nil ?_; intro w1 hw1; obtain ⟨⟨wl, hbL⟩, hw1'⟩ := hw1; simp only at hw1'; subst hw1'; obtain ⟨hcL, hfL⟩ := bcell hbL)
     have hbL := Lib.hid hbL
     clear hcL hfL
     go_wp2
     go_ret
     refine ⟨by rw [← HO.out]; rfl, fun q hq => ?_, (hb2.out.mono hB).trans (hbL.out.mono (Nat.le_trans hB hb2.out.size)), K2.out.trans (KeepP.of_ext hbL.out)⟩
     rw [← HO.out] at hq
     cases hq
   · rw [if_pos hcb] at HO
     have HCB := Lib.hid hcb
     have HFT := Lib.hid (canTB_fit HWF.out HNL.out hrn hd9 hcb)
     clear hcb
     go_enter Try.func81, Try.ntmps81
     go_upto_region 3 with fail
     obtain ⟨w2, hw2⟩ : ∃ y : World, y = (w.alloc (.cells #[.int .i64 (xt : Int), .int .u8 (xc.toNat : Int), .int .i64 (xd : Int)] 92)).alloc (.cells #[.int .i64 u, .int .i64 lo, .slice (some ⟨h, 0, none⟩) n c] 26) := ⟨_, rfl⟩
     have BW2 := Lib.hid (show Blk w2 w.heap.size 92 #[.int .i64 (xt : Int), .int .u8 (xc.toNat : Int), .int .i64 (xd : Int)] by rw [hw2]; exact (Blk.born _ _ _ rfl).al _)
     have BF2 := Lib.hid (show Blk w2 (w.heap.size + 1) 26 #[.int .i64 u, .int .i64 lo, .slice (some ⟨h, 0, none⟩) n c] by rw [hw2]; exact Blk.born _ _ _ (by simp))
     have hb2 := Lib.hid (show Below w.heap.size w w2 by rw [hw2]; exact ext_alloc (ext_alloc (ext_refl w) _) _)
     have BP2 := Lib.hid (show Blk w2 P 64 (plV g r) from HP.out.ext hb2.out)
     have W2 := Lib.hid (HW.out.ext hb2.out)
     have hr2 := Lib.hid (own_ext hr1.out hb2.out)
     have K2 := Lib.hid (KeepP.of_ext hb2.out)
     have HW2 := Lib.hid hw2
     have hs2 : w.heap.size + 1 < w2.heap.size := by rw [hw2]; simp
     have hP2 : P < w2.heap.size := by omega
     have hg2 : g < w2.heap.size := by omega
     rw [← hw2]
     clear hw2 q0 q1 q2 q3 q4 p0 p1
     obtain ⟨p0, p1⟩ := BP2.out.q2
     obtain ⟨f0, f1, f2⟩ := BF2.out.q3
     obtain ⟨m0, m1, m2⟩ := BW2.out.q3
     have hwl : w.heap.size < w2.heap.size := by omega
     (refine wp_region_later (by kernel_rfl) (by kernel_rfl) ?_; (repeat (go_big_quiet_step (first | (go_at_call 93; with_reducible exact Calls.later_of (placeValue_any u lo (some ⟨h, 0, none⟩) n c r (xd : Int) _ hn8 hrn (by omega) (by omega))) | (go_at_call 95; with_reducible exact Calls.later_of (canTake_b u lo (some ⟨h, 0, none⟩) n c (rodsD s.ds) _ _ _ hfr.out (Reads.of_own (own_ext hr2.out (Later.h _))) HCB.out))))); refine wpQuiet_nil ?_; intro w3 hw1; obtain ⟨⟨wl, hb⟩, hw1'⟩ := hw1; simp only at hw1'; subst hw1')
     have W3 := Lib.hid (W2.out.ext hb)
     have BP3 := Lib.hid (BP2.out.ext hb)
     have BW3 := Lib.hid (BW2.out.ext hb)
     have hb3 := Lib.hid ((hb2.out.mono hB).trans (hb.mono (Nat.le_trans hB hb2.out.size)))
     have K3 := Lib.hid (K2.out.trans (KeepP.of_ext hb))
     have hs3 := hb.size
     clear hb p0 p1 f0 f1 f2 m0 m1 m2
     obtain ⟨p0, p1⟩ := BP3.out.q2
     obtain ⟨m0, m1, m2⟩ := BW3.out.q3
     have hP3 : P < w3.heap.size := by omega
     have hW3 : w.heap.size < w3.heap.size := by omega
     have h8 : s.ds.length ≤ 8 := by rw [HNL.out]; exact hn8
     go_upto_region 5 with fail
     go_region_law (first | (go_simp; go_at_call 96; refine (take_any B g u lo s r (xd : Int) _ (show Wk w3.drew B g u lo s from W3.out) HFT.out h8 hms ha0 ha1).mono ?_; rintro e w5 ⟨rfl, hW5, hb5, hk5⟩; have hW5 := Lib.hid hW5; have hb5 := Lib.hid (show Below B w3 w5 from (Below.drew (Below.refl B w3)).trans hb5); have hk5 := Lib.hid (show KeepT w3 w5 from ⟨hk5.1, fun b t cs hb => hk5.2 b t cs (show Blk w3.drew b t cs from hb)⟩)))
     all_goals
      go_wp2
      go_ret
      refine ⟨by rw [← HO.out]; rfl, fun q hq => ?_, hb3.out.trans hb5.out, K3.out.trans (KeepP.of_T hk5.out)⟩
      rw [← HO.out] at hq
      injection hq with hq
      subst hq
      exact ⟨hk5.out.2 P _ _ BP3.out (by decide) (by decide) (by decide), hW5.out⟩

end Go.Proofs.Ytihljhikhplegaa
