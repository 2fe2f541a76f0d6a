/- Minds: copies. -/
import Derived.Test.YtlkfffohjeoooaaVMdA
import Derived.Test.YtlkfffohjeoooaaVM3
namespace Go.Proofs.Ytlkfffohjeoooaa
open Go.RowKit
set_option linter.unusedVariables false
set_option linter.unusedSimpArgs false
theorem hvM {p q : Prop} (h : p) (k : p → q) : q := k h
theorem m7_put {w : World} {g : Nat} {a b c d e f h a' b' c' d' e' f' h' : Value} (hh : Blk w g 47 #[a', b', c', d', e', f', h']) : Blk (((((((w.setCell ⟨g, 0, none⟩ a).setCell ⟨g, 1, none⟩ b).setCell ⟨g, 2, none⟩ c).setCell ⟨g, 3, none⟩ d).setCell ⟨g, 4, none⟩ e).setCell ⟨g, 5, none⟩ f).setCell ⟨g, 6, none⟩ h) g 47 #[a, b, c, d, e, f, h] := by
 have k0 : Blk (w.setCell ⟨g, 0, none⟩ a) g 47 #[a, b', c', d', e', f', h'] := hh.set_ 0 a
 have k1 : Blk ((w.setCell ⟨g, 0, none⟩ a).setCell ⟨g, 1, none⟩ b) g 47 #[a, b, c', d', e', f', h'] := k0.set_ 1 b
 have k2 : Blk (((w.setCell ⟨g, 0, none⟩ a).setCell ⟨g, 1, none⟩ b).setCell ⟨g, 2, none⟩ c) g 47 #[a, b, c, d', e', f', h'] := k1.set_ 2 c
 have k3 : Blk ((((w.setCell ⟨g, 0, none⟩ a).setCell ⟨g, 1, none⟩ b).setCell ⟨g, 2, none⟩ c).setCell ⟨g, 3, none⟩ d) g 47 #[a, b, c, d, e', f', h'] := k2.set_ 3 d
 have k4 : Blk (((((w.setCell ⟨g, 0, none⟩ a).setCell ⟨g, 1, none⟩ b).setCell ⟨g, 2, none⟩ c).setCell ⟨g, 3, none⟩ d).setCell ⟨g, 4, none⟩ e) g 47 #[a, b, c, d, e, f', h'] := k3.set_ 4 e
 have k5 : Blk ((((((w.setCell ⟨g, 0, none⟩ a).setCell ⟨g, 1, none⟩ b).setCell ⟨g, 2, none⟩ c).setCell ⟨g, 3, none⟩ d).setCell ⟨g, 4, none⟩ e).setCell ⟨g, 5, none⟩ f) g 47 #[a, b, c, d, e, f, h'] := k4.set_ 5 f
 have k6 : Blk (((((((w.setCell ⟨g, 0, none⟩ a).setCell ⟨g, 1, none⟩ b).setCell ⟨g, 2, none⟩ c).setCell ⟨g, 3, none⟩ d).setCell ⟨g, 4, none⟩ e).setCell ⟨g, 5, none⟩ f).setCell ⟨g, 6, none⟩ h) g 47 #[a, b, c, d, e, f, h] := k5.set_ 6 h
 exact k6
theorem m7_far {w : World} {g k : Nat} {t : TypeId} {cs : Array Value} {a b c d e f h : Value} (hh : Blk w k t cs) (hne : g ≠ k) : Blk (((((((w.setCell ⟨g, 0, none⟩ a).setCell ⟨g, 1, none⟩ b).setCell ⟨g, 2, none⟩ c).setCell ⟨g, 3, none⟩ d).setCell ⟨g, 4, none⟩ e).setCell ⟨g, 5, none⟩ f).setCell ⟨g, 6, none⟩ h) k t cs := (((((((hh.setF (p := ⟨g, 0, none⟩) hne a).setF (p := ⟨g, 1, none⟩) hne b).setF (p := ⟨g, 2, none⟩) hne c).setF (p := ⟨g, 3, none⟩) hne d).setF (p := ⟨g, 4, none⟩) hne e).setF (p := ⟨g, 5, none⟩) hne f).setF (p := ⟨g, 6, none⟩) hne h)
theorem m7_own {w : World} {g B E size n : Nat} {v : Value} {xs : List Value} {a b c d e f h : Value} (hh : w.ownsRow B E size v n xs) (hne : v.ownBlock ≠ some g) : (((((((w.setCell ⟨g, 0, none⟩ a).setCell ⟨g, 1, none⟩ b).setCell ⟨g, 2, none⟩ c).setCell ⟨g, 3, none⟩ d).setCell ⟨g, 4, none⟩ e).setCell ⟨g, 5, none⟩ f).setCell ⟨g, 6, none⟩ h).ownsRow B E size v n xs := (own_setF (p := ⟨g, 6, none⟩) (own_setF (p := ⟨g, 5, none⟩) (own_setF (p := ⟨g, 4, none⟩) (own_setF (p := ⟨g, 3, none⟩) (own_setF (p := ⟨g, 2, none⟩) (own_setF (p := ⟨g, 1, none⟩) (own_setF (p := ⟨g, 0, none⟩) hh hne a) hne b) hne c) hne d) hne e) hne f) hne h)
theorem m7_below {w0 w : World} {g B : Nat} {a b c d e f h : Value} (hh : Below B w0 w) (hg : B ≤ g) : Below B w0 (((((((w.setCell ⟨g, 0, none⟩ a).setCell ⟨g, 1, none⟩ b).setCell ⟨g, 2, none⟩ c).setCell ⟨g, 3, none⟩ d).setCell ⟨g, 4, none⟩ e).setCell ⟨g, 5, none⟩ f).setCell ⟨g, 6, none⟩ h) := (((((((hh.setCell (p := ⟨g, 0, none⟩) hg a).setCell (p := ⟨g, 1, none⟩) hg b).setCell (p := ⟨g, 2, none⟩) hg c).setCell (p := ⟨g, 3, none⟩) hg d).setCell (p := ⟨g, 4, none⟩) hg e).setCell (p := ⟨g, 5, none⟩) hg f).setCell (p := ⟨g, 6, none⟩) hg h)
theorem ints_one (l : List Int) : ∀ u ∈ intsV l, u.oneCell' = true := by
 intro u hu
 unfold intsV at hu
 rw [List.mem_map] at hu
 obtain ⟨z, _, rfl⟩ := hu
 rfl
def RetInts (w : World) (k : Nat) (cl : List Int) (e : Ending) (w' : World) : Prop :=
 ∃ g cap, e = .returned (.slice (some ⟨g, 0, none⟩) k cap) ∧ w'.ownsRow w.heap.size 3 1 (.slice (some ⟨g, 0, none⟩) k cap) k (intsV cl) ∧ Below w.heap.size w w'
set_option maxRecDepth 100000 in
theorem copyInts_ints (K : Option Addr) (k kc : Nat) (cl : List Int) (w : World) (hk1 : 1 ≤ k) (hk : k ≤ 1048576) (h : Reads w w.heap.size 1 K k (intsV cl)) :
 Calls Try.prog 157 #[.slice K k kc] w (RetInts w k cl) := by
 obtain ⟨i0, hi, hz0, hz1, hz2⟩ := info_parts info_int
 have H := Lib.hid h
 clear h
 go_enter Try.func157, Try.ntmps157
 go_wp2_with (at_builtin; refine wpList_appNew rfl (.tmp 3) (.tmp 4) 40 3 rfl i0 _ 1 8 w.heap.size Try.underlying40 hi hz0 hz1 hz2 rfl (by decide) rfl rfl K k kc (intsV cl) rfl w.heap.size (by omega) H.out (Nat.le_refl _) (ints_one cl) (by unfold maxLen; omega) (by omega) ?_; intro g' cap w2 hown hb2 hs2; have hown := Lib.hid hown; have hb2 := Lib.hid hb2)
 go_ret
 exact ⟨g', cap, rfl, hown.out, hb2.out⟩
set_option maxRecDepth 100000 in
theorem l1Own_ints (K : Option Addr) (k kc : Nat) (cl : List Int) (w : World) (hk1 : 1 ≤ k) (hk : k ≤ 1048576) (h : Reads w w.heap.size 1 K k (intsV cl)) :
 Calls Try.prog 156 #[.slice K k kc] w (RetInts w k cl) := by
 obtain ⟨i0, hi, hz0, hz1, hz2⟩ := info_parts info_int
 have H := Lib.hid h
 clear h
 go_enter Try.func156, Try.ntmps156
 go_wp2_with (at_builtin; refine wpList_appNew rfl (.tmp 3) (.tmp 4) 40 3 rfl i0 _ 1 8 w.heap.size Try.underlying40 hi hz0 hz1 hz2 rfl (by decide) rfl rfl K k kc (intsV cl) rfl w.heap.size (by omega) H.out (Nat.le_refl _) (ints_one cl) (by unfold maxLen; omega) (by omega) ?_; intro g' cap w2 hown hb2 hs2; have hown := Lib.hid hown; have hb2 := Lib.hid hb2)
 go_ret
 exact ⟨g', cap, rfl, hown.out, hb2.out⟩
/-- a mind of its own comes back -/
def RetMd (w : World) (u lo : Int) (n : Nat) (l : List R2) (cl im : List Int) (be gu : Int) (e : Ending) (w' : World) : Prop :=
 ∃ h c g kc i ic, e = .returned (mdV u lo (some ⟨h, 0, none⟩) n c (some ⟨g, 0, none⟩) n kc (some ⟨i, 0, none⟩) n ic be gu) ∧
  w'.ownsRow w.heap.size 155 2 (.slice (some ⟨h, 0, none⟩) n c) n (rowsV2 l) ∧ w'.ownsRow w.heap.size 3 1 (.slice (some ⟨g, 0, none⟩) n kc) n (intsV cl) ∧ w'.ownsRow w.heap.size 3 1 (.slice (some ⟨i, 0, none⟩) n ic) n (intsV im) ∧ g ≠ i ∧ Below w.heap.size w w'
set_option maxRecDepth 100000 in
set_option maxHeartbeats 8000000 in
theorem mindOwn_any (u lo : Int) (A : Option Addr) (n c : Nat) (l : List R2) (K : Option Addr) (kc : Nat) (cl : List Int) (I : Option Addr) (ic : Nat) (im : List Int) (be gu : Int) (w : World) (hn1 : 1 ≤ n) (hn : n ≤ 1048576) (h : Reads w w.heap.size 2 A n (rowsV2 l)) (hc : Reads w w.heap.size 1 K n (intsV cl)) (hi : Reads w w.heap.size 1 I n (intsV im)) :
 Calls Try.prog 107 #[mdV u lo A n c K n kc I n ic be gu] w (RetMd w u lo n l cl im be gu) := by
 have H := Lib.hid h
 have HC := Lib.hid hc
 have HI := Lib.hid hi
 have BM0 := Lib.hid ((Blk.born w (mdC u lo A n c K n kc I n ic be gu) 47 (H := w.heap.size) rfl).al (.cells #[.int .i64 0, .int .i64 0, .slice none 0 0, .slice none 0 0, .slice none 0 0, .int .i64 0, .int .i64 0] 47))
 have BR0 := Lib.hid (Blk.born (w.alloc (.cells (mdC u lo A n c K n kc I n ic be gu) 47)) #[.int .i64 0, .int .i64 0, .slice none 0 0, .slice none 0 0, .slice none 0 0, .int .i64 0, .int .i64 0] 47 (H := w.heap.size + 1) (by simp))
 have hbx := Lib.hid (ext_alloc (ext_alloc (ext_refl w) (.cells (mdC u lo A n c K n kc I n ic be gu) 47)) (.cells #[.int .i64 0, .int .i64 0, .slice none 0 0, .slice none 0 0, .slice none 0 0, .int .i64 0, .int .i64 0] 47))
 clear h hc hi
 go_enter Try.func107, Try.ntmps107
 go_wp2_with fail
 refine (own_fr u lo A n c l _ hn1 hn (rdx H.out hbx.out)).mono ?_
 rintro e w1 ⟨h, cr, rfl, hr1, hb1⟩
 have hr1 := Lib.hid (own_base (base' := w.heap.size) hr1 hbx.out.size)
 have BM1 := Lib.hid (BM0.out.ext hb1)
 have BR1 := Lib.hid (BR0.out.ext hb1)
 have hb2 := Lib.hid (ext_trans hbx.out hb1)
 obtain ⟨d0, d1, d2, d3, d4, d5, d6⟩ := BM1.out.q7
 obtain ⟨z0, z1, z2, z3, z4, z5, z6⟩ := BM1.out.z7
 have hMl := BM1.out.lt
 clear hb1
 go_upto_region 2 with fail
 obtain ⟨w2, hw2⟩ : ∃ y : World, y = ((w1.setCell ⟨w.heap.size, 0, none⟩ (.int .i64 u)).setCell ⟨w.heap.size, 1, none⟩ (.int .i64 lo)).setCell ⟨w.heap.size, 2, none⟩ (.slice (some ⟨h, 0, none⟩) n cr) := ⟨_, rfl⟩
 have BM2 := Lib.hid (show Blk w2 w.heap.size 47 (mdC u lo (some ⟨h, 0, none⟩) n cr K n kc I n ic be gu) by rw [hw2]; exact ((BM1.out.set_ 0 _).set_ 1 _).set_ 2 _)
 have BR2 := Lib.hid (show Blk w2 (w.heap.size + 1) 47 _ by rw [hw2]; exact fill_far BR1.out (by omega))
 have hr2 := Lib.hid (show w2.ownsRow w.heap.size 155 2 (.slice (some ⟨h, 0, none⟩) n cr) n (rowsV2 l) by rw [hw2]; exact fill_own' hr1.out (own_nbT hr1.out BM1.out (by decide)))
 have hb3 := Lib.hid (show Below w.heap.size w w2 by rw [hw2]; exact fill_below hb2.out (Nat.le_refl _))
 rw [← hw2]
 obtain ⟨d0, d1, d2, d3, d4, d5, d6⟩ := BM2.out.q7
 obtain ⟨z0, z1, z2, z3, z4, z5, z6⟩ := BM2.out.z7
 have hMl := BM2.out.lt
 have hs2 := hb3.out.size
 clear hr1 hw2 hb2 BM1 BR1 BM0 BR0 hbx
 go_region_law (first
  | (go_simp; go_at_call 157; (with_reducible refine (copyInts_ints I n ic im _ hn1 hn ?_).mono ?_); (focus (refine rdx HI.out ?_; (repeat (first | (with_reducible exact hb3.out) | (with_reducible refine ext_drew ?_))); done)); rintro e wA ⟨gi, ci, rfl, hmi, hbA⟩; refine hvM (p := Below w.heap.size w wA) ?_ fun hcA => ?_; (focus ((repeat (first | (with_reducible exact hb3.out) | (with_reducible refine ext_drew ?_) | (with_reducible refine ext_trans ?_ hbA))); done)); refine hvM (p := Below w2.heap.size w2 wA) ?_ fun heA => ?_; (focus (refine ext_trans ?_ hbA; (repeat (first | (with_reducible exact ext_refl _) | (with_reducible refine ext_drew ?_))); done)); obtain ⟨d0A, d1A, d2A, d3A, d4A, d5A, d6A⟩ := (BM2.out.ext heA).q7; obtain ⟨z0A, z1A, z2A, z3A, z4A, z5A, z6A⟩ := (BM2.out.ext heA).z7; have hMlA := (BM2.out.ext heA).lt; have hcA := Lib.hid hcA; have heA := Lib.hid heA; have hmi := Lib.hid hmi)
  | (go_simp; go_at_call 157; (with_reducible refine (copyInts_ints K n kc cl _ hn1 hn ?_).mono ?_); (focus (refine rdx HC.out ?_; (repeat (first | (with_reducible exact hcA.out) | (with_reducible refine ext_drew ?_))); done)); rintro e wB ⟨gc, cc, rfl, hmc, hbB⟩; refine hvM (p := Below w.heap.size w wB) ?_ fun hcB => ?_; (focus ((repeat (first | (with_reducible exact hcA.out) | (with_reducible refine ext_drew ?_) | (with_reducible refine ext_trans ?_ hbB))); done)); refine hvM (p := Below wA.heap.size wA wB) ?_ fun heB => ?_; (focus (refine ext_trans ?_ hbB; (repeat (first | (with_reducible exact ext_refl _) | (with_reducible refine ext_drew ?_))); done)); obtain ⟨d0B, d1B, d2B, d3B, d4B, d5B, d6B⟩ := ((BM2.out.ext heA.out).ext heB).q7; obtain ⟨z0B, z1B, z2B, z3B, z4B, z5B, z6B⟩ := ((BM2.out.ext heA.out).ext heB).z7; have hMlB := ((BM2.out.ext heA.out).ext heB).lt; have hcB := Lib.hid hcB; have heB := Lib.hid heB; have hmc := Lib.hid hmc))
 all_goals
  have hBA := Lib.hid ((BM2.out.ext heA.out).ext heB.out)
  have hBR := Lib.hid ((BR2.out.ext heA.out).ext heB.out)
  have hcc := Lib.hid (ext_trans (ext_trans hb3.out heA.out) heB.out)
  have hrB := Lib.hid (own_ext (own_ext hr2.out heA.out) heB.out)
  have hiB := Lib.hid (own_ext (own_base (base' := w.heap.size) hmi.out hs2) heB.out)
  have hcB2 := Lib.hid (own_base (base' := w.heap.size) hmc.out (Nat.le_trans hs2 heA.out.size))
  have hgi : gc ≠ gi := by have e1 : gi < wA.heap.size := (hmi.out.lt _ rfl).2; have e2 : wA.heap.size ≤ gc := (hmc.out.lt _ rfl).1; omega
  obtain ⟨W, hW⟩ : ∃ y : World, y = (wB.setCell ⟨w.heap.size, 4, none⟩ (.slice (some ⟨gi, 0, none⟩) n ci)).setCell ⟨w.heap.size, 3, none⟩ (.slice (some ⟨gc, 0, none⟩) n cc) := ⟨_, rfl⟩
  have BMW := Lib.hid (show Blk W w.heap.size 47 (mdC u lo (some ⟨h, 0, none⟩) n cr (some ⟨gc, 0, none⟩) n cc (some ⟨gi, 0, none⟩) n ci be gu) by rw [hW]; exact (hBA.out.set_ 4 _).set_ 3 _)
  have BRW := Lib.hid (show Blk W (w.heap.size + 1) 47 _ by rw [hW]; exact (hBR.out.setF (p := ⟨w.heap.size, 4, none⟩) (by simp) _).setF (p := ⟨w.heap.size, 3, none⟩) (by simp) _)
  have hrW := Lib.hid (show W.ownsRow w.heap.size 155 2 (.slice (some ⟨h, 0, none⟩) n cr) n (rowsV2 l) by rw [hW]; exact own_setF (p := ⟨w.heap.size, 3, none⟩) (own_setF (p := ⟨w.heap.size, 4, none⟩) hrB.out (own_nbT hrB.out hBA.out (by decide)) _) (own_nbT hrB.out hBA.out (by decide)) _)
  have hiW := Lib.hid (show W.ownsRow w.heap.size 3 1 (.slice (some ⟨gi, 0, none⟩) n ci) n (intsV im) by rw [hW]; exact own_setF (p := ⟨w.heap.size, 3, none⟩) (own_setF (p := ⟨w.heap.size, 4, none⟩) hiB.out (own_nbT hiB.out hBA.out (by decide)) _) (own_nbT hiB.out hBA.out (by decide)) _)
  have hcW := Lib.hid (show W.ownsRow w.heap.size 3 1 (.slice (some ⟨gc, 0, none⟩) n cc) n (intsV cl) by rw [hW]; exact own_setF (p := ⟨w.heap.size, 3, none⟩) (own_setF (p := ⟨w.heap.size, 4, none⟩) hcB2.out (own_nbT hcB2.out hBA.out (by decide)) _) (own_nbT hcB2.out hBA.out (by decide)) _)
  have hbW := Lib.hid (show Below w.heap.size w W by rw [hW]; exact ext_set (ext_set hcc.out (p := ⟨w.heap.size, 4, none⟩) (Nat.le_refl _) _) (p := ⟨w.heap.size, 3, none⟩) (Nat.le_refl _) _)
  rw [← hW]
  clear hW hmi hmc hBA hBR hcc hrB hiB hcB2 hr2 heA heB
  clear d0B d1B d2B d3B d4B d5B d6B z0B z1B z2B z3B z4B z5B z6B
  obtain ⟨p0, p1, p2, p3, p4, p5, p6⟩ := BMW.out.q7
  obtain ⟨r0, r1, r2, r3, r4, r5, r6⟩ := BRW.out.q7
  obtain ⟨y0, y1, y2, y3, y4, y5, y6⟩ := BRW.out.z7
  have hl1 := BMW.out.lt
  have hl2 := BRW.out.lt
  go_wp2
  refine bodyPost_ret (v := mdV u lo (some ⟨h, 0, none⟩) n cr (some ⟨gc, 0, none⟩) n cc (some ⟨gi, 0, none⟩) n ci be gu) (by simp [results, Try.results107, go_sem, *]) rfl ?_
  exact ⟨h, cr, gc, cc, gi, ci, rfl, m7_own hrW.out (own_nbT hrW.out BRW.out (by decide)), m7_own hcW.out (own_nbT hcW.out BRW.out (by decide)), m7_own hiW.out (own_nbT hiW.out BRW.out (by decide)), hgi, m7_below hbW.out (Nat.le_succ _)⟩
end Go.Proofs.Ytlkfffohjeoooaa
