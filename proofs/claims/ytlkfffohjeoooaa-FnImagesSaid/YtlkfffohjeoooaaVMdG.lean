/- Minds: the reference's copies, and its fading. -/
import Derived.Test.YtlkfffohjeoooaaVM8
namespace Go.Proofs.Ytlkfffohjeoooaa
open Go.RowKit
set_option linter.unusedVariables false
set_option linter.unusedSimpArgs false
set_option maxRecDepth 100000 in
set_option maxHeartbeats 8000000 in
theorem l21Own_any (u lo : Int) (A : Option Addr) (n c : Nat) (l : List R2) (K : Option Addr) (kc : Nat) (cl : List Int) (I : Option Addr) (ic : Nat) (im : List Int) (be gu : Int) (w : World) (hn1 : 1 ≤ n) (hn : n ≤ 1048576) (h : Reads w w.heap.size 2 A n (rowsV2 l)) (hc : Reads w w.heap.size 1 K n (intsV cl)) (hi : Reads w w.heap.size 1 I n (intsV im)) :
 Calls Try.prog 106 #[mdV u lo A n c K n kc I n ic be gu] w (RetMd w u lo n l cl im be gu) := by
 have H := Lib.hid h
 have HC := Lib.hid hc
 have HI := Lib.hid hi
 have BM0 := Lib.hid ((Blk.born w (mdC u lo A n c K n kc I n ic be gu) 47 (H := w.heap.size) rfl).al (.cells #[.int .i64 0, .int .i64 0, .slice none 0 0, .slice none 0 0, .slice none 0 0, .int .i64 0, .int .i64 0] 47))
 have BR0 := Lib.hid (Blk.born (w.alloc (.cells (mdC u lo A n c K n kc I n ic be gu) 47)) #[.int .i64 0, .int .i64 0, .slice none 0 0, .slice none 0 0, .slice none 0 0, .int .i64 0, .int .i64 0] 47 (H := w.heap.size + 1) (by simp))
 have hbx := Lib.hid (ext_alloc (ext_alloc (ext_refl w) (.cells (mdC u lo A n c K n kc I n ic be gu) 47)) (.cells #[.int .i64 0, .int .i64 0, .slice none 0 0, .slice none 0 0, .slice none 0 0, .int .i64 0, .int .i64 0] 47))
 clear h hc hi
 go_enter Try.func106, Try.ntmps106
 go_upto_region 1 with fail
 obtain ⟨W0, hW0⟩ : ∃ y : World, y = ((w.alloc (.cells (mdC u lo A n c K n kc I n ic be gu) 47)).alloc (.cells #[.int .i64 0, .int .i64 0, .slice none 0 0, .slice none 0 0, .slice none 0 0, .int .i64 0, .int .i64 0] 47)) := ⟨_, rfl⟩
 rw [← hW0] at BM0 BR0 hbx
 rw [← hW0]
 clear hW0
 obtain ⟨d0, d1, d2, d3, d4, d5, d6⟩ := BM0.out.q7
 obtain ⟨r0, r1, r2, r3, r4, r5, r6⟩ := BR0.out.q7
 obtain ⟨z0, z1, z2, z3, z4, z5, z6⟩ := BR0.out.z7
 have hMl := BM0.out.lt
 have hRl := BR0.out.lt
 have hs0 := hbx.out.size
 go_region_held3 (fun w' => w'.cell? ⟨w.heap.size, 0, none⟩ = some (.int .i64 u) ∧ w'.cell? ⟨w.heap.size, 1, none⟩ = some (.int .i64 lo) ∧ w'.cell? ⟨w.heap.size, 2, none⟩ = some (.slice A n c) ∧ w'.cell? ⟨w.heap.size, 3, none⟩ = some (.slice K n kc) ∧ w'.cell? ⟨w.heap.size, 4, none⟩ = some (.slice I n ic) ∧ w'.cell? ⟨w.heap.size, 5, none⟩ = some (.int .i64 be) ∧ w'.cell? ⟨w.heap.size, 6, none⟩ = some (.int .i64 gu)) (first | (go_split_ands; ((repeat' refine And.intro ?_ ?_) <;> with_reducible (repeat (first | assumption | refine cell_drew ?_ | refine cell_old ?_ _ | refine cell_set_far (by simp <;> omega) ?_))))) (first
  | (go_simp; go_at_call 146; (with_reducible refine (l2Own_fr u lo A n c l _ hn1 hn ?_).mono ?_); (focus (refine rdx H.out ?_; (repeat (first | (with_reducible exact hbx.out) | (with_reducible refine ext_drew ?_))); done)); rintro e wA ⟨h, cr, rfl, hmh, hbA⟩; refine hvM (p := Below W0.heap.size W0 wA) ?_ fun heA => ?_; (focus (refine ext_trans ?_ hbA; (repeat (first | (with_reducible exact ext_refl _) | (with_reducible refine ext_drew ?_))); done)); obtain ⟨d0A, d1A, d2A, d3A, d4A, d5A, d6A⟩ := (BM0.out.ext heA).q7; obtain ⟨r0A, r1A, r2A, r3A, r4A, r5A, r6A⟩ := (BR0.out.ext heA).q7; obtain ⟨z0A, z1A, z2A, z3A, z4A, z5A, z6A⟩ := (BR0.out.ext heA).z7; have hMlA := (BM0.out.ext heA).lt; have hRlA := (BR0.out.ext heA).lt; have heA := Lib.hid heA; have hmh := Lib.hid hmh)
  | (go_simp; go_at_call 156; (with_reducible refine (l1Own_ints K n kc cl _ hn1 hn ?_).mono ?_); (focus (refine rdx HC.out ?_; (repeat (first | (with_reducible exact ext_trans hbx.out heA.out) | (with_reducible refine ext_drew ?_))); done)); rintro e wB ⟨gc, cc, rfl, hmc, hbB⟩; refine hvM (p := Below wA.heap.size wA wB) ?_ fun heB => ?_; (focus (refine ext_trans ?_ hbB; (repeat (first | (with_reducible exact ext_refl _) | (with_reducible refine ext_drew ?_))); done)); obtain ⟨d0B, d1B, d2B, d3B, d4B, d5B, d6B⟩ := ((BM0.out.ext heA.out).ext heB).q7; obtain ⟨r0B, r1B, r2B, r3B, r4B, r5B, r6B⟩ := ((BR0.out.ext heA.out).ext heB).q7; obtain ⟨z0B, z1B, z2B, z3B, z4B, z5B, z6B⟩ := ((BR0.out.ext heA.out).ext heB).z7; have hMlB := ((BM0.out.ext heA.out).ext heB).lt; have hRlB := ((BR0.out.ext heA.out).ext heB).lt; have heB := Lib.hid heB; have hmc := Lib.hid hmc)
  | (go_simp; go_at_call 156; (with_reducible refine (l1Own_ints I n ic im _ hn1 hn ?_).mono ?_); (focus (refine rdx HI.out ?_; (repeat (first | (with_reducible exact ext_trans (ext_trans hbx.out heA.out) heB.out) | (with_reducible refine ext_drew ?_))); done)); rintro e wC ⟨gi, ci, rfl, hmi, hbC⟩; refine hvM (p := Below wB.heap.size wB wC) ?_ fun heC => ?_; (focus (refine ext_trans ?_ hbC; (repeat (first | (with_reducible exact ext_refl _) | (with_reducible refine ext_drew ?_))); done)); obtain ⟨d0C, d1C, d2C, d3C, d4C, d5C, d6C⟩ := (((BM0.out.ext heA.out).ext heB.out).ext heC).q7; obtain ⟨r0C, r1C, r2C, r3C, r4C, r5C, r6C⟩ := (((BR0.out.ext heA.out).ext heB.out).ext heC).q7; obtain ⟨z0C, z1C, z2C, z3C, z4C, z5C, z6C⟩ := (((BR0.out.ext heA.out).ext heB.out).ext heC).z7; have hMlC := (((BM0.out.ext heA.out).ext heB.out).ext heC).lt; have hRlC := (((BR0.out.ext heA.out).ext heB.out).ext heC).lt; have heC := Lib.hid heC; have hmi := Lib.hid hmi))
 all_goals
  have hBR := Lib.hid (((BR0.out.ext heA.out).ext heB.out).ext heC.out)
  have hcc := Lib.hid (ext_trans (ext_trans (ext_trans hbx.out heA.out) heB.out) heC.out)
  have hrW := Lib.hid (own_ext (own_ext (own_base (base' := w.heap.size) hmh.out hs0) heB.out) heC.out)
  have hcW := Lib.hid (own_ext (own_base (base' := w.heap.size) hmc.out (Nat.le_trans hs0 heA.out.size)) heC.out)
  have hiW := Lib.hid (own_base (base' := w.heap.size) hmi.out (Nat.le_trans hs0 (Nat.le_trans heA.out.size heB.out.size)))
  have hgi : gc ≠ gi := by have e1 : gc < wB.heap.size := (hmc.out.lt _ rfl).2; have e2 : wB.heap.size ≤ gi := (hmi.out.lt _ rfl).1; omega
  go_wp2
  refine bodyPost_ret (v := mdV u lo (some ⟨h, 0, none⟩) n cr (some ⟨gc, 0, none⟩) n cc (some ⟨gi, 0, none⟩) n ci be gu) (by simp [results, Try.results106, go_sem, *]) rfl ?_
  exact ⟨h, cr, gc, cc, gi, ci, rfl, m7_own hrW.out (own_nbT hrW.out hBR.out (by decide)), m7_own hcW.out (own_nbT hcW.out hBR.out (by decide)), m7_own hiW.out (own_nbT hiW.out hBR.out (by decide)), hgi, m7_below hcc.out (Nat.le_succ _)⟩
set_option maxRecDepth 100000 in
set_option maxHeartbeats 8000000 in
theorem l21Fade_any (u lo : Int) (A : Option Addr) (n c : Nat) (l : List R2) (K : Option Addr) (kc' : Nat) (cl : List Int) (I : Option Addr) (ic' : Nat) (im : List Int) (be gu ex : Int) (w : World) (hn1 : 1 ≤ n) (hn : n ≤ 1048576) (hrow : rowsM im cl n = true) (h : Reads w w.heap.size 2 A n (rowsV2 l)) (hc : Reads w w.heap.size 1 K n (intsV cl)) (hi : Reads w w.heap.size 1 I n (intsV im)) :
 Calls Try.prog 151 #[mdV u lo A n c K n kc' I n ic' be gu, .int .i64 ex] w (RetMd w u lo n l (fC 1 ex cl im n) (fI 1 ex cl im n) be gu) := by
 have hcl := ints_len hc
 have him := ints_len hi
 have H := Lib.hid h
 have HC := Lib.hid hc
 have HI := Lib.hid hi
 have HR := Lib.hid hrow
 have BR0 := Lib.hid (Blk.born (w.alloc (.cells (mdC u lo A n c K n kc' I n ic' be gu) 47)) #[.int .i64 0, .int .i64 0, .slice none 0 0, .slice none 0 0, .slice none 0 0, .int .i64 0, .int .i64 0] 47 (H := w.heap.size + 1) (by simp))
 have hbx := Lib.hid (ext_alloc (ext_alloc (ext_refl w) (.cells (mdC u lo A n c K n kc' I n ic' be gu) 47)) (.cells #[.int .i64 0, .int .i64 0, .slice none 0 0, .slice none 0 0, .slice none 0 0, .int .i64 0, .int .i64 0] 47))
 clear h hc hi hrow
 go_enter Try.func151, Try.ntmps151
 go_wp2_with fail
 (with_reducible refine (l21Own_any u lo A n c l K kc' cl I ic' im be gu _ hn1 hn (rdx H.out hbx.out) (rdx HC.out hbx.out) (rdx HI.out hbx.out)).mono ?_)
 rintro e w1 ⟨h, cr, g, kc, i, ic, rfl, hr, hc, hi, hne, hb⟩
 have hs0 := hbx.out.size
 obtain ⟨N, hN⟩ : ∃ N, N = w1.heap.size := ⟨_, rfl⟩
 obtain ⟨W, hW⟩ : ∃ y : World, y = w1.alloc (.cells (mdC u lo (some ⟨h, 0, none⟩) n cr (some ⟨g, 0, none⟩) n kc (some ⟨i, 0, none⟩) n ic be gu) 47) := ⟨_, rfl⟩
 have BNW := Lib.hid (show Blk W N 47 (mdC u lo (some ⟨h, 0, none⟩) n cr (some ⟨g, 0, none⟩) n kc (some ⟨i, 0, none⟩) n ic be gu) by rw [hW]; exact Blk.born w1 (mdC u lo (some ⟨h, 0, none⟩) n cr (some ⟨g, 0, none⟩) n kc (some ⟨i, 0, none⟩) n ic be gu) 47 (H := N) hN)
 have BRW := Lib.hid (show Blk W (w.heap.size + 1) 47 #[.int .i64 0, .int .i64 0, .slice none 0 0, .slice none 0 0, .slice none 0 0, .int .i64 0, .int .i64 0] by rw [hW]; exact (BR0.out.ext hb).al _)
 have hrW := Lib.hid (show W.ownsRow w.heap.size 155 2 (.slice (some ⟨h, 0, none⟩) n cr) n (rowsV2 l) by rw [hW]; exact (own_base (base' := w.heap.size) hr hs0).alloc _)
 have hcW := Lib.hid (show W.ownsRow w.heap.size 3 1 (.slice (some ⟨g, 0, none⟩) n kc) n (intsV (fCto 1 ex cl im n 0)) by rw [hW, fCto_zero 1 ex hcl]; exact (own_base (base' := w.heap.size) hc hs0).alloc _)
 have hiW := Lib.hid (show W.ownsRow w.heap.size 3 1 (.slice (some ⟨i, 0, none⟩) n ic) n (intsV (fIto 1 ex cl im n 0)) by rw [hW, fIto_zero 1 ex him]; exact (own_base (base' := w.heap.size) hi hs0).alloc _)
 have hbW := Lib.hid (show Below w.heap.size w W by rw [hW]; exact ext_alloc (ext_trans hbx.out hb) _)
 go_upto_region 2 with fail
 rw [← hN, ← hW]
 clear hr hc hi hb hN hW BR0
 obtain ⟨d0, d1, d2, d3, d4, d5, d6⟩ := BNW.out.q7
 have hNg : N ≠ g := fun e => by have h1 := hcW.out.lt _ rfl; have h2 := own_nbT hcW.out BNW.out (by decide); exact h2 (by rw [e]; rfl)
 have hNi : N ≠ i := fun e => by have h2 := own_nbT hiW.out BNW.out (by decide); exact h2 (by rw [e]; rfl)
 have hRg : w.heap.size + 1 ≠ g := fun e => by have h2 := own_nbT hcW.out BRW.out (by decide); exact h2 (by rw [e]; rfl)
 have hRi : w.heap.size + 1 ≠ i := fun e => by have h2 := own_nbT hiW.out BRW.out (by decide); exact h2 (by rw [e]; rfl)
 go_wp2
 go_loopw [6] (fun v wr => ∃ j : Nat, j ≤ n ∧ v = .int .i64 j ∧ Hid (wr.ownsRow w.heap.size 155 2 (.slice (some ⟨h, 0, none⟩) n cr) n (rowsV2 l)) ∧ Hid (wr.ownsRow w.heap.size 3 1 (.slice (some ⟨g, 0, none⟩) n kc) n (intsV (fCto 1 ex cl im n j))) ∧ Hid (wr.ownsRow w.heap.size 3 1 (.slice (some ⟨i, 0, none⟩) n ic) n (intsV (fIto 1 ex cl im n j))) ∧ Hid (Below w.heap.size w wr) ∧ Hid (Blk wr N 47 (mdC u lo (some ⟨h, 0, none⟩) n cr (some ⟨g, 0, none⟩) n kc (some ⟨i, 0, none⟩) n ic be gu)) ∧ Hid (Blk wr (w.heap.size + 1) 47 #[.int .i64 0, .int .i64 0, .slice none 0 0, .slice none 0 0, .slice none 0 0, .int .i64 0, .int .i64 0])) (fun v _ => n - (intOf v).toNat)
 case atStart => exact ⟨0, Nat.zero_le _, rfl, hrW, hcW, hiW, hbW, BNW, BRW⟩
 case round =>
  clear d0 d1 d2 d3 d4 d5 d6 hrW hcW hiW hbW BNW BRW
  obtain ⟨j, hj, rfl, HRr, HCr, HIr, hbr, BMr, BZr⟩ := hrel
  obtain ⟨d0, d1, d2, d3, d4, d5, d6⟩ := BMr.out.q7
  have hsr := BMr.out.lt
  by_cases hlt : j < n
  · obtain ⟨z, hz⟩ := list_split (l := cl) (k := j) (by omega)
    obtain ⟨y, hy⟩ := list_split (l := im) (k := j) (by omega)
    have hrm := rowM_iff.1 (by have := rowsM_at HR.out hlt; rwa [getD_of hz, getD_of hy] at this)
    obtain ⟨y0, y9⟩ := hrm.1
    obtain ⟨z0, z5⟩ := hrm.2.1
    have hyz : y < 0 ↔ z = 0 := hrm.2.2
    clear hrm
    have q0 := int_cell HCr.out (fCto_get 1 ex hlt hz)
    have q1 := int_cell HIr.out (fIto_get 1 ex hlt hy)
    have f0 := own_frozen HCr.out j
    have f1 := own_frozen HIr.out j
    have hgr : g < wr.heap.size := (HCr.out.lt _ rfl).2
    have hir : i < wr.heap.size := (HIr.out.lt _ rfl).2
    by_cases hex : (j : Int) = ex ∨ y < 0
    · have hC := Lib.hid (fCto_skip (b := 1) (ex := ex) hlt hz hy (by unfold fdC; rw [if_pos hex]))
      have hI := Lib.hid (fIto_skip (b := 1) (ex := ex) hlt hz hy (by unfold fdI; rw [if_pos hex]))
      clear hz hy
      by_cases hx : (j : Int) = ex
      · have e1 : ((j : Int) == ex) = true := by simp; exact hx
        clear hx hex hyz
        go_wp2
        go_roundw
        case rel => exact ⟨j + 1, by omega, by go_num, HRr, by rw [← hC.out]; exact HCr, by rw [← hI.out]; exact HIr, hbr, BMr, BZr⟩
        case measure => simp [intOf]; omega
      · have e1 : ((j : Int) == ex) = false := by simp; exact hx
        have e2 : (z == 0) = true := by simp; omega
        clear hx hex hyz
        go_wp2
        go_roundw
        case rel => exact ⟨j + 1, by omega, by go_num, HRr, by rw [← hC.out]; exact HCr, by rw [← hI.out]; exact HIr, hbr, BMr, BZr⟩
        case measure => simp [intOf]; omega
    · have e1 : ((j : Int) == ex) = false := by simp; omega
      have e2 : (z == 0) = false := by simp; omega
      by_cases hbz : 1 < z
      · have hC := Lib.hid (fCto_set (b := 1) (ex := ex) hlt hz hy (v := z - 1) (by unfold fdC; rw [if_neg hex]; omega))
        have hI := Lib.hid (fIto_skip (b := 1) (ex := ex) hlt hz hy (by unfold fdI; rw [if_neg hex, if_neg (by omega)]))
        have e3 : (z - 1 == 0) = false := by simp; omega
        clear hz hy hex hyz
        go_upto_region 6 with fail
        go_region
        obtain ⟨W, hW⟩ : ∃ x : World, x = (wr.setCell ⟨g, j, none⟩ (.int .i64 (z - 1))) := ⟨_, rfl⟩
        obtain ⟨cs, hcs⟩ := own_blk HCr.out
        have HRW := Lib.hid (show W.ownsRow w.heap.size 155 2 (.slice (some ⟨h, 0, none⟩) n cr) n (rowsV2 l) by rw [hW]; exact own_setF (p := ⟨g, j, none⟩) HRr.out (own_nbT HRr.out hcs (by decide)) _)
        have HCW := Lib.hid (show W.ownsRow w.heap.size 3 1 (.slice (some ⟨g, 0, none⟩) n kc) n (intsV (fCto 1 ex cl im n (j + 1))) by rw [hW, ← hC.out]; exact int_set HCr.out)
        have HIW := Lib.hid (show W.ownsRow w.heap.size 3 1 (.slice (some ⟨i, 0, none⟩) n ic) n (intsV (fIto 1 ex cl im n (j + 1))) by rw [hW]; rw [← hI.out]; exact own_setF (p := ⟨g, j, none⟩) HIr.out (by intro e; injection e with e; exact hne e.symm) _)
        have hbW := Lib.hid (show Below w.heap.size w W by rw [hW]; exact hbr.out.setCell (p := ⟨g, j, none⟩) (HCr.out.lt _ rfl).1 _)
        have BMW := Lib.hid (show Blk W N 47 _ by rw [hW]; exact BMr.out.setF (p := ⟨g, j, none⟩) hNg.symm _)
        have BZW := Lib.hid (show Blk W (w.heap.size + 1) 47 _ by rw [hW]; exact BZr.out.setF (p := ⟨g, j, none⟩) hRg.symm _)
        have qW := int_cell HCW.out (show (fCto 1 ex cl im n (j + 1))[j]? = some (z - 1) by rw [← hC.out]; exact List.getElem?_set_self (by rw [fCto_len]; exact hlt))
        have fW := own_frozen HIW.out j
        have hsW := BMW.out.lt
        have hgW : g < W.heap.size := (HCW.out.lt _ rfl).2
        have hiW : i < W.heap.size := (HIW.out.lt _ rfl).2
        rw [← hW]
        clear hW d0 d1 d2 d3 d4 d5 d6 hgr hir q0 q1 f0 f1 hsr BMr hbr hcs BZr HRr
        obtain ⟨d0, d1, d2, d3, d4, d5, d6⟩ := BMW.out.q7
        go_wp2
        go_roundw
        case rel => exact ⟨j + 1, by omega, by go_num, Lib.hid (World.ownsRow.drew HRW.out), Lib.hid (World.ownsRow.drew HCW.out), Lib.hid (World.ownsRow.drew HIW.out), Lib.hid hbW.out.drew, Lib.hid (BMW.out.ext (ext_drew (ext_refl _))), Lib.hid (BZW.out.ext (ext_drew (ext_refl _)))⟩
        case measure => simp [intOf]; omega
      · have hz1 : z = 1 := by omega
        subst hz1
        have hC := Lib.hid (fCto_set (b := 1) (ex := ex) hlt hz hy (v := 0) (by unfold fdC; rw [if_neg hex]; omega))
        have hI := Lib.hid (fIto_set (b := 1) (ex := ex) hlt hz hy (v := -1) (by unfold fdI; rw [if_neg hex, if_pos (by omega)]))
        have hyg := Lib.hid (fIto_get (cl := cl) 1 ex hlt hy)
        clear hz hy hex hyz e2
        go_upto_region 6 with fail
        go_region
        obtain ⟨W, hW⟩ : ∃ x : World, x = (wr.setCell ⟨g, j, none⟩ (.int .i64 (0))) := ⟨_, rfl⟩
        obtain ⟨cs, hcs⟩ := own_blk HCr.out
        have HRW := Lib.hid (show W.ownsRow w.heap.size 155 2 (.slice (some ⟨h, 0, none⟩) n cr) n (rowsV2 l) by rw [hW]; exact own_setF (p := ⟨g, j, none⟩) HRr.out (own_nbT HRr.out hcs (by decide)) _)
        have HCW := Lib.hid (show W.ownsRow w.heap.size 3 1 (.slice (some ⟨g, 0, none⟩) n kc) n (intsV (fCto 1 ex cl im n (j + 1))) by rw [hW, ← hC.out]; exact int_set HCr.out)
        have HIW := Lib.hid (show W.ownsRow w.heap.size 3 1 (.slice (some ⟨i, 0, none⟩) n ic) n (intsV (fIto 1 ex cl im n j)) by rw [hW]; exact own_setF (p := ⟨g, j, none⟩) HIr.out (by intro e; injection e with e; exact hne e.symm) _)
        have hbW := Lib.hid (show Below w.heap.size w W by rw [hW]; exact hbr.out.setCell (p := ⟨g, j, none⟩) (HCr.out.lt _ rfl).1 _)
        have BMW := Lib.hid (show Blk W N 47 _ by rw [hW]; exact BMr.out.setF (p := ⟨g, j, none⟩) hNg.symm _)
        have BZW := Lib.hid (show Blk W (w.heap.size + 1) 47 _ by rw [hW]; exact BZr.out.setF (p := ⟨g, j, none⟩) hRg.symm _)
        have qW := int_cell HCW.out (show (fCto 1 ex cl im n (j + 1))[j]? = some (0) by rw [← hC.out]; exact List.getElem?_set_self (by rw [fCto_len]; exact hlt))
        have fW := own_frozen HIW.out j
        have hsW := BMW.out.lt
        have hgW : g < W.heap.size := (HCW.out.lt _ rfl).2
        have hiW : i < W.heap.size := (HIW.out.lt _ rfl).2
        rw [← hW]
        clear hW d0 d1 d2 d3 d4 d5 d6 hgr hir q0 q1 f0 f1 hsr BMr hbr hcs BZr HRr
        obtain ⟨d0, d1, d2, d3, d4, d5, d6⟩ := BMW.out.q7
        obtain ⟨ds, hds⟩ := own_blk HIW.out
        have qW2 := int_cell HIW.out hyg.out
        go_wp2
        go_roundw
        case rel => exact ⟨j + 1, by omega, by go_num, Lib.hid (own_setF (p := ⟨i, j, none⟩) (World.ownsRow.drew HRW.out) (own_nbT HRW.out hds (by decide)) _), Lib.hid (own_setF (p := ⟨i, j, none⟩) (World.ownsRow.drew HCW.out) (by intro e; injection e with e; exact hne e) _), Lib.hid (by rw [← hI.out]; exact int_set (World.ownsRow.drew HIW.out)), Lib.hid (hbW.out.drew.setCell (p := ⟨i, j, none⟩) (HIW.out.lt _ rfl).1 _), Lib.hid ((BMW.out.ext (ext_drew (ext_refl _))).setF (p := ⟨i, j, none⟩) hNi.symm _), Lib.hid ((BZW.out.ext (ext_drew (ext_refl _))).setF (p := ⟨i, j, none⟩) hRi.symm _)⟩
        case measure => simp [intOf]; omega
  · obtain rfl : j = n := by omega
    obtain ⟨r0, r1, r2, r3, r4, r5, r6⟩ := BZr.out.q7
    obtain ⟨x0, x1, x2, x3, x4, x5, x6⟩ := BZr.out.z7
    have hsz := BZr.out.lt
    go_wp2
    refine bodyPost_ret (v := mdV u lo (some ⟨h, 0, none⟩) j cr (some ⟨g, 0, none⟩) j kc (some ⟨i, 0, none⟩) j ic be gu) (by simp [results, Try.results151, go_sem, *]) rfl ?_
    exact ⟨h, cr, g, kc, i, ic, rfl, m7_own HRr.out (own_nbT HRr.out BZr.out (by decide)), m7_own HCr.out (own_nbT HCr.out BZr.out (by decide)), m7_own HIr.out (own_nbT HIr.out BZr.out (by decide)), hne, m7_below hbr.out (Nat.le_succ _)⟩
end Go.Proofs.Ytlkfffohjeoooaa
